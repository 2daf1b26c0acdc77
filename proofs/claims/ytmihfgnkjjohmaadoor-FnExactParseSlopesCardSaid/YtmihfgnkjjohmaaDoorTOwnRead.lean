/- A word that impl.signedDecimal takes as a number of one digit is that number's text. -/
import Derived.Test.YtmihfgnkjjohmaaDoorTOwnDec
import Derived.Lib.ItoaMem
namespace Go.Proofs.YtmihfgnkjjohmaaDoor.OwnRead
open Go.Proofs.YtmihfgnkjjohmaaDoor.OwnDec Go.Proofs.YtmihfgnkjjohmaaDoor.OwnCut Go.Proofs.YtmihfgnkjjohmaaDoor.B
set_option linter.unusedVariables false
theorem digs_ge : ∀ (l : List UInt8) (n v : Int), 0 ≤ n → digs l n = some v → n ≤ v
  | [], n, v, h0, h => by
    injection h with h
    omega
  | b :: r, n, v, h0, h => by
    rw [digs] at h
    split at h
    · have := digs_ge r _ v (by omega) h
      omega
    · cases h
theorem digs_lt : ∀ (l : List UInt8) (n v : Int) (k : Nat), 0 ≤ n → n < (10 : Int) ^ k → digs l n = some v → v < (10 : Int) ^ (k + l.length)
  | [], n, v, k, h0, h1, h => by
    injection h with h
    subst h
    exact h1
  | b :: r, n, v, k, h0, h1, h => by
    rw [digs] at h
    split at h
    · have hq : (10 : Int) ^ (k + 1) = 10 ^ k * 10 := Int.pow_succ ..
      have := digs_lt r _ v (k + 1) (by omega) (by rw [hq]; omega) h
      rw [List.length_cons, show k + (r.length + 1) = k + 1 + r.length by omega]
      exact this
    · cases h
theorem dec_bd (l : List UInt8) (m : Int) (h : dec l = (m, true)) : 0 ≤ m ∧ m < 1000000000000000 := by
  unfold dec at h
  split at h
  · cases h
  · rename_i hn
    rw [not_or, not_or] at hn
    unfold decL at h
    cases hd : digs l 0 with
    | none => rw [hd] at h; cases h
    | some v =>
      rw [hd] at h
      injection h with h1 h2
      subst h1
      have h3 := digs_ge l 0 v (Int.le_refl _) hd
      have h4 := digs_lt l 0 v 0 (Int.le_refl _) (by decide) hd
      rw [Nat.zero_add] at h4
      have h5 : (10 : Int) ^ l.length ≤ 10 ^ 15 := by
        have := Nat.pow_le_pow_right (show 0 < 10 by decide) (show l.length ≤ 15 by omega)
        have h3 : (((10 : Nat) ^ l.length : Nat) : Int) ≤ ((10 ^ 15 : Nat) : Int) := by exact_mod_cast this
        simpa using h3
      exact ⟨h3, by omega⟩
theorem dec_one (l : List UInt8) (m : Int) (h : dec l = (m, true)) (hm : m ≤ 9) : 0 ≤ m ∧ l = Lib.decDigits m.toNat := by
  unfold dec at h
  split at h
  · cases h
  · rename_i hn
    rw [not_or, not_or] at hn
    unfold decL at h
    cases hd : digs l 0 with
    | none => rw [hd] at h; cases h
    | some v =>
      rw [hd] at h
      injection h with h1 h2
      subst h1
      match l, hn, hd with
      | [], hn, hd => exact absurd rfl hn.1
      | [b], hn, hd =>
        rw [digs] at hd
        split at hd
        · rename_i hb
          rw [digs] at hd
          injection hd with hd
          refine ⟨by omega, ?_⟩
          rw [Lib.decDigits_one (by omega), show 48 + v.toNat = b.toNat by omega]
          simp
        · cases hd
      | b :: c :: r, hn, hd =>
        have hb : b ≠ 48 := fun e => hn.2.2 ⟨by rw [e]; rfl, by simp⟩
        have hb' : b.toNat ≠ 48 := fun e => hb (UInt8.toNat_inj.1 e)
        rw [digs] at hd
        split at hd
        · rw [digs] at hd
          split at hd
          · have := digs_ge r _ v (by omega) hd
            omega
          · cases hd
        · cases hd
theorem sgn_one (l : List UInt8) (n : Int) (h : sgn l = (n, true)) (h0 : -9 ≤ n) (h1 : n ≤ 9) : l = Lib.itoa n := by
  unfold sgn at h
  split at h
  · rename_i hc
    injection h with e1 e2
    rw [Bool.and_eq_true, decide_eq_true_eq] at e2
    cases hd : dec (l.drop 1) with
    | mk m b =>
      rw [hd] at e1 e2
      simp only at e1 e2
      obtain ⟨rfl, hp⟩ := e2
      have hb := dec_bd _ m hd
      rw [w64 (by omega) (by omega)] at e1
      have h9 := dec_one _ m hd (by omega)
      cases l with
      | nil => cases hc
      | cons a r =>
        have ha : a = 45 := Option.some.inj hc
        subst ha
        rw [List.drop_succ_cons, List.drop_zero] at h9
        rw [h9.2]
        obtain ⟨u, rfl⟩ : ∃ u : Nat, m = u := ⟨m.toNat, by omega⟩
        rw [← e1, Lib.itoa_neg u (by omega)]
        rfl
  · have := dec_one l n h h1
    rw [this.2]
    obtain ⟨u, rfl⟩ : ∃ u : Nat, n = u := ⟨n.toNat, by omega⟩
    rw [Lib.itoa_nonneg]; rfl
theorem ten (u : Nat) (h : u ≤ 9) : u = 0 ∨ u = 1 ∨ u = 2 ∨ u = 3 ∨ u = 4 ∨ u = 5 ∨ u = 6 ∨ u = 7 ∨ u = 8 ∨ u = 9 := by omega
theorem itoa_cases (n : Int) (h0 : -9 ≤ n) (h1 : n ≤ 9) : (∃ u : Nat, u ≤ 9 ∧ n = u ∧ Lib.itoa n = [UInt8.ofNat (48 + u)]) ∨ (∃ u : Nat, 1 ≤ u ∧ u ≤ 9 ∧ n = -(u : Int) ∧ Lib.itoa n = [45, UInt8.ofNat (48 + u)]) := by
  by_cases h : n < 0
  · obtain ⟨u, rfl⟩ : ∃ u : Nat, n = -(u : Int) := ⟨n.natAbs, by omega⟩
    exact Or.inr ⟨u, by omega, by omega, rfl, by rw [Lib.itoa_neg u (by omega), Lib.decDigits_one (by omega)]⟩
  · obtain ⟨u, rfl⟩ : ∃ u : Nat, n = u := ⟨n.toNat, by omega⟩
    exact Or.inl ⟨u, by omega, rfl, by rw [Lib.itoa_nonneg, Lib.decDigits_one (by omega)]⟩
theorem sgn_itoa (n : Int) (h0 : -9 ≤ n) (h1 : n ≤ 9) : sgn (Lib.itoa n) = (n, true) := by
  rcases itoa_cases n h0 h1 with ⟨u, hu, rfl, e⟩ | ⟨u, hu1, hu, rfl, e⟩
  · rw [e]
    rcases ten u hu with rfl | rfl | rfl | rfl | rfl | rfl | rfl | rfl | rfl | rfl <;> decide +kernel
  · rw [e]
    rcases ten u hu with rfl | rfl | rfl | rfl | rfl | rfl | rfl | rfl | rfl | rfl <;> first | omega | decide +kernel
theorem itoa_mem (n : Int) (h0 : -9 ≤ n) (h1 : n ≤ 9) : (10 : UInt8) ∉ Lib.itoa n ∧ (32 : UInt8) ∉ Lib.itoa n := by
  rcases itoa_cases n h0 h1 with ⟨u, hu, rfl, e⟩ | ⟨u, hu1, hu, rfl, e⟩
  · rw [e]
    rcases ten u hu with rfl | rfl | rfl | rfl | rfl | rfl | rfl | rfl | rfl | rfl <;> decide +kernel
  · rw [e]
    rcases ten u hu with rfl | rfl | rfl | rfl | rfl | rfl | rfl | rfl | rfl | rfl <;> first | omega | decide +kernel
end Go.Proofs.YtmihfgnkjjohmaaDoor.OwnRead
