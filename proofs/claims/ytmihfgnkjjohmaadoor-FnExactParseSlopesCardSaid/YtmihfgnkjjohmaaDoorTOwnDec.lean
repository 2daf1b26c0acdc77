/- What impl.signedDecimal tells, in plain words. -/
import Derived.Test.YtmihfgnkjjohmaaDoorTOwnCut
namespace Go.Proofs.YtmihfgnkjjohmaaDoor.OwnDec
open Go.RowKit Go.Proofs.YtmihfgnkjjohmaaDoor.PFnExactParseSlopes Go.Proofs.YtmihfgnkjjohmaaDoorW.PrintWords Go.Proofs.YtmihfgnkjjohmaaDoorW.PrintLast Go.Proofs.YtmihfgnkjjohmaaDoorW.PrintMore Go.Proofs.YtmihfgnkjjohmaaDoor.B Go.Proofs.YtmihfgnkjjohmaaDoor.OwnLines Go.Proofs.YtmihfgnkjjohmaaDoor.OwnSigned Go.Proofs.YtmihfgnkjjohmaaDoor.OwnCut
set_option linter.unusedVariables false
set_option linter.unusedSimpArgs false
def digs : List UInt8 → Int → Option Int
  | [], n => some n
  | b :: r, n => if 48 ≤ b.toNat ∧ b.toNat ≤ 57 then digs r (10 * n + ((b.toNat : Int) - 48)) else none
def decL (l : List UInt8) : Int × Bool := match digs l 0 with
  | some v => (v, true)
  | none => (0, false)
def dec (l : List UInt8) : Int × Bool := if l = [] ∨ 15 < l.length ∨ (l[0]? = some 48 ∧ 1 < l.length) then (0, false) else decL l
def fin (o : Option Int) : Int × Bool := match o with
  | some v => (v, true)
  | none => (0, false)
theorem dec_l0 (s : ByteArray) (hs : s.size ≤ 15) : ∀ (d i : Nat) (n : Int), i + d = s.size → 0 ≤ n → n < (10 : Int) ^ i →
    Ev (fun k => impl_decimal.l0 k s n (i : Int)) (fin (digs (s.data.toList.drop i) n)) := by
  have hL : s.data.toList.length = s.size := (Lib.size_eq s).symm
  intro d
  induction d with
  | zero =>
    intro i n hi h0 h1
    refine Ev.step (fun k => impl_decimal.l0.eq_2 s n i k) (ev_neg (by omega) (ev_some ?_))
    rw [List.drop_eq_nil_of_le (by omega)]
    rfl
  | succ d ih =>
    intro i n hi h0 h1
    obtain ⟨b, hb, hbt⟩ := bt_get s i (by omega)
    have h2 : s.data.toList.drop i = b :: s.data.toList.drop (i + 1) := by
      rw [List.drop_eq_getElem_cons (by omega)]
      rw [List.getElem?_eq_getElem (by omega)] at hb
      injection hb with hb
      rw [hb]
    have hp : (10 : Int) ^ i ≤ 10 ^ 14 := by
      have := Nat.pow_le_pow_right (show 0 < 10 by decide) (show i ≤ 14 by omega)
      have h3 : (((10 : Nat) ^ i : Nat) : Int) ≤ ((10 ^ 14 : Nat) : Int) := by exact_mod_cast this
      simpa using h3
    have hq : (10 : Int) ^ (i + 1) = 10 ^ i * 10 := Int.pow_succ ..
    refine Ev.step (fun k => impl_decimal.l0.eq_2 s n i k) (ev_pos (by omega) (ev_pos (by omega) ?_))
    rw [hbt, h2, w_succ (n := s.size) (by omega) (by omega), digs]
    refine ev_ite (fun h => ?_) (fun h => ev_ite (fun h3 => ?_) (fun h3 => ?_))
    · rw [if_neg (by omega)]; exact ev_some rfl
    · rw [if_neg (by omega)]; exact ev_some rfl
    · rw [if_pos (by omega), w64 (x := 10 * n) (by omega) (by omega), show (((b.toNat : Int) - 48) % 256) = (b.toNat : Int) - 48 by omega, w64 (by omega) (by omega)]
      exact ih (i + 1) _ (by omega) (by omega) (by rw [hq]; omega)
theorem decimal_ev (s : ByteArray) (hs : s.size ≤ 1048576) : Ev (fun k => impl_decimal.f k s) (dec s.data.toList) := by
  have hL : s.data.toList.length = s.size := (Lib.size_eq s).symm
  unfold impl_decimal.f dec
  rw [Lib.toList_data]
  have bad : ∀ {c : Prop} [Decidable c], c → Ev (fun k => impl_decimal.j0 k s true) (if c then (0, false) else decL s.data.toList) := fun h => by
    rw [if_pos h]
    exact Ev.step (fun k => impl_decimal.j0.eq_2 s true k) (ev_pos rfl (ev_some rfl))
  refine ev_ite (fun h => bad (Or.inl h)) (fun h => ev_ite (fun h1 => bad (Or.inr (Or.inl (by omega)))) (fun h1 => ?_))
  have hpos : 0 < s.size := by rw [← hL]; exact List.length_pos_iff.2 h
  obtain ⟨b, hb, hbt⟩ := bt_get s 0 hpos
  have good : ¬ (s.data.toList[0]? = some 48 ∧ 1 < s.data.toList.length) → Ev (fun k => impl_decimal.j0 k s false) (if s.data.toList = [] ∨ 15 < s.data.toList.length ∨ (s.data.toList[0]? = some 48 ∧ 1 < s.data.toList.length) then (0, false) else decL s.data.toList) := fun hn => by
    rw [if_neg (by rw [not_or, not_or]; exact ⟨h, by omega, hn⟩)]
    refine Ev.step (fun k => impl_decimal.j0.eq_2 s false k) (ev_neg (by simp) ?_)
    have := dec_l0 s (by omega) s.size 0 0 (by omega) (Int.le_refl _) (by simp)
    rw [List.drop_zero] at this
    exact this
  have hz : bt s 0 = (b.toNat : Int) := hbt
  refine ev_pos (by omega) ?_
  rw [hz]
  refine ev_ite (fun h2 => ?_) (fun h2 => good (fun hq => ?_))
  · have hb48 : b = 48 := UInt8.toNat_inj.1 (by rw [show (48 : UInt8).toNat = 48 from rfl]; omega)
    by_cases h3 : (s.size : Int) > 1
    · rw [decide_eq_true h3]
      exact bad (Or.inr (Or.inr ⟨by rw [hb, hb48], by omega⟩))
    · rw [decide_eq_false h3]
      exact good (fun hq => by omega)
  · rw [hb] at hq
    have := Option.some.inj hq.1
    rw [this] at h2
    exact h2 rfl
def sgn (l : List UInt8) : Int × Bool := if l[0]? = some 45 then (wrap64 (-(dec (l.drop 1)).1), (dec (l.drop 1)).2 && decide ((dec (l.drop 1)).1 > 0)) else dec l
theorem take_one (l : List UInt8) : (l.take 1 == [45]) = decide (l[0]? = some 45) := by
  cases l with
  | nil => rfl
  | cons b r =>
    by_cases h : b = 45
    · subst h; rfl
    · simp [h]
theorem cut_minus (s : ByteArray) : strings_CutPrefix.f s (⟨#[45]⟩ : ByteArray) = some (if s.data.toList[0]? = some 45 then (toB (s.data.toList.drop 1), true) else (s, false)) := by
  have hL : s.data.toList.length = s.size := (Lib.size_eq s).symm
  have h1 : ((⟨#[45]⟩ : ByteArray).size : Int) = 1 := rfl
  unfold strings_CutPrefix.f stringslite_CutPrefix.f stringslite_HasPrefix.f
  rw [h1]
  by_cases hp : (s.size : Int) ≥ 1
  · rw [if_pos hp, if_pos (by omega), if_pos (by omega)]
    have e1 : ((s.extract 0 (1 : Int).toNat).toList == (⟨#[45]⟩ : ByteArray).toList) = decide (s.data.toList[0]? = some 45) := by
      rw [Lib.toList_data, Lib.toList_data, Lib.extract_from_zero]
      exact take_one _
    rw [e1]
    by_cases hc : s.data.toList[0]? = some 45
    · have e2 : s.extract (1 : Int).toNat s.size = toB (s.data.toList.drop 1) := by
        rw [piece, List.take_of_length_le (by omega)]; rfl
      simp only [hc, decide_true, Option.bind_some, if_true, e2]
      rw [if_pos (by omega), if_pos (by omega)]
      rfl
    · simp only [hc, decide_false, Option.bind_some]
      rfl
  · have hz : s.data.toList = [] := List.eq_nil_of_length_eq_zero (by omega)
    rw [if_neg hp, hz]
    rfl
theorem signed_ev (s : ByteArray) (hs : s.size ≤ 1048576) : Ev (fun k => impl_signedDecimal.f k s) (sgn s.data.toList) := by
  have hL : s.data.toList.length = s.size := (Lib.size_eq s).symm
  unfold impl_signedDecimal.f sgn
  refine ev_bindc (cut_minus s) ?_
  by_cases hc : s.data.toList[0]? = some 45
  · rw [if_pos hc, if_pos hc]
    have hd := decimal_ev (toB (s.data.toList.drop 1)) (by show (s.data.toList.drop 1).toArray.size ≤ _; rw [List.size_toArray, List.length_drop]; omega)
    rw [show (toB (s.data.toList.drop 1)).data.toList = s.data.toList.drop 1 from rfl] at hd
    refine Ev.bind hd (ev_pos rfl (ev_ite (fun h => ev_some ?_) (fun h => ev_some ?_)))
    · rw [h, Bool.true_and]
    · rw [Bool.not_eq_true] at h; rw [h, Bool.false_and]
  · rw [if_neg hc, if_neg hc]
    exact Ev.bind (decimal_ev s hs) (ev_neg (by simp) (ev_some rfl))
/-- signedLine's f. -/
def sgnB (x : ByteArray) : Int × Bool := sgn x.data.toList
theorem sgnB_rounds (x : ByteArray) (hx : x.size ≤ 1048576) : ∃ k, impl_signedDecimal.f k x = some (sgnB x) := (signed_ev x hx).rounds
end Go.Proofs.YtmihfgnkjjohmaaDoor.OwnDec
