/- Plain laws of cutting a list of bytes at one byte; nothing of the program. -/
import Derived.Lib.SplitLaws
import Derived.Lib.Join
namespace Go.Proofs.YtmihfgnkjjohmaaDoor.Spl
set_option linter.unusedVariables false
/-- The pieces between the bytes c. -/
def spl (c : UInt8) : List UInt8 → List (List UInt8)
  | [] => [[]]
  | b :: r => if b = c then [] :: spl c r else match spl c r with
    | [] => [[b]]
    | x :: t => (b :: x) :: t
theorem spl_ne (c : UInt8) : ∀ l, spl c l ≠ []
  | [] => by simp [spl]
  | b :: r => by
    unfold spl
    split
    · simp
    · split <;> simp
theorem spl_miss (c b : UInt8) (r : List UInt8) (h : b ≠ c) : ∃ x t, spl c r = x :: t ∧ spl c (b :: r) = (b :: x) :: t := by
  cases hs : spl c r with
  | nil => exact absurd hs (spl_ne c r)
  | cons x t => exact ⟨x, t, rfl, by rw [spl, if_neg h, hs]⟩
theorem spl_hit (c : UInt8) (r : List UInt8) : spl c (c :: r) = [] :: spl c r := by rw [spl, if_pos rfl]
/-- The library's cutting is this one. -/
theorem split_spl (c : UInt8) : ∀ l : List UInt8, Lib.splitK [c] 0 (Lib.count l [c]) l = spl c l
  | [] => by rw [Lib.count_miss (by simp [Lib.index])]; rfl
  | b :: r => by
    have ih := split_spl c r
    by_cases h : b = c
    · subst h
      rw [Lib.count_cons_eq, spl_hit, ← ih, Nat.add_comm]
      have hix : Lib.index (b :: r) [b] = 0 := by rw [Lib.index]; simp [List.isPrefixOf]
      rw [Lib.splitK, hix]
      simp
    · rw [Lib.count_cons_ne b c r h]
      obtain ⟨x, t, h1, h2⟩ := spl_miss c b r h
      rw [h2]
      rw [h1] at ih
      have hp : ([c] : List UInt8).isPrefixOf (b :: r) = false := by simp [List.isPrefixOf, Ne.symm h]
      have hix : Lib.index (b :: r) [c] = if Lib.index r [c] == -1 then -1 else Lib.index r [c] + 1 := by rw [Lib.index, hp]; simp
      cases hk : Lib.count r [c] with
      | zero =>
        rw [hk] at ih
        rw [Lib.splitK] at ih ⊢
        injection ih with e1 e2
        rw [e1, e2]
      | succ k =>
        rw [hk] at ih
        rw [Lib.splitK] at ih ⊢
        by_cases hm : Lib.index r [c] = -1
        · rw [if_pos (by rw [hm]; rfl)] at ih
          rw [if_pos (by rw [hix, hm]; rfl)]
          injection ih with e1 e2
          rw [e1, e2]
        · have hge := Lib.index_ge r [c]
          obtain ⟨j, hj⟩ : ∃ j : Nat, Lib.index r [c] = j := ⟨(Lib.index r [c]).toNat, by omega⟩
          have hix' : Lib.index (b :: r) [c] = ((j + 1 : Nat) : Int) := by rw [hix, if_neg (fun e => hm (beq_iff_eq.1 e)), hj]; omega
          rw [if_neg (by rw [hj]; intro e; have := beq_iff_eq.1 e; omega), hj] at ih
          rw [if_neg (by rw [hix']; intro e; have := beq_iff_eq.1 e; omega), hix']
          simp only [Int.toNat_natCast, Nat.add_zero, List.length_cons, List.length_nil] at ih ⊢
          injection ih with e1 e2
          rw [← e1, ← e2]
          simp
/-- Joined again. -/
theorem join_spl (c : UInt8) : ∀ l : List UInt8, Lib.join (spl c l) [c] = l
  | [] => by simp [spl, Lib.join_one]
  | b :: r => by
    have ih := join_spl c r
    by_cases h : b = c
    · subst h
      rw [spl_hit, Lib.join_cons]
      cases hs : spl b r with
      | nil => exact absurd hs (spl_ne b r)
      | cons x t =>
        rw [hs, Lib.join_cons] at ih
        rw [← ih]
        simp [Lib.joinTail]
    · obtain ⟨x, t, h1, h2⟩ := spl_miss c b r h
      rw [h2, Lib.join_cons]
      rw [h1, Lib.join_cons] at ih
      rw [← ih]
      rfl
theorem spl_none (c : UInt8) : ∀ x : List UInt8, c ∉ x → spl c x = [x]
  | [], _ => rfl
  | b :: r, h => by
    have hb : b ≠ c := fun e => h (by rw [e]; exact List.mem_cons_self ..)
    rw [spl, if_neg hb, spl_none c r (fun hm => h (List.mem_cons_of_mem _ hm))]
theorem spl_app (c : UInt8) (l : List UInt8) : ∀ x : List UInt8, c ∉ x → spl c (x ++ c :: l) = x :: spl c l
  | [], _ => spl_hit c l
  | b :: r, h => by
    have hb : b ≠ c := fun e => h (by rw [e]; exact List.mem_cons_self ..)
    have ih := spl_app c l r (fun hm => h (List.mem_cons_of_mem _ hm))
    rw [List.cons_append, spl, if_neg hb, ih]
/-- Cut again: pieces without the byte. -/
theorem spl_join (c : UInt8) : ∀ xs : List (List UInt8), xs ≠ [] → (∀ x ∈ xs, c ∉ x) → spl c (Lib.join xs [c]) = xs
  | [], h, _ => absurd rfl h
  | [x], _, h => by rw [Lib.join_one]; exact spl_none c x (h x (List.mem_cons_self ..))
  | x :: y :: r, _, h => by
    have ih := spl_join c (y :: r) (by simp) (fun z hz => h z (List.mem_cons_of_mem _ hz))
    have e : Lib.join (x :: y :: r) [c] = x ++ c :: Lib.join (y :: r) [c] := by
      rw [Lib.join_cons, Lib.join_cons]
      simp [Lib.joinTail]
    rw [e, spl_app c _ x (h x (List.mem_cons_self ..)), ih]
end Go.Proofs.YtmihfgnkjjohmaaDoor.Spl
