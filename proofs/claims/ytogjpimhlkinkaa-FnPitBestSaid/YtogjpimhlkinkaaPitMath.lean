/- What marks of nodes say of pits, in plain Lean; nothing of the program. -/
import Derived.Test.YtogjpimhlkinkaaMarks
import Derived.Test.YtogjpimhlkinkaaFold
import Derived.Test.YtogjpimhlkinkaaFlowFlip
namespace Go.Proofs.Ytogjpimhlkinkaa.PitMath
open Go.RowKit Go.Proofs.YtogjpimhlkinkaaW.PrintWords Go.Proofs.YtogjpimhlkinkaaW.PrintMore Go.Proofs.Ytogjpimhlkinkaa.B Go.Proofs.Ytogjpimhlkinkaa.Flow
set_option linter.unusedVariables false
set_option linter.unusedSimpArgs false
/-- the nodes that are not reached -/
def outB (b : List Int) : List Bool := b.map fun x => decide (x < 0)
theorem outB_len (b : List Int) : (outB b).length = b.length := by unfold outB; rw [List.length_map]
theorem outB_at (b : List Int) (j : Nat) (h : j < b.length) : (outB b).getD j false = decide (b.getD j 0 < 0) := by
  unfold outB
  rw [List.getD_eq_getElem?_getD, List.getElem?_map, List.getD_eq_getElem?_getD, List.getElem?_eq_getElem h]
  rfl
/-- the marks of the blocks among those of the nodes -/
def pitB (N : Nat) (m : List Bool) : List Bool := (m.drop 1).take N
theorem pitB_len {N : Nat} {m : List Bool} (h : m.length = N + 2) : (pitB N m).length = N := by
  unfold pitB; rw [List.length_take, List.length_drop]; omega
theorem pitB_at {N : Nat} {m : List Bool} {i : Nat} (hi : i < N) : (pitB N m).getD i false = m.getD (i + 1) false := by
  unfold pitB
  rw [List.getD_eq_getElem?_getD, List.getElem?_take, if_pos hi, List.getElem?_drop, List.getD_eq_getElem?_getD, Nat.add_comm]
theorem listOf_cons (m : List Bool) : listOf (true :: m) = 0 :: (listOf m).map (· + 1) := by
  refine sorted_ext (asc_pairwise listOf_asc) ?_ ?_
  · rw [List.pairwise_cons]
    constructor
    · intro x hx
      obtain ⟨y, hy, rfl⟩ := List.mem_map.1 hx
      have := (listOf_mem y).1 hy
      omega
    · rw [List.pairwise_map]
      exact (asc_pairwise listOf_asc).imp (fun {a b} h => by omega)
  · intro x
    rw [listOf_mem, List.mem_cons, List.mem_map]
    constructor
    · rintro ⟨h0, h⟩
      by_cases hx : x = 0
      · exact Or.inl hx
      · refine Or.inr ⟨x - 1, (listOf_mem _).2 ⟨by omega, ?_⟩, by omega⟩
        unfold at_ at h ⊢
        rw [show x.toNat = (x - 1).toNat + 1 by omega] at h
        exact h
    · rintro (rfl | ⟨y, hy, rfl⟩)
      · exact ⟨Int.le_refl 0, rfl⟩
      · have := (listOf_mem y).1 hy
        refine ⟨by omega, ?_⟩
        have h2 := this.2
        unfold at_ at h2 ⊢
        rw [show (y + 1).toNat = y.toNat + 1 by omega]
        exact h2
theorem listOf_ext {m m' : List Bool} (h : ∀ j : Nat, m.getD j false = m'.getD j false) : listOf m = listOf m' := by
  refine sorted_ext (asc_pairwise listOf_asc) (asc_pairwise listOf_asc) (fun x => ?_)
  rw [listOf_mem, listOf_mem]
  unfold at_
  rw [h]
def paOf (l : List Int) : List Int := (l.drop 1).map (· - 1)
theorem paOf_marks {m : List Bool} {N : Nat} (hl : m.length = N + 2) (h0 : m.getD 0 false = true) (h1 : m.getD (N + 1) false = false) : paOf (listOf m) = listOf (pitB N m) := by
  cases m with
  | nil => simp at hl
  | cons b t =>
    obtain rfl : b = true := h0
    rw [listOf_cons]
    have e : paOf (0 :: (listOf t).map (· + 1)) = listOf t := by
      unfold paOf
      rw [List.drop_succ_cons, List.drop_zero, List.map_map]
      have : ((fun x : Int => x - 1) ∘ fun x => x + 1) = id := by funext x; simp
      rw [this, List.map_id]
    rw [e]
    refine listOf_ext fun j => ?_
    replace h1 : t.getD N false = false := h1
    have hl' : t.length = N + 1 := by simpa using hl
    unfold pitB
    rw [List.drop_succ_cons, List.drop_zero]
    by_cases hj : j < N
    · rw [List.getD_eq_getElem?_getD, List.getD_eq_getElem?_getD, List.getElem?_take, if_pos hj]
    · rw [show (List.take N t).getD j false = false from by rw [List.getD_eq_getElem?_getD, List.getElem?_take, if_neg hj]; rfl]
      by_cases h : j = N
      · subst h; exact h1
      · rw [List.getD_eq_getElem?_getD, List.getElem?_eq_none (by omega)]; rfl
theorem paOf_len (l : List Int) : (paOf l).length ≤ l.length := by unfold paOf; rw [List.length_map, List.length_drop]; omega
end Go.Proofs.Ytogjpimhlkinkaa.PitMath
