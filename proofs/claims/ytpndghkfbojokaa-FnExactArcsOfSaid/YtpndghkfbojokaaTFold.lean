/- More on ranges, kept elements, insertion into rising lists, blocks below: plain laws, nothing of the program. -/
import Derived.Test.YtpndghkfbojokaaTMarks
namespace Go.Proofs.Ytpndghkfbojokaa.B
open Go.RowKit Go.Proofs.YtpndghkfbojokaaW.PrintWords Go.Proofs.YtpndghkfbojokaaW.PrintMore
set_option linter.unusedVariables false
set_option linter.unusedSimpArgs false
theorem take_lt_of {l : List Int} {n : Int} {k : Nat} (h : ∀ j, j < k → l.getD j 0 < n) (hk : k ≤ l.length) : ∀ x ∈ l.take k, x < n := by
  intro x hx
  obtain ⟨j, hj, rfl⟩ := mem_getD (z := 0) hx
  rw [List.length_take] at hj
  have e : (l.take k).getD j 0 = l.getD j 0 := by simp [List.getD_eq_getElem?_getD, show j < k by omega]
  rw [e]; exact h j (by omega)
theorem put_sorted {l : List Int} (hs : l.Pairwise (· < ·)) {n : Int} {k : Nat} (hk : k ≤ l.length) (h1 : ∀ j, j < k → l.getD j 0 < n) (h2 : k < l.length → n < l.getD k 0) :
    (l.take k ++ [n] ++ l.drop k).Pairwise (· < ·) ∧ ∀ x, x ∈ l.take k ++ [n] ++ l.drop k ↔ x ∈ l ∨ x = n := by
  have hd : ∀ x ∈ l.drop k, n < x := by
    intro x hx
    obtain ⟨j, hj, rfl⟩ := mem_getD (z := 0) hx
    rw [List.length_drop] at hj
    have hk' : k < l.length := by omega
    have e : (l.drop k).getD j 0 = l.getD (k + j) 0 := by simp [List.getD_eq_getElem?_getD, List.getElem?_drop]
    rw [e]
    by_cases hj0 : j = 0
    · subst hj0; exact h2 hk'
    · rw [List.pairwise_iff_getElem] at hs
      have := hs k (k + j) hk' (by omega) (by omega)
      have h3 := h2 hk'
      have e1 : l.getD k 0 = l[k] := by simp [List.getD_eq_getElem?_getD, hk']
      have e2 : l.getD (k + j) 0 = l[k + j]'(by omega) := by simp [List.getD_eq_getElem?_getD, show k + j < l.length by omega]
      omega
  constructor
  · rw [List.pairwise_append, List.pairwise_append]
    refine ⟨⟨hs.sublist (List.take_sublist _ _), List.pairwise_singleton _ _, fun x hx y hy => ?_⟩, hs.sublist (List.drop_sublist _ _), fun x hx y hy => ?_⟩
    · rw [List.mem_singleton] at hy; subst hy; exact take_lt_of h1 hk x hx
    · rw [List.mem_append, List.mem_singleton] at hx
      have := hd y hy
      rcases hx with hx | rfl
      · have := take_lt_of h1 hk x hx; omega
      · exact this
  · intro x
    have := List.take_append_drop k l
    rw [List.mem_append, List.mem_append, List.mem_singleton]
    constructor
    · rintro ((h | h) | h)
      · exact .inl (List.mem_of_mem_take h)
      · exact .inr h
      · exact .inl (List.mem_of_mem_drop h)
    · rintro (h | h)
      · rw [← this, List.mem_append] at h
        rcases h with h | h
        · exact .inl (.inl h)
        · exact .inr h
      · exact .inl (.inr h)
end Go.Proofs.Ytpndghkfbojokaa.B
