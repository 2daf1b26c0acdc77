/- More on ranges, kept elements, insertion into rising lists, blocks below: plain laws, nothing of the program. -/
import Derived.Test.YtbhlffakpneecaaTMarks
namespace Go.Proofs.Ytbhlffakpneecaa.B
open Go.RowKit Go.Proofs.YtbhlffakpneecaaW.PrintWords Go.Proofs.YtbhlffakpneecaaW.PrintMore
set_option linter.unusedVariables false
set_option linter.unusedSimpArgs false
theorem set_self {m : List Bool} {k : Nat} : m.set k (m.getD k false) = m := by
 refine getD_ext false (by rw [List.length_set]) (fun j hj => ?_)
 rw [getD_set]
 split
 ·rename_i h; rw [h.1]
 ·rfl
theorem at_set_ne {m : List Bool} {k : Nat} {b : Bool} {x : Int} (h : k ≠ x.toNat) : at_ (m.set k b) x = at_ m x := by
 unfold at_; rw [getD_set, if_neg (fun hc => h hc.1)]
theorem at_set_eq {m : List Bool} {k : Nat} {b : Bool} (h : k < m.length) : at_ (m.set k b) (k : Int) = b := by
 unfold at_; rw [toNat_nat, getD_set, if_pos ⟨rfl, h⟩]
def keepAt (p : Int → Bool) (l : List Int) (o : List Int) (j : Nat) : List Int := if p (l.getD j 0) = true then o ++ [l.getD j 0] else o
theorem keepAt_filter (p : Int → Bool) (l : List Int) (n : Nat) (h : n ≤ l.length) : foldR (keepAt p l) 0 n [] = (l.take n).filter p := by
 induction n with
 | zero => rw [foldR_end (Nat.le_refl _)]; simp
 | succ n ih =>
  rw [foldR_last (Nat.zero_le _), ih (by omega), List.take_succ_eq_append_getElem (by omega), List.filter_append]
  have e : l.getD n 0 = l[n] := by simp [List.getD_eq_getElem?_getD, show n < l.length by omega]
  unfold keepAt
  rw [e]
  split
  ·rename_i hp; simp [hp]
  ·rename_i hp; simp [hp]
theorem keepAt_len (p : Int → Bool) (l : List Int) (n : Nat) (h : n ≤ l.length) : (foldR (keepAt p l) 0 n []).length ≤ n := by
 rw [keepAt_filter p l n h]
 have := List.length_filter_le p (l.take n)
 rw [List.length_take] at this; omega
theorem filter_asc {l : List Int} {n : Int} (p : Int → Bool) (h : asc l n = true) : asc (l.filter p) n = true :=
 asc_of ((asc_pairwise h).sublist List.filter_sublist) (fun x hx => asc_mem h (List.mem_filter.1 hx).1)
theorem take_lt_of {l : List Int} {n : Int} {k : Nat} (h : ∀ j, j < k → l.getD j 0 < n) (hk : k ≤ l.length) : ∀ x ∈ l.take k, x < n := by
 intro x hx
 obtain ⟨j, hj, rfl⟩ := mem_getD (z := 0) hx
 rw [List.length_take] at hj
 have e : (l.take k).getD j 0 = l.getD j 0 := by simp [List.getD_eq_getElem?_getD, show j < k by omega]
 rw [e]; exact h j (by omega)
theorem put_sorted {l : List Int} (hs : l.Pairwise (· < ·)) {n : Int} {k : Nat} (hk : k ≤ l.length) (h1 : ∀ j, j < k → l.getD j 0 < n) (h2 : k < l.length → n < l.getD k 0) :
  (l.take k ++ [n] ++ l.drop k).Pairwise (· < ·) ∧ ∀ x, x ∈ l.take k ++ [n] ++ l.drop k ↔ x ∈ l ∨ x = n := by
 have hd : ∀ x ∈ l.drop k, n < x := by
  intro x hx
  obtain ⟨j, hj, rfl⟩ := mem_getD (z := 0) hx
  rw [List.length_drop] at hj
  have hk' : k < l.length := by omega
  have e : (l.drop k).getD j 0 = l.getD (k + j) 0 := by simp [List.getD_eq_getElem?_getD, List.getElem?_drop]
  rw [e]
  by_cases hj0 : j = 0
  ·subst hj0; exact h2 hk'
  ·rw [List.pairwise_iff_getElem] at hs
   have := hs k (k + j) hk' (by omega) (by omega)
   have h3 := h2 hk'
   have e1 : l.getD k 0 = l[k] := by simp [List.getD_eq_getElem?_getD, hk']
   have e2 : l.getD (k + j) 0 = l[k + j]'(by omega) := by simp [List.getD_eq_getElem?_getD, show k + j < l.length by omega]
   omega
 constructor
 ·rw [List.pairwise_append, List.pairwise_append]
  refine ⟨⟨hs.sublist (List.take_sublist _ _), List.pairwise_singleton _ _, fun x hx y hy => ?_⟩, hs.sublist (List.drop_sublist _ _), fun x hx y hy => ?_⟩
  ·rw [List.mem_singleton] at hy; subst hy; exact take_lt_of h1 hk x hx
  ·rw [List.mem_append, List.mem_singleton] at hx
   have := hd y hy
   rcases hx with hx | rfl
   ·have := take_lt_of h1 hk x hx; omega
   ·exact this
 ·intro x
  have := List.take_append_drop k l
  rw [List.mem_append, List.mem_append, List.mem_singleton]
  constructor
  ·rintro ((h | h) | h)
   ·exact .inl (List.mem_of_mem_take h)
   ·exact .inr h
   ·exact .inl (List.mem_of_mem_drop h)
  ·rintro (h | h)
   ·rw [← this, List.mem_append] at h
    rcases h with h | h
    ·exact .inl (.inl h)
    ·exact .inr h
   ·exact .inl (.inr h)
end Go.Proofs.Ytbhlffakpneecaa.B
