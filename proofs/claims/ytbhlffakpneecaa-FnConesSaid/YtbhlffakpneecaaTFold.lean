/- More on ranges, kept elements, insertion into rising lists, blocks below: plain laws, nothing of the program. -/
import Derived.Test.YtbhlffakpneecaaTMarks
namespace Go.Proofs.Ytbhlffakpneecaa.B
open Go.RowKit Go.Proofs.YtbhlffakpneecaaW.PrintWords Go.Proofs.YtbhlffakpneecaaW.PrintMore
set_option linter.unusedVariables false
set_option linter.unusedSimpArgs false
theorem foldR_split {σ : Type} {f : σ → Nat → σ} {i j n : Nat} {s : σ} (h1 : i ≤ j) (h2 : j ≤ n) : foldR f i n s = foldR f j n (foldR f i j s) := by
 induction n with
 | zero =>
  obtain rfl : j = 0 := by omega
  obtain rfl : i = 0 := by omega
  rw [foldR_end (Nat.le_refl _), foldR_end (Nat.le_refl _)]
 | succ n ih =>
  by_cases h : j = n + 1
  ·subst h; rw [foldR_end (i := n + 1) (Nat.le_refl _)]
  ·rw [foldR_last (by omega), foldR_last (i := j) (by omega), ih (by omega)]
theorem foldR_id {σ : Type} {f : σ → Nat → σ} {i n : Nat} {s : σ} (h : ∀ j, i ≤ j → j < n → f s j = s) : foldR f i n s = s := by
 by_cases hi : i ≤ n
 ·refine foldR_inv (P := fun _ (t : σ) => t = s) rfl (fun j t h1 h2 ht => by rw [ht]; exact h j h1 h2) hi
 ·exact foldR_end (by omega)
def anyR (p : Nat → Bool) (i n : Nat) : Bool := !(allR (fun j => !(p j)) i n)
theorem anyR_step {p : Nat → Bool} {i n : Nat} (h : i < n) : anyR p i n = (p i || anyR p (i + 1) n) := by
 unfold anyR; rw [allR_step h, Bool.not_and, Bool.not_not]
theorem anyR_end {p : Nat → Bool} {i n : Nat} (h : n ≤ i) : anyR p i n = false := by
 unfold anyR; rw [allR_end h]; rfl
theorem anyR_iff {p : Nat → Bool} {i n : Nat} : anyR p i n = true ↔ ∃ j, i ≤ j ∧ j < n ∧ p j = true := by
 unfold anyR
 rw [Bool.not_eq_true', ← Bool.not_eq_true, allR_iff]
 constructor
 ·intro h
  exact Classical.byContradiction fun hn => h (fun j h1 h2 => by
   cases hp : p j with
   | false => rfl
   | true => exact absurd ⟨j, h1, h2, hp⟩ hn)
 ·rintro ⟨j, h1, h2, h3⟩ h
  have := h j h1 h2
  rw [h3] at this
  cases this
def anyIn (m : List Bool) (l : List Int) : Bool := anyR (inAt m l) 0 l.length
theorem anyIn_iff {m : List Bool} {l : List Int} : anyIn m l = true ↔ ∃ x ∈ l, at_ m x = true := by
 unfold anyIn inAt
 rw [anyR_iff]
 constructor
 ·rintro ⟨j, _, h2, h3⟩; exact ⟨_, getD_mem h2, h3⟩
 ·rintro ⟨x, hx, h⟩; obtain ⟨j, hj, rfl⟩ := mem_getD (z := 0) hx; exact ⟨j, Nat.zero_le _, hj, h⟩
theorem set_self {m : List Bool} {k : Nat} : m.set k (m.getD k false) = m := by
 refine getD_ext false (by rw [List.length_set]) (fun j hj => ?_)
 rw [getD_set]
 split
 ·rename_i h; rw [h.1]
 ·rfl
theorem at_set_ne {m : List Bool} {k : Nat} {b : Bool} {x : Int} (h : k ≠ x.toNat) : at_ (m.set k b) x = at_ m x := by
 unfold at_; rw [getD_set, if_neg (fun hc => h hc.1)]
theorem at_set_eq {m : List Bool} {k : Nat} {b : Bool} (h : k < m.length) : at_ (m.set k b) (k : Int) = b := by
 unfold at_; rw [toNat_nat, getD_set, if_pos ⟨rfl, h⟩]
def belStep (a : List (List Int)) (m : List Bool) (k : Nat) : List Bool := m.set k (m.getD k false || anyIn m (a.getD k []))
theorem bel_len {a : List (List Int)} {m : List Bool} {i n : Nat} : (foldR (belStep a) i n m).length = m.length := by
 by_cases h : i ≤ n
 ·exact foldR_inv (P := fun _ (t : List Bool) => t.length = m.length) rfl (fun j t _ _ h => by unfold belStep; rw [List.length_set]; exact h) h
 ·rw [foldR_end (by omega)]
theorem bel_at {a : List (List Int)} (ha : Arcs a) {m : List Bool} (hm : m.length = a.length) (n : Nat) (hn : n ≤ a.length) : ∀ j, (foldR (belStep a) 0 n m).getD j false = true ↔ (m.getD j false = true ∨ (j < n ∧ ∃ s, m.getD s false = true ∧ Up a j s)) := by
 induction n with
 | zero => intro j; rw [foldR_end (Nat.le_refl _)]; simp
 | succ n ih =>
  intro j
  have ih := ih (by omega)
  rw [foldR_last (Nat.zero_le _)]
  have hl := bel_len (a := a) (m := m) (i := 0) (n := n)
  generalize foldR (belStep a) 0 n m = t at ih hl ⊢
  unfold belStep
  rw [getD_set]
  by_cases e : n = j
  ·subst e
   rw [if_pos ⟨rfl, by omega⟩, Bool.or_eq_true, anyIn_iff, ih n]
   constructor
   ·rintro ((h | ⟨h, _⟩) | ⟨x, hx, h⟩)
    ·exact .inl h
    ·omega
    ·have hd := ha.down hx
     have hx' : ((x.toNat : Nat) : Int) ∈ a.getD n [] := by rw [Int.toNat_of_nonneg hd.1]; exact hx
     unfold at_ at h
     rcases (ih _).1 h with h | ⟨_, s, h1, h2⟩
     ·exact .inr ⟨by omega, _, h, .step hx' (.refl _)⟩
     ·exact .inr ⟨by omega, s, h1, .step hx' h2⟩
   ·rintro (h | ⟨_, s, h1, h2⟩)
    ·exact .inl (.inl h)
    ·cases h2 with
     | refl => exact .inl (.inl h1)
     | step h3 h4 =>
      have hd := ha.down h3
      refine .inr ⟨_, h3, ?_⟩
      unfold at_
      rw [toNat_nat]
      exact (ih _).2 (.inr ⟨by omega, s, h1, h4⟩)
  ·rw [if_neg (by omega), ih j]
   constructor
   ·rintro (h | ⟨h1, h2⟩)
    ·exact .inl h
    ·exact .inr ⟨by omega, h2⟩
   ·rintro (h | ⟨h1, h2⟩)
    ·exact .inl h
    ·exact .inr ⟨by omega, h2⟩
theorem bel_skip {a : List (List Int)} (ha : Arcs a) (i : Nat) (hi : i < a.length) : foldR (belStep a) 0 (i + 1) (mk a.length [(i : Int)]) = mk a.length [(i : Int)] := by
 have hm : ∀ j, (mk a.length [(i : Int)]).getD j false = true ↔ j = i := by
  intro j
  rw [mk_at (fun x hx => by rw [List.mem_singleton] at hx; omega), List.mem_singleton]; omega
 refine foldR_id (fun j h1 h2 => ?_)
 unfold belStep
 have : anyIn (mk a.length [(i : Int)]) (a.getD j []) = false := by
  rw [← Bool.not_eq_true, anyIn_iff]
  rintro ⟨x, hx, h⟩
  unfold at_ at h
  have := (hm _).1 h
  have := ha.down hx
  omega
 rw [this, Bool.or_false, set_self]
def keepAt (p : Int → Bool) (l : List Int) (o : List Int) (j : Nat) : List Int := if p (l.getD j 0) = true then o ++ [l.getD j 0] else o
theorem keepAt_filter (p : Int → Bool) (l : List Int) (n : Nat) (h : n ≤ l.length) : foldR (keepAt p l) 0 n [] = (l.take n).filter p := by
 induction n with
 | zero => rw [foldR_end (Nat.le_refl _)]; simp
 | succ n ih =>
  rw [foldR_last (Nat.zero_le _), ih (by omega), List.take_succ_eq_append_getElem (by omega), List.filter_append]
  have e : l.getD n 0 = l[n] := by simp [List.getD_eq_getElem?_getD, show n < l.length by omega]
  unfold keepAt
  rw [e]
  split
  ·rename_i hp; simp [hp]
  ·rename_i hp; simp [hp]
theorem keepAt_len (p : Int → Bool) (l : List Int) (n : Nat) (h : n ≤ l.length) : (foldR (keepAt p l) 0 n []).length ≤ n := by
 rw [keepAt_filter p l n h]
 have := List.length_filter_le p (l.take n)
 rw [List.length_take] at this; omega
theorem filter_asc {l : List Int} {n : Int} (p : Int → Bool) (h : asc l n = true) : asc (l.filter p) n = true :=
 asc_of ((asc_pairwise h).sublist List.filter_sublist) (fun x hx => asc_mem h (List.mem_filter.1 hx).1)
theorem take_lt_of {l : List Int} {n : Int} {k : Nat} (h : ∀ j, j < k → l.getD j 0 < n) (hk : k ≤ l.length) : ∀ x ∈ l.take k, x < n := by
 intro x hx
 obtain ⟨j, hj, rfl⟩ := mem_getD (z := 0) hx
 rw [List.length_take] at hj
 have e : (l.take k).getD j 0 = l.getD j 0 := by simp [List.getD_eq_getElem?_getD, show j < k by omega]
 rw [e]; exact h j (by omega)
theorem put_sorted {l : List Int} (hs : l.Pairwise (· < ·)) {n : Int} {k : Nat} (hk : k ≤ l.length) (h1 : ∀ j, j < k → l.getD j 0 < n) (h2 : k < l.length → n < l.getD k 0) :
  (l.take k ++ [n] ++ l.drop k).Pairwise (· < ·) ∧ ∀ x, x ∈ l.take k ++ [n] ++ l.drop k ↔ x ∈ l ∨ x = n := by
 have hd : ∀ x ∈ l.drop k, n < x := by
  intro x hx
  obtain ⟨j, hj, rfl⟩ := mem_getD (z := 0) hx
  rw [List.length_drop] at hj
  have hk' : k < l.length := by omega
  have e : (l.drop k).getD j 0 = l.getD (k + j) 0 := by simp [List.getD_eq_getElem?_getD, List.getElem?_drop]
  rw [e]
  by_cases hj0 : j = 0
  ·subst hj0; exact h2 hk'
  ·rw [List.pairwise_iff_getElem] at hs
   have := hs k (k + j) hk' (by omega) (by omega)
   have h3 := h2 hk'
   have e1 : l.getD k 0 = l[k] := by simp [List.getD_eq_getElem?_getD, hk']
   have e2 : l.getD (k + j) 0 = l[k + j]'(by omega) := by simp [List.getD_eq_getElem?_getD, show k + j < l.length by omega]
   omega
 constructor
 ·rw [List.pairwise_append, List.pairwise_append]
  refine ⟨⟨hs.sublist (List.take_sublist _ _), List.pairwise_singleton _ _, fun x hx y hy => ?_⟩, hs.sublist (List.drop_sublist _ _), fun x hx y hy => ?_⟩
  ·rw [List.mem_singleton] at hy; subst hy; exact take_lt_of h1 hk x hx
  ·rw [List.mem_append, List.mem_singleton] at hx
   have := hd y hy
   rcases hx with hx | rfl
   ·have := take_lt_of h1 hk x hx; omega
   ·exact this
 ·intro x
  have := List.take_append_drop k l
  rw [List.mem_append, List.mem_append, List.mem_singleton]
  constructor
  ·rintro ((h | h) | h)
   ·exact .inl (List.mem_of_mem_take h)
   ·exact .inr h
   ·exact .inl (List.mem_of_mem_drop h)
  ·rintro (h | h)
   ·rw [← this, List.mem_append] at h
    rcases h with h | h
    ·exact .inl (.inl h)
    ·exact .inr h
   ·exact .inl (.inr h)
end Go.Proofs.Ytbhlffakpneecaa.B
