/- Marks over blocks, rising lists, closures: plain laws, nothing of the program. -/
import Derived.Test.YtbhlffakpneecaaTBase
namespace Go.Proofs.Ytbhlffakpneecaa.B
open Go.RowKit Go.Proofs.YtbhlffakpneecaaW.PrintWords Go.Proofs.YtbhlffakpneecaaW.PrintMore
set_option linter.unusedVariables false
set_option linter.unusedSimpArgs false
theorem getD_mem {α : Type} {l : List α} {z : α} {j : Nat} (h : j < l.length) : l.getD j z ∈ l := by
 rw [List.getD_eq_getElem?_getD, List.getElem?_eq_getElem h]; exact List.getElem_mem _
theorem mem_getD {α : Type} {l : List α} {z x : α} (h : x ∈ l) : ∃ j, j < l.length ∧ l.getD j z = x := by
 obtain ⟨j, hj, rfl⟩ := List.getElem_of_mem h
 exact ⟨j, hj, by rw [List.getD_eq_getElem?_getD, List.getElem?_eq_getElem hj]; rfl⟩
theorem getD_none {α : Type} {l : List α} {z : α} {j : Nat} (h : l.length ≤ j) : l.getD j z = z := by
 rw [List.getD_eq_getElem?_getD, List.getElem?_eq_none h]; rfl
theorem getD_set {α : Type} {l : List α} {z v : α} {i j : Nat} : (l.set i v).getD j z = if i = j ∧ j < l.length then v else l.getD j z := by
 rw [List.getD_eq_getElem?_getD, List.getElem?_set]
 by_cases h : i = j
 ·subst h
  by_cases h1 : i < l.length
  ·simp [h1]
  ·simp [h1, List.getD_eq_getElem?_getD]
 ·simp [h, List.getD_eq_getElem?_getD]
theorem getD_ext {α : Type} {l m : List α} (z : α) (h : l.length = m.length) (k : ∀ j, j < l.length → l.getD j z = m.getD j z) : l = m := by
 refine List.ext_getElem h (fun j h1 h2 => ?_)
 have := k j h1
 simpa [List.getD_eq_getElem?_getD, h1, h2] using this
theorem getD_replicate {α : Type} {z v : α} {n j : Nat} (h : j < n) : (List.replicate n v).getD j z = v := by
 rw [List.getD_eq_getElem?_getD, List.getElem?_replicate]; simp [h]
theorem asc_iff {l : List Int} {n : Int} : asc l n = true ↔ ∀ j, j < l.length → 0 ≤ l.getD j 0 ∧ l.getD j 0 < n ∧ (0 < j → l.getD (j - 1) 0 < l.getD j 0) := by
 unfold asc ascAt
 rw [allR_iff]
 exact ⟨fun h j hj => of_decide_eq_true (h j (Nat.zero_le _) hj), fun h j _ hj => decide_eq_true (h j hj)⟩
theorem asc_mono {l : List Int} {n : Int} (h : asc l n = true) {i j : Nat} (hij : i < j) (hj : j < l.length) : l.getD i 0 < l.getD j 0 := by
 rw [asc_iff] at h
 induction j with
 | zero => omega
 | succ j ih =>
  have h1 := (h (j + 1) hj).2.2 (by omega)
  simp only [Nat.add_sub_cancel] at h1
  by_cases e : i = j
  ·subst e; exact h1
  ·have := ih (by omega) (by omega); omega
theorem asc_mem {l : List Int} {n : Int} (h : asc l n = true) {x : Int} (hx : x ∈ l) : 0 ≤ x ∧ x < n := by
 obtain ⟨j, hj, rfl⟩ := mem_getD (z := 0) hx
 have := (asc_iff.1 h) j hj
 exact ⟨this.1, this.2.1⟩
theorem asc_at {l : List Int} {n : Int} (h : asc l n = true) {j : Nat} (hj : j < l.length) : 0 ≤ l.getD j 0 ∧ l.getD j 0 < n := asc_mem h (getD_mem hj)
theorem asc_len {l : List Int} {n : Nat} (h : asc l n = true) : l.length ≤ n := by
 rw [asc_iff] at h
 have : ∀ j, j < l.length → (j : Int) ≤ l.getD j 0 := by
  intro j
  induction j with
  | zero => intro hj; exact (h 0 hj).1
  | succ j ih => intro hj; have := ih (by omega); have := (h (j + 1) hj).2.2 (by omega); simp only [Nat.add_sub_cancel] at this; omega
 by_cases h0 : l.length = 0
 ·omega
 ·have h1 := this (l.length - 1) (by omega)
  have h2 := (h (l.length - 1) (by omega)).2.1
  omega
theorem asc_pairwise {l : List Int} {n : Int} (h : asc l n = true) : l.Pairwise (· < ·) := by
 rw [List.pairwise_iff_getElem]
 intro i j hi hj hij
 have := asc_mono h hij hj
 simpa [List.getD_eq_getElem?_getD, hi, hj] using this
theorem asc_of {l : List Int} {n : Int} (h : l.Pairwise (· < ·)) (hb : ∀ x ∈ l, 0 ≤ x ∧ x < n) : asc l n = true := by
 rw [asc_iff]
 intro j hj
 have hm := hb _ (getD_mem (z := 0) hj)
 refine ⟨hm.1, hm.2, fun h0 => ?_⟩
 rw [List.pairwise_iff_getElem] at h
 have := h (j - 1) j (by omega) hj (by omega)
 simpa [List.getD_eq_getElem?_getD, hj, show j - 1 < l.length by omega] using this
theorem sorted_ext : ∀ {l m : List Int}, l.Pairwise (· < ·) → m.Pairwise (· < ·) → (∀ x, x ∈ l ↔ x ∈ m) → l = m
 | [], [], _, _, _ => rfl
 | [], b :: m, _, _, h => by have := (h b).2 List.mem_cons_self; simp at this
 | a :: l, [], _, _, h => by have := (h a).1 List.mem_cons_self; simp at this
 | a :: l, b :: m, hl, hm, h => by
  rw [List.pairwise_cons] at hl hm
  have hab : a = b := by
   have h1 := (h a).1 List.mem_cons_self
   have h2 := (h b).2 List.mem_cons_self
   rw [List.mem_cons] at h1 h2
   rcases h1 with h1 | h1
   ·exact h1
   ·rcases h2 with h2 | h2
    ·exact h2.symm
    ·have := hl.1 _ h2; have := hm.1 _ h1; omega
  subst hab
  rw [sorted_ext hl.2 hm.2 (fun x => ?_)]
  have hx := h x
  simp only [List.mem_cons] at hx
  constructor
  ·intro hxl
   rcases hx.1 (.inr hxl) with e | e
   ·have := hl.1 _ hxl; omega
   ·exact e
  ·intro hxm
   rcases hx.2 (.inr hxm) with e | e
   ·have := hm.1 _ hxm; omega
   ·exact e
theorem asc_ext {l m : List Int} {n n' : Int} (h : asc l n = true) (h' : asc m n' = true) (k : ∀ x, x ∈ l ↔ x ∈ m) : l = m := sorted_ext (asc_pairwise h) (asc_pairwise h') k
/-- arcs of n blocks -/
structure Arcs (a : List (List Int)) : Prop where
 pos : 1 ≤ a.length
 le : a.length ≤ 120
 row : ∀ i, i < a.length → asc (a.getD i []) i = true
theorem arcsOk_iff {a : List (List Int)} : arcsOk a = true ↔ Arcs a := by
 unfold arcsOk
 rw [Bool.and_eq_true, decide_eq_true_eq, allR_iff]
 exact ⟨fun h => ⟨h.1.1, h.1.2, fun i hi => h.2 i (Nat.zero_le _) hi⟩, fun h => ⟨⟨h.pos, h.le⟩, fun i _ hi => h.row i hi⟩⟩
theorem Arcs.down {a : List (List Int)} (h : Arcs a) {i : Nat} {x : Int} (hx : x ∈ a.getD i []) : 0 ≤ x ∧ x < i := by
 by_cases hi : i < a.length
 ·exact asc_mem (h.row i hi) hx
 ·rw [getD_none (by omega)] at hx; simp at hx
theorem Arcs.len {a : List (List Int)} (h : Arcs a) (i : Nat) : (a.getD i []).length ≤ 120 := by
 by_cases hi : i < a.length
 ·have := asc_len (h.row i hi); have := h.le; omega
 ·rw [getD_none (by omega)]; simp
def at_ (m : List Bool) (x : Int) : Bool := m.getD x.toNat false
def setAt (l : List Int) (m : List Bool) (j : Nat) : List Bool := m.set (l.getD j 0).toNat true
def setAll (m : List Bool) (l : List Int) : List Bool := foldR (setAt l) 0 l.length m
def mk (n : Nat) (l : List Int) : List Bool := setAll (List.replicate n false) l
theorem setAt_fold_len {l : List Int} {m : List Bool} {i n : Nat} : (foldR (setAt l) i n m).length = m.length := by
 by_cases h : i ≤ n
 ·exact foldR_inv (P := fun _ (t : List Bool) => t.length = m.length) rfl (fun j t _ _ h => by unfold setAt; rw [List.length_set]; exact h) h
 ·rw [foldR_end (by omega)]
theorem setAll_len {l : List Int} {m : List Bool} : (setAll m l).length = m.length := setAt_fold_len
theorem setAll_at {l : List Int} {m : List Bool} (hl : ∀ x ∈ l, 0 ≤ x ∧ x < m.length) (j : Nat) : (setAll m l).getD j false = true ↔ m.getD j false = true ∨ (j : Int) ∈ l := by
 unfold setAll
 have key : ∀ n, n ≤ l.length → ((foldR (setAt l) 0 n m).getD j false = true ↔ m.getD j false = true ∨ ∃ i, i < n ∧ l.getD i 0 = (j : Int)) := by
  intro n
  induction n with
  | zero => intro _; rw [foldR_end (Nat.le_refl _)]; simp
  | succ n ih =>
   intro hn
   have ih := ih (by omega)
   rw [foldR_last (Nat.zero_le _)]
   have hx := hl _ (getD_mem (z := 0) (show n < l.length by omega))
   have hlen := setAt_fold_len (l := l) (m := m) (i := 0) (n := n)
   generalize foldR (setAt l) 0 n m = t at ih hlen ⊢
   unfold setAt
   rw [getD_set]
   constructor
   ·intro h
    split at h
    ·rename_i hc; exact .inr ⟨n, by omega, by omega⟩
    ·rcases ih.1 h with h | ⟨i, hi, he⟩
     ·exact .inl h
     ·exact .inr ⟨i, by omega, he⟩
   ·rintro (h | ⟨i, hi, he⟩)
    ·split
     ·rfl
     ·exact ih.2 (.inl h)
    ·split
     ·rfl
     ·rename_i hc
      by_cases e : i = n
      ·subst e; exact absurd ⟨by omega, by omega⟩ hc
      ·exact ih.2 (.inr ⟨i, by omega, he⟩)
 rw [key _ (Nat.le_refl _)]
 constructor
 ·rintro (h | ⟨i, hi, he⟩)
  ·exact .inl h
  ·exact .inr (he ▸ getD_mem hi)
 ·rintro (h | h)
  ·exact .inl h
  ·obtain ⟨i, hi, he⟩ := mem_getD (z := 0) h; exact .inr ⟨i, hi, he⟩
theorem mk_len {n : Nat} {l : List Int} : (mk n l).length = n := by unfold mk; rw [setAll_len, List.length_replicate]
theorem mk_at {n : Nat} {l : List Int} (hl : ∀ x ∈ l, 0 ≤ x ∧ x < n) (j : Nat) : (mk n l).getD j false = true ↔ (j : Int) ∈ l := by
 unfold mk
 rw [setAll_at (by simpa using hl)]
 simp only [List.getD_eq_getElem?_getD, List.getElem?_replicate]
 split <;> simp
def inAt (m : List Bool) (l : List Int) (j : Nat) : Bool := at_ m (l.getD j 0)
def allIn (m : List Bool) (l : List Int) : Bool := allR (inAt m l) 0 l.length
theorem allIn_iff {m : List Bool} {l : List Int} : allIn m l = true ↔ ∀ x ∈ l, at_ m x = true := by
 unfold allIn inAt
 rw [allR_iff]
 constructor
 ·intro h x hx; obtain ⟨j, hj, rfl⟩ := mem_getD (z := 0) hx; exact h j (Nat.zero_le _) hj
 ·intro h j _ hj; exact h _ (getD_mem hj)
def cloAt (a : List (List Int)) (m : List Bool) (l : List Int) (i : Nat) : Bool := allIn m (a.getD (l.getD i 0).toNat [])
def isClo (a : List (List Int)) (l : List Int) : Bool := allR (cloAt a (mk a.length l) l) 0 l.length
theorem isClo_iff {a : List (List Int)} {l : List Int} (ha : Arcs a) (hl : asc l a.length = true) : isClo a l = true ↔ ∀ x ∈ l, ∀ y ∈ a.getD x.toNat [], y ∈ l := by
 have hm : ∀ y : Int, 0 ≤ y → (at_ (mk a.length l) y = true ↔ y ∈ l) := by
  intro y hy
  unfold at_
  rw [mk_at (fun x hx => asc_mem hl hx), Int.toNat_of_nonneg hy]
 unfold isClo cloAt
 rw [allR_iff]
 constructor
 ·intro h x hx y hy
  obtain ⟨j, hj, rfl⟩ := mem_getD (z := 0) hx
  have := allIn_iff.1 (h j (Nat.zero_le _) hj) y hy
  exact (hm y (ha.down hy).1).1 this
 ·intro h j _ hj
  rw [allIn_iff]
  intro y hy
  exact (hm y (ha.down hy).1).2 (h _ (getD_mem hj) y hy)
def putAt (m : List Bool) (o : List Int) (j : Nat) : List Int := if m.getD j false = true then o ++ [(j : Int)] else o
def listOf (m : List Bool) : List Int := foldR (putAt m) 0 m.length []
theorem putAt_len {m : List Bool} (n : Nat) : (foldR (putAt m) 0 n []).length ≤ n := by
 induction n with
 | zero => rw [foldR_end (Nat.le_refl _)]; exact Nat.le_refl _
 | succ n ih =>
  rw [foldR_last (Nat.zero_le _)]
  unfold putAt at *
  split
  ·rw [List.length_append]; simp; exact ih
  ·omega
theorem putAt_mem {m : List Bool} (n : Nat) (x : Int) : x ∈ foldR (putAt m) 0 n [] ↔ ∃ j : Nat, j < n ∧ m.getD j false = true ∧ x = j := by
 induction n with
 | zero => rw [foldR_end (Nat.le_refl _)]; simp
 | succ n ih =>
  rw [foldR_last (Nat.zero_le _)]
  generalize foldR (putAt m) 0 n [] = t at ih ⊢
  unfold putAt
  split
  ·rename_i h
   rw [List.mem_append, ih, List.mem_singleton]
   constructor
   ·rintro (⟨j, h1, h2, h3⟩ | rfl)
    ·exact ⟨j, by omega, h2, h3⟩
    ·exact ⟨n, by omega, h, rfl⟩
   ·rintro ⟨j, h1, h2, h3⟩
    by_cases e : j = n
    ·subst e; exact .inr h3
    ·exact .inl ⟨j, by omega, h2, h3⟩
  ·rename_i h
   rw [ih]
   constructor
   ·rintro ⟨j, h1, h2, h3⟩; exact ⟨j, by omega, h2, h3⟩
   ·rintro ⟨j, h1, h2, h3⟩
    by_cases e : j = n
    ·subst e; exact absurd h2 h
    ·exact ⟨j, by omega, h2, h3⟩
theorem putAt_sorted {m : List Bool} (n : Nat) : (foldR (putAt m) 0 n []).Pairwise (· < ·) := by
 induction n with
 | zero => rw [foldR_end (Nat.le_refl _)]; exact List.Pairwise.nil
 | succ n ih =>
  rw [foldR_last (Nat.zero_le _)]
  have hm := putAt_mem (m := m) n
  generalize foldR (putAt m) 0 n [] = t at ih hm ⊢
  unfold putAt
  split
  ·rw [List.pairwise_append]
   refine ⟨ih, List.pairwise_singleton _ _, fun x hx y hy => ?_⟩
   obtain ⟨j, h1, _, rfl⟩ := (hm x).1 hx
   rw [List.mem_singleton] at hy
   omega
  ·exact ih
theorem listOf_mem {m : List Bool} (x : Int) : x ∈ listOf m ↔ 0 ≤ x ∧ at_ m x = true := by
 unfold listOf at_
 rw [putAt_mem]
 constructor
 ·rintro ⟨j, _, h, rfl⟩; exact ⟨by omega, by rw [toNat_nat]; exact h⟩
 ·rintro ⟨h0, h⟩
  refine ⟨x.toNat, ?_, h, by omega⟩
  by_cases hx : x.toNat < m.length
  ·exact hx
  ·rw [getD_none (by omega)] at h; simp at h
theorem listOf_asc {m : List Bool} : asc (listOf m) m.length = true := by
 refine asc_of (putAt_sorted _) (fun x hx => ?_)
 obtain ⟨j, h, _, rfl⟩ := (putAt_mem _ _).1 hx
 omega
theorem listOf_len {m : List Bool} : (listOf m).length ≤ m.length := putAt_len _
inductive Up (a : List (List Int)) : Nat → Nat → Prop
 | refl (i : Nat) : Up a i i
 | step {i j k : Nat} : (j : Int) ∈ a.getD i [] → Up a j k → Up a i k
theorem Up.trans {a : List (List Int)} {i j k : Nat} (h : Up a i j) (h' : Up a j k) : Up a i k := by
 induction h with
 | refl => exact h'
 | step h1 _ ih => exact .step h1 (ih h')
theorem Up.le {a : List (List Int)} (ha : Arcs a) {i j : Nat} (h : Up a i j) : j ≤ i := by
 induction h with
 | refl => exact Nat.le_refl _
 | step h1 _ ih => have := (ha.down h1).2; omega
def cloStep (a : List (List Int)) (m : List Bool) (i : Nat) : List Bool := if m.getD i false = true then setAll m (a.getD i []) else m
def cloD (a : List (List Int)) : Nat → List Bool → List Bool
 | 0, m => m
 | i + 1, m => cloD a i (cloStep a m i)
theorem cloStep_len {a : List (List Int)} {m : List Bool} {i : Nat} : (cloStep a m i).length = m.length := by
 unfold cloStep; split
 ·exact setAll_len
 ·rfl
theorem cloD_len {a : List (List Int)} : ∀ (i : Nat) (m : List Bool), (cloD a i m).length = m.length
 | 0, _ => rfl
 | i + 1, m => by rw [cloD, cloD_len i, cloStep_len]
theorem cloD_at {a : List (List Int)} (ha : Arcs a) : ∀ (i : Nat) (m : List Bool) (j : Nat), i ≤ a.length → m.length = a.length →
  ((cloD a i m).getD j false = true ↔ m.getD j false = true ∨ ∃ s, s < i ∧ m.getD s false = true ∧ Up a s j)
 | 0, m, j, _, _ => by simp [cloD]
 | i + 1, m, j, hi, hm => by
  rw [cloD, cloD_at ha i _ j (by omega) (by rw [cloStep_len]; exact hm)]
  have hrow : ∀ x ∈ a.getD i [], 0 ≤ x ∧ x < m.length := fun x hx => by have := ha.down hx; omega
  have hs : ∀ s, (cloStep a m i).getD s false = true ↔ m.getD s false = true ∨ (m.getD i false = true ∧ (s : Int) ∈ a.getD i []) := by
   intro s
   unfold cloStep
   split
   ·rename_i h; rw [setAll_at hrow]; simp only [h, true_and]
   ·rename_i h
    constructor
    ·exact .inl
    ·rintro (h1 | ⟨h1, _⟩)
     ·exact h1
     ·exact absurd h1 h
  constructor
  ·rintro (h | ⟨s, h1, h2, h3⟩)
   ·rcases (hs j).1 h with h | ⟨h, h'⟩
    ·exact .inl h
    ·exact .inr ⟨i, by omega, h, .step h' (.refl _)⟩
   ·rcases (hs s).1 h2 with h | ⟨h, h'⟩
    ·exact .inr ⟨s, by omega, h, h3⟩
    ·exact .inr ⟨i, by omega, h, .step h' h3⟩
  ·rintro (h | ⟨s, h1, h2, h3⟩)
   ·exact .inl ((hs j).2 (.inl h))
   ·by_cases e : s = i
    ·subst e
     cases h3 with
     | refl => exact .inl ((hs _).2 (.inl h2))
     | step h4 h5 => have := (ha.down h4).2; exact .inr ⟨_, by omega, (hs _).2 (.inr ⟨h2, h4⟩), h5⟩
    ·exact .inr ⟨s, by omega, (hs s).2 (.inl h2), h3⟩
def clo (a : List (List Int)) (m : List Bool) : List Bool := cloD a a.length m
theorem clo_len {a : List (List Int)} {m : List Bool} : (clo a m).length = m.length := cloD_len _ _
theorem clo_at {a : List (List Int)} (ha : Arcs a) {m : List Bool} (hm : m.length = a.length) (j : Nat) :
  (clo a m).getD j false = true ↔ ∃ s, m.getD s false = true ∧ Up a s j := by
 unfold clo
 rw [cloD_at ha _ _ _ (Nat.le_refl _) hm]
 constructor
 ·rintro (h | ⟨s, _, h2, h3⟩)
  ·exact ⟨j, h, .refl _⟩
  ·exact ⟨s, h2, h3⟩
 ·rintro ⟨s, h1, h2⟩
  refine .inr ⟨s, ?_, h1, h2⟩
  by_cases hs : s < a.length
  ·exact hs
  ·rw [getD_none (by omega)] at h1; simp at h1
def insStep (a : List (List Int)) (m : List Bool) (i : Nat) : List Bool := m.set i (m.getD i false && allIn m (a.getD i []))
def ins (a : List (List Int)) (m : List Bool) : List Bool := foldR (insStep a) 0 a.length m
theorem ins_len {a : List (List Int)} {m : List Bool} {n : Nat} : (foldR (insStep a) 0 n m).length = m.length :=
 foldR_inv (P := fun _ (t : List Bool) => t.length = m.length) rfl (fun j t _ _ h => by unfold insStep; rw [List.length_set]; exact h) (Nat.zero_le _)
theorem insD_at {a : List (List Int)} (ha : Arcs a) {m : List Bool} (hm : m.length = a.length) (n : Nat) : ∀ j, (foldR (insStep a) 0 n m).getD j false = true ↔ (m.getD j false = true ∧ (j < n → ∀ k, Up a j k → m.getD k false = true)) := by
 induction n with
 | zero => intro j; rw [foldR_end (Nat.le_refl _)]; simp
 | succ n ih =>
  intro j
  rw [foldR_last (Nat.zero_le _)]
  have hl := ins_len (a := a) (m := m) (n := n)
  generalize foldR (insStep a) 0 n m = t at ih hl ⊢
  unfold insStep
  rw [getD_set]
  by_cases e : n = j
  ·subst e
   by_cases hn : n < m.length
   ·rw [if_pos ⟨rfl, by omega⟩, Bool.and_eq_true, allIn_iff, ih n]
    constructor
    ·rintro ⟨⟨h1, _⟩, h2⟩
     refine ⟨h1, fun _ k hk => ?_⟩
     cases hk with
     | refl => exact h1
     | step h3 h4 =>
      have h5 := h2 _ h3
      unfold at_ at h5
      rw [toNat_nat, ih] at h5
      exact h5.2 (by have := (ha.down h3).2; omega) _ h4
    ·rintro ⟨h1, h2⟩
     refine ⟨⟨h1, fun h => by omega⟩, fun x hx => ?_⟩
     have hd := ha.down hx
     unfold at_
     rw [ih]
     have hx' : ((x.toNat : Nat) : Int) ∈ a.getD n [] := by rw [Int.toNat_of_nonneg hd.1]; exact hx
     exact ⟨h2 (by omega) _ (.step hx' (.refl _)), fun _ k hk => h2 (by omega) _ (.step hx' hk)⟩
   ·rw [if_neg (by omega), ih]
    rw [getD_none (by omega)]; simp
  ·rw [if_neg (by omega), ih]
   constructor
   ·rintro ⟨h1, h2⟩; exact ⟨h1, fun h => h2 (by omega)⟩
   ·rintro ⟨h1, h2⟩; exact ⟨h1, fun h => h2 (by omega)⟩
theorem ins_at {a : List (List Int)} (ha : Arcs a) {m : List Bool} (hm : m.length = a.length) (j : Nat) : (ins a m).getD j false = true ↔ ∀ k, Up a j k → m.getD k false = true := by
 unfold ins
 rw [insD_at ha hm]
 constructor
 ·rintro ⟨h1, h2⟩ k hk
  by_cases hj : j < a.length
  ·exact h2 hj k hk
  ·rw [getD_none (by omega)] at h1; simp at h1
 ·intro h; exact ⟨h _ (.refl _), fun _ => h⟩
end Go.Proofs.Ytbhlffakpneecaa.B
