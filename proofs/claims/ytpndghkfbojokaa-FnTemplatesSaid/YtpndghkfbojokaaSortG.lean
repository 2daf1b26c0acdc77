/- Sorting by exchanges next to one another, over elements of any type with a strict order told by a test: plain laws, nothing of the program. -/
import Derived.Test.YtpndghkfbojokaaFold
namespace Go.Proofs.Ytpndghkfbojokaa.SortG
open Go.RowKit Go.Proofs.YtpndghkfbojokaaW.PrintWords Go.Proofs.YtpndghkfbojokaaW.PrintMore Go.Proofs.Ytpndghkfbojokaa.B
set_option linter.unusedVariables false
set_option linter.unusedSimpArgs false
/-- The same elements, none twice. -/
def Sh {α : Type} (z : α) (l x : List α) : Prop := x.length = l.length ∧ (∀ v, v ∈ x ↔ v ∈ l) ∧ ∀ a b, a < b → b < x.length → x.getD a z ≠ x.getD b z
theorem mem_at {α : Type} (z : α) {l : List α} {v : α} : v ∈ l ↔ ∃ j, j < l.length ∧ l.getD j z = v := ⟨fun h => mem_getD h, by rintro ⟨j, hj, rfl⟩; exact getD_mem hj⟩
def swp {α : Type} (z : α) (x : List α) (j : Nat) : List α := (x.set (j + 1) (x.getD j z)).set j (x.getD (j + 1) z)
theorem swp_len {α : Type} {z : α} {x : List α} {j : Nat} : (swp z x j).length = x.length := by unfold swp; rw [List.length_set, List.length_set]
theorem swp_at {α : Type} {z : α} {x : List α} {j : Nat} (h : j + 1 < x.length) (k : Nat) : (swp z x j).getD k z = if k = j then x.getD (j + 1) z else if k = j + 1 then x.getD j z else x.getD k z := by
  unfold swp
  rw [getD_set, getD_set, List.length_set]
  by_cases h1 : k = j
  · subst h1; rw [if_pos ⟨rfl, by omega⟩, if_pos rfl]
  · rw [if_neg (by omega), if_neg h1]
    by_cases h2 : k = j + 1
    · subst h2; rw [if_pos ⟨rfl, h⟩, if_pos rfl]
    · rw [if_neg (by omega), if_neg h2]
theorem sh_swp {α : Type} {z : α} {l x : List α} {j : Nat} (hs : Sh z l x) (h : j + 1 < x.length) : Sh z l (swp z x j) := by
  refine ⟨by rw [swp_len]; exact hs.1, fun v => ?_, fun a b hab hb => ?_⟩
  · rw [← hs.2.1, mem_at z, mem_at z, swp_len]
    constructor
    · rintro ⟨k, hk, rfl⟩
      rw [swp_at h]
      split
      · exact ⟨j + 1, h, rfl⟩
      · split
        · exact ⟨j, by omega, rfl⟩
        · exact ⟨k, hk, rfl⟩
    · rintro ⟨k, hk, rfl⟩
      by_cases h1 : k = j
      · subst h1; exact ⟨k + 1, h, by rw [swp_at h, if_neg (by omega), if_pos rfl]⟩
      · by_cases h2 : k = j + 1
        · subst h2; exact ⟨j, by omega, by rw [swp_at h, if_pos rfl]⟩
        · exact ⟨k, hk, by rw [swp_at h, if_neg h1, if_neg h2]⟩
  · rw [swp_len] at hb
    have D := hs.2.2
    rw [swp_at h, swp_at h]
    by_cases a1 : a = j
    · subst a1
      rw [if_pos rfl, if_neg (by omega)]
      by_cases b2 : b = a + 1
      · rw [if_pos b2]; exact (D a (a + 1) (by omega) h).symm
      · rw [if_neg b2]; exact D (a + 1) b (by omega) hb
    · rw [if_neg a1]
      by_cases a2 : a = j + 1
      · rw [if_pos a2, if_neg (by omega), if_neg (by omega)]; exact D j b (by omega) hb
      · rw [if_neg a2]
        by_cases b1 : b = j
        · rw [if_pos b1]; exact D a (j + 1) (by omega) h
        · rw [if_neg b1]
          by_cases b2 : b = j + 1
          · rw [if_pos b2]; exact D a j (by omega) (by omega)
          · rw [if_neg b2]; exact D a b hab hb
/-- The first i elements rise, but for the one at place j, of which only those behind are known not to be below it. -/
def Up {α : Type} (lt : α → α → Bool) (z : α) (x : List α) (i j : Nat) : Prop := ∀ a b, a < b → b < i → b ≠ j → lt (x.getD b z) (x.getD a z) = false
theorem up_swp {α : Type} {lt : α → α → Bool} {z : α} (asym : ∀ a b, lt a b = true → lt b a = false) {x : List α} {i j : Nat} (hi : i ≤ x.length) (hj : j + 1 < i) (h : Up lt z x i (j + 1)) (hlt : lt (x.getD (j + 1) z) (x.getD j z) = true) : Up lt z (swp z x j) i j := by
  intro a b hab hb hne
  have hl : j + 1 < x.length := by omega
  rw [swp_at hl, swp_at hl, if_neg hne]
  by_cases b2 : b = j + 1
  · rw [if_pos b2]
    by_cases a1 : a = j
    · rw [if_pos a1]; exact asym _ _ hlt
    · rw [if_neg a1, if_neg (by omega)]; exact h a j (by omega) (by omega) (by omega)
  · rw [if_neg b2]
    by_cases a1 : a = j
    · rw [if_pos a1]; exact h (j + 1) b (by omega) hb b2
    · rw [if_neg a1]
      by_cases a2 : a = j + 1
      · rw [if_pos a2]; exact h j b (by omega) hb b2
      · rw [if_neg a2]; exact h a b hab hb b2
/-- One pass of the inner loop: element j sinks while it is below its neighbour. -/
def sink {α : Type} (lt : α → α → Bool) (z : α) : Nat → List α → List α
  | 0, x => x
  | j + 1, x => if lt (x.getD (j + 1) z) (x.getD j z) = true then sink lt z j (swp z x j) else x
theorem sink_len {α : Type} {lt : α → α → Bool} {z : α} : ∀ (j : Nat) (x : List α), (sink lt z j x).length = x.length := by
  intro j
  induction j with
  | zero => intro x; rfl
  | succ j ih => intro x; unfold sink; split
                 · rw [ih, swp_len]
                 · rfl
theorem sink_ok {α : Type} {lt : α → α → Bool} {z : α} (asym : ∀ a b, lt a b = true → lt b a = false) (ntr : ∀ a b c, lt b a = false → lt c b = false → lt c a = false) {l : List α} {i : Nat} : ∀ (j : Nat) (x : List α), j < i → i ≤ x.length → Sh z l x → Up lt z x i j →
    Sh z l (sink lt z j x) ∧ ∀ a b, a < b → b < i → lt ((sink lt z j x).getD b z) ((sink lt z j x).getD a z) = false := by
  intro j
  induction j with
  | zero => intro x hj hi hs hu; exact ⟨hs, fun a b hab hb => hu a b hab hb (by omega)⟩
  | succ j ih =>
    intro x hj hi hs hu
    unfold sink
    split
    · rename_i h
      exact ih (swp z x j) (by omega) (by rw [swp_len]; exact hi) (sh_swp hs (by omega)) (up_swp asym hi hj hu h)
    · rename_i h
      rw [Bool.not_eq_true] at h
      refine ⟨hs, fun a b hab hb => ?_⟩
      by_cases e : b = j + 1
      · subst e
        by_cases e2 : a = j
        · subst e2; exact h
        · exact ntr _ _ _ (hu a j (by omega) (by omega) (by omega)) h
      · exact hu a b hab hb e
/-- The whole sort. -/
def isort {α : Type} (lt : α → α → Bool) (z : α) : Nat → List α → List α
  | 0, x => x
  | i + 1, x => sink lt z i (isort lt z i x)
theorem isort_len {α : Type} {lt : α → α → Bool} {z : α} : ∀ (i : Nat) (x : List α), (isort lt z i x).length = x.length := by
  intro i
  induction i with
  | zero => intro x; rfl
  | succ i ih => intro x; unfold isort; rw [sink_len, ih]
theorem isort_ok {α : Type} {lt : α → α → Bool} {z : α} (asym : ∀ a b, lt a b = true → lt b a = false) (ntr : ∀ a b c, lt b a = false → lt c b = false → lt c a = false) {l : List α} (hd : ∀ a b, a < b → b < l.length → l.getD a z ≠ l.getD b z) : ∀ i, i ≤ l.length →
    Sh z l (isort lt z i l) ∧ ∀ a b, a < b → b < i → lt ((isort lt z i l).getD b z) ((isort lt z i l).getD a z) = false := by
  intro i
  induction i with
  | zero => intro _; exact ⟨⟨rfl, fun _ => Iff.rfl, hd⟩, fun a b _ h => by omega⟩
  | succ i ih =>
    intro hi
    obtain ⟨h1, h2⟩ := ih (by omega)
    unfold isort
    exact sink_ok asym ntr i _ (by omega) (by rw [isort_len]; exact hi) h1 (fun a b hab hb hne => h2 a b hab (by omega))
/-- Two rising rows of the same elements are one. -/
theorem rising_ext {α : Type} {lt : α → α → Bool} (asym : ∀ a b, lt a b = true → lt b a = false) : ∀ {l m : List α}, l.Pairwise (fun a b => lt a b = true) → m.Pairwise (fun a b => lt a b = true) → (∀ x, x ∈ l ↔ x ∈ m) → l = m := by
  have irr : ∀ a, lt a a = true → False := fun a h => by have := asym a a h; rw [h] at this; cases this
  intro l
  induction l with
  | nil =>
    intro m _ _ h
    cases m with
    | nil => rfl
    | cons y m => exact absurd ((h y).2 (List.mem_cons_self)) (by simp)
  | cons x l ih =>
    intro m hl hm h
    cases m with
    | nil => exact absurd ((h x).1 (List.mem_cons_self)) (by simp)
    | cons y m =>
      rw [List.pairwise_cons] at hl hm
      have e : x = y := by
        rcases List.mem_cons.1 ((h x).1 List.mem_cons_self) with e | hx
        · exact e
        · rcases List.mem_cons.1 ((h y).2 List.mem_cons_self) with e | hy
          · exact e.symm
          · have h1 := hl.1 y hy
            have h2 := hm.1 x hx
            rw [asym _ _ h1] at h2
            cases h2
      subst e
      rw [ih hl.2 hm.2 (fun v => ?_)]
      constructor
      · intro hv
        rcases List.mem_cons.1 ((h v).1 (List.mem_cons_of_mem _ hv)) with e | h'
        · subst e; exact (irr _ (hl.1 _ hv)).elim
        · exact h'
      · intro hv
        rcases List.mem_cons.1 ((h v).2 (List.mem_cons_of_mem _ hv)) with e | h'
        · subst e; exact (irr _ (hm.1 _ hv)).elim
        · exact h'
end Go.Proofs.Ytpndghkfbojokaa.SortG
