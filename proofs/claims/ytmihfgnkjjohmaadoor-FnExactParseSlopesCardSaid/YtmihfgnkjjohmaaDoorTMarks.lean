/- Marks over blocks, rising lists, closures: plain laws, nothing of the program. -/
import Derived.Test.YtmihfgnkjjohmaaDoorTBase
namespace Go.Proofs.YtmihfgnkjjohmaaDoor.B
open Go.RowKit Go.Proofs.YtmihfgnkjjohmaaDoorW.PrintWords Go.Proofs.YtmihfgnkjjohmaaDoorW.PrintMore
set_option linter.unusedVariables false
set_option linter.unusedSimpArgs false
theorem getD_mem {α : Type} {l : List α} {z : α} {j : Nat} (h : j < l.length) : l.getD j z ∈ l := by
  rw [List.getD_eq_getElem?_getD, List.getElem?_eq_getElem h]; exact List.getElem_mem _
theorem mem_getD {α : Type} {l : List α} {z x : α} (h : x ∈ l) : ∃ j, j < l.length ∧ l.getD j z = x := by
  obtain ⟨j, hj, rfl⟩ := List.getElem_of_mem h
  exact ⟨j, hj, by rw [List.getD_eq_getElem?_getD, List.getElem?_eq_getElem hj]; rfl⟩
theorem getD_none {α : Type} {l : List α} {z : α} {j : Nat} (h : l.length ≤ j) : l.getD j z = z := by
  rw [List.getD_eq_getElem?_getD, List.getElem?_eq_none h]; rfl
theorem getD_set {α : Type} {l : List α} {z v : α} {i j : Nat} : (l.set i v).getD j z = if i = j ∧ j < l.length then v else l.getD j z := by
  rw [List.getD_eq_getElem?_getD, List.getElem?_set]
  by_cases h : i = j
  · subst h
    by_cases h1 : i < l.length
    · simp [h1]
    · simp [h1, List.getD_eq_getElem?_getD]
  · simp [h, List.getD_eq_getElem?_getD]
theorem getD_ext {α : Type} {l m : List α} (z : α) (h : l.length = m.length) (k : ∀ j, j < l.length → l.getD j z = m.getD j z) : l = m := by
  refine List.ext_getElem h (fun j h1 h2 => ?_)
  have := k j h1
  simpa [List.getD_eq_getElem?_getD, h1, h2] using this
def at_ (m : List Bool) (x : Int) : Bool := m.getD x.toNat false
def setAt (l : List Int) (m : List Bool) (j : Nat) : List Bool := m.set (l.getD j 0).toNat true
def setAll (m : List Bool) (l : List Int) : List Bool := foldR (setAt l) 0 l.length m
def mk (n : Nat) (l : List Int) : List Bool := setAll (List.replicate n false) l
inductive Up (a : List (List Int)) : Nat → Nat → Prop
  | refl (i : Nat) : Up a i i
  | step {i j k : Nat} : (j : Int) ∈ a.getD i [] → Up a j k → Up a i k
theorem Up.trans {a : List (List Int)} {i j k : Nat} (h : Up a i j) (h' : Up a j k) : Up a i k := by
  induction h with
  | refl => exact h'
  | step h1 _ ih => exact .step h1 (ih h')
end Go.Proofs.YtmihfgnkjjohmaaDoor.B
