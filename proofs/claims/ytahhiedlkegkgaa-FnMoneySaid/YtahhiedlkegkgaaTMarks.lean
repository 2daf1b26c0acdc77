/- Marks over blocks,rising lists,closures: plain laws,nothing of the program. -/
import Derived.Test.YtahhiedlkegkgaaTBase
namespace Go.Proofs.Ytahhiedlkegkgaa.B
open Go.RowKit Go.Proofs.YtahhiedlkegkgaaW.PrintWords Go.Proofs.YtahhiedlkegkgaaW.PrintMore
set_option linter.unusedVariables false
set_option linter.unusedSimpArgs false
theorem getD_mem {α:Type} {l:List α} {z:α} {j:Nat} (h:j < l.length):l.getD j z ∈ l:=by
 rw [List.getD_eq_getElem?_getD,List.getElem?_eq_getElem h];exact List.getElem_mem _
theorem mem_getD {α:Type} {l:List α} {z x:α} (h:x ∈ l):∃ j,j < l.length∧l.getD j z=x:=by
 obtain ⟨j,hj,rfl⟩:=List.getElem_of_mem h;exact ⟨j,hj,by rw [List.getD_eq_getElem?_getD,List.getElem?_eq_getElem hj];rfl⟩
theorem getD_none {α:Type} {l:List α} {z:α} {j:Nat} (h:l.length≤j):l.getD j z=z:=by
 rw [List.getD_eq_getElem?_getD,List.getElem?_eq_none h];rfl
theorem asc_iff {l:List Int} {n:Int}:asc l n=true ↔ ∀ j,j < l.length→0≤l.getD j 0∧l.getD j 0 < n∧(0 < j→l.getD (j - 1) 0 < l.getD j 0):=by
 unfold asc ascAt
 rw [allR_iff];exact ⟨fun h j hj=>of_decide_eq_true (h j (Nat.zero_le _) hj),fun h j _ hj=>decide_eq_true (h j hj)⟩
theorem asc_mem {l:List Int} {n:Int} (h:asc l n=true) {x:Int} (hx:x ∈ l):0≤x∧x < n:=by
 obtain ⟨j,hj,rfl⟩:=mem_getD (z:=0) hx
 have:=(asc_iff.1 h) j hj
 exact ⟨this.1,this.2.1⟩
theorem asc_len {l:List Int} {n:Nat} (h:asc l n=true):l.length≤n:=by
 rw [asc_iff] at h
 have:∀ j,j < l.length→(j:Int)≤l.getD j 0:=by
  intro j
  induction j with
  | zero=>intro hj;exact (h 0 hj).1
  | succ j ih=>intro hj;have:=ih (by omega);have:=(h (j + 1) hj).2.2 (by omega);simp only [Nat.add_sub_cancel] at this;omega
 by_cases h0:l.length=0
 ·omega
 ·have h1:=this (l.length - 1) (by omega)
  have h2:=(h (l.length - 1) (by omega)).2.1
  omega
/-- arcs of n blocks -/
structure Arcs (a:List (List Int)):Prop where
 pos:1≤a.length
 le:a.length≤120
 row:∀ i,i < a.length→asc (a.getD i []) i=true
theorem Arcs.down {a:List (List Int)} (h:Arcs a) {i:Nat} {x:Int} (hx:x ∈ a.getD i []):0≤x∧x < i:=by
 by_cases hi:i < a.length
 ·exact asc_mem (h.row i hi) hx
 ·rw [getD_none (by omega)] at hx;simp at hx
theorem Arcs.len {a:List (List Int)} (h:Arcs a) (i:Nat):(a.getD i []).length≤120:=by
 by_cases hi:i < a.length
 ·have:=asc_len (h.row i hi);have:=h.le;omega
 ·rw [getD_none (by omega)];simp
def at_ (m:List Bool) (x:Int):Bool:=m.getD x.toNat false
def setAt (l:List Int) (m:List Bool) (j:Nat):List Bool:=m.set (l.getD j 0).toNat true
def setAll (m:List Bool) (l:List Int):List Bool:=foldR (setAt l) 0 l.length m
def mk (n:Nat) (l:List Int):List Bool:=setAll (List.replicate n false) l
inductive Up (a:List (List Int)):Nat→Nat→Prop
 | refl (i:Nat):Up a i i
 | step {i j k:Nat}:(j:Int) ∈ a.getD i []→Up a j k→Up a i k
theorem Up.trans {a:List (List Int)} {i j k:Nat} (h:Up a i j) (h':Up a j k):Up a i k:=by
 induction h with
 | refl=>exact h'
 | step h1 _ ih=>exact .step h1 (ih h')
theorem Up.le {a:List (List Int)} (ha:Arcs a) {i j:Nat} (h:Up a i j):j≤i:=by
 induction h with
 | refl=>exact Nat.le_refl _
 | step h1 _ ih=>have:=(ha.down h1).2;omega
end Go.Proofs.Ytahhiedlkegkgaa.B
