/- A region's operations, taken one by one along a plan: which one, what has come up behind it (a number's bits), and whether it reads, is off, or neither. -/
import Derived.Test.YtbhlffakpneecaaTWTab
import Derived.Test.YtbhlffakpneecaaTWLast
namespace Go.Proofs.YtbhlffakpneecaaW.PrintLast
open Go.RowKit Go.Proofs.YtbhlffakpneecaaW.PrintWords
def fl (n m : Nat) : Array Bool := ((List.range n).map fun i => m.testBit i).toArray
structure WP (pl : List (Nat × Nat × Nat × Nat)) (n : Nat) (G : Prop) : Prop where
  out : G
theorem wp_in (pl : List (Nat × Nat × Nat × Nat)) (n : Nat) {G : Prop} (h : WP pl n G) : G := h.out
theorem wp_out {n : Nat} {G : Prop} (h : G) : WP [] n G := ⟨h⟩
set_option linter.unusedVariables false
section
variable {P : Program} {md : Region.Mode} {ops : Array Oper} {Q : Exit → Act → World → Prop} {S : World → Prop} {ds : List Nat} {T : Bool × List (List Nat × List Nat)} {B : List Nat} {n : Nat} {pl : List (Nat × Nat × Nat × Nat)} {i d m : Nat} {oi : Oper} {v : Value} {fuel : Nat} {l : Array Bool} {a a' : Act} {w : World}
theorem pn_ (hT : rtab md ops = T) (hi : ops[i]? = some oi) (hN : oi.dst = some d) (hc : anyT T l.toList (fl n m).toList i = true) (hQ : ∀ c a w, Q (.panic c) (a.put oi.dst v) w → Q (.panic c) a w) (hw : Region.wanted oi (yielded ops a.tmps) = true)
    (hy : ∀ w, (execOp a.eval oi).run P w = .ok (.value v) w) (ha : a.put (some d) v = a') (h : WP pl n (wpAnyLast P md ops Q S ds fuel (fl n m) a' w)) : WP ((i, d, m, 0) :: pl) n (wpAnyLast P md ops Q S ds (fuel + 1) l a w) :=
  ⟨pure_ (fl n m) hi hN (any_of hT hc) hQ (Or.inl ⟨hw, hy⟩) ha h.out⟩
theorem tn_ (hT : rtab md ops = T) (hB : waitsOk T.2 B = true) (hS : S w) (hi : ops[i]? = some oi) (hN : oi.dst = some d) (hc : takeW T B ds l.toList (fl n m).toList i = true) (hQ : ∀ c a w, Q (.panic c) (a.put oi.dst v) w → Q (.panic c) a w) (hw : Region.wanted oi (yielded ops a.tmps) = true)
    (hy : ∀ w, S w → (execOp a.eval oi).run P w = .ok (.value v) w) (ha : a.put (some d) v = a') (h : WP pl n (wpAnyLast P md ops Q S ds fuel (fl n m) a' w)) : WP ((i, d, m, 1) :: pl) n (wpAnyLast P md ops Q S ds (fuel + 1) l a w) :=
  ⟨take_ (fl n m) hi hN (take_ofW hT hB hc) hQ (Or.inl ⟨hw, hy⟩) hS ha h.out⟩
theorem on_ (hT : rtab md ops = T) (hi : ops[i]? = some oi) (hN : oi.dst = some d) (hc : anyT T l.toList (fl n m).toList i = true) (hQ : ∀ c a w, Q (.panic c) (a.put oi.dst undef) w → Q (.panic c) a w) (hw : Region.wanted oi (yielded ops a.tmps) = false)
    (ha : a.put (some d) undef = a') (h : WP pl n (wpAnyLast P md ops Q S ds fuel (fl n m) a' w)) : WP ((i, d, m, 2) :: pl) n (wpAnyLast P md ops Q S ds (fuel + 1) l a w) :=
  ⟨pure_ (fl n m) hi hN (any_of hT hc) hQ (Or.inr ⟨hw, rfl⟩) ha h.out⟩
end
end Go.Proofs.YtbhlffakpneecaaW.PrintLast
