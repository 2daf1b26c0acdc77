/- What marks of nodes say of pits, in plain Lean; nothing of the program. -/
import Derived.Test.YtomfjhpiemipkaaTMarks
import Derived.Test.YtomfjhpiemipkaaTFold
import Derived.Test.YtomfjhpiemipkaaTFlowFlip
namespace Go.Proofs.Ytomfjhpiemipkaa.PitMath
open Go.RowKit Go.Proofs.YtomfjhpiemipkaaW.PrintWords Go.Proofs.YtomfjhpiemipkaaW.PrintMore Go.Proofs.Ytomfjhpiemipkaa.B Go.Proofs.Ytomfjhpiemipkaa.Flow
set_option linter.unusedVariables false
set_option linter.unusedSimpArgs false
/-- the nodes that are not reached -/
def outB (b : List Int) : List Bool := b.map fun x => decide (x < 0)
theorem outB_len (b : List Int) : (outB b).length = b.length := by unfold outB; rw [List.length_map]
theorem outB_at (b : List Int) (j : Nat) (h : j < b.length) : (outB b).getD j false = decide (b.getD j 0 < 0) := by
  unfold outB
  rw [List.getD_eq_getElem?_getD, List.getElem?_map, List.getD_eq_getElem?_getD, List.getElem?_eq_getElem h]
  rfl
end Go.Proofs.Ytomfjhpiemipkaa.PitMath
