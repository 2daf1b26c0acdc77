/- What is left, read against the edges; in plain Lean, nothing of the program. -/
import Derived.Test.YtomfjhpiemipkaaTFlow
namespace Go.Proofs.Ytomfjhpiemipkaa.Flow
open Go.RowKit Go.Proofs.YtomfjhpiemipkaaW.PrintWords Go.Proofs.YtomfjhpiemipkaaW.PrintMore Go.Proofs.Ytomfjhpiemipkaa.B
set_option linter.unusedVariables false
set_option linter.unusedSimpArgs false
def flipL (left : List Int) : List Int := (List.range left.length).map fun (i : Nat) => rd left (par (i : Int))
theorem rd_flip {left : List Int} {e : Int} (h0 : 0 ≤ e) (h1 : e < left.length) : rd (flipL left) e = rd left (par e) := by
  unfold flipL
  rw [rd_def, List.getD_eq_getElem?_getD, List.getElem?_map, List.getElem?_range (by omega)]
  show rd left (par ((e.toNat : Nat) : Int)) = _
  rw [Int.toNat_of_nonneg h0]
end Go.Proofs.Ytomfjhpiemipkaa.Flow
