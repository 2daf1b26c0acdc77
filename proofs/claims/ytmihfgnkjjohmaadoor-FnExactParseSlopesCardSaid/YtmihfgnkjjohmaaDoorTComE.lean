/- Rows told by the interval of blocks that they were made in. -/
import Derived.Test.YtmihfgnkjjohmaaDoorTBase
import Derived.Test.YtmihfgnkjjohmaaDoorTMarks
import Derived.Test.YtmihfgnkjjohmaaDoorTFold
namespace Go.Proofs.YtmihfgnkjjohmaaDoor.Com
open Go.RowKit Go.Proofs.YtmihfgnkjjohmaaDoorW.PrintWords Go.Proofs.YtmihfgnkjjohmaaDoorW.PrintLast Go.Proofs.YtmihfgnkjjohmaaDoorW.PrintMore Go.Proofs.YtmihfgnkjjohmaaDoor.B
set_option linter.unusedVariables false
set_option linter.unusedSimpArgs false
def Btw (W W' : World) (k : Nat) : Prop := W.heap.size ≤ k ∧ k < W'.heap.size
theorem apart {W W' V V' : World} (h : W'.heap.size ≤ V.heap.size ∨ V'.heap.size ≤ W.heap.size) : ∀ k, Btw W W' k → ¬ Btw V V' k := by
  intro k h1 h2; unfold Btw at h1 h2; omega
end Go.Proofs.YtmihfgnkjjohmaaDoor.Com
