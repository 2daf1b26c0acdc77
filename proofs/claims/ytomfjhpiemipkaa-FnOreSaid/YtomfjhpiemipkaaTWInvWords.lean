/- Those of print.sh's texts that this claim needs. -/
import Derived.Test.YtomfjhpiemipkaaTWInv
import Derived.Test.YtomfjhpiemipkaaTWFootNe
namespace Go.Proofs.YtomfjhpiemipkaaW.PrintWords
open Go.RowKit
end Go.Proofs.YtomfjhpiemipkaaW.PrintWords
namespace Go.Proofs.YtomfjhpiemipkaaW.PrintLast
section
variable {ops : Array Oper} {a : Act} {o og : Oper} {g : Nat} {t : Tmp} {u : Bool}
end
end Go.Proofs.YtomfjhpiemipkaaW.PrintLast
