/- Those of print.sh's texts that this claim needs. -/
import Derived.Test.YtbhlffakpneecaaTWInv
import Derived.Test.YtbhlffakpneecaaTWFootNe
namespace Go.Proofs.YtbhlffakpneecaaW.PrintWords
open Go.RowKit
end Go.Proofs.YtbhlffakpneecaaW.PrintWords
namespace Go.Proofs.YtbhlffakpneecaaW.PrintLast
section
variable {ops : Array Oper} {a : Act} {o og : Oper} {g : Nat} {t : Tmp} {u : Bool}
end
end Go.Proofs.YtbhlffakpneecaaW.PrintLast
