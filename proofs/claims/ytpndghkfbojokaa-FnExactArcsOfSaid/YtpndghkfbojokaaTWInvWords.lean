/- Those of print.sh's texts that this claim needs. -/
import Derived.Test.YtpndghkfbojokaaTWInv
import Derived.Test.YtpndghkfbojokaaTWFootNe
namespace Go.Proofs.YtpndghkfbojokaaW.PrintWords
open Go.RowKit
end Go.Proofs.YtpndghkfbojokaaW.PrintWords
namespace Go.Proofs.YtpndghkfbojokaaW.PrintLast
section
variable {ops : Array Oper} {a : Act} {o og : Oper} {g : Nat} {t : Tmp} {u : Bool}
end
end Go.Proofs.YtpndghkfbojokaaW.PrintLast
