/- Those of print.sh's texts that this claim needs. -/
import Derived.Test.YtahhiedlkegkgaaTWInv
import Derived.Test.YtahhiedlkegkgaaTWFootNe
namespace Go.Proofs.YtahhiedlkegkgaaW.PrintWords
open Go.RowKit
end Go.Proofs.YtahhiedlkegkgaaW.PrintWords
namespace Go.Proofs.YtahhiedlkegkgaaW.PrintLast
section
variable {ops:Array Oper} {a:Act} {o og:Oper} {g:Nat} {t:Tmp} {u:Bool}
end
end Go.Proofs.YtahhiedlkegkgaaW.PrintLast
