/- Those of print.sh's texts that this claim needs. -/
import Derived.Test.YtahhiedlkegkgaaTWTab
namespace Go.Proofs.YtahhiedlkegkgaaW.PrintLast
section
variable {P:Program} {ops:Array Oper} {Q:Exit→Act→World→Prop} {md:Region.Mode} {S:World→Prop} {ds:List Nat} {T:Bool × List (List Nat × List Nat)}
end
end Go.Proofs.YtahhiedlkegkgaaW.PrintLast
