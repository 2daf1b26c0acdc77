/- Those of print.sh's texts that this claim needs. -/
import Derived.Test.YtahhiedlkegkgaaTWWords
import Derived.Laws.StructEq
namespace Go.Proofs.YtahhiedlkegkgaaW.PrintWords
open Go.RowKit
section
variable {P:Program} {d:Nat} {xs ys:Array Value} {f:Field} {fs:List Field} {a b:Value} {r s:Bool} {w:World}
end
end Go.Proofs.YtahhiedlkegkgaaW.PrintWords
