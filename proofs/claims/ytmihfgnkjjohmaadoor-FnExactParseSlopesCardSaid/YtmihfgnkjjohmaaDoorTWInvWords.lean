/- Those of print.sh's texts that this claim needs. -/
import Derived.Test.YtmihfgnkjjohmaaDoorTWInv
import Derived.Test.YtmihfgnkjjohmaaDoorTWFootNe
namespace Go.Proofs.YtmihfgnkjjohmaaDoorW.PrintWords
open Go.RowKit
end Go.Proofs.YtmihfgnkjjohmaaDoorW.PrintWords
namespace Go.Proofs.YtmihfgnkjjohmaaDoorW.PrintLast
section
variable {ops : Array Oper} {a : Act} {o og : Oper} {g : Nat} {t : Tmp} {u : Bool}
end
end Go.Proofs.YtmihfgnkjjohmaaDoorW.PrintLast
