/- Those of print.sh's texts that this claim needs. -/
import Derived.Test.YtmihfgnkjjohmaaDoorTWWords
import Derived.Laws.StructEq
namespace Go.Proofs.YtmihfgnkjjohmaaDoorW.PrintWords
open Go.RowKit
section
variable {P : Program} {d : Nat} {xs ys : Array Value} {f : Field} {fs : List Field} {a b : Value} {r s : Bool} {w : World}
end
end Go.Proofs.YtmihfgnkjjohmaaDoorW.PrintWords
