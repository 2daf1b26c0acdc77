/- The contract of impl.numbersText, by hand over the library's contracts: the decimal numerals of a list, joined by blanks. -/
import Derived.Test.YtmihfgnkjjohmaaDoorTShelf
import Derived.Test.YtmihfgnkjjohmaaDoorTComE
import Derived.Test.YtmihfgnkjjohmaaDoorTWKept
import Derived.Test.YtmihfgnkjjohmaaDoorTMFnExactParseSlopesx0
import Derived.Lib.ItoaLen
import Derived.Lib.AppendIntMem
import Derived.Laws.EntriesVeiled
namespace Go.Proofs.YtmihfgnkjjohmaaDoor.OwnNumbersText
open Go.RowKit Go.Proofs.YtmihfgnkjjohmaaDoor.PFnExactParseSlopes Go.Proofs.YtmihfgnkjjohmaaDoorW.PrintWords Go.Proofs.YtmihfgnkjjohmaaDoorW.PrintLast Go.Proofs.YtmihfgnkjjohmaaDoorW.PrintMore Go.Proofs.YtmihfgnkjjohmaaDoor.B
set_option linter.unusedVariables false
set_option linter.unusedSimpArgs false
def txtN (l : List Int) : List UInt8 := Lib.join (l.map Lib.itoa) [32]
end Go.Proofs.YtmihfgnkjjohmaaDoor.OwnNumbersText
