/- More on ranges, kept elements, insertion into rising lists, blocks below: plain laws, nothing of the program. -/
import Derived.Test.YtmihfgnkjjohmaaDoorTMarks
namespace Go.Proofs.YtmihfgnkjjohmaaDoor.B
open Go.RowKit Go.Proofs.YtmihfgnkjjohmaaDoorW.PrintWords Go.Proofs.YtmihfgnkjjohmaaDoorW.PrintMore
set_option linter.unusedVariables false
set_option linter.unusedSimpArgs false
end Go.Proofs.YtmihfgnkjjohmaaDoor.B
