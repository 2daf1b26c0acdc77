/- More on ranges, kept elements, insertion into rising lists, blocks below: plain laws, nothing of the program. -/
import Derived.Test.YtomfjhpiemipkaaTMarks
namespace Go.Proofs.Ytomfjhpiemipkaa.B
open Go.RowKit Go.Proofs.YtomfjhpiemipkaaW.PrintWords Go.Proofs.YtomfjhpiemipkaaW.PrintMore
set_option linter.unusedVariables false
set_option linter.unusedSimpArgs false
end Go.Proofs.Ytomfjhpiemipkaa.B
