/- More on ranges,kept elements,insertion into rising lists,blocks below: plain laws,nothing of the program. -/
import Derived.Test.YtahhiedlkegkgaaTMarks
namespace Go.Proofs.Ytahhiedlkegkgaa.B
open Go.RowKit Go.Proofs.YtahhiedlkegkgaaW.PrintWords Go.Proofs.YtahhiedlkegkgaaW.PrintMore
set_option linter.unusedVariables false
set_option linter.unusedSimpArgs false
end Go.Proofs.Ytahhiedlkegkgaa.B
