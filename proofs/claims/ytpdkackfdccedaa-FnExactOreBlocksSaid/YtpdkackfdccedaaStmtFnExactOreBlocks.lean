/- The pure statement of the law FnExactOreBlocks: for all readable inputs the printed function tells true. -/
import Derived.Test.YtpdkackfdccedaaPFnExactOreBlocksx3
namespace Go.Proofs.Ytpdkackfdccedaa.PureFnExactOreBlocks
open Go.RowKit Go.Proofs.Ytpdkackfdccedaa.PFnExactOreBlocks Go.Proofs.YtpdkackfdccedaaW.PrintWords Go.Proofs.YtpdkackfdccedaaW.PrintLast
/-- What the row asks of the pure side. -/
def Pure : Prop := ∀ (l0 : List (Int)), l0.length ≤ maxLen → l0.length * 8 ≤ 140737488351232 → (∀ x ∈ l0, (Lit.int .i64 x).wf = true) → ∃ k, laws_FnExactOreBlocks.f k l0 = some true
end Go.Proofs.Ytpdkackfdccedaa.PureFnExactOreBlocks
