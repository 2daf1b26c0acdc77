/- The pure statement of the law FnExactValueOf: for all readable inputs the printed function tells true. -/
import Derived.Test.YtpdkackfdccedaaPFnExactValueOfx3
namespace Go.Proofs.Ytpdkackfdccedaa.PureFnExactValueOf
open Go.RowKit Go.Proofs.Ytpdkackfdccedaa.PFnExactValueOf Go.Proofs.YtpdkackfdccedaaW.PrintWords Go.Proofs.YtpdkackfdccedaaW.PrintLast
/-- What the row asks of the pure side. -/
def Pure : Prop := ∀ (l0 : List (Int)) (l1 : List (Int)), l0.length ≤ maxLen → l0.length * 8 ≤ 140737488351232 → (∀ x ∈ l0, (Lit.int .i64 x).wf = true) → l1.length ≤ maxLen → l1.length * 8 ≤ 140737488351232 → (∀ x ∈ l1, (Lit.int .i64 x).wf = true) → ∃ k, laws_FnExactValueOf.f k l0 l1 = some true
end Go.Proofs.Ytpdkackfdccedaa.PureFnExactValueOf
