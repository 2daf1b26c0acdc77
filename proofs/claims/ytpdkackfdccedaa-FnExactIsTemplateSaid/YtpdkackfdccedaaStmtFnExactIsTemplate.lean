/- The pure statement of the law FnExactIsTemplate: for all readable inputs the printed function tells true. -/
import Derived.Test.YtpdkackfdccedaaPFnExactIsTemplatex5
namespace Go.Proofs.Ytpdkackfdccedaa.PureFnExactIsTemplate
open Go.RowKit Go.Proofs.Ytpdkackfdccedaa.PFnExactIsTemplate Go.Proofs.YtpdkackfdccedaaW.PrintWords Go.Proofs.YtpdkackfdccedaaW.PrintLast
def G81 (z : S81) : Prop := ((Lit.int .i64 z.f0).wf = true) ∧ ((Lit.int .i64 z.f1).wf = true) ∧ ((Lit.int .i64 z.f2).wf = true)
/-- What the row asks of the pure side. -/
def Pure : Prop := ∀ (l0 : List (S81)), l0.length ≤ maxLen → (∀ x ∈ l0, G81 x) → ∃ k, laws_FnExactIsTemplate.f k l0 = some true
end Go.Proofs.Ytpdkackfdccedaa.PureFnExactIsTemplate
