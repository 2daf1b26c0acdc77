/- The pure statement of the law FnExactTurnNetwork: for all readable inputs the printed function tells true. -/
import Derived.Test.YtpdkackfdccedaaPFnExactTurnNetworkx3
namespace Go.Proofs.Ytpdkackfdccedaa.PureFnExactTurnNetwork
open Go.RowKit Go.Proofs.Ytpdkackfdccedaa.PFnExactTurnNetwork Go.Proofs.YtpdkackfdccedaaW.PrintWords Go.Proofs.YtpdkackfdccedaaW.PrintLast
def G69 (z : S69) : Prop := ((Lit.int .i64 z.f0).wf = true) ∧ ((Lit.int .i64 z.f1).wf = true) ∧ ((Lit.int .i64 z.f2).wf = true)
/-- What the row asks of the pure side. -/
def Pure : Prop := ∀ (a0 : Int) (l1 : List (S69)), (Lit.int .i64 a0).wf = true → l1.length ≤ maxLen → (∀ x ∈ l1, G69 x) → ∃ k, laws_FnExactTurnNetwork.f k a0 l1 = some true
end Go.Proofs.Ytpdkackfdccedaa.PureFnExactTurnNetwork
