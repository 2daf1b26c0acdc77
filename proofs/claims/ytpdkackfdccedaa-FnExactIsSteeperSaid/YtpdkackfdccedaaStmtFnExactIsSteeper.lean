/- The pure statement of the law FnExactIsSteeper: for all readable inputs the printed function tells true. -/
import Derived.Test.YtpdkackfdccedaaPFnExactIsSteeperx6
namespace Go.Proofs.Ytpdkackfdccedaa.PureFnExactIsSteeper
open Go.RowKit Go.Proofs.Ytpdkackfdccedaa.PFnExactIsSteeper Go.Proofs.YtpdkackfdccedaaW.PrintWords Go.Proofs.YtpdkackfdccedaaW.PrintLast
def G81 (z : S81) : Prop := ((Lit.int .i64 z.f0).wf = true) ∧ ((Lit.int .i64 z.f1).wf = true) ∧ ((Lit.int .i64 z.f2).wf = true)
/-- What the row asks of the pure side. -/
def Pure : Prop := ∀ (l0 : List (S81)) (l1 : List (S81)), l0.length ≤ maxLen → (∀ x ∈ l0, G81 x) → l1.length ≤ maxLen → (∀ x ∈ l1, G81 x) → ∃ k, laws_FnExactIsSteeper.f k l0 l1 = some true
end Go.Proofs.Ytpdkackfdccedaa.PureFnExactIsSteeper
