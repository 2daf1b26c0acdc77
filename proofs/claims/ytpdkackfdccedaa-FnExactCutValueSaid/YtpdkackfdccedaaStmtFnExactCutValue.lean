/- The pure statement of the law FnExactCutValue: for all readable inputs the printed function tells true. -/
import Derived.Test.YtpdkackfdccedaaPFnExactCutValuex5
namespace Go.Proofs.Ytpdkackfdccedaa.PureFnExactCutValue
open Go.RowKit Go.Proofs.Ytpdkackfdccedaa.PFnExactCutValue Go.Proofs.YtpdkackfdccedaaW.PrintWords Go.Proofs.YtpdkackfdccedaaW.PrintLast
def G69 (z : S69) : Prop := ((Lit.int .i64 z.f0).wf = true) ∧ ((Lit.int .i64 z.f1).wf = true) ∧ ((Lit.int .i64 z.f2).wf = true)
/-- What the row asks of the pure side. -/
def Pure : Prop := ∀ (a0 : Int) (l1 : List (S69)) (l2 : List (Int)), (Lit.int .i64 a0).wf = true → l1.length ≤ maxLen → (∀ x ∈ l1, G69 x) → l2.length ≤ maxLen → l2.length * 8 ≤ 140737488351232 → (∀ x ∈ l2, (Lit.int .i64 x).wf = true) → ∃ k, laws_FnExactCutValue.f k a0 l1 l2 = some true
end Go.Proofs.Ytpdkackfdccedaa.PureFnExactCutValue
