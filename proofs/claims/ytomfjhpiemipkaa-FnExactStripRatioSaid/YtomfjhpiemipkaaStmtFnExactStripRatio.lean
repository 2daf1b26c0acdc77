/- The pure statement of the law FnExactStripRatio: for all readable inputs the printed function tells true. -/
import Derived.Test.YtomfjhpiemipkaaMFnExactStripRatiox3
namespace Go.Proofs.Ytomfjhpiemipkaa.PureFnExactStripRatio
open Go.RowKit Go.Proofs.Ytomfjhpiemipkaa.PFnExactStripRatio Go.Proofs.YtomfjhpiemipkaaW.PrintWords Go.Proofs.YtomfjhpiemipkaaW.PrintLast
/-- What the row asks of the pure side. -/
def Pure : Prop := ∀ (a0_0 : Int) (a0_1 : Int) (a0_2 : Int) (l0_3 : List (Int)) (l0_4 : List (Int)) (l0_5 : List (Int)) (l1 : List (Int)) (l2 : List (Int)), (Lit.int .i64 a0_0).wf = true → (Lit.int .i64 a0_1).wf = true → (Lit.int .i64 a0_2).wf = true → l0_3.length ≤ maxLen → (∀ x ∈ l0_3, (Lit.int .i64 x).wf = true) → l0_4.length ≤ maxLen → (∀ x ∈ l0_4, (Lit.int .i64 x).wf = true) → l0_5.length ≤ maxLen → (∀ x ∈ l0_5, (Lit.int .i64 x).wf = true) → l1.length ≤ maxLen → l1.length * 8 ≤ 140737488351232 → (∀ x ∈ l1, (Lit.int .i64 x).wf = true) → l2.length ≤ maxLen → l2.length * 8 ≤ 140737488351232 → (∀ x ∈ l2, (Lit.int .i64 x).wf = true) → ∃ k, laws_FnExactStripRatio.f k a0_0 a0_1 a0_2 l0_3 l0_4 l0_5 l1 l2 = some true
end Go.Proofs.Ytomfjhpiemipkaa.PureFnExactStripRatio
