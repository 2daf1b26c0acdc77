/- The pure statement of the law FnExactPriceValue: for all readable inputs the printed function tells true. -/
import Derived.Test.YtomfjhpiemipkaaMFnExactPriceValuex2
namespace Go.Proofs.Ytomfjhpiemipkaa.PureFnExactPriceValue
open Go.RowKit Go.Proofs.Ytomfjhpiemipkaa.PFnExactPriceValue Go.Proofs.YtomfjhpiemipkaaW.PrintWords Go.Proofs.YtomfjhpiemipkaaW.PrintLast
/-- What the row asks of the pure side. -/
def Pure : Prop := ∀ (a0_0 : Int) (a0_1 : Int) (a0_2 : Int) (l0_3 : List (Int)) (l0_4 : List (Int)) (l0_5 : List (Int)) (a1_0 : Int) (a1_1 : Int) (a1_2 : Int) (a1_3 : Int) (a2 : Int), (Lit.int .i64 a0_0).wf = true → (Lit.int .i64 a0_1).wf = true → (Lit.int .i64 a0_2).wf = true → l0_3.length ≤ maxLen → (∀ x ∈ l0_3, (Lit.int .i64 x).wf = true) → l0_4.length ≤ maxLen → (∀ x ∈ l0_4, (Lit.int .i64 x).wf = true) → l0_5.length ≤ maxLen → (∀ x ∈ l0_5, (Lit.int .i64 x).wf = true) → (Lit.int .i64 a1_0).wf = true → (Lit.int .i64 a1_1).wf = true → (Lit.int .i64 a1_2).wf = true → (Lit.int .i64 a1_3).wf = true → (Lit.int .i64 a2).wf = true → ∃ k, laws_FnExactPriceValue.f k a0_0 a0_1 a0_2 l0_3 l0_4 l0_5 a1_0 a1_1 a1_2 a1_3 a2 = some true
end Go.Proofs.Ytomfjhpiemipkaa.PureFnExactPriceValue
