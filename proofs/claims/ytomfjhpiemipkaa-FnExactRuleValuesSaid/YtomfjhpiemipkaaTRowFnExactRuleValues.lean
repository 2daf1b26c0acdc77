/- For every input that can be read, the law FnExactRuleValues returns true, and its arguments read behind the call as before. Conditions: none. -/
import Derived.Test.YtomfjhpiemipkaaRows
import Derived.Test.YtomfjhpiemipkaaTWalkFnExactRuleValues
import Derived.Test.YtomfjhpiemipkaaTOpen
import Derived.Test.YtomfjhpiemipkaaTWSized
import Derived.WalkKit
import Derived.ProofKit
import Derived.OpenShut
import Derived.ShutString
import Derived.ChangeOld
import Derived.Below
import Derived.SizedLaws
import Derived.Lib.SmallJoins
namespace Go.Proofs.Ytomfjhpiemipkaa.fnExactRuleValues
open Go.ChangeShapes Go.WideShapes Go.ChangeAt Go.RowKit Go.Proofs.Ytomfjhpiemipkaa.PFnExactRuleValues Go.Proofs.YtomfjhpiemipkaaW.PrintWords Go.Proofs.Ytomfjhpiemipkaa.Open
open Go.ChangeMaps (open_string shut_string)
set_option linter.unusedVariables false
theorem own : ownKnob Try.prog.godebug = none := by kernel_rfl
theorem laidOut : laidOutB Try.prog = true := by kernel_rfl
def G141 (z : S141) : Prop := ((Lit.int .i64 z.f0).wf = true) ∧ ((Lit.int .i64 z.f1).wf = true)
set_option maxRecDepth 100000 in
theorem o141 : Opens Try.prog 141 k141 G141 := opens_struct2 Try.underlying141 (opens_int Try.underlying3 (by kernel_rfl)) (opens_int Try.underlying3 (by kernel_rfl)) (by kernel_rfl) (by kernel_rfl) (by kernel_rfl) rfl (fun w x y hx hy => ⟨⟨x, y⟩, ⟨hx, hy⟩, fun c0 c1 h0 h1 => ⟨c0, c1, rfl, h0, h1⟩⟩)
set_option maxRecDepth 100000 in
theorem lifted (os : Os) (started : os.Started) (H : Type) (enc : TypeId × Value → H) :
    ReturnsInHanded {} Try.checked os 9 .any (Rows.fnExactRuleValuesSpec.pre6 enc Try.prog Try.f9 Rows.fnExactRuleValuesRow.domain false) (Rows.fnExactRuleValuesSpec.post enc Try.prog Try.f9 false true false false) := by
  refine returnsInHanded_of_change_sized (C := Try.checked) own started (by kernel_rfl) Try.func9
    (ChangeSpec.witness6 (enc := enc) (C := Try.checked) false ⟨#[], #[(.agg #[(.int .i64 0), (.int .i64 0), (.int .i64 0), (.slice none 0 0), (.slice none 0 0), (.slice none 0 0)]), (.slice none 0 0)], []⟩ 8 (by kernel_rfl) (by kernel_rfl) (by kernel_rfl) (by kernel_rfl)) ?_
  intro W base args ds gs before hval0 hW hcnd hsz0 _
  have hsz : (DataW.weightsEach Try.prog (Try.f9.params.toList ++ Rows.fnExactRuleValuesSpec.plain.varTypes Try.prog) (ds ++ gs)).all (· ≤ reachBytes) = true := hsz0
  have hval : ∀ (j : Nat) t v, Try.f9.params[j]? = some t → args[j]? = some v → Value.okWide Try.prog W .any base t v := hval0
  have hW' := hW
  obtain ⟨p, q, hA0, hV, rfl, hfz, hnd⟩ := hW
  have hA : DataW.TrodAll enc Try.prog W 0 (fun _ => true) true Try.f9.params.toList args.toList ds p := hA0
  rw [Try.params9] at hA hval hsz
  obtain ⟨v0, vs0, d0, ds0, p0, q0, hargs, rfl, rfl, h0, r0⟩ := trodAll_cons hA
  obtain ⟨v1, vs1, d1, ds1, p1, q1, rfl, rfl, rfl, h1, r1⟩ := trodAll_cons r0
  obtain ⟨rfl, rfl, rfl⟩ := trodAll_nil r1
  obtain rfl : args = #[v0, v1] := by cases args; simp_all
  obtain ⟨rfl, rfl⟩ := trodVars_none hV
  obtain ⟨cs0, rfl, hsz0⟩ := okWide_struct Try.underlying26 (hval 0 26 v0 rfl rfl)
  have k0 := h0
  have lt0 : ∀ x ∈ p0, x.block < W.heap.size := by obtain ⟨m, hm⟩ := k0; exact DataW.trod_lt m _ _ _ hm
  obtain ⟨⟨⟨a0_0, a0_1, a0_2⟩, l0_3, l0_4, l0_5⟩, hk0, hg0⟩ := opens_struct_arg (opensP_struct4 Try.underlying26 (opensP_struct3 Try.underlying23 (Opens.toP (opens_int Try.underlying3 (by kernel_rfl))) (Opens.toP (opens_int Try.underlying3 (by kernel_rfl))) (Opens.toP (opens_int Try.underlying3 (by kernel_rfl))) (by kernel_rfl) (by kernel_rfl) (by kernel_rfl) (by kernel_rfl)) (Opens.toP (opens_slice Try.underlying24 (by kernel_rfl) (opens_int Try.underlying3 (by kernel_rfl)))) (Opens.toP (opens_slice Try.underlying24 (by kernel_rfl) (opens_int Try.underlying3 (by kernel_rfl)))) (Opens.toP (opens_slice Try.underlying24 (by kernel_rfl) (opens_int Try.underlying3 (by kernel_rfl)))) (by kernel_rfl) (by kernel_rfl) (by kernel_rfl) (by kernel_rfl) (by kernel_rfl)) h0
  obtain ⟨cc0_26_0, cc0_26_1, cc0_26_2, cc0_26_3, he0, ⟨cc0_23_0, cc0_23_1, cc0_23_2, rfl, rfl, rfl, rfl⟩, ⟨A0_3, c0_3, rfl, hc0_3, hr0_3⟩, ⟨A0_4, c0_4, rfl, hc0_4, hr0_4⟩, ⟨A0_5, c0_5, rfl, hc0_5, hr0_5⟩⟩ := hk0
  obtain rfl : cs0 = #[.int .i64 a0_0, .int .i64 a0_1, .int .i64 a0_2, .slice A0_3 l0_3.length c0_3, .slice A0_4 l0_4.length c0_4, .slice A0_5 l0_5.length c0_5] := by cases cs0; simpa using he0
  obtain ⟨a1, len1, cap1, rfl⟩ := okWide_slice Try.underlying67 (hval 1 67 v1 rfl rfl)
  have k1 := h1
  have lt1 : ∀ x ∈ p1, x.block < W.heap.size := by obtain ⟨m, hm⟩ := k1; exact DataW.trod_lt m _ _ _ hm
  obtain ⟨l1, rfl, hc1, hr1, hm1, hg1⟩ := opens_arg Try.underlying67 (by kernel_rfl) o141 h1
  clear hA0 hval0 hsz0 hsz
  refine (WalkFnExactRuleValues.law a0_0 a0_1 a0_2 l0_3 l0_4 l0_5 l1 hg0.1.1 hg0.1.2.1 hg0.1.2.2 hg0.2.1.1 hg0.2.1.2 hg0.2.2.1.1 hg0.2.2.1.2 hg0.2.2.2.1 hg0.2.2.2.2 hm1 A0_3 c0_3 A0_4 c0_4 A0_5 c0_5 a1 cap1 W hr0_3 hc0_3 hr0_4 hc0_4 hr0_5 hc0_5 hr1 hc1).mono fun e W' ⟨he, bel⟩ => ?_
  subst he
  exact ⟨_, rfl, _, _, _, [], _, [], hW', trodAll_mk1 (shut_bool Try.underlying4 _), (trodAll_cons_mk (Below.trod laidOut (by kernel_rfl) (of_decide_eq_true (by kernel_rfl)) k0 bel lt0) (trodAll_cons_mk (Below.trod laidOut (by kernel_rfl) (of_decide_eq_true (by kernel_rfl)) k1 bel lt1) trodAll_mk0)), rfl, bel.frame _, fun h => by cases h⟩
theorem over : Rows.fnExactRuleValuesRow.holds Try.pinned (OpenSpec.ofChange Rows.fnExactRuleValuesSpec) :=
  OpenClaim.holds_of_wide 9 Try.f9 rfl rfl rfl rfl rfl rfl rfl ⟨rfl, rfl, rfl, rfl, rfl⟩ rfl rfl rfl rfl rfl (by kernel_rfl) Try.func9 (by kernel_rfl)
    (of_decide_eq_true (by kernel_rfl)) (by unfold Func.isWrapper; first | (rw [if_pos (by decide +kernel)]; kernel_rfl) | (rw [if_neg (by decide +kernel)]; exact ⟨rfl, rfl⟩))
    (fun os started H enc _ => lifted os started H enc)
theorem proved : Rows.FnExactRuleValuesSaid := over
#print axioms proved
end Go.Proofs.Ytomfjhpiemipkaa.fnExactRuleValues
namespace Go.Proofs.Ytomfjhpiemipkaa
/-- The row, under a short name, for the claim. -/
theorem fnExactRuleValues_holds : Rows.FnExactRuleValuesSaid := fnExactRuleValues.proved
end Go.Proofs.Ytomfjhpiemipkaa
