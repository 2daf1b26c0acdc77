/- For every input that can be read, the law FnExactArcsOf returns true, and its arguments read behind the call as before. Conditions: none. -/
import Derived.Test.YtpndghkfbojokaaRows
import Derived.Test.YtpndghkfbojokaaTWalkFnExactArcsOf
import Derived.Test.YtpndghkfbojokaaTOpen
import Derived.Test.YtpndghkfbojokaaTWSized
import Derived.WalkKit
import Derived.ProofKit
import Derived.OpenShut
import Derived.ShutString
import Derived.ChangeOld
import Derived.Below
import Derived.SizedLaws
import Derived.Lib.SmallJoins
namespace Go.Proofs.Ytpndghkfbojokaa.fnExactArcsOf
open Go.ChangeShapes Go.WideShapes Go.ChangeAt Go.RowKit Go.Proofs.Ytpndghkfbojokaa.PFnExactArcsOf Go.Proofs.YtpndghkfbojokaaW.PrintWords Go.Proofs.Ytpndghkfbojokaa.Open
open Go.ChangeMaps (open_string shut_string)
set_option linter.unusedVariables false
theorem own : ownKnob Try.prog.godebug = none := by kernel_rfl
theorem laidOut : laidOutB Try.prog = true := by kernel_rfl
def G89 (z : S89) : Prop := ((Lit.int .i64 z.f0).wf = true) ∧ ((Lit.int .i64 z.f1).wf = true) ∧ ((Lit.int .i64 z.f2).wf = true)
set_option maxRecDepth 100000 in
theorem o89 : Opens Try.prog 89 k89 G89 := opens_struct3 Try.underlying89 (opens_int Try.underlying3 (by kernel_rfl)) (opens_int Try.underlying3 (by kernel_rfl)) (opens_int Try.underlying3 (by kernel_rfl)) (by kernel_rfl) (by kernel_rfl) (by kernel_rfl) (by kernel_rfl) rfl (fun w x y u hx hy hu => ⟨⟨x, y, u⟩, ⟨hx, hy, hu⟩, fun c0 c1 c2 h0 h1 h2 => ⟨c0, (c1 ++ c2), rfl, h0, ⟨c1, c2, rfl, h1, h2⟩⟩⟩)
set_option maxRecDepth 100000 in
theorem lifted (os : Os) (started : os.Started) (H : Type) (enc : TypeId × Value → H) :
    ReturnsInHanded {} Try.checked os 5 .any (Rows.fnExactArcsOfSpec.pre6 enc Try.prog Try.f5 Rows.fnExactArcsOfRow.domain false) (Rows.fnExactArcsOfSpec.post enc Try.prog Try.f5 false true false false) := by
  refine returnsInHanded_of_change_sized (C := Try.checked) own started (by kernel_rfl) Try.func5
    (ChangeSpec.witness6 (enc := enc) (C := Try.checked) false ⟨#[], #[(.agg #[(.int .i64 0), (.int .i64 0), (.int .i64 0)]), (.agg #[(.slice none 0 0), (.slice none 0 0)])], []⟩ 8 (by kernel_rfl) (by kernel_rfl) (by kernel_rfl) (by kernel_rfl)) ?_
  intro W base args ds gs before hval0 hW hcnd hsz0 _
  have hsz : (DataW.weightsEach Try.prog (Try.f5.params.toList ++ Rows.fnExactArcsOfSpec.plain.varTypes Try.prog) (ds ++ gs)).all (· ≤ reachBytes) = true := hsz0
  have hval : ∀ (j : Nat) t v, Try.f5.params[j]? = some t → args[j]? = some v → Value.okWide Try.prog W .any base t v := hval0
  have hW' := hW
  obtain ⟨p, q, hA0, hV, rfl, hfz, hnd⟩ := hW
  have hA : DataW.TrodAll enc Try.prog W 0 (fun _ => true) true Try.f5.params.toList args.toList ds p := hA0
  rw [Try.params5] at hA hval hsz
  obtain ⟨v0, vs0, d0, ds0, p0, q0, hargs, rfl, rfl, h0, r0⟩ := trodAll_cons hA
  obtain ⟨v1, vs1, d1, ds1, p1, q1, rfl, rfl, rfl, h1, r1⟩ := trodAll_cons r0
  obtain ⟨rfl, rfl, rfl⟩ := trodAll_nil r1
  obtain rfl : args = #[v0, v1] := by cases args; simp_all
  obtain ⟨rfl, rfl⟩ := trodVars_none hV
  obtain ⟨cs0, rfl, hsz0⟩ := okWide_struct Try.underlying23 (hval 0 23 v0 rfl rfl)
  have k0 := h0
  have lt0 : ∀ x ∈ p0, x.block < W.heap.size := by obtain ⟨m, hm⟩ := k0; exact DataW.trod_lt m _ _ _ hm
  obtain ⟨⟨a0_0, a0_1, a0_2⟩, hk0, hg0⟩ := opens_struct_arg (opensP_struct3 Try.underlying23 (Opens.toP (opens_int Try.underlying3 (by kernel_rfl))) (Opens.toP (opens_int Try.underlying3 (by kernel_rfl))) (Opens.toP (opens_int Try.underlying3 (by kernel_rfl))) (by kernel_rfl) (by kernel_rfl) (by kernel_rfl) (by kernel_rfl)) h0
  obtain ⟨cc0_23_0, cc0_23_1, cc0_23_2, he0, rfl, rfl, rfl⟩ := hk0
  obtain rfl : cs0 = #[.int .i64 a0_0, .int .i64 a0_1, .int .i64 a0_2] := by cases cs0; simpa using he0
  obtain ⟨cs1, rfl, hsz1⟩ := okWide_struct Try.underlying39 (hval 1 39 v1 rfl rfl)
  have k1 := h1
  have lt1 : ∀ x ∈ p1, x.block < W.heap.size := by obtain ⟨m, hm⟩ := k1; exact DataW.trod_lt m _ _ _ hm
  obtain ⟨⟨l1_0, l1_1⟩, hk1, hg1⟩ := opens_struct_arg (opensP_struct2 Try.underlying39 (Opens.toP (opens_slice Try.underlying24 (by kernel_rfl) (opens_int Try.underlying3 (by kernel_rfl)))) (Opens.toP (opens_slice Try.underlying37 (by kernel_rfl) (opens_slice Try.underlying54 (by kernel_rfl) o89))) (by kernel_rfl) (by kernel_rfl) (by kernel_rfl)) h1
  obtain ⟨cc1_39_0, cc1_39_1, he1, ⟨A1_0, c1_0, rfl, hc1_0, hr1_0⟩, ⟨A1_1, c1_1, rfl, hc1_1, hr1_1⟩⟩ := hk1
  obtain rfl : cs1 = #[.slice A1_0 l1_0.length c1_0, .slice A1_1 l1_1.length c1_1] := by cases cs1; simpa using he1
  clear hA0 hval0 hsz0 hsz
  refine (WalkFnExactArcsOf.law a0_0 a0_1 a0_2 l1_0 l1_1 hg0.1 hg0.2.1 hg0.2.2 hg1.1.1 hg1.1.2 hg1.2.1 (fun x hx => (hg1.2.2 x hx).1) A1_0 c1_0 A1_1 c1_1 W hr1_0 hc1_0 hr1_1 hc1_1).mono fun e W' ⟨he, bel⟩ => ?_
  subst he
  exact ⟨_, rfl, _, _, _, [], _, [], hW', trodAll_mk1 (shut_bool Try.underlying4 _), (trodAll_cons_mk (Below.trod laidOut (by kernel_rfl) (of_decide_eq_true (by kernel_rfl)) k0 bel lt0) (trodAll_cons_mk (Below.trod laidOut (by kernel_rfl) (of_decide_eq_true (by kernel_rfl)) k1 bel lt1) trodAll_mk0)), rfl, bel.frame _, fun h => by cases h⟩
theorem over : Rows.fnExactArcsOfRow.holds Try.pinned (OpenSpec.ofChange Rows.fnExactArcsOfSpec) :=
  OpenClaim.holds_of_wide 5 Try.f5 rfl rfl rfl rfl rfl rfl rfl ⟨rfl, rfl, rfl, rfl, rfl⟩ rfl rfl rfl rfl rfl (by kernel_rfl) Try.func5 (by kernel_rfl)
    (of_decide_eq_true (by kernel_rfl)) (by unfold Func.isWrapper; first | (rw [if_pos (by decide +kernel)]; kernel_rfl) | (rw [if_neg (by decide +kernel)]; exact ⟨rfl, rfl⟩))
    (fun os started H enc _ => lifted os started H enc)
theorem proved : Rows.FnExactArcsOfSaid := over
#print axioms proved
end Go.Proofs.Ytpndghkfbojokaa.fnExactArcsOf
namespace Go.Proofs.Ytpndghkfbojokaa
/-- The row, under a short name, for the claim. -/
theorem fnExactArcsOf_holds : Rows.FnExactArcsOfSaid := fnExactArcsOf.proved
end Go.Proofs.Ytpndghkfbojokaa
