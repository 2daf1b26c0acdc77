/- The contracts of impl.IsFlow and spec.IsFlow by hand, over those of impl.isFlow and spec.mfFlows. -/
-- OWN impl isFlowR %s = %s
-- OWN spec isFlowS %s %s
import Derived.Test.YtomfjhpiemipkaaTOwnFlows
import Derived.Test.YtomfjhpiemipkaaTOwnMfFlows
import Derived.Test.YtomfjhpiemipkaaTMFnFlowValuesx0
namespace Go.Proofs.Ytomfjhpiemipkaa.OwnIsFlow
open Go.RowKit Go.Proofs.Ytomfjhpiemipkaa.PFnFlowValues Go.Proofs.YtomfjhpiemipkaaW.PrintWords Go.Proofs.YtomfjhpiemipkaaW.PrintLast Go.Proofs.YtomfjhpiemipkaaW.PrintMore Go.Proofs.Ytomfjhpiemipkaa.B Go.Proofs.Ytomfjhpiemipkaa.Com Go.Proofs.Ytomfjhpiemipkaa.OwnFlows Go.Proofs.Ytomfjhpiemipkaa.OwnMfFlows
set_option linter.unusedVariables false
set_option linter.unusedSimpArgs false
def okE (n : Int) (e : S99) : Bool := decide (0 ≤ e.f0 ∧ e.f0 < n ∧ 0 ≤ e.f1 ∧ e.f1 < n ∧ 0 ≤ e.f2 ∧ e.f2 ≤ 1000000000)
def netOk (n : Int) (l : List S99) : Bool := decide (2 ≤ n ∧ n ≤ 130 ∧ l.length ≤ 2000) && allR (fun j => okE n (l.getD j z99)) 0 l.length
theorem IsNetwork_l0 (n : Int) (l : List S99) (hl : l.length ≤ maxLen) : ∀ (d i : Nat), i + d = l.length →
    Ev (fun k => impl_IsNetwork.l0 k n l (l.length : Int) (i : Int)) (allR (fun j => okE n (l.getD j z99)) i l.length) := by
  have hl := maxLen_le hl
  intro d
  induction d with
  | zero =>
    intro i hi
    exact Ev.step (fun k => impl_IsNetwork.l0.eq_2 n l l.length i k) (ev_neg (by omega) (ev_some (allR_end (by omega)).symm))
  | succ d ih =>
    intro i hi
    refine Ev.step (fun k => impl_IsNetwork.l0.eq_2 n l l.length i k) ?_
    have hx : rd_T99 l (i : Int) = l.getD i z99 := by unfold rd_T99; rw [toNat_nat]
    rw [allR_step (by omega), w_succ (n := l.length) (by omega) (by omega), hx]
    generalize l.getD i z99 = e
    have no : ¬ (0 ≤ e.f0 ∧ e.f0 < n ∧ 0 ≤ e.f1 ∧ e.f1 < n ∧ 0 ≤ e.f2 ∧ e.f2 ≤ 1000000000) → false = (okE n e && allR (fun j => okE n (l.getD j z99)) (i + 1) l.length) := by
      intro h
      rw [show okE n e = false from decide_eq_false h, Bool.false_and]
    refine ev_pos (by omega) (ev_pos (by omega) (ev_pos (by omega) ?_))
    refine ev_ite (fun h => ev_some (no (by omega))) (fun h0 => ?_)
    refine ev_ite (fun h => ev_some (no (by omega))) (fun h1 => ?_)
    refine ev_ite (fun h => ev_some (no (by omega))) (fun h2 => ?_)
    refine ev_ite (fun h => ev_some (no (by omega))) (fun h3 => ?_)
    refine ev_ite (fun h => ev_some (no (by omega))) (fun h4 => ?_)
    refine ev_ite (fun h => ev_some (no (by omega))) (fun h5 => ?_)
    rw [show okE n e = true from decide_eq_true (by omega), Bool.true_and]
    exact ih (i + 1) (by omega)
theorem IsNetwork_ev (n : Int) (l : List S99) (hl : l.length ≤ maxLen) : Ev (fun k => impl_IsNetwork.f k n l) (netOk n l) := by
  unfold impl_IsNetwork.f netOk
  have no : ¬ (2 ≤ n ∧ n ≤ 130 ∧ l.length ≤ 2000) → false = (decide (2 ≤ n ∧ n ≤ 130 ∧ l.length ≤ 2000) && allR (fun j => okE n (l.getD j z99)) 0 l.length) := by
    intro h; rw [decide_eq_false h, Bool.false_and]
  refine ev_ite (fun h => Ev.step (fun k => impl_IsNetwork.j0.eq_2 n l true k) (ev_pos rfl (ev_some (no (by omega))))) (fun h => ?_)
  refine ev_ite (fun h => Ev.step (fun k => impl_IsNetwork.j0.eq_2 n l true k) (ev_pos rfl (ev_some (no (by omega))))) (fun h1 => ?_)
  refine Ev.step (fun k => impl_IsNetwork.j0.eq_2 n l _ k) (ev_ite (fun h2 => ev_some (no ?_)) (fun h2 => ?_))
  · simp only [decide_eq_true_eq] at h2; omega
  · simp only [decide_eq_true_eq] at h2
    rw [decide_eq_true (by omega), Bool.true_and]; exact IsNetwork_l0 n l hl l.length 0 (by omega)
theorem l1In_eq (a b c : Int) : spec_l1In.f a b c = some (decide (b ≤ a ∧ a ≤ c)) := by
  unfold spec_l1In.f
  by_cases h : a ≥ b
  · rw [if_pos h]; simp [show b ≤ a from h]
  · rw [if_neg h]; simp [show ¬ b ≤ a from h]
theorem mfGood_l0 (n : Int) (hn : -9223372036854775808 ≤ n ∧ n ≤ 9223372036854775807) (l : List S99) (hl : l.length ≤ maxLen) : ∀ (d i : Nat), i + d = l.length →
    Ev (fun k => spec_mfGood.l0 k n l l (l.length : Int) (i : Int)) (decide (2 ≤ n ∧ n ≤ 130 ∧ l.length ≤ 2000) && allR (fun j => okE n (l.getD j z99)) i l.length) := by
  have hl := maxLen_le hl
  intro d
  induction d with
  | zero =>
    intro i hi
    refine Ev.step (fun k => spec_mfGood.l0.eq_2 n l l l.length i k) (ev_neg (by omega) (ev_bindc (l1In_eq _ _ _) (ev_ite (fun h => ev_some ?_) (fun h => ev_some ?_))))
    · rw [allR_end (by omega), Bool.and_true, decide_eq_decide]; simp only [decide_eq_true_eq] at h; omega
    · simp only [decide_eq_true_eq] at h; rw [decide_eq_false (by omega), Bool.false_and]
  | succ d ih =>
    intro i hi
    refine Ev.step (fun k => spec_mfGood.l0.eq_2 n l l l.length i k) ?_
    have hx : rd_T99 l (i : Int) = l.getD i z99 := by unfold rd_T99; rw [toNat_nat]
    rw [allR_step (by omega), w_succ (n := l.length) (by omega) (by omega), hx]
    generalize l.getD i z99 = e
    have no : (¬ (2 ≤ n ∧ n ≤ 130) ∨ okE n e = false) → false = (decide (2 ≤ n ∧ n ≤ 130 ∧ l.length ≤ 2000) && (okE n e && allR (fun j => okE n (l.getD j z99)) (i + 1) l.length)) := by
      rintro (h | h)
      · rw [decide_eq_false (by omega), Bool.false_and]
      · rw [h, Bool.false_and, Bool.and_false]
    by_cases hn0 : n = -9223372036854775808
    · subst hn0
      have hw : wrap64 (-9223372036854775808 - 1) = 9223372036854775807 := by unfold wrap64; omega
      have fin : Ev (fun k => spec_mfGood.l0 k (-9223372036854775808) l l (l.length : Int) ((i + 1 : Nat) : Int)) false := by
        have := ih (i + 1) (by omega)
        rwa [decide_eq_false (by omega), Bool.false_and] at this
      rw [hw]
      refine ev_pos (by omega) (ev_pos (by omega) (ev_pos (by omega) (ev_bindc (l1In_eq _ _ _) (ev_eq (no (.inl (by omega))) ?_))))
      refine ev_ite (fun h => ?_) (fun _ => ev_some rfl)
      refine ev_bindc (l1In_eq _ _ _) (ev_ite (fun h => ?_) (fun _ => ev_some rfl))
      exact ev_bindc (l1In_eq _ _ _) (ev_ite (fun h => fin) (fun _ => ev_some rfl))
    · rw [w64 (x := n - 1) (by omega) (by omega)]
      refine ev_pos (by omega) (ev_pos (by omega) (ev_pos (by omega) (ev_bindc (l1In_eq _ _ _) ?_)))
      refine ev_ite (fun h => ?_) (fun h => ev_some (no (.inr (by unfold okE; simp only [decide_eq_true_eq] at h; simp only [decide_eq_false_iff_not]; omega))))
      refine ev_bindc (l1In_eq _ _ _) (ev_ite (fun h1 => ?_) (fun h1 => ev_some (no (.inr (by unfold okE; simp only [decide_eq_true_eq] at h1; simp only [decide_eq_false_iff_not]; omega)))))
      refine ev_bindc (l1In_eq _ _ _) (ev_ite (fun h2 => ?_) (fun h2 => ev_some (no (.inr (by unfold okE; simp only [decide_eq_true_eq] at h2; simp only [decide_eq_false_iff_not]; omega)))))
      simp only [decide_eq_true_eq] at h h1 h2
      have : okE n e = true := by unfold okE; simp only [decide_eq_true_eq]; omega
      rw [this, Bool.true_and]; exact ih (i + 1) (by omega)
theorem mfGood_ev (n : Int) (hn : -9223372036854775808 ≤ n ∧ n ≤ 9223372036854775807) (l : List S99) (hl : l.length ≤ maxLen) : Ev (fun k => spec_mfGood.f k n l) (netOk n l) := by
  unfold spec_mfGood.f netOk
  exact mfGood_l0 n hn l hl l.length 0 (by omega)
def isFlowR (n : Int) (l : List S99) (f : List Int) : Bool × Bool := if netOk n l = true then (flowsB n l f, true) else (false, false)
def isFlowS (n : Int) (l : List S99) (f : List Int) (r : Bool × Bool) : Prop := (-9223372036854775808 ≤ n ∧ n ≤ 9223372036854775807) ∧ isFlowR n l f = r
set_option maxRecDepth 100000 in
theorem own_impl (n : Int) (A1 : Option Addr) (c1 : Nat) (l : List S99) (A2 : Option Addr) (c2 : Nat) (f : List Int) (g0 g1 : Bool) (w : World)
    (h1 : Kd.C k99 w A1 l.length l) (e1 : l.length ≤ c1) (h2 : Kd.C (Kd.int .i64) w A2 f.length f) (e2 : f.length ≤ c2) (ll : l.length ≤ 1048576) (lf : f.length ≤ 1048576) (h : isFlowR n l f = (g0, g1)) :
    Calls Try.prog 77 #[.int .i64 n, .slice A1 l.length c1, .slice A2 f.length c2] w fun e w' => e = .returned (.tuple #[.bool g0, .bool g1]) ∧ Below w.heap.size w w' := by
  obtain ⟨k, hk⟩ := (IsNetwork_ev n l (maxLen_val (by omega))).rounds
  have H1 := Aside0.mk h1
  have E1 := Aside0.mk e1
  have H2 := Aside0.mk h2
  have E2 := Aside0.mk e2
  have HK := Aside0.mk hk
  have HH := Aside0.mk h
  have LF := Aside0.mk lf
  clear h1 e1 h2 e2 hk h lf ll
  cases hn : netOk n l with
  | false =>
    have hr : (false, false) = (g0, g1) := by rw [← HH.out]; unfold isFlowR; rw [hn]; rfl
    injection hr with hr0 hr1
    subst hr0 hr1
    have HN := Aside0.mk hn
    clear hn
    go_enter Try.func77, Try.ntmps77
    go_wp2_with fail
    refine (impl_IsNetwork.calls k n A1 c1 l false w H1.out E1.out (by rw [← HN.out]; exact HK.out)).mono ?_
    rintro e w1 ⟨rfl, hb⟩
    have B1 := Aside0.mk hb
    clear hb
    go_wp2_with fail
    go_ret2
    exact ⟨rfl, B1.out⟩
  | true =>
    have hr : (flowsB n l f, true) = (g0, g1) := by rw [← HH.out]; unfold isFlowR; rw [hn]; rfl
    injection hr with hr0 hr1
    subst hr0 hr1
    have HN := Aside0.mk hn
    clear hn
    go_enter Try.func77, Try.ntmps77
    go_wp2_with fail
    refine (impl_IsNetwork.calls k n A1 c1 l true w H1.out E1.out (by rw [← HN.out]; exact HK.out)).mono ?_
    rintro e w1 ⟨rfl, hb⟩
    have B1 := Aside0.mk hb
    clear hb
    go_wp2_with fail
    refine (own_isFlow n A1 c1 l A2 c2 f w1 (Kd.C_below H1.out B1.out) E1.out (Kd.C_below H2.out B1.out) E2.out HN.out LF.out).mono ?_
    rintro e w2 ⟨rfl, hb⟩
    have B2 := Aside0.mk (below_step B1.out hb)
    clear hb
    go_wp2_with fail
    go_ret2
    exact ⟨rfl, B2.out⟩
set_option maxRecDepth 100000 in
theorem own_spec (n : Int) (A1 : Option Addr) (c1 : Nat) (l : List S99) (A2 : Option Addr) (c2 : Nat) (f : List Int) (g0 g1 : Bool) (w : World)
    (h1 : Kd.C k99 w A1 l.length l) (e1 : l.length ≤ c1) (h2 : Kd.C (Kd.int .i64) w A2 f.length f) (e2 : f.length ≤ c2) (ll : l.length ≤ 1048576) (lf : f.length ≤ 1048576) (h : isFlowS n l f (g0, g1)) :
    Calls Try.prog 78 #[.int .i64 n, .slice A1 l.length c1, .slice A2 f.length c2] w fun e w' => e = .returned (.tuple #[.bool g0, .bool g1]) ∧ Below w.heap.size w w' := by
  obtain ⟨k, hk⟩ := (mfGood_ev n h.1 l (maxLen_val (by omega))).rounds
  have H1 := Aside0.mk h1
  have E1 := Aside0.mk e1
  have H2 := Aside0.mk h2
  have E2 := Aside0.mk e2
  have HK := Aside0.mk hk
  have HH := Aside0.mk h.2
  have LF := Aside0.mk lf
  clear h1 e1 h2 e2 hk h lf ll
  cases hn : netOk n l with
  | false =>
    have hr : (false, false) = (g0, g1) := by rw [← HH.out]; unfold isFlowR; rw [hn]; rfl
    injection hr with hr0 hr1
    subst hr0 hr1
    have HN := Aside0.mk hn
    clear hn
    go_enter Try.func78, Try.ntmps78
    go_wp2_with fail
    refine (spec_mfGood.calls k n A1 c1 l false w H1.out E1.out (by rw [← HN.out]; exact HK.out)).mono ?_
    rintro e w1 ⟨rfl, hb⟩
    have B1 := Aside0.mk hb
    clear hb
    go_wp2_with fail
    go_ret2
    exact ⟨rfl, B1.out⟩
  | true =>
    have hr : (flowsB n l f, true) = (g0, g1) := by rw [← HH.out]; unfold isFlowR; rw [hn]; rfl
    injection hr with hr0 hr1
    subst hr0 hr1
    have HN := Aside0.mk hn
    clear hn
    go_enter Try.func78, Try.ntmps78
    go_wp2_with fail
    refine (spec_mfGood.calls k n A1 c1 l true w H1.out E1.out (by rw [← HN.out]; exact HK.out)).mono ?_
    rintro e w1 ⟨rfl, hb⟩
    have B1 := Aside0.mk hb
    clear hb
    go_wp2_with fail
    refine (own_mfFlows n A1 c1 l A2 c2 f w1 (Kd.C_below H1.out B1.out) E1.out (Kd.C_below H2.out B1.out) E2.out HN.out LF.out).mono ?_
    rintro e w2 ⟨rfl, hb⟩
    have B2 := Aside0.mk (below_step B1.out hb)
    clear hb
    go_wp2_with fail
    go_ret2
    exact ⟨rfl, B2.out⟩
end Go.Proofs.Ytomfjhpiemipkaa.OwnIsFlow
