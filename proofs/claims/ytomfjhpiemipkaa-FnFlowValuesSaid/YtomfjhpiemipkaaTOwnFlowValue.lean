/- The contracts of impl.FlowValue and spec.FlowValue by hand, over those of impl.isFlow and spec.mfFlows. -/
-- OWN impl fvR %s = %s
-- OWN spec fvS %s %s
import Derived.Test.YtomfjhpiemipkaaTOwnFlows
import Derived.Test.YtomfjhpiemipkaaTOwnMfFlows
import Derived.Test.YtomfjhpiemipkaaTMFnFlowValuesx0
namespace Go.Proofs.Ytomfjhpiemipkaa.OwnFlowValue
open Go.RowKit Go.Proofs.Ytomfjhpiemipkaa.PFnFlowValues Go.Proofs.YtomfjhpiemipkaaW.PrintWords Go.Proofs.YtomfjhpiemipkaaW.PrintLast Go.Proofs.YtomfjhpiemipkaaW.PrintMore Go.Proofs.Ytomfjhpiemipkaa.B Go.Proofs.Ytomfjhpiemipkaa.Com Go.Proofs.Ytomfjhpiemipkaa.OwnFlows Go.Proofs.Ytomfjhpiemipkaa.OwnMfFlows
set_option linter.unusedVariables false
set_option linter.unusedSimpArgs false
def okE (n : Int) (e : S99) : Bool := decide (0 ≤ e.f0 ∧ e.f0 < n ∧ 0 ≤ e.f1 ∧ e.f1 < n ∧ 0 ≤ e.f2 ∧ e.f2 ≤ 1000000000)
def netOk (n : Int) (l : List S99) : Bool := decide (2 ≤ n ∧ n ≤ 130 ∧ l.length ≤ 2000) && allR (fun j => okE n (l.getD j z99)) 0 l.length
theorem IsNetwork_l0 (n : Int) (l : List S99) (hl : l.length ≤ maxLen) : ∀ (d i : Nat), i + d = l.length →
    Ev (fun k => impl_IsNetwork.l0 k n l (l.length : Int) (i : Int)) (allR (fun j => okE n (l.getD j z99)) i l.length) := by
  have hl := maxLen_le hl
  intro d
  induction d with
  | zero =>
    intro i hi
    exact Ev.step (fun k => impl_IsNetwork.l0.eq_2 n l l.length i k) (ev_neg (by omega) (ev_some (allR_end (by omega)).symm))
  | succ d ih =>
    intro i hi
    refine Ev.step (fun k => impl_IsNetwork.l0.eq_2 n l l.length i k) ?_
    have hx : rd_T99 l (i : Int) = l.getD i z99 := by unfold rd_T99; rw [toNat_nat]
    rw [allR_step (by omega), w_succ (n := l.length) (by omega) (by omega), hx]
    generalize l.getD i z99 = e
    have no : ¬ (0 ≤ e.f0 ∧ e.f0 < n ∧ 0 ≤ e.f1 ∧ e.f1 < n ∧ 0 ≤ e.f2 ∧ e.f2 ≤ 1000000000) → false = (okE n e && allR (fun j => okE n (l.getD j z99)) (i + 1) l.length) := by
      intro h
      rw [show okE n e = false from decide_eq_false h, Bool.false_and]
    refine ev_pos (by omega) (ev_pos (by omega) (ev_pos (by omega) ?_))
    refine ev_ite (fun h => ev_some (no (by omega))) (fun h0 => ?_)
    refine ev_ite (fun h => ev_some (no (by omega))) (fun h1 => ?_)
    refine ev_ite (fun h => ev_some (no (by omega))) (fun h2 => ?_)
    refine ev_ite (fun h => ev_some (no (by omega))) (fun h3 => ?_)
    refine ev_ite (fun h => ev_some (no (by omega))) (fun h4 => ?_)
    refine ev_ite (fun h => ev_some (no (by omega))) (fun h5 => ?_)
    rw [show okE n e = true from decide_eq_true (by omega), Bool.true_and]
    exact ih (i + 1) (by omega)
theorem IsNetwork_ev (n : Int) (l : List S99) (hl : l.length ≤ maxLen) : Ev (fun k => impl_IsNetwork.f k n l) (netOk n l) := by
  unfold impl_IsNetwork.f netOk
  have no : ¬ (2 ≤ n ∧ n ≤ 130 ∧ l.length ≤ 2000) → false = (decide (2 ≤ n ∧ n ≤ 130 ∧ l.length ≤ 2000) && allR (fun j => okE n (l.getD j z99)) 0 l.length) := by
    intro h; rw [decide_eq_false h, Bool.false_and]
  refine ev_ite (fun h => Ev.step (fun k => impl_IsNetwork.j0.eq_2 n l true k) (ev_pos rfl (ev_some (no (by omega))))) (fun h => ?_)
  refine ev_ite (fun h => Ev.step (fun k => impl_IsNetwork.j0.eq_2 n l true k) (ev_pos rfl (ev_some (no (by omega))))) (fun h1 => ?_)
  refine Ev.step (fun k => impl_IsNetwork.j0.eq_2 n l _ k) (ev_ite (fun h2 => ev_some (no ?_)) (fun h2 => ?_))
  · simp only [decide_eq_true_eq] at h2; omega
  · simp only [decide_eq_true_eq] at h2
    rw [decide_eq_true (by omega), Bool.true_and]; exact IsNetwork_l0 n l hl l.length 0 (by omega)
theorem l1In_eq (a b c : Int) : spec_l1In.f a b c = some (decide (b ≤ a ∧ a ≤ c)) := by
  unfold spec_l1In.f
  by_cases h : a ≥ b
  · rw [if_pos h]; simp [show b ≤ a from h]
  · rw [if_neg h]; simp [show ¬ b ≤ a from h]
theorem mfGood_l0 (n : Int) (hn : -9223372036854775808 ≤ n ∧ n ≤ 9223372036854775807) (l : List S99) (hl : l.length ≤ maxLen) : ∀ (d i : Nat), i + d = l.length →
    Ev (fun k => spec_mfGood.l0 k n l l (l.length : Int) (i : Int)) (decide (2 ≤ n ∧ n ≤ 130 ∧ l.length ≤ 2000) && allR (fun j => okE n (l.getD j z99)) i l.length) := by
  have hl := maxLen_le hl
  intro d
  induction d with
  | zero =>
    intro i hi
    refine Ev.step (fun k => spec_mfGood.l0.eq_2 n l l l.length i k) (ev_neg (by omega) (ev_bindc (l1In_eq _ _ _) (ev_ite (fun h => ev_some ?_) (fun h => ev_some ?_))))
    · rw [allR_end (by omega), Bool.and_true, decide_eq_decide]; simp only [decide_eq_true_eq] at h; omega
    · simp only [decide_eq_true_eq] at h; rw [decide_eq_false (by omega), Bool.false_and]
  | succ d ih =>
    intro i hi
    refine Ev.step (fun k => spec_mfGood.l0.eq_2 n l l l.length i k) ?_
    have hx : rd_T99 l (i : Int) = l.getD i z99 := by unfold rd_T99; rw [toNat_nat]
    rw [allR_step (by omega), w_succ (n := l.length) (by omega) (by omega), hx]
    generalize l.getD i z99 = e
    have no : (¬ (2 ≤ n ∧ n ≤ 130) ∨ okE n e = false) → false = (decide (2 ≤ n ∧ n ≤ 130 ∧ l.length ≤ 2000) && (okE n e && allR (fun j => okE n (l.getD j z99)) (i + 1) l.length)) := by
      rintro (h | h)
      · rw [decide_eq_false (by omega), Bool.false_and]
      · rw [h, Bool.false_and, Bool.and_false]
    by_cases hn0 : n = -9223372036854775808
    · subst hn0
      have hw : wrap64 (-9223372036854775808 - 1) = 9223372036854775807 := by unfold wrap64; omega
      have fin : Ev (fun k => spec_mfGood.l0 k (-9223372036854775808) l l (l.length : Int) ((i + 1 : Nat) : Int)) false := by
        have := ih (i + 1) (by omega)
        rwa [decide_eq_false (by omega), Bool.false_and] at this
      rw [hw]
      refine ev_pos (by omega) (ev_pos (by omega) (ev_pos (by omega) (ev_bindc (l1In_eq _ _ _) (ev_eq (no (.inl (by omega))) ?_))))
      refine ev_ite (fun h => ?_) (fun _ => ev_some rfl)
      refine ev_bindc (l1In_eq _ _ _) (ev_ite (fun h => ?_) (fun _ => ev_some rfl))
      exact ev_bindc (l1In_eq _ _ _) (ev_ite (fun h => fin) (fun _ => ev_some rfl))
    · rw [w64 (x := n - 1) (by omega) (by omega)]
      refine ev_pos (by omega) (ev_pos (by omega) (ev_pos (by omega) (ev_bindc (l1In_eq _ _ _) ?_)))
      refine ev_ite (fun h => ?_) (fun h => ev_some (no (.inr (by unfold okE; simp only [decide_eq_true_eq] at h; simp only [decide_eq_false_iff_not]; omega))))
      refine ev_bindc (l1In_eq _ _ _) (ev_ite (fun h1 => ?_) (fun h1 => ev_some (no (.inr (by unfold okE; simp only [decide_eq_true_eq] at h1; simp only [decide_eq_false_iff_not]; omega)))))
      refine ev_bindc (l1In_eq _ _ _) (ev_ite (fun h2 => ?_) (fun h2 => ev_some (no (.inr (by unfold okE; simp only [decide_eq_true_eq] at h2; simp only [decide_eq_false_iff_not]; omega)))))
      simp only [decide_eq_true_eq] at h h1 h2
      have : okE n e = true := by unfold okE; simp only [decide_eq_true_eq]; omega
      rw [this, Bool.true_and]; exact ih (i + 1) (by omega)
theorem mfGood_ev (n : Int) (hn : -9223372036854775808 ≤ n ∧ n ≤ 9223372036854775807) (l : List S99) (hl : l.length ≤ maxLen) : Ev (fun k => spec_mfGood.f k n l) (netOk n l) := by
  unfold spec_mfGood.f netOk
  exact mfGood_l0 n hn l hl l.length 0 (by omega)
def fvAt (l : List S99) (f : List Int) (s : Int) (j : Nat) : Int := (if (l.getD j z99).f1 = 0 then (if (l.getD j z99).f0 = 0 then s + f.getD j 0 else s) - f.getD j 0 else (if (l.getD j z99).f0 = 0 then s + f.getD j 0 else s))
theorem flows_at {n : Int} {l : List S99} {f : List Int} (h : flowsB n l f = true) (j : Nat) (hj : j < l.length) : 0 ≤ f.getD j 0 ∧ f.getD j 0 ≤ (l.getD j z99).f2 := by
  unfold flowsB at h
  rw [Bool.and_eq_true, Bool.and_eq_true, allR_iff] at h
  have := h.2.1 j (Nat.zero_le _) hj
  unfold flowOkAt at this
  exact of_decide_eq_true this
theorem fv_at {n : Int} {l : List S99} {f : List Int} (h : flowsB n l f = true) (j : Nat) (hj : j < l.length) (hn : netOk n l = true) : 0 ≤ f.getD j 0 ∧ f.getD j 0 ≤ 1000000000 := by
  have h1 := flows_at h j hj
  have h2 := okE_iff.1 ((netOk_iff.1 hn).2.2.2 j hj)
  omega
theorem fv_bd {n : Int} {l : List S99} {f : List Int} (hn : netOk n l = true) (h : flowsB n l f = true) (j : Nat) (hj : j ≤ l.length) : -1000000000 * (j : Int) ≤ foldR (fvAt l f) 0 j 0 ∧ foldR (fvAt l f) 0 j 0 ≤ 1000000000 * (j : Int) := by
  induction j with
  | zero => rw [foldR_end (Nat.le_refl _)]; omega
  | succ j ih =>
    have := ih (by omega)
    have h1 := fv_at h j (by omega) hn
    rw [foldR_last (Nat.zero_le _)]
    have h2 : -1000000000 ≤ fvAt l f (foldR (fvAt l f) 0 j 0) j - foldR (fvAt l f) 0 j 0 ∧ fvAt l f (foldR (fvAt l f) 0 j 0) j - foldR (fvAt l f) 0 j 0 ≤ 1000000000 := by
      obtain ⟨q, hq⟩ : ∃ q, q = foldR (fvAt l f) 0 j 0 := ⟨_, rfl⟩
      rw [← hq]
      unfold fvAt
      split <;> split <;> omega
    omega
def fvR (n : Int) (l : List S99) (f : List Int) : Int × Bool := if (netOk n l && flowsB n l f) = true then (foldR (fvAt l f) 0 l.length 0, true) else (0, false)
def fvS (n : Int) (l : List S99) (f : List Int) (r : Int × Bool) : Prop := (-9223372036854775808 ≤ n ∧ n ≤ 9223372036854775807) ∧ fvR n l f = r
set_option maxHeartbeats 4000000 in
set_option maxRecDepth 100000 in
theorem own_impl (n : Int) (A1 : Option Addr) (c1 : Nat) (l : List S99) (A2 : Option Addr) (c2 : Nat) (f : List Int) (g0 : Int) (g1 : Bool) (w : World)
    (h1 : Kd.C k99 w A1 l.length l) (e1 : l.length ≤ c1) (h2 : Kd.C (Kd.int .i64) w A2 f.length f) (e2 : f.length ≤ c2) (ll : l.length ≤ 1048576) (lf : f.length ≤ 1048576) (h : fvR n l f = (g0, g1)) :
    Calls Try.prog 79 #[.int .i64 n, .slice A1 l.length c1, .slice A2 f.length c2] w fun e w' => e = .returned (.tuple #[.int .i64 g0, .bool g1]) ∧ Below w.heap.size w w' := by
  obtain ⟨k, hk⟩ := (IsNetwork_ev n l (maxLen_val (by omega))).rounds
  have H1 := Aside0.mk h1
  have E1 := Aside0.mk e1
  have H2 := Aside0.mk h2
  have E2 := Aside0.mk e2
  have HK := Aside0.mk hk
  have HH := Aside0.mk h
  have LF := Aside0.mk lf
  clear h1 e1 h2 e2 hk h lf ll
  cases hn : netOk n l with
  | false =>
    have hr : (0, false) = (g0, g1) := by rw [← HH.out]; unfold fvR; rw [hn]; rfl
    injection hr with hr0 hr1
    subst hr0 hr1
    have HN := Aside0.mk hn
    clear hn
    go_enter Try.func79, Try.ntmps79
    go_wp2_with fail
    refine (impl_IsNetwork.calls k n A1 c1 l false w H1.out E1.out (by rw [← HN.out]; exact HK.out)).mono ?_
    rintro e w1 ⟨rfl, hb⟩
    have B1 := Aside0.mk hb
    clear hb
    go_wp2_with fail
    go_ret2
    exact ⟨rfl, B1.out⟩
  | true =>
    have HN := Aside0.mk hn
    cases hfl : flowsB n l f with
    | false =>
      have hr : (0, false) = (g0, g1) := by rw [← HH.out]; unfold fvR; rw [hn, hfl]; rfl
      injection hr with hr0 hr1
      subst hr0 hr1
      have HF := Aside0.mk hfl
      clear hn hfl
      go_enter Try.func79, Try.ntmps79
      go_wp2_with fail
      refine (impl_IsNetwork.calls k n A1 c1 l true w H1.out E1.out (by rw [← HN.out]; exact HK.out)).mono ?_
      rintro e w1 ⟨rfl, hb⟩
      have B1 := Aside0.mk hb
      clear hb
      go_wp2_with fail
      refine (own_isFlow n A1 c1 l A2 c2 f w1 (Kd.C_below H1.out B1.out) E1.out (Kd.C_below H2.out B1.out) E2.out HN.out LF.out).mono ?_
      rintro e w2 ⟨he, hb⟩
      have he : e = .returned (.bool false) := he.trans (congrArg (fun z => Ending.returned (.bool z)) HF.out)
      subst he
      have B2 := Aside0.mk (below_step B1.out hb)
      clear hb
      go_wp2_with fail
      go_ret2
      exact ⟨rfl, B2.out⟩
    | true =>
      have hr : (foldR (fvAt l f) 0 l.length 0, true) = (g0, g1) := by rw [← HH.out]; unfold fvR; rw [hn, hfl]; rfl
      injection hr with hr0 hr1
      have HG := Aside0.mk hr0
      subst hr1
      have HF := Aside0.mk hfl
      have hlen : f.length = l.length := by unfold flowsB at hfl; rw [Bool.and_eq_true, decide_eq_true_eq] at hfl; exact hfl.1
      have HLEN := Aside0.mk hlen
      clear hn hfl hlen hr0
      go_enter Try.func79, Try.ntmps79
      go_wp2_with fail
      refine (impl_IsNetwork.calls k n A1 c1 l true w H1.out E1.out (by rw [← HN.out]; exact HK.out)).mono ?_
      rintro e w1 ⟨rfl, hb⟩
      have B1 := Aside0.mk hb
      clear hb
      go_wp2_with fail
      refine (own_isFlow n A1 c1 l A2 c2 f w1 (Kd.C_below H1.out B1.out) E1.out (Kd.C_below H2.out B1.out) E2.out HN.out LF.out).mono ?_
      rintro e w2 ⟨he, hb⟩
      have he : e = .returned (.bool true) := he.trans (congrArg (fun z => Ending.returned (.bool z)) HF.out)
      subst he
      have B2 := Aside0.mk (below_step B1.out hb)
      clear hb
      go_wp2_with fail
      go_loopg [8, 24] (l.length) (fun d v8 v24 wr => ∃ i s : Int, v24 = .int .i64 i ∧ v8 = .int .i64 s ∧ Aside0 (0 ≤ i ∧ i + d = l.length) ∧ Aside0 (s = foldR (fvAt l f) 0 i.toNat 0) ∧ Aside0 (Below w.heap.size w wr))
      case atStart => exact ⟨0, 0, rfl, rfl, ⟨by omega⟩, ⟨by rw [show (0 : Int).toNat = 0 from rfl, foldR_end (Nat.le_refl _)]⟩, ⟨B2.out⟩⟩
      case round =>
        obtain ⟨i, s, rfl, rfl, HI, HS, HB⟩ := hrel
        have h0 := HI.out.1
        cases gk with
        | zero =>
          have hd : decide (i < (l.length : Int)) = false := decide_eq_false (by have := HI.out.2; omega)
          have hs : s = g0 := by rw [HS.out, show i.toNat = l.length by have := HI.out; omega]; exact HG.out
          have HS2 := Aside0.mk hs
          clear hs
          go_wp2_with fail
          go_ret2
          exact ⟨congrArg (fun z => Ending.returned (.tuple #[.int .i64 z, .bool true])) HS2.out, HB.out⟩
        | succ d =>
          have hlt : i < (l.length : Int) := by have := HI.out.2; omega
          have hd : decide (i < (l.length : Int)) = true := decide_eq_true hlt
          have hlf : i < (f.length : Int) := by have := HLEN.out; omega
          obtain ⟨ad, eA, hx0, hx1, hx2⟩ := at_T99 H1.out i h0 hlt
          cases eA
          replace hx0 := (HB.out.cell (World.block_lt_of_cell? w _ hx0)).trans hx0
          replace hx1 := (HB.out.cell (World.block_lt_of_cell? w _ hx1)).trans hx1
          replace hx2 := (HB.out.cell (World.block_lt_of_cell? w _ hx2)).trans hx2
          obtain ⟨af, eF, hy⟩ := Kd.at_int H2.out i h0 hlf
          cases eF
          have HY := Aside0.mk hy
          have HAF := Aside0.mk (World.block_lt_of_cell? w _ hy)
          clear hy
          have q0 := eq_true h0
          have q1 := eq_true hlt
          have q2 := eq_true hlf
          have H0 := Aside0.mk h0
          have HLT := Aside0.mk hlt
          clear h0 hlt hlf
          obtain ⟨x, ex⟩ : ∃ x, x = rd_T99 l i := ⟨_, rfl⟩
          rw [← ex] at hx0 hx1 hx2
          have EX := Aside0.mk ex
          obtain ⟨y, ey⟩ : ∃ y, y = rd f i := ⟨_, rfl⟩
          rw [← ey] at HY
          have EY := Aside0.mk ey
          clear ex ey
          obtain ⟨wa, hwa⟩ : ∃ z, z = wr.alloc (Obj.cells #[.int .i64 x.f0, .int .i64 x.f1, .int .i64 x.f2] 99) := ⟨_, rfl⟩
          have hyS : (wr.alloc (Obj.cells #[.int .i64 x.f0, .int .i64 x.f1, .int .i64 x.f2] 99)).cell? (af.add i.toNat) = some (.int .i64 y) := ((below_alloc (Below.refl wr.heap.size wr) _).cell (Nat.lt_of_lt_of_le HAF.out (below_size HB.out))).trans ((HB.out.cell HAF.out).trans HY.out)
          have HBA := Aside0.mk (show Below w.heap.size w (wr.alloc (Obj.cells #[.int .i64 x.f0, .int .i64 x.f1, .int .i64 x.f2] 99)) from below_alloc HB.out _)
          clear hwa
          have hbd : (-1000000000 * i ≤ s ∧ s ≤ 1000000000 * i) ∧ (0 ≤ y ∧ y ≤ 1000000000) := by
            have hf := fv_bd HN.out HF.out i.toNat (by have := HI.out; omega)
            have hf2 := fv_at HF.out i.toNat (by have := HI.out; omega)
            rw [← HS.out] at hf
            have hy2 : y = f.getD i.toNat 0 := EY.out
            have := HI.out
            exact ⟨by omega, by rw [hy2]; exact hf2 HN.out⟩
          have HBD := Aside0.mk hbd
          clear hbd
          by_cases z0 : x.f0 = 0
          all_goals by_cases z1 : x.f1 = 0
          all_goals first | have y0 : (x.f0 == 0) = true := beq_iff_eq.mpr z0 | have y0 : (x.f0 == 0) = false := beq_eq_false_iff_ne.mpr z0
          all_goals first | have y1 : (x.f1 == 0) = true := beq_iff_eq.mpr z1 | have y1 : (x.f1 == 0) = false := beq_eq_false_iff_ne.mpr z1
          all_goals have Z0 := Aside0.mk z0
          all_goals have Z1 := Aside0.mk z1
          all_goals clear z0 z1
          all_goals go_wp2_with fail
          all_goals go_roundg d
          all_goals first | (case measure => omega) | skip
          all_goals
            have hI := HI.out
            have hbd := HBD.out
            have hN := netOk_iff.1 HN.out
            have z0 := Z0.out
            have z1 := Z1.out
            have ex : x = l.getD i.toNat z99 := EX.out
            have ey : y = f.getD i.toNat 0 := EY.out
            refine ⟨i + 1, fvAt l f s i.toNat, by rw [w64 (by omega) (by omega)], ?_, ⟨by omega⟩, ⟨by rw [show (i + 1).toNat = i.toNat + 1 by omega, foldR_last (Nat.zero_le _), ← HS.out]⟩, HBA⟩
            unfold fvAt
            rw [← ex, ← ey]
          · rw [if_pos z0, if_pos z1, w64 (x := s + y) (by omega) (by omega), w64 (by omega) (by omega)]
          · rw [if_pos z0, if_neg z1, w64 (by omega) (by omega)]
          · rw [if_neg z0, if_pos z1, w64 (by omega) (by omega)]
          · rw [if_neg z0, if_neg z1]
set_option maxHeartbeats 4000000 in
set_option maxRecDepth 100000 in
theorem own_spec (n : Int) (A1 : Option Addr) (c1 : Nat) (l : List S99) (A2 : Option Addr) (c2 : Nat) (f : List Int) (g0 : Int) (g1 : Bool) (w : World)
    (h1 : Kd.C k99 w A1 l.length l) (e1 : l.length ≤ c1) (h2 : Kd.C (Kd.int .i64) w A2 f.length f) (e2 : f.length ≤ c2) (ll : l.length ≤ 1048576) (lf : f.length ≤ 1048576) (h : fvS n l f (g0, g1)) :
    Calls Try.prog 80 #[.int .i64 n, .slice A1 l.length c1, .slice A2 f.length c2] w fun e w' => e = .returned (.tuple #[.int .i64 g0, .bool g1]) ∧ Below w.heap.size w w' := by
  obtain ⟨k, hk⟩ := (mfGood_ev n h.1 l (maxLen_val (by omega))).rounds
  have H1 := Aside0.mk h1
  have E1 := Aside0.mk e1
  have H2 := Aside0.mk h2
  have E2 := Aside0.mk e2
  have HK := Aside0.mk hk
  have HH := Aside0.mk h.2
  have LF := Aside0.mk lf
  clear h1 e1 h2 e2 hk h lf ll
  cases hn : netOk n l with
  | false =>
    have hr : (0, false) = (g0, g1) := by rw [← HH.out]; unfold fvR; rw [hn]; rfl
    injection hr with hr0 hr1
    subst hr0 hr1
    have HN := Aside0.mk hn
    clear hn
    go_enter Try.func80, Try.ntmps80
    go_wp2_with fail
    refine (spec_mfGood.calls k n A1 c1 l false w H1.out E1.out (by rw [← HN.out]; exact HK.out)).mono ?_
    rintro e w1 ⟨rfl, hb⟩
    have B1 := Aside0.mk hb
    clear hb
    go_wp2_with fail
    go_ret2
    exact ⟨rfl, B1.out⟩
  | true =>
    have HN := Aside0.mk hn
    cases hfl : flowsB n l f with
    | false =>
      have hr : (0, false) = (g0, g1) := by rw [← HH.out]; unfold fvR; rw [hn, hfl]; rfl
      injection hr with hr0 hr1
      subst hr0 hr1
      have HF := Aside0.mk hfl
      clear hn hfl
      go_enter Try.func80, Try.ntmps80
      go_wp2_with fail
      refine (spec_mfGood.calls k n A1 c1 l true w H1.out E1.out (by rw [← HN.out]; exact HK.out)).mono ?_
      rintro e w1 ⟨rfl, hb⟩
      have B1 := Aside0.mk hb
      clear hb
      go_wp2_with fail
      refine (own_mfFlows n A1 c1 l A2 c2 f w1 (Kd.C_below H1.out B1.out) E1.out (Kd.C_below H2.out B1.out) E2.out HN.out LF.out).mono ?_
      rintro e w2 ⟨he, hb⟩
      have he : e = .returned (.bool false) := he.trans (congrArg (fun z => Ending.returned (.bool z)) HF.out)
      subst he
      have B2 := Aside0.mk (below_step B1.out hb)
      clear hb
      go_wp2_with fail
      go_ret2
      exact ⟨rfl, B2.out⟩
    | true =>
      have hr : (foldR (fvAt l f) 0 l.length 0, true) = (g0, g1) := by rw [← HH.out]; unfold fvR; rw [hn, hfl]; rfl
      injection hr with hr0 hr1
      have HG := Aside0.mk hr0
      subst hr1
      have HF := Aside0.mk hfl
      have hlen : f.length = l.length := by unfold flowsB at hfl; rw [Bool.and_eq_true, decide_eq_true_eq] at hfl; exact hfl.1
      have HLEN := Aside0.mk hlen
      clear hn hfl hlen hr0
      go_enter Try.func80, Try.ntmps80
      go_wp2_with fail
      refine (spec_mfGood.calls k n A1 c1 l true w H1.out E1.out (by rw [← HN.out]; exact HK.out)).mono ?_
      rintro e w1 ⟨rfl, hb⟩
      have B1 := Aside0.mk hb
      clear hb
      go_wp2_with fail
      refine (own_mfFlows n A1 c1 l A2 c2 f w1 (Kd.C_below H1.out B1.out) E1.out (Kd.C_below H2.out B1.out) E2.out HN.out LF.out).mono ?_
      rintro e w2 ⟨he, hb⟩
      have he : e = .returned (.bool true) := he.trans (congrArg (fun z => Ending.returned (.bool z)) HF.out)
      subst he
      have B2 := Aside0.mk (below_step B1.out hb)
      clear hb
      go_wp2_with fail
      go_loopg [8, 24] (l.length) (fun d v8 v24 wr => ∃ i s : Int, v24 = .int .i64 i ∧ v8 = .int .i64 s ∧ Aside0 (0 ≤ i ∧ i + d = l.length) ∧ Aside0 (s = foldR (fvAt l f) 0 i.toNat 0) ∧ Aside0 (Below w.heap.size w wr))
      case atStart => exact ⟨0, 0, rfl, rfl, ⟨by omega⟩, ⟨by rw [show (0 : Int).toNat = 0 from rfl, foldR_end (Nat.le_refl _)]⟩, ⟨B2.out⟩⟩
      case round =>
        obtain ⟨i, s, rfl, rfl, HI, HS, HB⟩ := hrel
        have h0 := HI.out.1
        cases gk with
        | zero =>
          have hd : decide (i < (l.length : Int)) = false := decide_eq_false (by have := HI.out.2; omega)
          have hs : s = g0 := by rw [HS.out, show i.toNat = l.length by have := HI.out; omega]; exact HG.out
          have HS2 := Aside0.mk hs
          clear hs
          go_wp2_with fail
          go_ret2
          exact ⟨congrArg (fun z => Ending.returned (.tuple #[.int .i64 z, .bool true])) HS2.out, HB.out⟩
        | succ d =>
          have hlt : i < (l.length : Int) := by have := HI.out.2; omega
          have hd : decide (i < (l.length : Int)) = true := decide_eq_true hlt
          have hlf : i < (f.length : Int) := by have := HLEN.out; omega
          obtain ⟨ad, eA, hx0, hx1, hx2⟩ := at_T99 H1.out i h0 hlt
          cases eA
          replace hx0 := (HB.out.cell (World.block_lt_of_cell? w _ hx0)).trans hx0
          replace hx1 := (HB.out.cell (World.block_lt_of_cell? w _ hx1)).trans hx1
          replace hx2 := (HB.out.cell (World.block_lt_of_cell? w _ hx2)).trans hx2
          obtain ⟨af, eF, hy⟩ := Kd.at_int H2.out i h0 hlf
          cases eF
          have HY := Aside0.mk hy
          have HAF := Aside0.mk (World.block_lt_of_cell? w _ hy)
          clear hy
          have q0 := eq_true h0
          have q1 := eq_true hlt
          have q2 := eq_true hlf
          have H0 := Aside0.mk h0
          have HLT := Aside0.mk hlt
          clear h0 hlt hlf
          obtain ⟨x, ex⟩ : ∃ x, x = rd_T99 l i := ⟨_, rfl⟩
          rw [← ex] at hx0 hx1 hx2
          have EX := Aside0.mk ex
          obtain ⟨y, ey⟩ : ∃ y, y = rd f i := ⟨_, rfl⟩
          rw [← ey] at HY
          have EY := Aside0.mk ey
          clear ex ey
          obtain ⟨wa, hwa⟩ : ∃ z, z = wr.alloc (Obj.cells #[.int .i64 x.f0, .int .i64 x.f1, .int .i64 x.f2] 99) := ⟨_, rfl⟩
          have hyS : (wr.alloc (Obj.cells #[.int .i64 x.f0, .int .i64 x.f1, .int .i64 x.f2] 99)).cell? (af.add i.toNat) = some (.int .i64 y) := ((below_alloc (Below.refl wr.heap.size wr) _).cell (Nat.lt_of_lt_of_le HAF.out (below_size HB.out))).trans ((HB.out.cell HAF.out).trans HY.out)
          have HBA := Aside0.mk (show Below w.heap.size w (wr.alloc (Obj.cells #[.int .i64 x.f0, .int .i64 x.f1, .int .i64 x.f2] 99)) from below_alloc HB.out _)
          clear hwa
          have hbd : (-1000000000 * i ≤ s ∧ s ≤ 1000000000 * i) ∧ (0 ≤ y ∧ y ≤ 1000000000) := by
            have hf := fv_bd HN.out HF.out i.toNat (by have := HI.out; omega)
            have hf2 := fv_at HF.out i.toNat (by have := HI.out; omega)
            rw [← HS.out] at hf
            have hy2 : y = f.getD i.toNat 0 := EY.out
            have := HI.out
            exact ⟨by omega, by rw [hy2]; exact hf2 HN.out⟩
          have HBD := Aside0.mk hbd
          clear hbd
          by_cases z0 : x.f0 = 0
          all_goals by_cases z1 : x.f1 = 0
          all_goals first | have y0 : (x.f0 == 0) = true := beq_iff_eq.mpr z0 | have y0 : (x.f0 == 0) = false := beq_eq_false_iff_ne.mpr z0
          all_goals first | have y1 : (x.f1 == 0) = true := beq_iff_eq.mpr z1 | have y1 : (x.f1 == 0) = false := beq_eq_false_iff_ne.mpr z1
          all_goals have Z0 := Aside0.mk z0
          all_goals have Z1 := Aside0.mk z1
          all_goals clear z0 z1
          all_goals go_wp2_with fail
          all_goals go_roundg d
          all_goals first | (case measure => omega) | skip
          all_goals
            have hI := HI.out
            have hbd := HBD.out
            have hN := netOk_iff.1 HN.out
            have z0 := Z0.out
            have z1 := Z1.out
            have ex : x = l.getD i.toNat z99 := EX.out
            have ey : y = f.getD i.toNat 0 := EY.out
            refine ⟨i + 1, fvAt l f s i.toNat, by rw [w64 (by omega) (by omega)], ?_, ⟨by omega⟩, ⟨by rw [show (i + 1).toNat = i.toNat + 1 by omega, foldR_last (Nat.zero_le _), ← HS.out]⟩, HBA⟩
            unfold fvAt
            rw [← ex, ← ey]
          · rw [if_pos z0, if_pos z1, w64 (x := s + y) (by omega) (by omega), w64 (by omega) (by omega)]
          · rw [if_pos z0, if_neg z1, w64 (by omega) (by omega)]
          · rw [if_neg z0, if_pos z1, w64 (by omega) (by omega)]
          · rw [if_neg z0, if_neg z1]
end Go.Proofs.Ytomfjhpiemipkaa.OwnFlowValue
