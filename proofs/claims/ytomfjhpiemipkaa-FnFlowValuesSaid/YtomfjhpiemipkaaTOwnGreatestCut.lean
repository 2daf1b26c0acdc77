/- The contracts of impl.GreatestCut and spec.GreatestCut by hand. -/
-- OWN impl gcR %s %s
-- OWN spec gcS %s %s
import Derived.Test.YtomfjhpiemipkaaTOwnLeast
import Derived.Test.YtomfjhpiemipkaaTOwnMost
import Derived.Test.YtomfjhpiemipkaaTOwnSink
import Derived.Test.YtomfjhpiemipkaaTOwnStartI
import Derived.Test.YtomfjhpiemipkaaTOwnRunI
import Derived.Test.YtomfjhpiemipkaaTMFnFlowValuesx0
import Derived.Test.YtomfjhpiemipkaaTBaseJ
namespace Go.Proofs.Ytomfjhpiemipkaa.OwnGreatestCut
open Go.RowKit Go.Proofs.Ytomfjhpiemipkaa.PFnFlowValues Go.Proofs.YtomfjhpiemipkaaW.PrintWords Go.Proofs.YtomfjhpiemipkaaW.PrintLast Go.Proofs.YtomfjhpiemipkaaW.PrintMore Go.Proofs.Ytomfjhpiemipkaa.B Go.Proofs.Ytomfjhpiemipkaa.Flow Go.Proofs.Ytomfjhpiemipkaa.OwnPush Go.Proofs.Ytomfjhpiemipkaa.OwnLevels Go.Proofs.Ytomfjhpiemipkaa.OwnRun Go.Proofs.Ytomfjhpiemipkaa.OwnRows Go.Proofs.Ytomfjhpiemipkaa.OwnNet Go.Proofs.Ytomfjhpiemipkaa.OwnValue Go.Proofs.Ytomfjhpiemipkaa.OwnLeast Go.Proofs.Ytomfjhpiemipkaa.OwnFrom Go.Proofs.Ytomfjhpiemipkaa.OwnRunI Go.Proofs.Ytomfjhpiemipkaa.OwnTurn Go.Proofs.Ytomfjhpiemipkaa.PitMath Go.Proofs.Ytomfjhpiemipkaa.OwnMost Go.Proofs.Ytomfjhpiemipkaa.OwnSink
set_option linter.unusedVariables false
set_option linter.unusedSimpArgs false
def okE (n : Int) (e : S99) : Bool := decide (0 ≤ e.f0 ∧ e.f0 < n ∧ 0 ≤ e.f1 ∧ e.f1 < n ∧ 0 ≤ e.f2 ∧ e.f2 ≤ 1000000000)
def netOk (n : Int) (l : List S99) : Bool := decide (2 ≤ n ∧ n ≤ 130 ∧ l.length ≤ 2000) && allR (fun j => okE n (l.getD j z99)) 0 l.length
theorem rdE (l : List S99) (i : Nat) : rd_T99 l (i : Int) = l.getD i z99 := by unfold rd_T99; rw [toNat_nat]
theorem netOk_iff {n : Int} {l : List S99} : netOk n l = true ↔ 2 ≤ n ∧ n ≤ 130 ∧ l.length ≤ 2000 ∧ ∀ j, j < l.length → okE n (l.getD j z99) = true := by
 unfold netOk
 rw [Bool.and_eq_true, decide_eq_true_eq, allR_iff]
 exact ⟨fun h => ⟨h.1.1, h.1.2.1, h.1.2.2, fun j hj => h.2 j (Nat.zero_le _) hj⟩, fun h => ⟨⟨h.1, h.2.1, h.2.2.1⟩, fun j _ hj => h.2.2.2 j hj⟩⟩
theorem okE_iff {n : Int} {e : S99} : okE n e = true ↔ 0 ≤ e.f0 ∧ e.f0 < n ∧ 0 ≤ e.f1 ∧ e.f1 < n ∧ 0 ≤ e.f2 ∧ e.f2 ≤ 1000000000 := by
 unfold okE; rw [decide_eq_true_eq]
def cutTerm (m : List Bool) (e : S99) : Int := if at_ m e.f0 = true then (if at_ m e.f1 = true then 0 else e.f2) else 0
def cutAt (m : List Bool) (l : List S99) (s : Int) (j : Nat) : Int := s + cutTerm m (l.getD j z99)
def cutSum (m : List Bool) (l : List S99) : Int := foldR (cutAt m l) 0 l.length 0
theorem cutTerm_bd {n : Int} {m : List Bool} {e : S99} (h : okE n e = true) : 0 ≤ cutTerm m e ∧ cutTerm m e ≤ 1000000000 := by
 rw [okE_iff] at h
 unfold cutTerm
 split
 ·split <;> omega
 ·omega
theorem cutAt_bd {n : Int} {m : List Bool} {l : List S99} (h : ∀ j, j < l.length → okE n (l.getD j z99) = true) (i : Nat) (hi : i ≤ l.length) : 0 ≤ foldR (cutAt m l) 0 i 0 ∧ foldR (cutAt m l) 0 i 0 ≤ 1000000000 * (i : Int) := by
 induction i with
 | zero => rw [foldR_end (Nat.le_refl _)]; omega
 | succ i ih =>
  have ih := ih (by omega)
  rw [foldR_last (Nat.zero_le _)]
  have := cutTerm_bd (m := m) (h i (by omega))
  unfold cutAt at *
  omega
def cutOk (n : Nat) (l : List Int) : Bool := asc l n && (at_ (mk n l) 0 && !(at_ (mk n l) ((n : Int) - 1)))
theorem IsNetwork_l0 (n : Int) (l : List S99) (hl : l.length ≤ maxLen) : ∀ (d i : Nat), i + d = l.length →
  Ev (fun k => impl_IsNetwork.l0 k n l (l.length : Int) (i : Int)) (allR (fun j => okE n (l.getD j z99)) i l.length) := by
 have hl := maxLen_le hl
 intro d
 induction d with
 | zero =>
  intro i hi
  exact Ev.step (fun k => impl_IsNetwork.l0.eq_2 n l l.length i k) (ev_neg (by omega) (ev_some (allR_end (by omega)).symm))
 | succ d ih =>
  intro i hi
  refine Ev.step (fun k => impl_IsNetwork.l0.eq_2 n l l.length i k) ?_
  have hx : rd_T99 l (i : Int) = l.getD i z99 := by unfold rd_T99; rw [toNat_nat]
  rw [allR_step (by omega), w_succ (n := l.length) (by omega) (by omega), hx]
  generalize l.getD i z99 = e
  have no : ¬ (0 ≤ e.f0 ∧ e.f0 < n ∧ 0 ≤ e.f1 ∧ e.f1 < n ∧ 0 ≤ e.f2 ∧ e.f2 ≤ 1000000000) → false = (okE n e && allR (fun j => okE n (l.getD j z99)) (i + 1) l.length) := by
   intro h
   rw [show okE n e = false from decide_eq_false h, Bool.false_and]
  refine ev_pos (by omega) (ev_pos (by omega) (ev_pos (by omega) ?_))
  refine ev_ite (fun h => ev_some (no (by omega))) (fun h0 => ?_)
  refine ev_ite (fun h => ev_some (no (by omega))) (fun h1 => ?_)
  refine ev_ite (fun h => ev_some (no (by omega))) (fun h2 => ?_)
  refine ev_ite (fun h => ev_some (no (by omega))) (fun h3 => ?_)
  refine ev_ite (fun h => ev_some (no (by omega))) (fun h4 => ?_)
  refine ev_ite (fun h => ev_some (no (by omega))) (fun h5 => ?_)
  rw [show okE n e = true from decide_eq_true (by omega), Bool.true_and]
  exact ih (i + 1) (by omega)
theorem IsNetwork_ev (n : Int) (l : List S99) (hl : l.length ≤ maxLen) : Ev (fun k => impl_IsNetwork.f k n l) (netOk n l) := by
 unfold impl_IsNetwork.f netOk
 have no : ¬ (2 ≤ n ∧ n ≤ 130 ∧ l.length ≤ 2000) → false = (decide (2 ≤ n ∧ n ≤ 130 ∧ l.length ≤ 2000) && allR (fun j => okE n (l.getD j z99)) 0 l.length) := by
  intro h; rw [decide_eq_false h, Bool.false_and]
 refine ev_ite (fun h => Ev.step (fun k => impl_IsNetwork.j0.eq_2 n l true k) (ev_pos rfl (ev_some (no (by omega))))) (fun h => ?_)
 refine ev_ite (fun h => Ev.step (fun k => impl_IsNetwork.j0.eq_2 n l true k) (ev_pos rfl (ev_some (no (by omega))))) (fun h1 => ?_)
 refine Ev.step (fun k => impl_IsNetwork.j0.eq_2 n l _ k) (ev_ite (fun h2 => ev_some (no ?_)) (fun h2 => ?_))
 ·simp only [decide_eq_true_eq] at h2; omega
 ·simp only [decide_eq_true_eq] at h2
  rw [decide_eq_true (by omega), Bool.true_and]; exact IsNetwork_l0 n l hl l.length 0 (by omega)
theorem l1In_eq (a b c : Int) : spec_l1In.f a b c = some (decide (b ≤ a ∧ a ≤ c)) := by
 unfold spec_l1In.f
 by_cases h : a ≥ b
 ·rw [if_pos h]; simp [show b ≤ a from h]
 ·rw [if_neg h]; simp [show ¬ b ≤ a from h]
theorem mfGood_l0 (n : Int) (hn : -9223372036854775808 ≤ n ∧ n ≤ 9223372036854775807) (l : List S99) (hl : l.length ≤ maxLen) : ∀ (d i : Nat), i + d = l.length →
  Ev (fun k => spec_mfGood.l0 k n l l (l.length : Int) (i : Int)) (decide (2 ≤ n ∧ n ≤ 130 ∧ l.length ≤ 2000) && allR (fun j => okE n (l.getD j z99)) i l.length) := by
 have hl := maxLen_le hl
 intro d
 induction d with
 | zero =>
  intro i hi
  refine Ev.step (fun k => spec_mfGood.l0.eq_2 n l l l.length i k) (ev_neg (by omega) (ev_bindc (l1In_eq _ _ _) (ev_ite (fun h => ev_some ?_) (fun h => ev_some ?_))))
  ·rw [allR_end (by omega), Bool.and_true, decide_eq_decide]; simp only [decide_eq_true_eq] at h; omega
  ·simp only [decide_eq_true_eq] at h; rw [decide_eq_false (by omega), Bool.false_and]
 | succ d ih =>
  intro i hi
  refine Ev.step (fun k => spec_mfGood.l0.eq_2 n l l l.length i k) ?_
  have hx : rd_T99 l (i : Int) = l.getD i z99 := by unfold rd_T99; rw [toNat_nat]
  rw [allR_step (by omega), w_succ (n := l.length) (by omega) (by omega), hx]
  generalize l.getD i z99 = e
  have no : (¬ (2 ≤ n ∧ n ≤ 130) ∨ okE n e = false) → false = (decide (2 ≤ n ∧ n ≤ 130 ∧ l.length ≤ 2000) && (okE n e && allR (fun j => okE n (l.getD j z99)) (i + 1) l.length)) := by
   rintro (h | h)
   ·rw [decide_eq_false (by omega), Bool.false_and]
   ·rw [h, Bool.false_and, Bool.and_false]
  by_cases hn0 : n = -9223372036854775808
  ·subst hn0
   have hw : wrap64 (-9223372036854775808 - 1) = 9223372036854775807 := by unfold wrap64; omega
   have fin : Ev (fun k => spec_mfGood.l0 k (-9223372036854775808) l l (l.length : Int) ((i + 1 : Nat) : Int)) false := by
    have := ih (i + 1) (by omega)
    rwa [decide_eq_false (by omega), Bool.false_and] at this
   rw [hw]
   refine ev_pos (by omega) (ev_pos (by omega) (ev_pos (by omega) (ev_bindc (l1In_eq _ _ _) (ev_eq (no (.inl (by omega))) ?_))))
   refine ev_ite (fun h => ?_) (fun _ => ev_some rfl)
   refine ev_bindc (l1In_eq _ _ _) (ev_ite (fun h => ?_) (fun _ => ev_some rfl))
   exact ev_bindc (l1In_eq _ _ _) (ev_ite (fun h => fin) (fun _ => ev_some rfl))
  ·rw [w64 (x := n - 1) (by omega) (by omega)]
   refine ev_pos (by omega) (ev_pos (by omega) (ev_pos (by omega) (ev_bindc (l1In_eq _ _ _) ?_)))
   refine ev_ite (fun h => ?_) (fun h => ev_some (no (.inr (by unfold okE; simp only [decide_eq_true_eq] at h; simp only [decide_eq_false_iff_not]; omega))))
   refine ev_bindc (l1In_eq _ _ _) (ev_ite (fun h1 => ?_) (fun h1 => ev_some (no (.inr (by unfold okE; simp only [decide_eq_true_eq] at h1; simp only [decide_eq_false_iff_not]; omega)))))
   refine ev_bindc (l1In_eq _ _ _) (ev_ite (fun h2 => ?_) (fun h2 => ev_some (no (.inr (by unfold okE; simp only [decide_eq_true_eq] at h2; simp only [decide_eq_false_iff_not]; omega)))))
   simp only [decide_eq_true_eq] at h h1 h2
   have : okE n e = true := by unfold okE; simp only [decide_eq_true_eq]; omega
   rw [this, Bool.true_and]; exact ih (i + 1) (by omega)
theorem mfGood_ev (n : Int) (hn : -9223372036854775808 ≤ n ∧ n ≤ 9223372036854775807) (l : List S99) (hl : l.length ≤ maxLen) : Ev (fun k => spec_mfGood.f k n l) (netOk n l) := by
 unfold spec_mfGood.f netOk
 exact mfGood_l0 n hn l hl l.length 0 (by omega)
theorem edges_ok {n : Nat} {l : List S99} (h : netOk (n : Int) l = true) : (2 ≤ n ∧ n ≤ 130) ∧ l.length ≤ 8000 ∧ ∀ j, j < l.length → edgeOk n (l.getD j z99) := by
 have hN := netOk_iff.1 h
 exact ⟨by omega, (by have := hN.2.2.1; omega), fun j hj => okE_iff.1 (hN.2.2.2 j hj)⟩
def gcR (n : Int) (l : List S99) (r : List Int × Bool) : Prop := if netOk n l = true then ∃ x b, Ran n.toNat l x ∧ (∃ k, bfsL (tosL l) (adjL l n.toNat l.length) (flipL x.2.1) k (d0 n.toNat (n - 1)) [n - 1] = some b) ∧ r = (listOf (outB b), true) else r = ([], false)
def gcS (n : Int) (l : List S99) (r : List Int × Bool) : Prop := (-9223372036854775808 ≤ n ∧ n ≤ 9223372036854775807) ∧ (if netOk n l = true then ∃ x, Ran n.toNat (turnL n l) x ∧ r = (listOf (mostB n.toNat x.2.2), true) else r = ([], false))
/-- Both ways to the greatest cut lead to the same marks. -/
theorem same_most {n : Nat} {l : List S99} (hn : 2 ≤ n ∧ n ≤ 130) (hE : ∀ j, j < l.length → edgeOk n (l.getD j z99)) {x y : Int × List Int × List Int} {b : List Int} (hx : Ran n l x) (hy : Ran n (turnL n l) y) (hb : ∃ k, bfsL (tosL l) (adjL l n l.length) (flipL x.2.1) k (d0 n ((n : Int) - 1)) [(n : Int) - 1] = some b) : outB b = mostB n y.2.2 ∧ b.length = n := by
 have hE2 := turn_edges hn.2 hE
 have N := net_of n l hn.1 hE
 have N' := net_of n (turnL n l) hn.1 hE2
 obtain ⟨kx, hx⟩ := hx
 obtain ⟨ky, hy⟩ := hy
 obtain ⟨kb, hb⟩ := hb
 have TX := run_told N (by omega) (by omega) kx 0 (leftL l) x hx (flows_of n l hE)
 have TY := run_told N' (by omega) (by omega) ky 0 (leftL (turnL n l)) y hy (flows_of n (turnL n l) hE2)
 have LB := bfs_told N kb _ _ b hb (lev0 (o := (n : Int) - 1) N (by omega) (by omega)).1
 have T := turn_of hn.2 hE
 rw [turnL_len] at TY N'
 rw [turn_left hn.2 hE] at TY
 have h := turned N N' T TX.1 TX.2.1 TX.2.2 LB TY.1 TY.2.1 TY.2.2
 refine ⟨getD_ext false (by rw [outB_len, mostB_len, LB.len]) (fun j hj => ?_), LB.len⟩
 rw [outB_len, LB.len] at hj
 rw [outB_at b j (by rw [LB.len]; exact hj), mostB_at n y.2.2 j hj, decide_eq_decide]
 have := h (j : Int) (by omega) (by omega)
 rw [rd_def, Int.toNat_natCast] at this
 omega
/-- What newResidual leaves is a residual network as run needs it. -/
theorem obj_ofI {n : Nat} {l : List S99} {w' : World} {b p gf cf : Nat} {vT vL : Value} (hb : w'.heap[p]? = some (.cells #[.slice (some ⟨gf, 0, none⟩) n cf, vT, vL, .slice none 0 0, .slice none 0 0] 195 (0, 0)))
  (hT : Kd.R (Kd.int .i64) 3 w' b (fun k => k ≠ p ∧ some k ≠ vL.ownBlock) vT (tosL l)) (hL : Kd.R (Kd.int .i64) 3 w' b (fun k => k ≠ p ∧ some k ≠ vT.ownBlock) vL (leftL l)) (hS : Kd.S kRows 24 w' b (fun k => (k ≠ p ∧ some k ≠ vL.ownBlock) ∧ some k ≠ vT.ownBlock) (.slice (some ⟨gf, 0, none⟩) n cf) (adjL l n l.length)) :
  ∃ (At Al : Option Addr) (ct cl : Nat), vT = .slice At (2 * l.length) ct ∧ vL = .slice Al (2 * l.length) cl ∧ IObj w' p n (2 * l.length) ⟨gf, 0, none⟩ At Al cf ct cl (adjL l n l.length) (tosL l) ∧ Kd.R (Kd.int .i64) 3 w' 0 (fun k => some k = (Value.slice Al (2 * l.length) cl).ownBlock) (.slice Al (2 * l.length) cl) (leftL l) := by
 obtain ⟨At, ct, rfl⟩ := Kd.R_slice hT
 obtain ⟨Al, cl, rfl⟩ := Kd.R_slice hL
 rw [tosL_len] at hT hb hL hS ⊢
 rw [leftL_len] at hT hb hL hS ⊢
 refine ⟨At, Al, ct, cl, rfl, rfl, ⟨?_, ?_, ⟨(Kd.S_reads' hS).2.1, (Kd.R_reads' hT).2.1⟩, ?_, blk_lt hb⟩, Kd.R_lower (Kd.R_mono (Kd.R_tight rfl hL) (fun k hk => hk)) (Nat.zero_le _)⟩
 ·intro W hk
  have h := (Kd.S_reads' (Kd.S_kept hS hk (fun k h1 h2 => h2.elim (fun e => h1.1.1 e) (fun e => h1.1.2 e)))).2.2
  rwa [adjL_len] at h
 ·intro W hk
  have h := (Kd.R_reads' (Kd.R_kept hT hk (fun k h1 h2 => h2.elim (fun e => h1.1 e) (fun e => h1.2 e)))).2.2
  rwa [tosL_len] at h
 ·intro e
  exact (hL.1 p e.symm).1 rfl
set_option maxRecDepth 100000 in
theorem own_spec (n : Int) (A1 : Option Addr) (c1 : Nat) (l : List S99) (g0 : List Int) (g1 : Bool) (w : World)
  (h1 : Kd.C k99 w A1 l.length l) (e1 : l.length ≤ c1) (ll : l.length ≤ 1048576) (h : gcS n l (g0, g1)) :
  Calls Try.prog 71 #[.int .i64 n, .slice A1 l.length c1] w fun e w' => ∃ v : Value, e = .returned (.tuple #[v, .bool g1]) ∧ Kd.R (Kd.int .i64) 3 w' w.heap.size (fun _ => True) v g0 ∧ Below w.heap.size w w' := by
 obtain ⟨k, hk⟩ := (mfGood_ev n h.1 l (maxLen_val (by omega))).rounds
 have hh := h.2
 have H1 := Aside0.mk h1
 have E1 := Aside0.mk e1
 have HK := Aside0.mk hk
 clear h1 e1 hk h ll
 cases hn : netOk n l with
 | false =>
  rw [if_neg (by rw [hn]; decide)] at hh
  injection hh with hr0 hr1
  subst hr0 hr1
  have HN := Aside0.mk hn
  clear hn
  go_enter Try.func71, Try.ntmps71
  go_wp2_with fail
  refine (spec_mfGood.calls k n A1 c1 l false w H1.out E1.out (by rw [← HN.out]; exact HK.out)).mono ?_
  rintro e w1 ⟨rfl, hb⟩
  have B1 := Aside0.mk hb
  clear hb
  go_wp2_with fail
  go_ret2
  exact ⟨_, rfl, Kd.R_nil _ _ _ _ _, B1.out⟩
 | true =>
  rw [if_pos hn] at hh
  obtain ⟨x, hx, hr⟩ := hh
  injection hr with hr0 hr1
  subst hr0 hr1
  obtain ⟨m, rfl⟩ : ∃ m : Nat, n = (m : Int) := ⟨n.toNat, by have := netOk_iff.1 hn; omega⟩
  rw [Int.toNat_natCast] at hx ⊢
  have HN := Aside0.mk hn
  have HX := Aside0.mk hx
  have HE := Aside0.mk (edges_ok hn)
  clear hn hx
  go_enter Try.func71, Try.ntmps71
  go_wp2_with fail
  refine (spec_mfGood.calls k (m : Int) A1 c1 l true w H1.out E1.out (by rw [← HN.out]; exact HK.out)).mono ?_
  rintro e w1 ⟨rfl, hb⟩
  have B1 := Aside0.mk hb
  clear hb
  go_wp2_with fail
  refine (most_calls m A1 c1 l w1 (Kd.C_below H1.out B1.out) E1.out HE.out.1 HE.out.2.1 HE.out.2.2 x HX.out).mono ?_
  rintro e w2 ⟨v, rfl, hv, hb⟩
  have B2 := Aside0.mk (below_step B1.out hb)
  have HV := Aside0.mk (Kd.R_lower hv B1.out.size)
  clear hb hv
  go_wp2_with fail
  go_ret2
  exact ⟨_, rfl, HV.out, B2.out⟩
set_option maxRecDepth 100000 in
theorem own_impl (n : Int) (A1 : Option Addr) (c1 : Nat) (l : List S99) (g0 : List Int) (g1 : Bool) (w : World)
  (h1 : Kd.C k99 w A1 l.length l) (e1 : l.length ≤ c1) (ll : l.length ≤ 1048576) (h : gcR n l (g0, g1)) :
  Calls Try.prog 69 #[.int .i64 n, .slice A1 l.length c1] w fun e w' => ∃ v : Value, e = .returned (.tuple #[v, .bool g1]) ∧ Kd.R (Kd.int .i64) 3 w' w.heap.size (fun _ => True) v g0 ∧ Below w.heap.size w w' := by
 obtain ⟨k, hk⟩ := (IsNetwork_ev n l (maxLen_val (by omega))).rounds
 have hh := h
 have H1 := Aside0.mk h1
 have E1 := Aside0.mk e1
 have HK := Aside0.mk hk
 unfold gcR at hh
 clear h1 e1 hk h ll
 cases hn : netOk n l with
 | false =>
  rw [if_neg (by rw [hn]; decide)] at hh
  injection hh with hr0 hr1
  subst hr0 hr1
  have HN := Aside0.mk hn
  clear hn
  go_enter Try.func69, Try.ntmps69
  go_wp2_with fail
  refine (impl_IsNetwork.calls k n A1 c1 l false w H1.out E1.out (by rw [← HN.out]; exact HK.out)).mono ?_
  rintro e w1 ⟨rfl, hb⟩
  have B1 := Aside0.mk hb
  clear hb
  go_wp2_with fail
  go_ret2
  exact ⟨_, rfl, Kd.R_nil _ _ _ _ _, B1.out⟩
 | true =>
  rw [if_pos hn] at hh
  obtain ⟨x, b, ⟨kx, hx⟩, ⟨kb, hb⟩, hr⟩ := hh
  injection hr with hr0 hr1
  subst hr0 hr1
  obtain ⟨m, rfl⟩ : ∃ m : Nat, n = (m : Int) := ⟨n.toNat, by have := netOk_iff.1 hn; omega⟩
  rw [Int.toNat_natCast] at hx hb
  have HE := Aside0.mk (edges_ok hn)
  have hx2 : runL m (tosL l) (adjL l m l.length) ((m : Int) - 1) 1152921504606846976 kx 0 (leftL l) = some x := by
   rw [run_big (net_of m l HE.out.1.1 HE.out.2.2) (by have := HE.out.1; omega) 1152921504606846976 1125899906842624 (by omega) (by omega) kx 0 (leftL l) (flows_of m l HE.out.2.2)]
   exact hx
  have NN := Aside0.mk (net_of m l HE.out.1.1 HE.out.2.2)
  have hT := run_told NN.out (by have := HE.out.1; omega) (by omega) kx 0 (leftL l) x hx2 (flows_of m l HE.out.2.2)
  have HGD := Aside0.mk hT.1.good
  have LB := bfs_told NN.out kb _ _ b hb (lev0 (o := (m : Int) - 1) NN.out (by have := HE.out.1; omega) (by omega)).1
  have HBL := Aside0.mk LB.len
  have HN := Aside0.mk hn
  have HX := Aside0.mk hx2
  have HBF := Aside0.mk hb
  clear hn hx hx2 hb LB hT
  go_enter Try.func69, Try.ntmps69
  go_wp2_with fail
  refine (impl_IsNetwork.calls k (m : Int) A1 c1 l true w H1.out E1.out (by rw [← HN.out]; exact HK.out)).mono ?_
  rintro e w1 ⟨rfl, hb⟩
  have B1 := Aside0.mk hb
  clear hb
  go_wp2_with fail
  refine (OwnStartI.start_callsI m A1 c1 l w1 (Kd.C_below H1.out B1.out) E1.out HE.out.1 HE.out.2.1 HE.out.2.2).mono ?_
  rintro e w2 ⟨p, gf, cf, vT, vL, rfl, hpw, hb, hT, hL, hS, hB⟩
  obtain ⟨At, Al, ct, cl, rfl, rfl, hO, hR⟩ := obj_ofI hb hT hL hS
  have B2 := Aside0.mk (below_step B1.out hB)
  have HO := Aside0.mk hO
  have HR := Aside0.mk hR
  have HBK := Aside0.mk hb
  have HBB := Aside0.mk (Kd.R_base hL)
  have HPB := Aside0.mk (show w.heap.size ≤ p from Nat.le_trans B1.out.size hpw)
  clear hb hT hL hS hB hO hR hpw
  go_wp2_with fail
  refine (run_callsI NN.out HE.out.1.2 HE.out.2.1 rfl HO.out HBK.out HR.out (flows_of m l HE.out.2.2) kx x HX.out).mono ?_
  rintro e w3 ⟨rfl, hk3, ⟨vV, vX, hbk⟩, hr3⟩
  have B3 := Aside0.mk (Kp.whole B2.out hk3 (fun k hk => hk.elim (fun e => by rw [e]; exact HPB.out) (fun e => Nat.le_trans (B1.out.size) (HBB.out k e.symm))))
  have HK3 := Aside0.mk hk3
  have HBK3 := Aside0.mk hbk
  have HR3 := Aside0.mk hr3
  have HPL3 := Aside0.mk (blk_lt hbk)
  have HW3 := Aside0.mk B3.out.size
  clear hk3 hbk hr3
  go_wp2_with (first | ((with_reducible refine gate_dst (N := 19) rfl ?_); refine Kd.R_lit (Kd.int .i64) _ 3 ?hg (N := 19) ?hd (xs := ([] : List Int)) (inner := []) (ok := fun _ => True) (okp := fun _ => True) ?hr ?hp (fun _ hk => hk) trivial (Below.refl _ _) (Nat.le_refl _) (by simp) ?_; (case hd => rfl); (case hg => rfl); (case hr => first | (go_simp; done) | (go_simp; rfl)); (case hp => exact (Reps.none _ _)); intro v0 w4 ho hb hg_ hnew_; clear hg_ hnew_; have n0_ := Aside0.mk (HK3.out.below hb); have n1_ := Aside0.mk (blk_below HBK3.out hb); have n2_ := Aside0.mk (Kd.R_below HR3.out hb); have n3_ := Aside0.mk (below_step B3.out hb); have n4_ := Aside0.mk (Kd.R_bound ho); clear HK3 HBK3 HR3 B3; have HK3 := n0_; have HBK3 := n1_; have HR3 := n2_; have B3 := n3_; have HO4 := n4_; clear n0_ n1_ n2_ n3_ n4_ ho hb))
  refine (sink_calls NN.out HE.out.1.2 HE.out.2.1 rfl HGD.out HBK3.out (fun W hW => HO.out.E W (HK3.out.1.then_ hW (fun k hk => Or.inl (Or.inl hk)))) (fun W hW => HO.out.T W (HK3.out.1.then_ hW (fun k hk => Or.inl (Or.inl hk)))) (fun W hW => by have h := Kd.C_kept_own HR3.out (fun k hk e => HO.out.sep (by rw [← e]; exact hk)) W hW; exact h) kb b HBF.out).mono ?_
  rintro e w5 ⟨gi, ci, rfl, hI, hBk, hKp⟩
  have B5 := Aside0.mk (Kp.whole B3.out hKp (fun k hk => by rw [hk]; exact HPB.out))
  have n0_ : Aside0 (Kd.R (Kd.int .i64) 3 w5 w.heap.size (fun k => k ≠ gi) v0 []) := ⟨by
   have h := Kd.R_kept HO4.out hKp.1 (fun k hk e => by have := hk.2.1; have := HPL3.out; omega)
   exact Kd.R_lower (Kd.R_mono h (fun k hk => by have := hk.2.2.1; have := Kd.R_base hI gi rfl; omega)) HW3.out⟩
  have HI := Aside0.mk (Kd.R_lower hI B3.out.size)
  have HIL := Aside0.mk (show (inB b).length = m by rw [inB_len]; exact HBL.out)
  clear hI hBk hKp HO4
  have HO4 := n0_
  clear n0_
  go_wp2_with fail
  go_loopg [7, 23] (m) (fun q v7 v23 wr => ∃ (i : Int), v23 = .int .i64 i ∧ Aside0 (0 ≤ i ∧ i + q = m) ∧ Aside0 (Kd.R Kd.bool 4 wr w.heap.size (fun k => k = gi ∧ some k ≠ v7.ownBlock) (.slice (some ⟨gi, 0, none⟩) m ci) (inB b)) ∧ Aside0 (Kd.R (Kd.int .i64) 3 wr w.heap.size (fun k => k ≠ gi) v7 (foldR (putAt (outB b)) 0 i.toNat [])) ∧ Aside0 (Below w.heap.size w wr))
  case atStart => exact ⟨0, rfl, ⟨by omega⟩, ⟨Kd.R_mono HI.out (fun k hk => ⟨hk, by rw [hk]; exact Kd.R_away HO4.out (fun _ h => h)⟩)⟩, ⟨by rw [show (0 : Int).toNat = 0 from rfl, foldR_end (Nat.le_refl _)]; exact HO4.out⟩, B5⟩
  case round =>
   clear HI HO4 B5
   obtain ⟨i, rfl, HII, HI, HO4, HB⟩ := hrel
   have hi := HII.out
   cases gk with
   | zero =>
    have t1 : decide (i < (m : Int)) = false := decide_eq_false (by omega)
    have ei : i.toNat = m := by omega
    rw [ei] at HO4
    clear hi ei
    go_wp2_with fail
    go_ret2
    exact ⟨_, rfl, Kd.R_mono (by unfold listOf; rw [outB_len, HBL.out]; exact HO4.out) (fun _ _ => trivial), HB.out⟩
   | succ q =>
    have t1 : decide (i < (m : Int)) = true := decide_eq_true (by omega)
    have q0 := eq_true hi.1
    have q1 := eq_true (show i < (m : Int) by omega)
    obtain ⟨hci, hfi⟩ := Kd.R_celln false HI.out i hi.1 (by omega)
    rw [inB_at b i hi.1 (by rw [HBL.out]; omega)] at hci
    have hout : (outB b).getD i.toNat false = decide (rd b i < 0) := outB_at b i.toNat (by rw [HBL.out]; omega)
    have HOUT := Aside0.mk hout
    have HLN := Aside0.mk (putAt_len (m := outB b) i.toNat)
    have hi130 : i ≤ 130 := by have := HE.out.1; omega
    have HI130 := Aside0.mk hi130
    obtain ⟨A6, c6, e6⟩ := Kd.R_slice HO4.out
    obtain ⟨m6, em6⟩ : ∃ z, z = (foldR (putAt (outB b)) 0 i.toNat []).length := ⟨_, rfl⟩
    rw [← em6] at e6
    subst e6
    clear hi em6 hi130 hout
    by_cases z : 0 ≤ rd b i
    ·have t2 : decide (0 ≤ rd b i) = true := decide_eq_true z
     rw [t2] at hci
     have Z := Aside0.mk z
     clear z t2
     go_wp2_with fail
     go_roundg q
     case measure => omega
     case rel =>
      have hi := HII.out
      have h130 := HI130.out
      refine ⟨i + 1, by rw [w64 (by omega) (by omega)], ⟨by omega⟩, HI, ⟨?_⟩, HB⟩
      rw [show (i + 1).toNat = i.toNat + 1 by omega, foldR_last (Nat.zero_le _)]
      rw [show putAt (outB b) (foldR (putAt (outB b)) 0 i.toNat []) i.toNat = foldR (putAt (outB b)) 0 i.toNat [] from by unfold putAt; rw [HOUT.out, if_neg]; rw [decide_eq_false (by have := Z.out; omega)]; decide]
      exact HO4.out
    ·have t2 : decide (0 ≤ rd b i) = false := decide_eq_false z
     rw [t2] at hci
     have Z := Aside0.mk z
     clear z t2
     go_wp2_with (first | ((with_reducible refine gate_builtin (b := .append) (xs := #[.tmp 30, .tmp 32]) rfl ?_); at_builtin; refine Kd.R_append (Kd.int .i64) (w0 := w) w.heap.size rfl (.tmp 30) (.tmp 32) 24 3 (.int .i64 0) 8 rfl Try.underlying24 inf3 rfl (by decide) (by omega) (.slice A6 m6 c6) (foldR (putAt (outB b)) 0 i.toNat []) i [.int .i64 i] (fun k => k ≠ gi) (fun _ => False) rfl rfl ?aP (fun _ hk => hk.elim) ?aF ?aO ?aB ?aS ?aL ?_; (case aP => exact rfl); (case aB => exact HB.out); (case aF => exact (fun k hk => by have h1_ := Kd.R_lt HI.out gi rfl; omega)); (case aO => exact HO4.out); (case aS => exact (below_size HB.out)); (case aL => have h1_ := HLN.out; have h2_ := HI130.out; omega); intro v229 w10 ho hb hg hat; have n0_ := Aside0.mk hb; have n1_ := Aside0.mk ho; have n2_ := Aside0.mk (Kd.R_after HI.out hg hat); clear HB HO4 HI; have HB := n0_; have HO4 := n1_; have HI := n2_; clear n0_ n1_ n2_; clear ho hb hg hat hci hfi))
     go_roundg q
     case measure => omega
     case rel =>
      have hi := HII.out
      have h130 := HI130.out
      refine ⟨i + 1, by rw [w64 (by omega) (by omega)], ⟨by omega⟩, HI, ⟨?_⟩, HB⟩
      rw [show (i + 1).toNat = i.toNat + 1 by omega, foldR_last (Nat.zero_le _)]
      rw [show putAt (outB b) (foldR (putAt (outB b)) 0 i.toNat []) i.toNat = foldR (putAt (outB b)) 0 i.toNat [] ++ [i] from by unfold putAt; rw [HOUT.out, if_pos (decide_eq_true (by have := Z.out; omega)), show ((i.toNat : Nat) : Int) = i by omega]]
      exact HO4.out
end Go.Proofs.Ytomfjhpiemipkaa.OwnGreatestCut
