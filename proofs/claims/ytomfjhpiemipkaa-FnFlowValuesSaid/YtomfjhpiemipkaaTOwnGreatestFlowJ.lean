/- Texts of this claim put together in one file. -/
import Derived.Test.YtomfjhpiemipkaaTOwnValue
import Derived.Test.YtomfjhpiemipkaaTOwnStartI
import Derived.Test.YtomfjhpiemipkaaTOwnRunI
import Derived.Test.YtomfjhpiemipkaaTMFnFlowValuesx0
import Derived.Test.YtomfjhpiemipkaaTBaseJ
import Derived.Test.YtomfjhpiemipkaaTOwnLeast
section
/- The contracts of impl.GreatestFlow and spec.GreatestFlow by hand. -/
-- OWN impl gfR %s %s
-- OWN spec gfS %s %s
namespace Go.Proofs.Ytomfjhpiemipkaa.OwnGreatestFlow
open Go.RowKit Go.Proofs.Ytomfjhpiemipkaa.PFnFlowValues Go.Proofs.YtomfjhpiemipkaaW.PrintWords Go.Proofs.YtomfjhpiemipkaaW.PrintLast Go.Proofs.YtomfjhpiemipkaaW.PrintMore Go.Proofs.Ytomfjhpiemipkaa.B Go.Proofs.Ytomfjhpiemipkaa.Flow Go.Proofs.Ytomfjhpiemipkaa.OwnPush Go.Proofs.Ytomfjhpiemipkaa.OwnLevels Go.Proofs.Ytomfjhpiemipkaa.OwnRun Go.Proofs.Ytomfjhpiemipkaa.OwnRows Go.Proofs.Ytomfjhpiemipkaa.OwnNet Go.Proofs.Ytomfjhpiemipkaa.OwnValue Go.Proofs.Ytomfjhpiemipkaa.OwnRunI
set_option linter.unusedVariables false
set_option linter.unusedSimpArgs false
def okE (n : Int) (e : S99) : Bool := decide (0 ≤ e.f0 ∧ e.f0 < n ∧ 0 ≤ e.f1 ∧ e.f1 < n ∧ 0 ≤ e.f2 ∧ e.f2 ≤ 1000000000)
def netOk (n : Int) (l : List S99) : Bool := decide (2 ≤ n ∧ n ≤ 130 ∧ l.length ≤ 2000) && allR (fun j => okE n (l.getD j z99)) 0 l.length
theorem rdE (l : List S99) (i : Nat) : rd_T99 l (i : Int) = l.getD i z99 := by unfold rd_T99; rw [toNat_nat]
theorem netOk_iff {n : Int} {l : List S99} : netOk n l = true ↔ 2 ≤ n ∧ n ≤ 130 ∧ l.length ≤ 2000 ∧ ∀ j, j < l.length → okE n (l.getD j z99) = true := by
  unfold netOk
  rw [Bool.and_eq_true, decide_eq_true_eq, allR_iff]
  exact ⟨fun h => ⟨h.1.1, h.1.2.1, h.1.2.2, fun j hj => h.2 j (Nat.zero_le _) hj⟩, fun h => ⟨⟨h.1, h.2.1, h.2.2.1⟩, fun j _ hj => h.2.2.2 j hj⟩⟩
theorem okE_iff {n : Int} {e : S99} : okE n e = true ↔ 0 ≤ e.f0 ∧ e.f0 < n ∧ 0 ≤ e.f1 ∧ e.f1 < n ∧ 0 ≤ e.f2 ∧ e.f2 ≤ 1000000000 := by
  unfold okE; rw [decide_eq_true_eq]
def cutTerm (m : List Bool) (e : S99) : Int := if at_ m e.f0 = true then (if at_ m e.f1 = true then 0 else e.f2) else 0
def cutAt (m : List Bool) (l : List S99) (s : Int) (j : Nat) : Int := s + cutTerm m (l.getD j z99)
def cutSum (m : List Bool) (l : List S99) : Int := foldR (cutAt m l) 0 l.length 0
theorem cutTerm_bd {n : Int} {m : List Bool} {e : S99} (h : okE n e = true) : 0 ≤ cutTerm m e ∧ cutTerm m e ≤ 1000000000 := by
  rw [okE_iff] at h
  unfold cutTerm
  split
  · split <;> omega
  · omega
theorem cutAt_bd {n : Int} {m : List Bool} {l : List S99} (h : ∀ j, j < l.length → okE n (l.getD j z99) = true) (i : Nat) (hi : i ≤ l.length) : 0 ≤ foldR (cutAt m l) 0 i 0 ∧ foldR (cutAt m l) 0 i 0 ≤ 1000000000 * (i : Int) := by
  induction i with
  | zero => rw [foldR_end (Nat.le_refl _)]; omega
  | succ i ih =>
    have ih := ih (by omega)
    rw [foldR_last (Nat.zero_le _)]
    have := cutTerm_bd (m := m) (h i (by omega))
    unfold cutAt at *
    omega
def cutOk (n : Nat) (l : List Int) : Bool := asc l n && (at_ (mk n l) 0 && !(at_ (mk n l) ((n : Int) - 1)))
theorem IsNetwork_l0 (n : Int) (l : List S99) (hl : l.length ≤ maxLen) : ∀ (d i : Nat), i + d = l.length →
    Ev (fun k => impl_IsNetwork.l0 k n l (l.length : Int) (i : Int)) (allR (fun j => okE n (l.getD j z99)) i l.length) := by
  have hl := maxLen_le hl
  intro d
  induction d with
  | zero =>
    intro i hi
    exact Ev.step (fun k => impl_IsNetwork.l0.eq_2 n l l.length i k) (ev_neg (by omega) (ev_some (allR_end (by omega)).symm))
  | succ d ih =>
    intro i hi
    refine Ev.step (fun k => impl_IsNetwork.l0.eq_2 n l l.length i k) ?_
    have hx : rd_T99 l (i : Int) = l.getD i z99 := by unfold rd_T99; rw [toNat_nat]
    rw [allR_step (by omega), w_succ (n := l.length) (by omega) (by omega), hx]
    generalize l.getD i z99 = e
    have no : ¬ (0 ≤ e.f0 ∧ e.f0 < n ∧ 0 ≤ e.f1 ∧ e.f1 < n ∧ 0 ≤ e.f2 ∧ e.f2 ≤ 1000000000) → false = (okE n e && allR (fun j => okE n (l.getD j z99)) (i + 1) l.length) := by
      intro h
      rw [show okE n e = false from decide_eq_false h, Bool.false_and]
    refine ev_pos (by omega) (ev_pos (by omega) (ev_pos (by omega) ?_))
    refine ev_ite (fun h => ev_some (no (by omega))) (fun h0 => ?_)
    refine ev_ite (fun h => ev_some (no (by omega))) (fun h1 => ?_)
    refine ev_ite (fun h => ev_some (no (by omega))) (fun h2 => ?_)
    refine ev_ite (fun h => ev_some (no (by omega))) (fun h3 => ?_)
    refine ev_ite (fun h => ev_some (no (by omega))) (fun h4 => ?_)
    refine ev_ite (fun h => ev_some (no (by omega))) (fun h5 => ?_)
    rw [show okE n e = true from decide_eq_true (by omega), Bool.true_and]
    exact ih (i + 1) (by omega)
theorem IsNetwork_ev (n : Int) (l : List S99) (hl : l.length ≤ maxLen) : Ev (fun k => impl_IsNetwork.f k n l) (netOk n l) := by
  unfold impl_IsNetwork.f netOk
  have no : ¬ (2 ≤ n ∧ n ≤ 130 ∧ l.length ≤ 2000) → false = (decide (2 ≤ n ∧ n ≤ 130 ∧ l.length ≤ 2000) && allR (fun j => okE n (l.getD j z99)) 0 l.length) := by
    intro h; rw [decide_eq_false h, Bool.false_and]
  refine ev_ite (fun h => Ev.step (fun k => impl_IsNetwork.j0.eq_2 n l true k) (ev_pos rfl (ev_some (no (by omega))))) (fun h => ?_)
  refine ev_ite (fun h => Ev.step (fun k => impl_IsNetwork.j0.eq_2 n l true k) (ev_pos rfl (ev_some (no (by omega))))) (fun h1 => ?_)
  refine Ev.step (fun k => impl_IsNetwork.j0.eq_2 n l _ k) (ev_ite (fun h2 => ev_some (no ?_)) (fun h2 => ?_))
  · simp only [decide_eq_true_eq] at h2; omega
  · simp only [decide_eq_true_eq] at h2
    rw [decide_eq_true (by omega), Bool.true_and]; exact IsNetwork_l0 n l hl l.length 0 (by omega)
theorem l1In_eq (a b c : Int) : spec_l1In.f a b c = some (decide (b ≤ a ∧ a ≤ c)) := by
  unfold spec_l1In.f
  by_cases h : a ≥ b
  · rw [if_pos h]; simp [show b ≤ a from h]
  · rw [if_neg h]; simp [show ¬ b ≤ a from h]
theorem mfGood_l0 (n : Int) (hn : -9223372036854775808 ≤ n ∧ n ≤ 9223372036854775807) (l : List S99) (hl : l.length ≤ maxLen) : ∀ (d i : Nat), i + d = l.length →
    Ev (fun k => spec_mfGood.l0 k n l l (l.length : Int) (i : Int)) (decide (2 ≤ n ∧ n ≤ 130 ∧ l.length ≤ 2000) && allR (fun j => okE n (l.getD j z99)) i l.length) := by
  have hl := maxLen_le hl
  intro d
  induction d with
  | zero =>
    intro i hi
    refine Ev.step (fun k => spec_mfGood.l0.eq_2 n l l l.length i k) (ev_neg (by omega) (ev_bindc (l1In_eq _ _ _) (ev_ite (fun h => ev_some ?_) (fun h => ev_some ?_))))
    · rw [allR_end (by omega), Bool.and_true, decide_eq_decide]; simp only [decide_eq_true_eq] at h; omega
    · simp only [decide_eq_true_eq] at h; rw [decide_eq_false (by omega), Bool.false_and]
  | succ d ih =>
    intro i hi
    refine Ev.step (fun k => spec_mfGood.l0.eq_2 n l l l.length i k) ?_
    have hx : rd_T99 l (i : Int) = l.getD i z99 := by unfold rd_T99; rw [toNat_nat]
    rw [allR_step (by omega), w_succ (n := l.length) (by omega) (by omega), hx]
    generalize l.getD i z99 = e
    have no : (¬ (2 ≤ n ∧ n ≤ 130) ∨ okE n e = false) → false = (decide (2 ≤ n ∧ n ≤ 130 ∧ l.length ≤ 2000) && (okE n e && allR (fun j => okE n (l.getD j z99)) (i + 1) l.length)) := by
      rintro (h | h)
      · rw [decide_eq_false (by omega), Bool.false_and]
      · rw [h, Bool.false_and, Bool.and_false]
    by_cases hn0 : n = -9223372036854775808
    · subst hn0
      have hw : wrap64 (-9223372036854775808 - 1) = 9223372036854775807 := by unfold wrap64; omega
      have fin : Ev (fun k => spec_mfGood.l0 k (-9223372036854775808) l l (l.length : Int) ((i + 1 : Nat) : Int)) false := by
        have := ih (i + 1) (by omega)
        rwa [decide_eq_false (by omega), Bool.false_and] at this
      rw [hw]
      refine ev_pos (by omega) (ev_pos (by omega) (ev_pos (by omega) (ev_bindc (l1In_eq _ _ _) (ev_eq (no (.inl (by omega))) ?_))))
      refine ev_ite (fun h => ?_) (fun _ => ev_some rfl)
      refine ev_bindc (l1In_eq _ _ _) (ev_ite (fun h => ?_) (fun _ => ev_some rfl))
      exact ev_bindc (l1In_eq _ _ _) (ev_ite (fun h => fin) (fun _ => ev_some rfl))
    · rw [w64 (x := n - 1) (by omega) (by omega)]
      refine ev_pos (by omega) (ev_pos (by omega) (ev_pos (by omega) (ev_bindc (l1In_eq _ _ _) ?_)))
      refine ev_ite (fun h => ?_) (fun h => ev_some (no (.inr (by unfold okE; simp only [decide_eq_true_eq] at h; simp only [decide_eq_false_iff_not]; omega))))
      refine ev_bindc (l1In_eq _ _ _) (ev_ite (fun h1 => ?_) (fun h1 => ev_some (no (.inr (by unfold okE; simp only [decide_eq_true_eq] at h1; simp only [decide_eq_false_iff_not]; omega)))))
      refine ev_bindc (l1In_eq _ _ _) (ev_ite (fun h2 => ?_) (fun h2 => ev_some (no (.inr (by unfold okE; simp only [decide_eq_true_eq] at h2; simp only [decide_eq_false_iff_not]; omega)))))
      simp only [decide_eq_true_eq] at h h1 h2
      have : okE n e = true := by unfold okE; simp only [decide_eq_true_eq]; omega
      rw [this, Bool.true_and]; exact ih (i + 1) (by omega)
theorem mfGood_ev (n : Int) (hn : -9223372036854775808 ≤ n ∧ n ≤ 9223372036854775807) (l : List S99) (hl : l.length ≤ maxLen) : Ev (fun k => spec_mfGood.f k n l) (netOk n l) := by
  unfold spec_mfGood.f netOk
  exact mfGood_l0 n hn l hl l.length 0 (by omega)
theorem edges_ok {n : Nat} {l : List S99} (h : netOk (n : Int) l = true) : (2 ≤ n ∧ n ≤ 130) ∧ l.length ≤ 8000 ∧ ∀ j, j < l.length → edgeOk n (l.getD j z99) := by
  have hN := netOk_iff.1 h
  exact ⟨by omega, (by have := hN.2.2.1; omega), fun j hj => okE_iff.1 (hN.2.2.2 j hj)⟩
def gfR (n : Int) (l : List S99) (r : Int × Bool) : Prop := if netOk n l = true then ∃ x, Ran n.toNat l x ∧ r = (x.1, true) else r = (0, false)
def gfS (n : Int) (l : List S99) (r : Int × Bool) : Prop := (-9223372036854775808 ≤ n ∧ n ≤ 9223372036854775807) ∧ gfR n l r
/-- What newResidual leaves is a residual network as run needs it. -/
theorem obj_ofI {n : Nat} {l : List S99} {w' : World} {b p gf cf : Nat} {vT vL : Value} (hb : w'.heap[p]? = some (.cells #[.slice (some ⟨gf, 0, none⟩) n cf, vT, vL, .slice none 0 0, .slice none 0 0] 195 (0, 0)))
    (hT : Kd.R (Kd.int .i64) 3 w' b (fun k => k ≠ p ∧ some k ≠ vL.ownBlock) vT (tosL l)) (hL : Kd.R (Kd.int .i64) 3 w' b (fun k => k ≠ p ∧ some k ≠ vT.ownBlock) vL (leftL l)) (hS : Kd.S kRows 24 w' b (fun k => (k ≠ p ∧ some k ≠ vL.ownBlock) ∧ some k ≠ vT.ownBlock) (.slice (some ⟨gf, 0, none⟩) n cf) (adjL l n l.length)) :
    ∃ (At Al : Option Addr) (ct cl : Nat), vT = .slice At (2 * l.length) ct ∧ vL = .slice Al (2 * l.length) cl ∧ IObj w' p n (2 * l.length) ⟨gf, 0, none⟩ At Al cf ct cl (adjL l n l.length) (tosL l) ∧ Kd.R (Kd.int .i64) 3 w' 0 (fun k => some k = (Value.slice Al (2 * l.length) cl).ownBlock) (.slice Al (2 * l.length) cl) (leftL l) := by
  obtain ⟨At, ct, rfl⟩ := Kd.R_slice hT
  obtain ⟨Al, cl, rfl⟩ := Kd.R_slice hL
  rw [tosL_len] at hT hb hL hS ⊢
  rw [leftL_len] at hT hb hL hS ⊢
  refine ⟨At, Al, ct, cl, rfl, rfl, ⟨?_, ?_, ⟨(Kd.S_reads' hS).2.1, (Kd.R_reads' hT).2.1⟩, ?_, blk_lt hb⟩, Kd.R_lower (Kd.R_mono (Kd.R_tight rfl hL) (fun k hk => hk)) (Nat.zero_le _)⟩
  · intro W hk
    have h := (Kd.S_reads' (Kd.S_kept hS hk (fun k h1 h2 => h2.elim (fun e => h1.1.1 e) (fun e => h1.1.2 e)))).2.2
    rwa [adjL_len] at h
  · intro W hk
    have h := (Kd.R_reads' (Kd.R_kept hT hk (fun k h1 h2 => h2.elim (fun e => h1.1 e) (fun e => h1.2 e)))).2.2
    rwa [tosL_len] at h
  · intro e
    exact (hL.1 p e.symm).1 rfl
set_option maxRecDepth 100000 in
theorem own_spec (n : Int) (A1 : Option Addr) (c1 : Nat) (l : List S99) (g0 : Int) (g1 : Bool) (w : World)
    (h1 : Kd.C k99 w A1 l.length l) (e1 : l.length ≤ c1) (ll : l.length ≤ 1048576) (h : gfS n l (g0, g1)) :
    Calls Try.prog 73 #[.int .i64 n, .slice A1 l.length c1] w fun e w' => e = .returned (.tuple #[.int .i64 g0, .bool g1]) ∧ Below w.heap.size w w' := by
  obtain ⟨k, hk⟩ := (mfGood_ev n h.1 l (maxLen_val (by omega))).rounds
  have hh := h.2
  have H1 := Aside0.mk h1
  have E1 := Aside0.mk e1
  have HK := Aside0.mk hk
  unfold gfR at hh
  clear h1 e1 hk h ll
  cases hn : netOk n l with
  | false =>
    rw [if_neg (by rw [hn]; decide)] at hh
    injection hh with hr0 hr1
    subst hr0 hr1
    have HN := Aside0.mk hn
    clear hn
    go_enter Try.func73, Try.ntmps73
    go_wp2_with fail
    refine (spec_mfGood.calls k n A1 c1 l false w H1.out E1.out (by rw [← HN.out]; exact HK.out)).mono ?_
    rintro e w1 ⟨rfl, hb⟩
    have B1 := Aside0.mk hb
    clear hb
    go_wp2_with fail
    go_ret2
    exact ⟨rfl, B1.out⟩
  | true =>
    rw [if_pos hn] at hh
    obtain ⟨x, hx, hr⟩ := hh
    injection hr with hr0 hr1
    subst hr0 hr1
    obtain ⟨m, rfl⟩ : ∃ m : Nat, n = (m : Int) := ⟨n.toNat, by have := netOk_iff.1 hn; omega⟩
    rw [Int.toNat_natCast] at hx
    have HN := Aside0.mk hn
    have HX := Aside0.mk hx
    have HE := Aside0.mk (edges_ok hn)
    clear hn hx
    go_enter Try.func73, Try.ntmps73
    go_wp2_with fail
    refine (spec_mfGood.calls k (m : Int) A1 c1 l true w H1.out E1.out (by rw [← HN.out]; exact HK.out)).mono ?_
    rintro e w1 ⟨rfl, hb⟩
    have B1 := Aside0.mk hb
    clear hb
    go_wp2_with fail
    refine (value_calls m A1 c1 l w1 (Kd.C_below H1.out B1.out) E1.out HE.out.1 HE.out.2.1 HE.out.2.2 x HX.out).mono ?_
    rintro e w2 ⟨rfl, hb⟩
    have B2 := Aside0.mk (below_step B1.out hb)
    clear hb
    go_wp2_with fail
    go_ret2
    exact ⟨rfl, B2.out⟩
set_option maxRecDepth 100000 in
theorem own_impl (n : Int) (A1 : Option Addr) (c1 : Nat) (l : List S99) (g0 : Int) (g1 : Bool) (w : World)
    (h1 : Kd.C k99 w A1 l.length l) (e1 : l.length ≤ c1) (ll : l.length ≤ 1048576) (h : gfR n l (g0, g1)) :
    Calls Try.prog 67 #[.int .i64 n, .slice A1 l.length c1] w fun e w' => e = .returned (.tuple #[.int .i64 g0, .bool g1]) ∧ Below w.heap.size w w' := by
  obtain ⟨k, hk⟩ := (IsNetwork_ev n l (maxLen_val (by omega))).rounds
  have hh := h
  have H1 := Aside0.mk h1
  have E1 := Aside0.mk e1
  have HK := Aside0.mk hk
  unfold gfR at hh
  clear h1 e1 hk h ll
  cases hn : netOk n l with
  | false =>
    rw [if_neg (by rw [hn]; decide)] at hh
    injection hh with hr0 hr1
    subst hr0 hr1
    have HN := Aside0.mk hn
    clear hn
    go_enter Try.func67, Try.ntmps67
    go_wp2_with fail
    refine (impl_IsNetwork.calls k n A1 c1 l false w H1.out E1.out (by rw [← HN.out]; exact HK.out)).mono ?_
    rintro e w1 ⟨rfl, hb⟩
    have B1 := Aside0.mk hb
    clear hb
    go_wp2_with fail
    go_ret2
    exact ⟨rfl, B1.out⟩
  | true =>
    rw [if_pos hn] at hh
    obtain ⟨x, ⟨kx, hx⟩, hr⟩ := hh
    injection hr with hr0 hr1
    subst hr0 hr1
    obtain ⟨m, rfl⟩ : ∃ m : Nat, n = (m : Int) := ⟨n.toNat, by have := netOk_iff.1 hn; omega⟩
    rw [Int.toNat_natCast] at hx
    have HE := Aside0.mk (edges_ok hn)
    have hx2 : runL m (tosL l) (adjL l m l.length) ((m : Int) - 1) 1152921504606846976 kx 0 (leftL l) = some x := by
      rw [run_big (net_of m l HE.out.1.1 HE.out.2.2) (by have := HE.out.1; omega) 1152921504606846976 1125899906842624 (by omega) (by omega) kx 0 (leftL l) (flows_of m l HE.out.2.2)]
      exact hx
    have HN := Aside0.mk hn
    have HX := Aside0.mk hx2
    clear hn hx hx2
    go_enter Try.func67, Try.ntmps67
    go_wp2_with fail
    refine (impl_IsNetwork.calls k (m : Int) A1 c1 l true w H1.out E1.out (by rw [← HN.out]; exact HK.out)).mono ?_
    rintro e w1 ⟨rfl, hb⟩
    have B1 := Aside0.mk hb
    clear hb
    go_wp2_with fail
    refine (OwnStartI.start_callsI m A1 c1 l w1 (Kd.C_below H1.out B1.out) E1.out HE.out.1 HE.out.2.1 HE.out.2.2).mono ?_
    rintro e w2 ⟨p, gf, cf, vT, vL, rfl, hpw, hb, hT, hL, hS, hB⟩
    obtain ⟨At, Al, ct, cl, rfl, rfl, hO, hR⟩ := obj_ofI hb hT hL hS
    have B2 := Aside0.mk (below_step B1.out hB)
    have HO := Aside0.mk hO
    have HR := Aside0.mk hR
    have HBK := Aside0.mk hb
    have HBL := Aside0.mk (Kd.R_base hL)
    have HPB := Aside0.mk (show w.heap.size ≤ p from Nat.le_trans B1.out.size hpw)
    clear hb hT hL hS hB hO hR hpw
    go_wp2_with fail
    refine (run_callsI (net_of m l HE.out.1.1 HE.out.2.2) HE.out.1.2 HE.out.2.1 rfl HO.out HBK.out HR.out (flows_of m l HE.out.2.2) kx x HX.out).mono ?_
    rintro e w3 ⟨rfl, hk3, _, _⟩
    have HK3 := Aside0.mk hk3
    clear hk3
    go_wp2_with fail
    go_ret2
    exact ⟨rfl, Kp.whole B2.out HK3.out (fun k hk => hk.elim (fun e => by rw [e]; exact HPB.out) (fun e => Nat.le_trans (B1.out.size) (HBL.out k e.symm)))⟩
end Go.Proofs.Ytomfjhpiemipkaa.OwnGreatestFlow
end
section
/- The contracts of impl.LeastCut and spec.LeastCut by hand. -/
-- OWN impl lcR %s %s
-- OWN spec lcS %s %s
namespace Go.Proofs.Ytomfjhpiemipkaa.OwnLeastCut
open Go.RowKit Go.Proofs.Ytomfjhpiemipkaa.PFnFlowValues Go.Proofs.YtomfjhpiemipkaaW.PrintWords Go.Proofs.YtomfjhpiemipkaaW.PrintLast Go.Proofs.YtomfjhpiemipkaaW.PrintMore Go.Proofs.Ytomfjhpiemipkaa.B Go.Proofs.Ytomfjhpiemipkaa.Flow Go.Proofs.Ytomfjhpiemipkaa.OwnPush Go.Proofs.Ytomfjhpiemipkaa.OwnLevels Go.Proofs.Ytomfjhpiemipkaa.OwnRun Go.Proofs.Ytomfjhpiemipkaa.OwnRows Go.Proofs.Ytomfjhpiemipkaa.OwnNet Go.Proofs.Ytomfjhpiemipkaa.OwnValue Go.Proofs.Ytomfjhpiemipkaa.OwnLeast Go.Proofs.Ytomfjhpiemipkaa.OwnFrom Go.Proofs.Ytomfjhpiemipkaa.OwnRunI
set_option linter.unusedVariables false
set_option linter.unusedSimpArgs false
def okE (n : Int) (e : S99) : Bool := decide (0 ≤ e.f0 ∧ e.f0 < n ∧ 0 ≤ e.f1 ∧ e.f1 < n ∧ 0 ≤ e.f2 ∧ e.f2 ≤ 1000000000)
def netOk (n : Int) (l : List S99) : Bool := decide (2 ≤ n ∧ n ≤ 130 ∧ l.length ≤ 2000) && allR (fun j => okE n (l.getD j z99)) 0 l.length
theorem rdE (l : List S99) (i : Nat) : rd_T99 l (i : Int) = l.getD i z99 := by unfold rd_T99; rw [toNat_nat]
theorem netOk_iff {n : Int} {l : List S99} : netOk n l = true ↔ 2 ≤ n ∧ n ≤ 130 ∧ l.length ≤ 2000 ∧ ∀ j, j < l.length → okE n (l.getD j z99) = true := by
  unfold netOk
  rw [Bool.and_eq_true, decide_eq_true_eq, allR_iff]
  exact ⟨fun h => ⟨h.1.1, h.1.2.1, h.1.2.2, fun j hj => h.2 j (Nat.zero_le _) hj⟩, fun h => ⟨⟨h.1, h.2.1, h.2.2.1⟩, fun j _ hj => h.2.2.2 j hj⟩⟩
theorem okE_iff {n : Int} {e : S99} : okE n e = true ↔ 0 ≤ e.f0 ∧ e.f0 < n ∧ 0 ≤ e.f1 ∧ e.f1 < n ∧ 0 ≤ e.f2 ∧ e.f2 ≤ 1000000000 := by
  unfold okE; rw [decide_eq_true_eq]
def cutTerm (m : List Bool) (e : S99) : Int := if at_ m e.f0 = true then (if at_ m e.f1 = true then 0 else e.f2) else 0
def cutAt (m : List Bool) (l : List S99) (s : Int) (j : Nat) : Int := s + cutTerm m (l.getD j z99)
def cutSum (m : List Bool) (l : List S99) : Int := foldR (cutAt m l) 0 l.length 0
theorem cutTerm_bd {n : Int} {m : List Bool} {e : S99} (h : okE n e = true) : 0 ≤ cutTerm m e ∧ cutTerm m e ≤ 1000000000 := by
  rw [okE_iff] at h
  unfold cutTerm
  split
  · split <;> omega
  · omega
theorem cutAt_bd {n : Int} {m : List Bool} {l : List S99} (h : ∀ j, j < l.length → okE n (l.getD j z99) = true) (i : Nat) (hi : i ≤ l.length) : 0 ≤ foldR (cutAt m l) 0 i 0 ∧ foldR (cutAt m l) 0 i 0 ≤ 1000000000 * (i : Int) := by
  induction i with
  | zero => rw [foldR_end (Nat.le_refl _)]; omega
  | succ i ih =>
    have ih := ih (by omega)
    rw [foldR_last (Nat.zero_le _)]
    have := cutTerm_bd (m := m) (h i (by omega))
    unfold cutAt at *
    omega
def cutOk (n : Nat) (l : List Int) : Bool := asc l n && (at_ (mk n l) 0 && !(at_ (mk n l) ((n : Int) - 1)))
theorem IsNetwork_l0 (n : Int) (l : List S99) (hl : l.length ≤ maxLen) : ∀ (d i : Nat), i + d = l.length →
    Ev (fun k => impl_IsNetwork.l0 k n l (l.length : Int) (i : Int)) (allR (fun j => okE n (l.getD j z99)) i l.length) := by
  have hl := maxLen_le hl
  intro d
  induction d with
  | zero =>
    intro i hi
    exact Ev.step (fun k => impl_IsNetwork.l0.eq_2 n l l.length i k) (ev_neg (by omega) (ev_some (allR_end (by omega)).symm))
  | succ d ih =>
    intro i hi
    refine Ev.step (fun k => impl_IsNetwork.l0.eq_2 n l l.length i k) ?_
    have hx : rd_T99 l (i : Int) = l.getD i z99 := by unfold rd_T99; rw [toNat_nat]
    rw [allR_step (by omega), w_succ (n := l.length) (by omega) (by omega), hx]
    generalize l.getD i z99 = e
    have no : ¬ (0 ≤ e.f0 ∧ e.f0 < n ∧ 0 ≤ e.f1 ∧ e.f1 < n ∧ 0 ≤ e.f2 ∧ e.f2 ≤ 1000000000) → false = (okE n e && allR (fun j => okE n (l.getD j z99)) (i + 1) l.length) := by
      intro h
      rw [show okE n e = false from decide_eq_false h, Bool.false_and]
    refine ev_pos (by omega) (ev_pos (by omega) (ev_pos (by omega) ?_))
    refine ev_ite (fun h => ev_some (no (by omega))) (fun h0 => ?_)
    refine ev_ite (fun h => ev_some (no (by omega))) (fun h1 => ?_)
    refine ev_ite (fun h => ev_some (no (by omega))) (fun h2 => ?_)
    refine ev_ite (fun h => ev_some (no (by omega))) (fun h3 => ?_)
    refine ev_ite (fun h => ev_some (no (by omega))) (fun h4 => ?_)
    refine ev_ite (fun h => ev_some (no (by omega))) (fun h5 => ?_)
    rw [show okE n e = true from decide_eq_true (by omega), Bool.true_and]
    exact ih (i + 1) (by omega)
theorem IsNetwork_ev (n : Int) (l : List S99) (hl : l.length ≤ maxLen) : Ev (fun k => impl_IsNetwork.f k n l) (netOk n l) := by
  unfold impl_IsNetwork.f netOk
  have no : ¬ (2 ≤ n ∧ n ≤ 130 ∧ l.length ≤ 2000) → false = (decide (2 ≤ n ∧ n ≤ 130 ∧ l.length ≤ 2000) && allR (fun j => okE n (l.getD j z99)) 0 l.length) := by
    intro h; rw [decide_eq_false h, Bool.false_and]
  refine ev_ite (fun h => Ev.step (fun k => impl_IsNetwork.j0.eq_2 n l true k) (ev_pos rfl (ev_some (no (by omega))))) (fun h => ?_)
  refine ev_ite (fun h => Ev.step (fun k => impl_IsNetwork.j0.eq_2 n l true k) (ev_pos rfl (ev_some (no (by omega))))) (fun h1 => ?_)
  refine Ev.step (fun k => impl_IsNetwork.j0.eq_2 n l _ k) (ev_ite (fun h2 => ev_some (no ?_)) (fun h2 => ?_))
  · simp only [decide_eq_true_eq] at h2; omega
  · simp only [decide_eq_true_eq] at h2
    rw [decide_eq_true (by omega), Bool.true_and]; exact IsNetwork_l0 n l hl l.length 0 (by omega)
theorem l1In_eq (a b c : Int) : spec_l1In.f a b c = some (decide (b ≤ a ∧ a ≤ c)) := by
  unfold spec_l1In.f
  by_cases h : a ≥ b
  · rw [if_pos h]; simp [show b ≤ a from h]
  · rw [if_neg h]; simp [show ¬ b ≤ a from h]
theorem mfGood_l0 (n : Int) (hn : -9223372036854775808 ≤ n ∧ n ≤ 9223372036854775807) (l : List S99) (hl : l.length ≤ maxLen) : ∀ (d i : Nat), i + d = l.length →
    Ev (fun k => spec_mfGood.l0 k n l l (l.length : Int) (i : Int)) (decide (2 ≤ n ∧ n ≤ 130 ∧ l.length ≤ 2000) && allR (fun j => okE n (l.getD j z99)) i l.length) := by
  have hl := maxLen_le hl
  intro d
  induction d with
  | zero =>
    intro i hi
    refine Ev.step (fun k => spec_mfGood.l0.eq_2 n l l l.length i k) (ev_neg (by omega) (ev_bindc (l1In_eq _ _ _) (ev_ite (fun h => ev_some ?_) (fun h => ev_some ?_))))
    · rw [allR_end (by omega), Bool.and_true, decide_eq_decide]; simp only [decide_eq_true_eq] at h; omega
    · simp only [decide_eq_true_eq] at h; rw [decide_eq_false (by omega), Bool.false_and]
  | succ d ih =>
    intro i hi
    refine Ev.step (fun k => spec_mfGood.l0.eq_2 n l l l.length i k) ?_
    have hx : rd_T99 l (i : Int) = l.getD i z99 := by unfold rd_T99; rw [toNat_nat]
    rw [allR_step (by omega), w_succ (n := l.length) (by omega) (by omega), hx]
    generalize l.getD i z99 = e
    have no : (¬ (2 ≤ n ∧ n ≤ 130) ∨ okE n e = false) → false = (decide (2 ≤ n ∧ n ≤ 130 ∧ l.length ≤ 2000) && (okE n e && allR (fun j => okE n (l.getD j z99)) (i + 1) l.length)) := by
      rintro (h | h)
      · rw [decide_eq_false (by omega), Bool.false_and]
      · rw [h, Bool.false_and, Bool.and_false]
    by_cases hn0 : n = -9223372036854775808
    · subst hn0
      have hw : wrap64 (-9223372036854775808 - 1) = 9223372036854775807 := by unfold wrap64; omega
      have fin : Ev (fun k => spec_mfGood.l0 k (-9223372036854775808) l l (l.length : Int) ((i + 1 : Nat) : Int)) false := by
        have := ih (i + 1) (by omega)
        rwa [decide_eq_false (by omega), Bool.false_and] at this
      rw [hw]
      refine ev_pos (by omega) (ev_pos (by omega) (ev_pos (by omega) (ev_bindc (l1In_eq _ _ _) (ev_eq (no (.inl (by omega))) ?_))))
      refine ev_ite (fun h => ?_) (fun _ => ev_some rfl)
      refine ev_bindc (l1In_eq _ _ _) (ev_ite (fun h => ?_) (fun _ => ev_some rfl))
      exact ev_bindc (l1In_eq _ _ _) (ev_ite (fun h => fin) (fun _ => ev_some rfl))
    · rw [w64 (x := n - 1) (by omega) (by omega)]
      refine ev_pos (by omega) (ev_pos (by omega) (ev_pos (by omega) (ev_bindc (l1In_eq _ _ _) ?_)))
      refine ev_ite (fun h => ?_) (fun h => ev_some (no (.inr (by unfold okE; simp only [decide_eq_true_eq] at h; simp only [decide_eq_false_iff_not]; omega))))
      refine ev_bindc (l1In_eq _ _ _) (ev_ite (fun h1 => ?_) (fun h1 => ev_some (no (.inr (by unfold okE; simp only [decide_eq_true_eq] at h1; simp only [decide_eq_false_iff_not]; omega)))))
      refine ev_bindc (l1In_eq _ _ _) (ev_ite (fun h2 => ?_) (fun h2 => ev_some (no (.inr (by unfold okE; simp only [decide_eq_true_eq] at h2; simp only [decide_eq_false_iff_not]; omega)))))
      simp only [decide_eq_true_eq] at h h1 h2
      have : okE n e = true := by unfold okE; simp only [decide_eq_true_eq]; omega
      rw [this, Bool.true_and]; exact ih (i + 1) (by omega)
theorem mfGood_ev (n : Int) (hn : -9223372036854775808 ≤ n ∧ n ≤ 9223372036854775807) (l : List S99) (hl : l.length ≤ maxLen) : Ev (fun k => spec_mfGood.f k n l) (netOk n l) := by
  unfold spec_mfGood.f netOk
  exact mfGood_l0 n hn l hl l.length 0 (by omega)
theorem rdB (m : List Bool) (x : Int) : rdOf false m x = at_ m x := rfl
theorem listOf_l0 (m : List Bool) (hm : m.length ≤ 1048576) : ∀ (d i : Nat), i + d = m.length → Ev (fun k => impl_listOf.l0 k (foldR (putAt m) 0 i []) m (m.length : Int) (i : Int)) (listOf m) := by
  intro d
  induction d with
  | zero =>
    intro i hi
    obtain rfl : i = m.length := by omega
    exact Ev.step (fun k => impl_listOf.l0.eq_2 _ m m.length m.length k) (ev_neg (by omega) (ev_some rfl))
  | succ d ih =>
    intro i hi
    have ih := ih (i + 1) (by omega)
    rw [foldR_last (Nat.zero_le _)] at ih
    have hlen := putAt_len (m := m) i
    refine Ev.step (fun k => impl_listOf.l0.eq_2 _ m m.length i k) ?_
    rw [w_succ (n := m.length) (by omega) (by omega), rdB]
    unfold at_
    rw [toNat_nat]
    refine ev_pos (by omega) (ev_pos (by omega) (ev_pos (by omega) (ev_ite (fun h => ?_) (fun h => ?_))))
    · rw [show putAt m (foldR (putAt m) 0 i []) i = foldR (putAt m) 0 i [] ++ [(i : Int)] from if_pos h] at ih
      exact ev_pos (by omega) ih
    · rw [show putAt m (foldR (putAt m) 0 i []) i = foldR (putAt m) 0 i [] from if_neg h] at ih
      exact ih
theorem listOf_ev (m : List Bool) (hm : m.length ≤ 1048576) : Ev (fun k => impl_listOf.f k m) (listOf m) := by
  unfold impl_listOf.f
  have := listOf_l0 m hm m.length 0 (by omega)
  rwa [foldR_end (Nat.le_refl _)] at this
theorem edges_ok {n : Nat} {l : List S99} (h : netOk (n : Int) l = true) : (2 ≤ n ∧ n ≤ 130) ∧ l.length ≤ 8000 ∧ ∀ j, j < l.length → edgeOk n (l.getD j z99) := by
  have hN := netOk_iff.1 h
  exact ⟨by omega, (by have := hN.2.2.1; omega), fun j hj => okE_iff.1 (hN.2.2.2 j hj)⟩
theorem listOf_in (d : List Int) : listOf (inB d) = cutL d := by
  unfold listOf cutL
  rw [inB_len]
  refine foldR_congr fun o j _ hj => ?_
  unfold putAt OwnLeast.cutAt
  have h := inB_at d (j : Int) (by omega) (by omega)
  have e : (inB d).getD j false = decide (0 ≤ d.getD j 0) := h
  rw [e]
  by_cases c : 0 ≤ d.getD j 0
  · rw [if_pos c, if_pos (decide_eq_true c)]
  · rw [if_neg c, if_neg (by rw [decide_eq_false c]; decide)]
def lcR (n : Int) (l : List S99) (r : List Int × Bool) : Prop := if netOk n l = true then ∃ x, Ran n.toNat l x ∧ r = (cutL x.2.2, true) else r = ([], false)
def lcS (n : Int) (l : List S99) (r : List Int × Bool) : Prop := (-9223372036854775808 ≤ n ∧ n ≤ 9223372036854775807) ∧ lcR n l r
/-- What newResidual leaves is a residual network as run needs it. -/
theorem obj_ofI {n : Nat} {l : List S99} {w' : World} {b p gf cf : Nat} {vT vL : Value} (hb : w'.heap[p]? = some (.cells #[.slice (some ⟨gf, 0, none⟩) n cf, vT, vL, .slice none 0 0, .slice none 0 0] 195 (0, 0)))
    (hT : Kd.R (Kd.int .i64) 3 w' b (fun k => k ≠ p ∧ some k ≠ vL.ownBlock) vT (tosL l)) (hL : Kd.R (Kd.int .i64) 3 w' b (fun k => k ≠ p ∧ some k ≠ vT.ownBlock) vL (leftL l)) (hS : Kd.S kRows 24 w' b (fun k => (k ≠ p ∧ some k ≠ vL.ownBlock) ∧ some k ≠ vT.ownBlock) (.slice (some ⟨gf, 0, none⟩) n cf) (adjL l n l.length)) :
    ∃ (At Al : Option Addr) (ct cl : Nat), vT = .slice At (2 * l.length) ct ∧ vL = .slice Al (2 * l.length) cl ∧ IObj w' p n (2 * l.length) ⟨gf, 0, none⟩ At Al cf ct cl (adjL l n l.length) (tosL l) ∧ Kd.R (Kd.int .i64) 3 w' 0 (fun k => some k = (Value.slice Al (2 * l.length) cl).ownBlock) (.slice Al (2 * l.length) cl) (leftL l) := by
  obtain ⟨At, ct, rfl⟩ := Kd.R_slice hT
  obtain ⟨Al, cl, rfl⟩ := Kd.R_slice hL
  rw [tosL_len] at hT hb hL hS ⊢
  rw [leftL_len] at hT hb hL hS ⊢
  refine ⟨At, Al, ct, cl, rfl, rfl, ⟨?_, ?_, ⟨(Kd.S_reads' hS).2.1, (Kd.R_reads' hT).2.1⟩, ?_, blk_lt hb⟩, Kd.R_lower (Kd.R_mono (Kd.R_tight rfl hL) (fun k hk => hk)) (Nat.zero_le _)⟩
  · intro W hk
    have h := (Kd.S_reads' (Kd.S_kept hS hk (fun k h1 h2 => h2.elim (fun e => h1.1.1 e) (fun e => h1.1.2 e)))).2.2
    rwa [adjL_len] at h
  · intro W hk
    have h := (Kd.R_reads' (Kd.R_kept hT hk (fun k h1 h2 => h2.elim (fun e => h1.1 e) (fun e => h1.2 e)))).2.2
    rwa [tosL_len] at h
  · intro e
    exact (hL.1 p e.symm).1 rfl
set_option maxRecDepth 100000 in
theorem own_spec (n : Int) (A1 : Option Addr) (c1 : Nat) (l : List S99) (g0 : List Int) (g1 : Bool) (w : World)
    (h1 : Kd.C k99 w A1 l.length l) (e1 : l.length ≤ c1) (ll : l.length ≤ 1048576) (h : lcS n l (g0, g1)) :
    Calls Try.prog 70 #[.int .i64 n, .slice A1 l.length c1] w fun e w' => ∃ v : Value, e = .returned (.tuple #[v, .bool g1]) ∧ Kd.R (Kd.int .i64) 3 w' w.heap.size (fun _ => True) v g0 ∧ Below w.heap.size w w' := by
  obtain ⟨k, hk⟩ := (mfGood_ev n h.1 l (maxLen_val (by omega))).rounds
  have hh := h.2
  have H1 := Aside0.mk h1
  have E1 := Aside0.mk e1
  have HK := Aside0.mk hk
  unfold lcR at hh
  clear h1 e1 hk h ll
  cases hn : netOk n l with
  | false =>
    rw [if_neg (by rw [hn]; decide)] at hh
    injection hh with hr0 hr1
    subst hr0 hr1
    have HN := Aside0.mk hn
    clear hn
    go_enter Try.func70, Try.ntmps70
    go_wp2_with fail
    refine (spec_mfGood.calls k n A1 c1 l false w H1.out E1.out (by rw [← HN.out]; exact HK.out)).mono ?_
    rintro e w1 ⟨rfl, hb⟩
    have B1 := Aside0.mk hb
    clear hb
    go_wp2_with fail
    go_ret2
    exact ⟨_, rfl, Kd.R_nil _ _ _ _ _, B1.out⟩
  | true =>
    rw [if_pos hn] at hh
    obtain ⟨x, hx, hr⟩ := hh
    injection hr with hr0 hr1
    subst hr0 hr1
    obtain ⟨m, rfl⟩ : ∃ m : Nat, n = (m : Int) := ⟨n.toNat, by have := netOk_iff.1 hn; omega⟩
    rw [Int.toNat_natCast] at hx
    have HN := Aside0.mk hn
    have HX := Aside0.mk hx
    have HE := Aside0.mk (edges_ok hn)
    clear hn hx
    go_enter Try.func70, Try.ntmps70
    go_wp2_with fail
    refine (spec_mfGood.calls k (m : Int) A1 c1 l true w H1.out E1.out (by rw [← HN.out]; exact HK.out)).mono ?_
    rintro e w1 ⟨rfl, hb⟩
    have B1 := Aside0.mk hb
    clear hb
    go_wp2_with fail
    refine (least_calls m A1 c1 l w1 (Kd.C_below H1.out B1.out) E1.out HE.out.1 HE.out.2.1 HE.out.2.2 x HX.out).mono ?_
    rintro e w2 ⟨v, rfl, hv, hb⟩
    have B2 := Aside0.mk (below_step B1.out hb)
    have HV := Aside0.mk (Kd.R_lower hv B1.out.size)
    clear hb hv
    go_wp2_with fail
    go_ret2
    exact ⟨_, rfl, HV.out, B2.out⟩
set_option maxRecDepth 100000 in
theorem own_impl (n : Int) (A1 : Option Addr) (c1 : Nat) (l : List S99) (g0 : List Int) (g1 : Bool) (w : World)
    (h1 : Kd.C k99 w A1 l.length l) (e1 : l.length ≤ c1) (ll : l.length ≤ 1048576) (h : lcR n l (g0, g1)) :
    Calls Try.prog 68 #[.int .i64 n, .slice A1 l.length c1] w fun e w' => ∃ v : Value, e = .returned (.tuple #[v, .bool g1]) ∧ Kd.R (Kd.int .i64) 3 w' w.heap.size (fun _ => True) v g0 ∧ Below w.heap.size w w' := by
  obtain ⟨k, hk⟩ := (IsNetwork_ev n l (maxLen_val (by omega))).rounds
  have hh := h
  have H1 := Aside0.mk h1
  have E1 := Aside0.mk e1
  have HK := Aside0.mk hk
  unfold lcR at hh
  clear h1 e1 hk h ll
  cases hn : netOk n l with
  | false =>
    rw [if_neg (by rw [hn]; decide)] at hh
    injection hh with hr0 hr1
    subst hr0 hr1
    have HN := Aside0.mk hn
    clear hn
    go_enter Try.func68, Try.ntmps68
    go_wp2_with fail
    refine (impl_IsNetwork.calls k n A1 c1 l false w H1.out E1.out (by rw [← HN.out]; exact HK.out)).mono ?_
    rintro e w1 ⟨rfl, hb⟩
    have B1 := Aside0.mk hb
    clear hb
    go_wp2_with fail
    go_ret2
    exact ⟨_, rfl, Kd.R_nil _ _ _ _ _, B1.out⟩
  | true =>
    rw [if_pos hn] at hh
    obtain ⟨x, ⟨kx, hx⟩, hr⟩ := hh
    injection hr with hr0 hr1
    subst hr0 hr1
    obtain ⟨m, rfl⟩ : ∃ m : Nat, n = (m : Int) := ⟨n.toNat, by have := netOk_iff.1 hn; omega⟩
    rw [Int.toNat_natCast] at hx
    have HE := Aside0.mk (edges_ok hn)
    have hx2 : runL m (tosL l) (adjL l m l.length) ((m : Int) - 1) 1152921504606846976 kx 0 (leftL l) = some x := by
      rw [run_big (net_of m l HE.out.1.1 HE.out.2.2) (by have := HE.out.1; omega) 1152921504606846976 1125899906842624 (by omega) (by omega) kx 0 (leftL l) (flows_of m l HE.out.2.2)]
      exact hx
    have HN := Aside0.mk hn
    have HX := Aside0.mk hx2
    clear hn hx hx2
    go_enter Try.func68, Try.ntmps68
    go_wp2_with fail
    refine (impl_IsNetwork.calls k (m : Int) A1 c1 l true w H1.out E1.out (by rw [← HN.out]; exact HK.out)).mono ?_
    rintro e w1 ⟨rfl, hb⟩
    have B1 := Aside0.mk hb
    clear hb
    go_wp2_with fail
    refine (OwnStartI.start_callsI m A1 c1 l w1 (Kd.C_below H1.out B1.out) E1.out HE.out.1 HE.out.2.1 HE.out.2.2).mono ?_
    rintro e w2 ⟨p, gf, cf, vT, vL, rfl, hpw, hb, hT, hL, hS, hB⟩
    obtain ⟨At, Al, ct, cl, rfl, rfl, hO, hR⟩ := obj_ofI hb hT hL hS
    have B2 := Aside0.mk (below_step B1.out hB)
    have HO := Aside0.mk hO
    have HR := Aside0.mk hR
    have HBK := Aside0.mk hb
    have HBL := Aside0.mk (Kd.R_base hL)
    have HPB := Aside0.mk (show w.heap.size ≤ p from Nat.le_trans B1.out.size hpw)
    clear hb hT hL hS hB hO hR hpw
    go_wp2_with fail
    refine (run_callsI (net_of m l HE.out.1.1 HE.out.2.2) HE.out.1.2 HE.out.2.1 rfl HO.out HBK.out HR.out (flows_of m l HE.out.2.2) kx x HX.out).mono ?_
    rintro e w3 ⟨rfl, hk3, ⟨vV, vX, hbk⟩, hr3⟩
    have NN := Aside0.mk (net_of m l HE.out.1.1 HE.out.2.2)
    have hT := run_told NN.out (by have := HE.out.1; omega) (by omega) kx 0 (leftL l) x HX.out (flows_of m l HE.out.2.2)
    obtain ⟨k2, hk2⟩ := run_bfs kx _ _ _ HX.out
    have HK3 := Aside0.mk hk3
    have HBK3 := Aside0.mk hbk
    have HR3 := Aside0.mk hr3
    have HGD := Aside0.mk hT.1.good
    have HDL := Aside0.mk hT.2.1.len
    have HB2 := Aside0.mk hk2
    clear hk3 hbk hr3 hT hk2
    go_wp2_with fail
    refine (from_calls NN.out HE.out.1.2 HE.out.2.1 rfl HGD.out HBK3.out (fun W hW => HO.out.E W (HK3.out.1.then_ hW (fun k hk => Or.inl (Or.inl hk)))) (fun W hW => HO.out.T W (HK3.out.1.then_ hW (fun k hk => Or.inl (Or.inl hk)))) (fun W hW => by have h := Kd.C_kept_own HR3.out (fun k hk e => HO.out.sep (by rw [← e]; exact hk)) W hW; exact h) k2 x.2.2 HB2.out).mono ?_
    rintro e w4 ⟨gi, ci, gv, cv, rfl, hI, hV, hBk, hgn, hKp⟩
    have B4 := Aside0.mk (Kp.whole B2.out (HK3.out.then_ hKp (fun k hk => Or.inl (Or.inl hk))) (fun k hk => hk.elim (fun e => by rw [e]; exact HPB.out) (fun e => Nat.le_trans (B1.out.size) (HBL.out k e.symm))))
    have HI := Aside0.mk hI
    have hil : (inB x.2.2).length = m := by rw [inB_len]; exact HDL.out
    obtain ⟨kl, hkl⟩ := (listOf_ev (inB x.2.2) (by rw [hil]; have := HE.out.1; omega)).rounds
    have HKL := Aside0.mk hkl
    have HIL := Aside0.mk hil
    clear hI hV hBk hgn hKp hil hkl
    go_wp2_with fail
    refine Calls.mono (by have h := impl_listOf.calls kl (some ⟨gi, 0, none⟩) ci (inB x.2.2) (listOf (inB x.2.2)) w4 (Kd.R_reads' HI.out).2.2 (by rw [HIL.out]; exact (Kd.R_reads' HI.out).2.1) HKL.out; rw [HIL.out] at h; exact h) ?_
    rintro e w5 ⟨v, rfl, hv, hb⟩
    have B5 := Aside0.mk (below_step B4.out hb)
    have HV := Aside0.mk (Kd.R_lower hv B4.out.size)
    clear hv hb
    go_wp2_with fail
    go_ret2
    exact ⟨_, rfl, by rw [← listOf_in]; exact HV.out, B5.out⟩
end Go.Proofs.Ytomfjhpiemipkaa.OwnLeastCut
end
