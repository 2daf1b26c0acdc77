/- What the law FnFlowValues asks, of the numbers and lists that its callees tell. -/
import Derived.Test.YtomfjhpiemipkaaTFlowMath
import Derived.Test.YtomfjhpiemipkaaTOwnGreatestFlowJ
import Derived.Test.YtomfjhpiemipkaaTOwnGreatestCut
import Derived.Test.YtomfjhpiemipkaaTOwnIsFlow
import Derived.Test.YtomfjhpiemipkaaTOwnFlowValue
import Derived.Test.YtomfjhpiemipkaaTMFnFlowValuesx0
import Derived.Test.YtomfjhpiemipkaaTMFnFlowValuesx1
namespace Go.Proofs.Ytomfjhpiemipkaa.FlowLaw
open Go.RowKit Go.Proofs.Ytomfjhpiemipkaa.PFnFlowValues Go.Proofs.YtomfjhpiemipkaaW.PrintWords Go.Proofs.YtomfjhpiemipkaaW.PrintLast Go.Proofs.YtomfjhpiemipkaaW.PrintMore Go.Proofs.Ytomfjhpiemipkaa.B Go.Proofs.Ytomfjhpiemipkaa.Flow Go.Proofs.Ytomfjhpiemipkaa.OwnRows Go.Proofs.Ytomfjhpiemipkaa.OwnNet Go.Proofs.Ytomfjhpiemipkaa.OwnValue Go.Proofs.Ytomfjhpiemipkaa.FlowMath Go.Proofs.Ytomfjhpiemipkaa.OwnFlows
set_option linter.unusedVariables false
set_option linter.unusedSimpArgs false
theorem IsNetwork_l0 (n : Int) (l : List S99) (hl : l.length ≤ maxLen) : ∀ (d i : Nat), i + d = l.length →
    Ev (fun k => impl_IsNetwork.l0 k n l (l.length : Int) (i : Int)) (allR (fun j => okE n (l.getD j z99)) i l.length) := by
  have hl := maxLen_le hl
  intro d
  induction d with
  | zero =>
    intro i hi
    exact Ev.step (fun k => impl_IsNetwork.l0.eq_2 n l l.length i k) (ev_neg (by omega) (ev_some (allR_end (by omega)).symm))
  | succ d ih =>
    intro i hi
    refine Ev.step (fun k => impl_IsNetwork.l0.eq_2 n l l.length i k) ?_
    have hx : rd_T99 l (i : Int) = l.getD i z99 := by unfold rd_T99; rw [toNat_nat]
    rw [allR_step (by omega), w_succ (n := l.length) (by omega) (by omega), hx]
    generalize l.getD i z99 = e
    have no : ¬ (0 ≤ e.f0 ∧ e.f0 < n ∧ 0 ≤ e.f1 ∧ e.f1 < n ∧ 0 ≤ e.f2 ∧ e.f2 ≤ 1000000000) → false = (okE n e && allR (fun j => okE n (l.getD j z99)) (i + 1) l.length) := by
      intro h
      rw [show okE n e = false from decide_eq_false h, Bool.false_and]
    refine ev_pos (by omega) (ev_pos (by omega) (ev_pos (by omega) ?_))
    refine ev_ite (fun h => ev_some (no (by omega))) (fun h0 => ?_)
    refine ev_ite (fun h => ev_some (no (by omega))) (fun h1 => ?_)
    refine ev_ite (fun h => ev_some (no (by omega))) (fun h2 => ?_)
    refine ev_ite (fun h => ev_some (no (by omega))) (fun h3 => ?_)
    refine ev_ite (fun h => ev_some (no (by omega))) (fun h4 => ?_)
    refine ev_ite (fun h => ev_some (no (by omega))) (fun h5 => ?_)
    rw [show okE n e = true from decide_eq_true (by omega), Bool.true_and]
    exact ih (i + 1) (by omega)
theorem IsNetwork_ev (n : Int) (l : List S99) (hl : l.length ≤ maxLen) : Ev (fun k => impl_IsNetwork.f k n l) (netOk n l) := by
  unfold impl_IsNetwork.f netOk
  have no : ¬ (2 ≤ n ∧ n ≤ 130 ∧ l.length ≤ 2000) → false = (decide (2 ≤ n ∧ n ≤ 130 ∧ l.length ≤ 2000) && allR (fun j => okE n (l.getD j z99)) 0 l.length) := by
    intro h; rw [decide_eq_false h, Bool.false_and]
  refine ev_ite (fun h => Ev.step (fun k => impl_IsNetwork.j0.eq_2 n l true k) (ev_pos rfl (ev_some (no (by omega))))) (fun h => ?_)
  refine ev_ite (fun h => Ev.step (fun k => impl_IsNetwork.j0.eq_2 n l true k) (ev_pos rfl (ev_some (no (by omega))))) (fun h1 => ?_)
  refine Ev.step (fun k => impl_IsNetwork.j0.eq_2 n l _ k) (ev_ite (fun h2 => ev_some (no ?_)) (fun h2 => ?_))
  · simp only [decide_eq_true_eq] at h2; omega
  · simp only [decide_eq_true_eq] at h2
    rw [decide_eq_true (by omega), Bool.true_and]; exact IsNetwork_l0 n l hl l.length 0 (by omega)
theorem rdB (m : List Bool) (x : Int) : rdOf false m x = at_ m x := rfl
theorem areBlocks_l0 (l : List Int) (hl : l.length ≤ maxLen) (n : Int) : ∀ (d i : Nat), i + d = l.length → Ev (fun k => impl_areBlocks.l0 k l n l (l.length : Int) (i : Int)) (allR (ascAt l n) i l.length) := by
  have hl := maxLen_le hl
  intro d
  induction d with
  | zero =>
    intro i hi
    exact Ev.step (fun k => impl_areBlocks.l0.eq_2 l n l l.length i k) (ev_neg (by omega) (ev_some (allR_end (by omega)).symm))
  | succ d ih =>
    intro i hi
    refine Ev.step (fun k => impl_areBlocks.l0.eq_2 l n l l.length i k) ?_
    rw [allR_step (by omega), w_succ (n := l.length) (by omega) (by omega), rd_nat]
    refine ev_pos (by omega) (ev_pos (by omega) (ev_pos (by omega) ?_))
    have no : ¬ (0 ≤ l.getD i 0 ∧ l.getD i 0 < n ∧ (0 < i → l.getD (i - 1) 0 < l.getD i 0)) → false = (ascAt l n i && allR (ascAt l n) (i + 1) l.length) := by
      intro h
      have : ascAt l n i = false := by unfold ascAt; simp only [decide_eq_false_iff_not]; exact h
      rw [this]; rfl
    have yes : (0 ≤ l.getD i 0 ∧ l.getD i 0 < n ∧ (0 < i → l.getD (i - 1) 0 < l.getD i 0)) → Ev (fun k => impl_areBlocks.l0 k l n l (l.length : Int) ((i + 1 : Nat) : Int)) (ascAt l n i && allR (ascAt l n) (i + 1) l.length) := by
      intro h
      have : ascAt l n i = true := by unfold ascAt; simp only [decide_eq_true_eq]; exact h
      rw [this]; exact ih (i + 1) (by omega)
    refine ev_ite (fun h => ev_some (no (by omega))) (fun h => ?_)
    refine ev_ite (fun h1 => ev_some (no (by omega))) (fun h1 => ?_)
    refine ev_ite (fun h0 => ?_) (fun h0 => yes ⟨by omega, by omega, fun _ => by omega⟩)
    rw [w64 (x := (i : Int) - 1) (by omega) (by omega), show (i : Int) - 1 = ((i - 1 : Nat) : Int) by omega, rd_nat]
    refine ev_pos (by omega) (ev_pos (by omega) ?_)
    refine ev_ite (fun h2 => ev_some (no (fun hc => by have := hc.2.2 (by omega); omega))) (fun h2 => yes ⟨by omega, by omega, fun _ => by omega⟩)
theorem areBlocks_ev (l : List Int) (hl : l.length ≤ maxLen) (n : Int) : Ev (fun k => impl_areBlocks.f k l n) (asc l n) := by
  unfold impl_areBlocks.f asc
  exact areBlocks_l0 l hl n l.length 0 (by omega)
theorem markOf_l0 (l : List Int) (hl : l.length ≤ maxLen) : ∀ (d i : Nat) (m : List Bool), i + d = l.length → (∀ x ∈ l, 0 ≤ x ∧ x < m.length) → Ev (fun k => impl_markOf.l0 k m l (l.length : Int) (i : Int)) (foldR (setAt l) i l.length m) := by
  have hl := maxLen_le hl
  intro d
  induction d with
  | zero =>
    intro i m hi hm
    exact Ev.step (fun k => impl_markOf.l0.eq_2 m l l.length i k) (ev_neg (by omega) (ev_some (foldR_end (by omega)).symm))
  | succ d ih =>
    intro i m hi hm
    refine Ev.step (fun k => impl_markOf.l0.eq_2 m l l.length i k) ?_
    have hx := hm _ (getD_mem (z := 0) (show i < l.length by omega))
    rw [foldR_step (by omega), w_succ (n := l.length) (by omega) (by omega), rd_nat]
    refine ev_pos (by omega) (ev_pos (by omega) (ev_pos (by omega) (ev_pos (by omega) (ev_pos (by omega) ?_))))
    exact ih (i + 1) _ (by omega) (by intro x h; have := hm x h; simpa using this)
theorem markOf_ev (n : Nat) (hn : n ≤ 1048576) (l : List Int) (hl : l.length ≤ maxLen) (h : ∀ x ∈ l, 0 ≤ x ∧ x < n) : Ev (fun k => impl_markOf.f k (n : Int) l) (mk n l) := by
  unfold impl_markOf.f mk setAll
  refine ev_pos (by omega) (ev_pos (by omega) ?_)
  rw [toNat_nat]
  exact markOf_l0 l hl l.length 0 _ (by omega) (by simpa using h)
theorem iCutValue_l0 (n : Nat) (l : List S99) (hl : l.length ≤ 2000) (hb : ∀ j, j < l.length → okE n (l.getD j z99) = true) (m : List Bool) (hm : m.length = n) : ∀ (d i : Nat), i + d = l.length →
    Ev (fun k => impl_CutValue.l0 k m (foldR (cutAt m l) 0 i 0) l (l.length : Int) (i : Int)) (cutSum m l, true) := by
  intro d
  induction d with
  | zero =>
    intro i hi
    obtain rfl : i = l.length := by omega
    exact Ev.step (fun k => impl_CutValue.l0.eq_2 m _ l l.length l.length k) (ev_neg (by omega) (ev_some rfl))
  | succ d ih =>
    intro i hi
    have ih := ih (i + 1) (by omega)
    rw [foldR_last (Nat.zero_le _)] at ih
    have hok := hb i (by omega)
    have h1 := cutAt_bd (m := m) hb i (by omega)
    have h2 := cutTerm_bd (m := m) hok
    rw [okE_iff] at hok
    refine Ev.step (fun k => impl_CutValue.l0.eq_2 m _ l l.length i k) ?_
    rw [w_succ (n := l.length) (by omega) (by omega), rdE]
    generalize hs : foldR (cutAt m l) 0 i 0 = s at *
    unfold cutAt cutTerm at ih
    generalize l.getD i z99 = e at *
    rw [rdB, rdB]
    refine ev_pos (by omega) (ev_pos (by omega) (ev_pos (by omega) (ev_pos (by omega) (ev_pos (by omega) (ev_ite (fun h => ?_) (fun h => ?_))))))
    · refine ev_pos (by omega) (ev_pos (by omega) (ev_ite (fun h3 => ?_) (fun h3 => ?_)))
      · rw [if_pos h, if_pos h3, Int.add_zero] at ih; exact ih
      · rw [if_pos h, if_neg h3] at ih
        rw [w64 (by omega) (by omega)]
        exact ih
    · rw [if_neg h, Int.add_zero] at ih; exact ih
theorem iCutValue_ev (n : Int) (l : List S99) (hl : l.length ≤ maxLen) (c : List Int) (hcl : c.length ≤ maxLen) :
    Ev (fun k => impl_CutValue.f k n l c) (if netOk n l && cutOk n.toNat c then (cutSum (mk n.toNat c) l, true) else (0, false)) := by
  unfold impl_CutValue.f
  refine Ev.bind (IsNetwork_ev n l hl) (ev_ite (fun h => ?_) (fun h => ?_))
  · rw [h, Bool.true_and]
    rw [netOk_iff] at h
    obtain ⟨n, rfl⟩ : ∃ m : Nat, n = m := ⟨n.toNat, by omega⟩
    rw [toNat_nat]
    refine Ev.bind (areBlocks_ev c hcl _) (Ev.step (fun k => impl_CutValue.j0.eq_2 n l c _ k) ?_)
    unfold cutOk
    cases h1 : asc c n with
    | false => exact ev_pos rfl (ev_some rfl)
    | true =>
      refine ev_neg (by simp) (Ev.bind (markOf_ev n (by omega) c hcl (fun x hx => asc_mem h1 hx)) ?_)
      rw [mk_len]
      refine ev_pos (by omega) ?_
      rw [rdB, rdB, w64 (by omega) (by omega), Bool.true_and]
      have fin : ∀ b : Bool, Ev (fun k => impl_CutValue.j1 k l (mk n c) b) (if (!b) = true then (cutSum (mk n c) l, true) else (0, false)) := by
        intro b
        refine Ev.step (fun k => impl_CutValue.j1.eq_2 l (mk n c) b k) ?_
        cases b with
        | true => exact ev_pos rfl (ev_some rfl)
        | false =>
          refine ev_neg (by simp) ?_
          have := iCutValue_l0 n l h.2.2.1 h.2.2.2 (mk n c) mk_len l.length 0 (by omega)
          rwa [foldR_end (Nat.le_refl _)] at this
      refine ev_ite (fun h2 => ?_) (fun h2 => ?_)
      · rw [h2, Bool.true_and]
        exact ev_pos (by omega) (ev_pos (by omega) (fin _))
      · rw [Bool.not_eq_true] at h2; rw [h2, Bool.false_and]
        exact fin true
  · rw [Bool.not_eq_true] at h; rw [h]
    exact Ev.step (fun k => impl_CutValue.j0.eq_2 n l c _ k) (ev_pos rfl (ev_some rfl))
def turnE (n : Int) (e : S99) : S99 := ⟨wrap64 (wrap64 (n - 1) - e.f1), wrap64 (wrap64 (n - 1) - e.f0), e.f2⟩
def turnAt (n : Int) (l : List S99) (o : List S99) (j : Nat) : List S99 := o ++ [turnE n (l.getD j z99)]
def turnL (n : Int) (l : List S99) : List S99 := foldR (turnAt n l) 0 l.length []
theorem turnAt_len (n : Int) (l : List S99) (m : Nat) : (foldR (turnAt n l) 0 m []).length = m := by
  induction m with
  | zero => rw [foldR_end (Nat.le_refl _)]; rfl
  | succ m ih => rw [foldR_last (Nat.zero_le _)]; unfold turnAt at *; rw [List.length_append, ih]; rfl
theorem iTurn_l0 (n : Int) (l : List S99) (hl : l.length ≤ 1048576) : ∀ (d i : Nat), i + d = l.length → Ev (fun k => impl_TurnNetwork.l0 k n (foldR (turnAt n l) 0 i []) l (l.length : Int) (i : Int)) (turnL n l, true) := by
  intro d
  induction d with
  | zero =>
    intro i hi
    obtain rfl : i = l.length := by omega
    exact Ev.step (fun k => impl_TurnNetwork.l0.eq_2 n _ l l.length l.length k) (ev_neg (by omega) (ev_some rfl))
  | succ d ih =>
    intro i hi
    have ih := ih (i + 1) (by omega)
    rw [foldR_last (Nat.zero_le _)] at ih
    have hlen := turnAt_len n l i
    refine Ev.step (fun k => impl_TurnNetwork.l0.eq_2 n _ l l.length i k) ?_
    have hx : rd_T99 l (i : Int) = l.getD i z99 := by unfold rd_T99; rw [toNat_nat]
    rw [w_succ (n := l.length) (by omega) (by omega), hx]
    exact ev_pos (by omega) (ev_pos (by omega) (ev_pos (by omega) (ev_pos (by omega) ih)))
theorem iTurn_ev (n : Int) (l : List S99) (hl : l.length ≤ 1048576) : Ev (fun k => impl_TurnNetwork.f k n l) (if netOk n l then (turnL n l, true) else ([], false)) := by
  unfold impl_TurnNetwork.f
  refine Ev.bind (IsNetwork_ev n l (maxLen_val (by omega))) (ev_ite (fun h => ?_) (fun h => ev_some ?_))
  · rw [h]
    have := iTurn_l0 n l hl l.length 0 (by omega)
    rwa [foldR_end (Nat.le_refl _)] at this
  · rw [Bool.not_eq_true] at h; rw [h]; rfl
theorem l1In_eq (a b c : Int) : spec_l1In.f a b c = some (decide (b ≤ a ∧ a ≤ c)) := by
  unfold spec_l1In.f
  by_cases h : a ≥ b
  · rw [if_pos h]; simp [show b ≤ a from h]
  · rw [if_neg h]; simp [show ¬ b ≤ a from h]
theorem mfGood_l0 (n : Int) (hn : -9223372036854775808 ≤ n ∧ n ≤ 9223372036854775807) (l : List S99) (hl : l.length ≤ maxLen) : ∀ (d i : Nat), i + d = l.length →
    Ev (fun k => spec_mfGood.l0 k n l l (l.length : Int) (i : Int)) (decide (2 ≤ n ∧ n ≤ 130 ∧ l.length ≤ 2000) && allR (fun j => okE n (l.getD j z99)) i l.length) := by
  have hl := maxLen_le hl
  intro d
  induction d with
  | zero =>
    intro i hi
    refine Ev.step (fun k => spec_mfGood.l0.eq_2 n l l l.length i k) (ev_neg (by omega) (ev_bindc (l1In_eq _ _ _) (ev_ite (fun h => ev_some ?_) (fun h => ev_some ?_))))
    · rw [allR_end (by omega), Bool.and_true, decide_eq_decide]; simp only [decide_eq_true_eq] at h; omega
    · simp only [decide_eq_true_eq] at h; rw [decide_eq_false (by omega), Bool.false_and]
  | succ d ih =>
    intro i hi
    refine Ev.step (fun k => spec_mfGood.l0.eq_2 n l l l.length i k) ?_
    have hx : rd_T99 l (i : Int) = l.getD i z99 := by unfold rd_T99; rw [toNat_nat]
    rw [allR_step (by omega), w_succ (n := l.length) (by omega) (by omega), hx]
    generalize l.getD i z99 = e
    have no : (¬ (2 ≤ n ∧ n ≤ 130) ∨ okE n e = false) → false = (decide (2 ≤ n ∧ n ≤ 130 ∧ l.length ≤ 2000) && (okE n e && allR (fun j => okE n (l.getD j z99)) (i + 1) l.length)) := by
      rintro (h | h)
      · rw [decide_eq_false (by omega), Bool.false_and]
      · rw [h, Bool.false_and, Bool.and_false]
    by_cases hn0 : n = -9223372036854775808
    · subst hn0
      have hw : wrap64 (-9223372036854775808 - 1) = 9223372036854775807 := by unfold wrap64; omega
      have fin : Ev (fun k => spec_mfGood.l0 k (-9223372036854775808) l l (l.length : Int) ((i + 1 : Nat) : Int)) false := by
        have := ih (i + 1) (by omega)
        rwa [decide_eq_false (by omega), Bool.false_and] at this
      rw [hw]
      refine ev_pos (by omega) (ev_pos (by omega) (ev_pos (by omega) (ev_bindc (l1In_eq _ _ _) (ev_eq (no (.inl (by omega))) ?_))))
      refine ev_ite (fun h => ?_) (fun _ => ev_some rfl)
      refine ev_bindc (l1In_eq _ _ _) (ev_ite (fun h => ?_) (fun _ => ev_some rfl))
      exact ev_bindc (l1In_eq _ _ _) (ev_ite (fun h => fin) (fun _ => ev_some rfl))
    · rw [w64 (x := n - 1) (by omega) (by omega)]
      refine ev_pos (by omega) (ev_pos (by omega) (ev_pos (by omega) (ev_bindc (l1In_eq _ _ _) ?_)))
      refine ev_ite (fun h => ?_) (fun h => ev_some (no (.inr (by unfold okE; simp only [decide_eq_true_eq] at h; simp only [decide_eq_false_iff_not]; omega))))
      refine ev_bindc (l1In_eq _ _ _) (ev_ite (fun h1 => ?_) (fun h1 => ev_some (no (.inr (by unfold okE; simp only [decide_eq_true_eq] at h1; simp only [decide_eq_false_iff_not]; omega)))))
      refine ev_bindc (l1In_eq _ _ _) (ev_ite (fun h2 => ?_) (fun h2 => ev_some (no (.inr (by unfold okE; simp only [decide_eq_true_eq] at h2; simp only [decide_eq_false_iff_not]; omega)))))
      simp only [decide_eq_true_eq] at h h1 h2
      have : okE n e = true := by unfold okE; simp only [decide_eq_true_eq]; omega
      rw [this, Bool.true_and]; exact ih (i + 1) (by omega)
theorem mfGood_ev (n : Int) (hn : -9223372036854775808 ≤ n ∧ n ≤ 9223372036854775807) (l : List S99) (hl : l.length ≤ maxLen) : Ev (fun k => spec_mfGood.f k n l) (netOk n l) := by
  unfold spec_mfGood.f netOk
  exact mfGood_l0 n hn l hl l.length 0 (by omega)
theorem mfTurn_l0 (n : Int) (l : List S99) (hl : l.length ≤ 1048576) : ∀ (d i : Nat), i + d = l.length → Ev (fun k => spec_mfTurn.l0 k n (foldR (turnAt n l) 0 i []) l (l.length : Int) (i : Int)) (turnL n l) := by
  intro d
  induction d with
  | zero =>
    intro i hi
    obtain rfl : i = l.length := by omega
    exact Ev.step (fun k => spec_mfTurn.l0.eq_2 n _ l l.length l.length k) (ev_neg (by omega) (ev_some rfl))
  | succ d ih =>
    intro i hi
    have ih := ih (i + 1) (by omega)
    rw [foldR_last (Nat.zero_le _)] at ih
    have hlen := turnAt_len n l i
    refine Ev.step (fun k => spec_mfTurn.l0.eq_2 n _ l l.length i k) ?_
    have hx : rd_T99 l (i : Int) = l.getD i z99 := by unfold rd_T99; rw [toNat_nat]
    rw [w_succ (n := l.length) (by omega) (by omega), hx]
    exact ev_pos (by omega) (ev_pos (by omega) (ev_pos (by omega) (ev_pos (by omega) ih)))
theorem mfTurn_ev (n : Int) (l : List S99) (hl : l.length ≤ 1048576) : Ev (fun k => spec_mfTurn.f k n l) (turnL n l) := by
  unfold spec_mfTurn.f
  have := mfTurn_l0 n l hl l.length 0 (by omega)
  rwa [foldR_end (Nat.le_refl _)] at this
theorem sTurn_ev (n : Int) (hn : -9223372036854775808 ≤ n ∧ n ≤ 9223372036854775807) (l : List S99) (hl : l.length ≤ 1048576) : Ev (fun k => spec_TurnNetwork.f k n l) (if netOk n l then (turnL n l, true) else ([], false)) := by
  unfold spec_TurnNetwork.f
  refine Ev.bind (mfGood_ev n hn l (maxLen_val (by omega))) (ev_ite (fun h => ?_) (fun h => ev_some ?_))
  · rw [h]; exact Ev.bind (mfTurn_ev n l hl) (ev_some rfl)
  · rw [Bool.not_eq_true] at h; rw [h]; rfl
theorem turn_same (n : Int) (l : List S99) : turnL n l = OwnTurn.turnL n l := rfl
theorem flow_law (n : Int) (l : List S99) (hn : -1 ≤ n ∧ n ≤ 200) (hl : l.length ≤ 2100) : ∃ (v : Int) (ok : Bool) (least most : List Int) (t : List S99),
    (OwnGreatestFlow.gfS n l (v, ok) ∧ OwnGreatestFlow.gfR n l (v, ok)) ∧ (OwnLeastCut.lcS n l (least, ok) ∧ OwnLeastCut.lcR n l (least, ok)) ∧ (OwnGreatestCut.gcS n l (most, ok) ∧ OwnGreatestCut.gcR n l (most, ok)) ∧
    (Ev (fun k => spec_TurnNetwork.f k n l) (t, ok) ∧ Ev (fun k => impl_TurnNetwork.f k n l) (t, ok)) ∧ (Ev (fun k => spec_IsNetwork.f k n l) ok ∧ Ev (fun k => impl_IsNetwork.f k n l) ok) ∧ (least.length ≤ 1000 ∧ most.length ≤ 1000 ∧ t.length ≤ 2100) ∧
    (ok = true → Ev (fun k => impl_CutValue.f k n l least) (v, true) ∧ Ev (fun k => impl_CutValue.f k n l most) (v, true) ∧ (∀ u ∈ least, u ∈ most) ∧ OwnGreatestFlow.gfR n t (v, true) ∧ Ev (fun k => impl_TurnNetwork.f k n t) (l, true)) := by
  have hr : -9223372036854775808 ≤ n ∧ n ≤ 9223372036854775807 := by omega
  have ht1 := iTurn_ev n l (by omega)
  have ht2 := sTurn_ev n hr l (by omega)
  have hi1 := IsNetwork_ev n l (maxLen_val (by omega))
  have hi2 := ev_id (mfGood_ev n hr l (maxLen_val (by omega)))
  by_cases hN : OwnGreatestCut.netOk n l = true
  · have hN' : netOk n l = true := hN
    rw [if_pos hN'] at ht1 ht2
    rw [hN'] at hi1 hi2
    obtain ⟨p, rfl⟩ : ∃ p : Nat, n = (p : Int) := ⟨n.toNat, by have := OwnGreatestCut.netOk_iff.1 hN; omega⟩
    have hE := OwnGreatestCut.edges_ok hN
    have hl2 : l.length ≤ 2000 := (OwnGreatestCut.netOk_iff.1 hN).2.2.1
    obtain ⟨x, hx⟩ := ran_ends p l hE.1.1 hE.2.2
    obtain ⟨y, hy⟩ := ran_ends p (OwnTurn.turnL p l) hE.1.1 (OwnTurn.turn_edges hE.1.2 hE.2.2)
    have D := done hE.1.1 hE.2.2 hx
    have Y := done hE.1.1 (OwnTurn.turn_edges hE.1.2 hE.2.2) hy
    have h0 := lev0 (left := flipL x.2.1) D.net (o := (p : Int) - 1) (by omega) (by omega)
    obtain ⟨b, hb⟩ := bfs_ends D.net p _ _ h0.2 h0.1
    obtain ⟨kb, hb⟩ := hb.rounds
    have hs := OwnGreatestCut.same_most hE.1 hE.2.2 hx hy ⟨kb, hb⟩
    have B := back_of D ⟨kb, hb⟩
    have hbl := (bfs_told D.net kb _ _ b hb h0.1).len
    have hdl := D.lev.len
    have hgf : OwnGreatestFlow.gfR p l (x.1, true) := by
      unfold OwnGreatestFlow.gfR
      rw [if_pos (show OwnGreatestFlow.netOk p l = true from hN), Int.toNat_natCast]
      exact ⟨x, hx, rfl⟩
    have hlr : OwnLeastCut.lcR p l (OwnLeast.cutL x.2.2, true) := by
      unfold OwnLeastCut.lcR
      rw [if_pos (show OwnLeastCut.netOk p l = true from hN), Int.toNat_natCast]
      exact ⟨x, hx, rfl⟩
    have hgr : OwnGreatestCut.gcR p l (listOf (PitMath.outB b), true) := by
      unfold OwnGreatestCut.gcR
      rw [if_pos hN, Int.toNat_natCast]
      exact ⟨x, b, hx, ⟨kb, hb⟩, rfl⟩
    have hgs : OwnGreatestCut.gcS p l (listOf (PitMath.outB b), true) := by
      refine ⟨hr, ?_⟩
      rw [if_pos hN, Int.toNat_natCast]
      exact ⟨y, hy, by rw [hs.1]⟩
    have c1 : (OwnLeast.cutL x.2.2).length ≤ p := by have := OwnLeast.cutAt_len x.2.2 x.2.2.length; rw [← hdl]; exact this
    have c2 : (listOf (PitMath.outB b)).length ≤ p := by
      have := listOf_len (m := PitMath.outB b)
      rwa [PitMath.outB_len, hbl] at this
    have v1 := iCutValue_ev p l (maxLen_val (by omega)) (OwnLeast.cutL x.2.2) (maxLen_val (by omega))
    have v2 := iCutValue_ev p l (maxLen_val (by omega)) (listOf (PitMath.outB b)) (maxLen_val (by omega))
    have q1 := D.least hE.2.2
    have q2 := B.most D hbl hE.2.2
    rw [toNat_nat, hN', q1.1, q1.2] at v1
    rw [toNat_nat, hN', q2.1, q2.2] at v2
    have hN2 : netOk (p : Int) (turnL p l) = true := by
      rw [netOk_iff]
      refine ⟨by omega, by omega, ?_, fun j hj => ?_⟩
      · rw [turn_same, OwnTurn.turnL_len]; exact hl2
      · rw [okE_iff]; exact OwnTurn.turn_edges hE.1.2 hE.2.2 j hj
    have ht3 := iTurn_ev p (turnL p l) (by rw [turn_same, OwnTurn.turnL_len]; omega)
    rw [if_pos hN2, show turnL p (turnL p l) = l from turn_turn hE.1.2 hE.2.2] at ht3
    refine ⟨x.1, true, OwnLeast.cutL x.2.2, listOf (PitMath.outB b), turnL p l, ⟨⟨hr, hgf⟩, hgf⟩, ⟨⟨hr, hlr⟩, hlr⟩, ⟨hgs, hgr⟩, ⟨ht2, ht1⟩, ⟨hi2, hi1⟩, ⟨by omega, by omega, by rw [turn_same, OwnTurn.turnL_len]; exact hl⟩, fun _ => ⟨v1, v2, B.inMost D hbl, ?_, ht3⟩⟩
    unfold OwnGreatestFlow.gfR
    rw [if_pos (show OwnGreatestFlow.netOk p (turnL p l) = true from hN2), Int.toNat_natCast]
    exact ⟨y, hy, by rw [turn_eq hE.1.2 hE.2.2 D Y]⟩
  · have hN' : ¬ netOk n l = true := hN
    rw [if_neg hN'] at ht1 ht2
    rw [Bool.not_eq_true] at hN'
    rw [hN'] at hi1 hi2
    have g1 : OwnGreatestFlow.gfR n l (0, false) := by unfold OwnGreatestFlow.gfR; rw [if_neg (show ¬ OwnGreatestFlow.netOk n l = true from hN)]
    have g2 : OwnLeastCut.lcR n l ([], false) := by unfold OwnLeastCut.lcR; rw [if_neg (show ¬ OwnLeastCut.netOk n l = true from hN)]
    have g3 : OwnGreatestCut.gcR n l ([], false) := by unfold OwnGreatestCut.gcR; rw [if_neg hN]
    have g4 : OwnGreatestCut.gcS n l ([], false) := ⟨hr, by rw [if_neg hN]⟩
    exact ⟨0, false, [], [], [], ⟨⟨hr, g1⟩, g1⟩, ⟨⟨hr, g2⟩, g2⟩, ⟨g4, g3⟩, ⟨ht2, ht1⟩, ⟨hi2, hi1⟩, ⟨by simp, by simp, by simp⟩, (fun h => by cases h)⟩
theorem value_law (n : Int) (l : List S99) (f : List Int) (hn : -1 ≤ n ∧ n ≤ 200) : ∃ (was seven nine : Bool) (v : Int), (OwnIsFlow.isFlowS n l f (was, seven) ∧ OwnIsFlow.isFlowR n l f = (was, seven)) ∧ (OwnFlowValue.fvS n l f (v, nine) ∧ OwnFlowValue.fvR n l f = (v, nine)) ∧ nine = (seven && was) ∧
    (nine = true → ∃ top : Int, OwnGreatestFlow.gfR n l (top, true) ∧ v ≤ top) := by
  have hr : -9223372036854775808 ≤ n ∧ n ≤ 9223372036854775807 := by omega
  by_cases hN : netOk n l = true
  · obtain ⟨p, rfl⟩ : ∃ p : Nat, n = (p : Int) := ⟨n.toNat, by have := netOk_iff.1 hN; omega⟩
    have hE := OwnGreatestCut.edges_ok (show OwnGreatestCut.netOk (p : Int) l = true from hN)
    have e1 : OwnIsFlow.isFlowR p l f = (flowsB p l f, true) := by unfold OwnIsFlow.isFlowR; rw [if_pos (show OwnIsFlow.netOk p l = true from hN)]
    cases hF : flowsB (p : Int) l f with
    | true =>
      have e2 : OwnFlowValue.fvR p l f = (foldR (OwnFlowValue.fvAt l f) 0 l.length 0, true) := by unfold OwnFlowValue.fvR; rw [show OwnFlowValue.netOk p l = true from hN, hF]; rfl
      rw [hF] at e1
      refine ⟨true, true, true, _, ⟨⟨hr, e1⟩, e1⟩, ⟨⟨hr, e2⟩, e2⟩, rfl, fun _ => ?_⟩
      obtain ⟨x, hx⟩ := ran_ends p l hE.1.1 hE.2.2
      have D := done hE.1.1 hE.2.2 hx
      refine ⟨x.1, ?_, D.flow_le hE.2.2 hF⟩
      unfold OwnGreatestFlow.gfR
      rw [if_pos (show OwnGreatestFlow.netOk p l = true from hN), Int.toNat_natCast]
      exact ⟨x, hx, rfl⟩
    | false =>
      have e2 : OwnFlowValue.fvR p l f = (0, false) := by unfold OwnFlowValue.fvR; rw [show OwnFlowValue.netOk p l = true from hN, hF]; rfl
      rw [hF] at e1
      exact ⟨false, true, false, 0, ⟨⟨hr, e1⟩, e1⟩, ⟨⟨hr, e2⟩, e2⟩, rfl, (fun h => by cases h)⟩
  · have e1 : OwnIsFlow.isFlowR n l f = (false, false) := by unfold OwnIsFlow.isFlowR; rw [if_neg (show ¬ OwnIsFlow.netOk n l = true from hN)]
    have e2 : OwnFlowValue.fvR n l f = (0, false) := by
      rw [Bool.not_eq_true] at hN
      unfold OwnFlowValue.fvR; rw [show OwnFlowValue.netOk n l = false from hN]; rfl
    exact ⟨false, false, false, 0, ⟨⟨hr, e1⟩, e1⟩, ⟨⟨hr, e2⟩, e2⟩, rfl, (fun h => by cases h)⟩
theorem drawn_below' {w w' : World} (h : Drawn0 w w') : Below w.heap.size w w' := by
  obtain ⟨n, rfl⟩ := h
  exact pw_below_drewN (Below.refl _ _) n
theorem has_l0 (l : List Int) (hl : l.length ≤ maxLen) (u : Int) : ∀ (d i : Nat), i + d = l.length → (∀ j, j < i → l.getD j 0 ≠ u) → Ev (fun k => laws_qHas.l0 k u l (l.length : Int) (i : Int)) (decide (u ∈ l)) := by
  have hl := maxLen_le hl
  intro d
  induction d with
  | zero =>
    intro i hi hb
    refine Ev.step (fun k => laws_qHas.l0.eq_2 u l l.length i k) (ev_neg (by omega) (ev_some ?_))
    refine (decide_eq_false (fun h => ?_)).symm
    obtain ⟨j, hj, he⟩ := mem_getD (z := 0) h
    exact hb j (by omega) he
  | succ d ih =>
    intro i hi hb
    refine Ev.step (fun k => laws_qHas.l0.eq_2 u l l.length i k) ?_
    rw [w_succ (n := l.length) (by omega) (by omega), rd_nat]
    refine ev_pos (by omega) (ev_pos (by omega) (ev_pos (by omega) (ev_ite (fun h => ev_some ?_) (fun h => ih (i + 1) (by omega) (fun j hj => ?_)))))
    · exact (decide_eq_true (by rw [← h]; exact getD_mem (by omega))).symm
    · by_cases e : j = i
      · subst e; exact h
      · exact hb j (by omega)
theorem has_ev (l : List Int) (hl : l.length ≤ maxLen) (u : Int) : Ev (fun k => laws_qHas.f k l u) (decide (u ∈ l)) := by
  unfold laws_qHas.f
  exact has_l0 l hl u l.length 0 (by omega) (fun j hj => by omega)
theorem in_l0 (a b : List Int) (ha : a.length ≤ maxLen) (hb : b.length ≤ maxLen) (h : ∀ u ∈ a, u ∈ b) : ∀ (d i : Nat), i + d = a.length → Ev (fun k => laws_qIn.l0 k b a (a.length : Int) (i : Int)) true := by
  have ha := maxLen_le ha
  intro d
  induction d with
  | zero =>
    intro i hi
    exact Ev.step (fun k => laws_qIn.l0.eq_2 b a a.length i k) (ev_neg (by omega) (ev_some rfl))
  | succ d ih =>
    intro i hi
    refine Ev.step (fun k => laws_qIn.l0.eq_2 b a a.length i k) ?_
    rw [w_succ (n := a.length) (by omega) (by omega), rd_nat]
    refine ev_pos (by omega) (ev_pos (by omega) (ev_pos (by omega) (Ev.bind (has_ev b hb _) ?_)))
    rw [decide_eq_true (h _ (getD_mem (show i < a.length by omega)))]
    exact ev_pos rfl (ih (i + 1) (by omega))
theorem in_calls (a b : List Int) (ha : a.length ≤ maxLen) (hb : b.length ≤ maxLen) (h : ∀ u ∈ a, u ∈ b) (A : Option Addr) (c : Nat) (A' : Option Addr) (c' : Nat) (w : World) (h1 : Kd.C (Kd.int .i64) w A a.length a) (e1 : a.length ≤ c) (h2 : Kd.C (Kd.int .i64) w A' b.length b) (e2 : b.length ≤ c') :
    Calls Try.prog 84 #[.slice A a.length c, .slice A' b.length c'] w fun e w' => e = .returned (.bool true) ∧ Below w.heap.size w w' := by
  have h : Ev (fun k => laws_qIn.f k a b) true := by
    unfold laws_qIn.f
    exact in_l0 a b ha hb h a.length 0 (by omega)
  obtain ⟨k, hk⟩ := h.rounds
  exact (laws_qIn.calls k A c a A' c' b true w h1 e1 h2 e2 hk).mono fun e w' h => ⟨h.1, drawn_below' h.2⟩
theorem edges_l0 (l : List S99) (hl : l.length ≤ maxLen) : ∀ (d i : Nat), i + d = l.length → Ev (fun k => laws_qEdges.l0 k l l (l.length : Int) (i : Int)) true := by
  have hl := maxLen_le hl
  intro d
  induction d with
  | zero =>
    intro i hi
    exact Ev.step (fun k => laws_qEdges.l0.eq_2 l l l.length i k) (ev_neg (by omega) (ev_some rfl))
  | succ d ih =>
    intro i hi
    refine Ev.step (fun k => laws_qEdges.l0.eq_2 l l l.length i k) ?_
    rw [w_succ (n := l.length) (by omega) (by omega)]
    exact ev_pos (by omega) (ev_pos (by omega) (ev_pos (by omega) (ev_pos (by omega) (ev_neg (by simp) (ih (i + 1) (by omega))))))
theorem edges_calls (l : List S99) (hl : l.length ≤ maxLen) (A : Option Addr) (c : Nat) (A' : Option Addr) (c' : Nat) (w : World) (h1 : Kd.C k99 w A l.length l) (e1 : l.length ≤ c) (h2 : Kd.C k99 w A' l.length l) (e2 : l.length ≤ c') :
    Calls Try.prog 81 #[.slice A l.length c, .slice A' l.length c'] w fun e w' => e = .returned (.bool true) ∧ Below w.heap.size w w' := by
  have h : Ev (fun k => laws_qEdges.f k l l) true := by
    unfold laws_qEdges.f
    exact ev_pos rfl (edges_l0 l hl l.length 0 (by omega))
  obtain ⟨k, hk⟩ := h.rounds
  exact (laws_qEdges.calls k A c l A' c' l true w h1 e1 h2 e2 hk).mono fun e w' h => ⟨h.1, drawn_below' h.2⟩
theorem ints_l0 (l : List Int) (hl : l.length ≤ maxLen) : ∀ (d i : Nat), i + d = l.length → Ev (fun k => laws_qInts.l0 k l l (l.length : Int) (i : Int)) true := by
  have hl := maxLen_le hl
  intro d
  induction d with
  | zero =>
    intro i hi
    exact Ev.step (fun k => laws_qInts.l0.eq_2 l l l.length i k) (ev_neg (by omega) (ev_some rfl))
  | succ d ih =>
    intro i hi
    refine Ev.step (fun k => laws_qInts.l0.eq_2 l l l.length i k) ?_
    rw [w_succ (n := l.length) (by omega) (by omega)]
    exact ev_pos (by omega) (ev_pos (by omega) (ev_pos (by omega) (ev_pos (by omega) (ev_pos rfl (ih (i + 1) (by omega))))))
theorem ints_calls (l : List Int) (hl : l.length ≤ maxLen) (A : Option Addr) (c : Nat) (A' : Option Addr) (c' : Nat) (w : World) (h1 : Kd.C (Kd.int .i64) w A l.length l) (e1 : l.length ≤ c) (h2 : Kd.C (Kd.int .i64) w A' l.length l) (e2 : l.length ≤ c') :
    Calls Try.prog 55 #[.slice A l.length c, .slice A' l.length c'] w fun e w' => e = .returned (.bool true) ∧ Below w.heap.size w w' := by
  have h : Ev (fun k => laws_qInts.f k l l) true := by
    unfold laws_qInts.f
    exact ev_pos rfl (ints_l0 l hl l.length 0 (by omega))
  obtain ⟨k, hk⟩ := h.rounds
  refine (laws_qInts.calls k A c l A' c' l true w h1 e1 h2 e2 hk).mono ?_
  rintro e w' ⟨h, m, rfl⟩
  exact ⟨h, pw_below_drewN (Below.refl _ _) m⟩
end Go.Proofs.Ytomfjhpiemipkaa.FlowLaw
