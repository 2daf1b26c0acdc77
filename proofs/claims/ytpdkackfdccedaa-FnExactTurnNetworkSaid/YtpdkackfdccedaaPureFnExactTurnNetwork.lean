/- The pure side of the law FnExactTurnNetwork: the printed functions, one by one, and what the law says of them. -/
import Derived.Test.YtpdkackfdccedaaStmtFnExactTurnNetwork
import Derived.Test.YtpdkackfdccedaaBase
import Derived.Test.YtpdkackfdccedaaMarks
namespace Go.Proofs.Ytpdkackfdccedaa.PureFnExactTurnNetwork
open Go.RowKit Go.Proofs.Ytpdkackfdccedaa.PFnExactTurnNetwork Go.Proofs.YtpdkackfdccedaaW.PrintWords Go.Proofs.YtpdkackfdccedaaW.PrintLast Go.Proofs.YtpdkackfdccedaaW.PrintMore Go.Proofs.Ytpdkackfdccedaa.B
set_option linter.unusedVariables false
set_option linter.unusedSimpArgs false
/- laws_szEdgeS -/
theorem szEdgeS_tells (l : List S69) (hl : l.length ≤ maxLen) : ∃ r, laws_szEdgeS.f l 1048576 = some r ∧ (0 ≤ r → l.length ≤ 1048576) := by
  have hl := maxLen_le hl
  unfold laws_szEdgeS.f
  rw [w64 (by omega) (by omega)]
  by_cases h : 1048576 - (l.length : Int) < 0
  · exact ⟨-1, by rw [if_pos h], by omega⟩
  · exact ⟨_, by rw [if_neg h], by omega⟩

/- edges -/
def cE (e : S69) : S67 := ⟨e.f0, e.f1, e.f2⟩
def okE (n : Int) (e : S67) : Bool := decide (0 ≤ e.f0 ∧ e.f0 < n ∧ 0 ≤ e.f1 ∧ e.f1 < n ∧ 0 ≤ e.f2 ∧ e.f2 ≤ 1000000000)
def netOk (n : Int) (l : List S67) : Bool := decide (2 ≤ n ∧ n ≤ 130 ∧ l.length ≤ 2000) && allR (fun j => okE n (l.getD j z67)) 0 l.length

/- laws_toEdgeS -/
theorem toEdgeS_l0 (l : List S69) (hl : l.length ≤ 1048576) : ∀ (d i : Nat) (m : List S67), i + d = l.length → m.length = l.length → (∀ j, j < i → m[j]? = (l.map cE)[j]?) → Ev (fun k => laws_toEdgeS.l0 k l m (i : Int)) (l.map cE) := by
  intro d
  induction d with
  | zero =>
    intro i m hi hm he
    refine Ev.step (fun k => laws_toEdgeS.l0.eq_2 l m i k) ?_
    refine ev_neg (by omega) (ev_some ?_)
    refine List.ext_getElem? (fun j => ?_)
    by_cases hj : j < i
    · exact he j hj
    · rw [List.getElem?_eq_none (by omega), List.getElem?_eq_none (by simp; omega)]
  | succ d ih =>
    intro i m hi hm he
    refine Ev.step (fun k => laws_toEdgeS.l0.eq_2 l m i k) ?_
    refine ev_pos (by omega) (ev_pos (by omega) (ev_bindc rfl (ev_pos (by omega) ?_)))
    rw [w_succ (n := l.length) (by omega) (by omega), toNat_nat]
    refine ih (i + 1) _ (by omega) (by simpa using hm) (fun j hj => ?_)
    by_cases hji : j = i
    · subst hji
      have h1 : j < l.length := by omega
      simp [List.getElem?_set, show j < m.length by omega, rd_T69, h1, cE]
    · rw [← he j (by omega), List.getElem?_set_ne (Ne.symm hji)]
theorem toEdgeS_ev (l : List S69) (hl : l.length ≤ 1048576) : Ev (fun k => laws_toEdgeS.f k l) (l.map cE) := by
  unfold laws_toEdgeS.f
  refine ev_pos (by omega) (ev_pos (by omega) ?_)
  exact toEdgeS_l0 l hl l.length 0 _ (by omega) (by simp) (fun j hj => by omega)

/- laws_eqEdgeS -/
theorem eqEdgeS_l0 (l : List S67) (hl : l.length ≤ maxLen) : ∀ (d i : Nat), i + d = l.length → Ev (fun k => laws_eqEdgeS.l0 k l l (i : Int)) true := by
  have hl := maxLen_le hl
  intro d
  induction d with
  | zero =>
    intro i hi
    exact Ev.step (fun k => laws_eqEdgeS.l0.eq_2 l l i k) (ev_neg (by omega) (ev_some rfl))
  | succ d ih =>
    intro i hi
    refine Ev.step (fun k => laws_eqEdgeS.l0.eq_2 l l i k) ?_
    rw [w_succ (n := l.length) (by omega) (by omega)]
    exact ev_pos (by omega) (ev_pos (by omega) (ev_pos (by omega) (ev_bindc (by unfold laws_eqEdge.f; rw [if_pos rfl, if_pos rfl, if_pos rfl]) (ev_pos rfl (ih (i + 1) (by omega))))))
theorem eqEdgeS_ev (l : List S67) (hl : l.length ≤ maxLen) : Ev (fun k => laws_eqEdgeS.f k l l) true := by
  unfold laws_eqEdgeS.f
  exact ev_pos rfl (eqEdgeS_l0 l hl l.length 0 (by omega))

/- laws_markEdgeS -/
def mk3 (a : Int) (j : Nat) : S67 := ⟨a + 3 * j, a + 3 * j + 1, a + 3 * j + 2⟩
theorem markEdgeS_l0 (l : List S67) (hl : l.length ≤ 1048576) (a : Int) (ha : 0 ≤ a ∧ a ≤ 1099511627776) : ∀ (d i : Nat) (m : List S67), i + d = l.length → m.length = l.length → (∀ j, j < i → m.getD j z67 = mk3 a j) →
    ∃ r, Ev (fun k => laws_markEdgeS.l0 k m (a + 3 * i) (i : Int)) (a + 3 * l.length, r) ∧ r.length = l.length ∧ ∀ j, j < l.length → r.getD j z67 = mk3 a j := by
  intro d
  induction d with
  | zero =>
    intro i m hi hm he
    obtain rfl : i = l.length := by omega
    exact ⟨m, Ev.step (fun k => laws_markEdgeS.l0.eq_2 m (a + 3 * l.length) l.length k) (ev_neg (by omega) (ev_some rfl)), hm, he⟩
  | succ d ih =>
    intro i m hi hm he
    have hi' : i < m.length := by omega
    have e : ∀ (v : S67) (u : List S67), u.length = m.length → rd_T67 (u.set i v) (i : Int) = v := by
      intro v u hu; unfold rd_T67; rw [toNat_nat, getD_set, if_pos ⟨rfl, by omega⟩]
    obtain ⟨r, hr, hz⟩ := ih (i + 1) (((m.set i ⟨a + 3 * i, (rd_T67 m i).f1, (rd_T67 m i).f2⟩).set i ⟨a + 3 * i, a + 3 * i + 1, (rd_T67 m i).f2⟩).set i (mk3 a i)) (by omega) (by simpa using hm) (fun j hj => by
      rw [getD_set, getD_set, getD_set]
      simp only [List.length_set]
      by_cases hji : i = j
      · subst hji; rw [if_pos ⟨rfl, hi'⟩]
      · rw [if_neg (by omega), if_neg (by omega), if_neg (by omega)]; exact he j (by omega))
    refine ⟨r, Ev.step (fun k => laws_markEdgeS.l0.eq_2 m (a + 3 * i) i k) ?_, hz⟩
    rw [w_succ (n := l.length) (by omega) (by omega), toNat_nat, w64 (x := a + 3 * i + 1) (by omega) (by omega), w64 (x := a + 3 * i + 1 + 1) (by omega) (by omega), w64 (x := a + 3 * i + 1 + 1 + 1) (by omega) (by omega)]
    simp only [Option.bind_some, e _ _ rfl, List.length_set]
    refine ev_pos (by omega) (ev_pos (by omega) ?_)
    rw [e _ (m.set i _) (by simp)]
    rw [show a + 3 * (i : Int) + 1 + 1 + 1 = a + 3 * ((i + 1 : Nat) : Int) by omega]
    have e2 : a + 3 * (i : Int) + 1 + 1 = a + 3 * (i : Int) + 2 := by omega
    rw [e2]
    exact hr
theorem heldEdgeS_l0 (l : List S67) (hl : l.length ≤ 1048576) (a : Int) (ha : 0 ≤ a ∧ a ≤ 1099511627776) (he : ∀ j, j < l.length → l.getD j z67 = mk3 a j) : ∀ (d i : Nat), i + d = l.length →
    Ev (fun k => laws_heldEdgeS.l0 k l (a + 3 * i) (i : Int)) (a + 3 * l.length) := by
  intro d
  induction d with
  | zero =>
    intro i hi
    obtain rfl : i = l.length := by omega
    exact Ev.step (fun k => laws_heldEdgeS.l0.eq_2 l (a + 3 * l.length) l.length k) (ev_neg (by omega) (ev_some rfl))
  | succ d ih =>
    intro i hi
    refine Ev.step (fun k => laws_heldEdgeS.l0.eq_2 l (a + 3 * i) i k) ?_
    have hx : rd_T67 l (i : Int) = mk3 a i := by unfold rd_T67; rw [toNat_nat]; exact he i (by omega)
    rw [w_succ (n := l.length) (by omega) (by omega), hx, w64 (x := a + 3 * i + 1) (by omega) (by omega), w64 (x := a + 3 * i + 1 + 1) (by omega) (by omega), w64 (x := a + 3 * i + 1 + 1 + 1) (by omega) (by omega)]
    refine ev_pos (by omega) (ev_pos (by omega) (ev_pos rfl (ev_pos rfl (ev_pos ?_ ?_))))
    · show a + 3 * (i : Int) + 2 = _; omega
    · have := ih (i + 1) (by omega)
      rwa [show a + 3 * ((i + 1 : Nat) : Int) = a + 3 * (i : Int) + 1 + 1 + 1 by omega] at this
theorem markEdgeS_ev (l : List S67) (hl : l.length ≤ 1048576) (a : Int) (ha : 0 ≤ a ∧ a ≤ 1099511627776) :
    ∃ r, Ev (fun k => laws_markEdgeS.f k l a) (a + 3 * l.length, r) ∧ Ev (fun k => laws_heldEdgeS.f k r a) (a + 3 * l.length) ∧ r.length = l.length := by
  obtain ⟨r, h1, h2, h3⟩ := markEdgeS_l0 l hl a ha l.length 0 l (by omega) rfl (fun j hj => by omega)
  have h4 := heldEdgeS_l0 r (by omega) a ha (fun j hj => h3 j (by omega)) r.length 0 (by omega)
  rw [show a + 3 * ((0 : Nat) : Int) = a by omega] at h1 h4
  rw [h2] at h4
  exact ⟨r, h1, h4, h2⟩

/- turnE -/
def turnE (n : Int) (e : S67) : S67 := ⟨wrap64 (wrap64 (n - 1) - e.f1), wrap64 (wrap64 (n - 1) - e.f0), e.f2⟩
def turnAt (n : Int) (l : List S67) (o : List S67) (j : Nat) : List S67 := o ++ [turnE n (l.getD j z67)]
def turnL (n : Int) (l : List S67) : List S67 := foldR (turnAt n l) 0 l.length []
theorem turnAt_len (n : Int) (l : List S67) (m : Nat) : (foldR (turnAt n l) 0 m []).length = m := by
  induction m with
  | zero => rw [foldR_end (Nat.le_refl _)]; rfl
  | succ m ih => rw [foldR_last (Nat.zero_le _)]; unfold turnAt at *; rw [List.length_append, ih]; rfl

/- spec_l1In -/
theorem l1In_eq (a b c : Int) : spec_l1In.f a b c = some (decide (b ≤ a ∧ a ≤ c)) := by
  unfold spec_l1In.f
  by_cases h : a ≥ b
  · rw [if_pos h]; simp [show b ≤ a from h]
  · rw [if_neg h]; simp [show ¬ b ≤ a from h]

/- spec_mfGood -/
theorem mfGood_l0 (n : Int) (hn : -9223372036854775808 ≤ n ∧ n ≤ 9223372036854775807) (l : List S67) (hl : l.length ≤ maxLen) : ∀ (d i : Nat), i + d = l.length →
    Ev (fun k => spec_mfGood.l0 k n l l (l.length : Int) (i : Int)) (decide (2 ≤ n ∧ n ≤ 130 ∧ l.length ≤ 2000) && allR (fun j => okE n (l.getD j z67)) i l.length) := by
  have hl := maxLen_le hl
  intro d
  induction d with
  | zero =>
    intro i hi
    refine Ev.step (fun k => spec_mfGood.l0.eq_2 n l l l.length i k) (ev_neg (by omega) (ev_bindc (l1In_eq _ _ _) (ev_ite (fun h => ev_some ?_) (fun h => ev_some ?_))))
    · rw [allR_end (by omega), Bool.and_true, decide_eq_decide]; simp only [decide_eq_true_eq] at h; omega
    · simp only [decide_eq_true_eq] at h; rw [decide_eq_false (by omega), Bool.false_and]
  | succ d ih =>
    intro i hi
    refine Ev.step (fun k => spec_mfGood.l0.eq_2 n l l l.length i k) ?_
    have hx : rd_T67 l (i : Int) = l.getD i z67 := by unfold rd_T67; rw [toNat_nat]
    rw [allR_step (by omega), w_succ (n := l.length) (by omega) (by omega), hx]
    generalize l.getD i z67 = e
    have no : (¬ (2 ≤ n ∧ n ≤ 130) ∨ okE n e = false) → false = (decide (2 ≤ n ∧ n ≤ 130 ∧ l.length ≤ 2000) && (okE n e && allR (fun j => okE n (l.getD j z67)) (i + 1) l.length)) := by
      rintro (h | h)
      · rw [decide_eq_false (by omega), Bool.false_and]
      · rw [h, Bool.false_and, Bool.and_false]
    by_cases hn0 : n = -9223372036854775808
    · subst hn0
      have hw : wrap64 (-9223372036854775808 - 1) = 9223372036854775807 := by unfold wrap64; omega
      have fin : Ev (fun k => spec_mfGood.l0 k (-9223372036854775808) l l (l.length : Int) ((i + 1 : Nat) : Int)) false := by
        have := ih (i + 1) (by omega)
        rwa [decide_eq_false (by omega), Bool.false_and] at this
      rw [hw]
      refine ev_pos (by omega) (ev_pos (by omega) (ev_pos (by omega) (ev_bindc (l1In_eq _ _ _) (ev_eq (no (.inl (by omega))) ?_))))
      refine ev_ite (fun h => ?_) (fun _ => ev_some rfl)
      refine ev_bindc (l1In_eq _ _ _) (ev_ite (fun h => ?_) (fun _ => ev_some rfl))
      exact ev_bindc (l1In_eq _ _ _) (ev_ite (fun h => fin) (fun _ => ev_some rfl))
    · rw [w64 (x := n - 1) (by omega) (by omega)]
      refine ev_pos (by omega) (ev_pos (by omega) (ev_pos (by omega) (ev_bindc (l1In_eq _ _ _) ?_)))
      refine ev_ite (fun h => ?_) (fun h => ev_some (no (.inr (by unfold okE; simp only [decide_eq_true_eq] at h; simp only [decide_eq_false_iff_not]; omega))))
      refine ev_bindc (l1In_eq _ _ _) (ev_ite (fun h1 => ?_) (fun h1 => ev_some (no (.inr (by unfold okE; simp only [decide_eq_true_eq] at h1; simp only [decide_eq_false_iff_not]; omega)))))
      refine ev_bindc (l1In_eq _ _ _) (ev_ite (fun h2 => ?_) (fun h2 => ev_some (no (.inr (by unfold okE; simp only [decide_eq_true_eq] at h2; simp only [decide_eq_false_iff_not]; omega)))))
      simp only [decide_eq_true_eq] at h h1 h2
      have : okE n e = true := by unfold okE; simp only [decide_eq_true_eq]; omega
      rw [this, Bool.true_and]; exact ih (i + 1) (by omega)
theorem mfGood_ev (n : Int) (hn : -9223372036854775808 ≤ n ∧ n ≤ 9223372036854775807) (l : List S67) (hl : l.length ≤ maxLen) : Ev (fun k => spec_mfGood.f k n l) (netOk n l) := by
  unfold spec_mfGood.f netOk
  exact mfGood_l0 n hn l hl l.length 0 (by omega)

/- spec_TurnNetwork -/
theorem mfTurn_l0 (n : Int) (l : List S67) (hl : l.length ≤ 1048576) : ∀ (d i : Nat), i + d = l.length → Ev (fun k => spec_mfTurn.l0 k n (foldR (turnAt n l) 0 i []) l (l.length : Int) (i : Int)) (turnL n l) := by
  intro d
  induction d with
  | zero =>
    intro i hi
    obtain rfl : i = l.length := by omega
    exact Ev.step (fun k => spec_mfTurn.l0.eq_2 n _ l l.length l.length k) (ev_neg (by omega) (ev_some rfl))
  | succ d ih =>
    intro i hi
    have ih := ih (i + 1) (by omega)
    rw [foldR_last (Nat.zero_le _)] at ih
    have hlen := turnAt_len n l i
    refine Ev.step (fun k => spec_mfTurn.l0.eq_2 n _ l l.length i k) ?_
    have hx : rd_T67 l (i : Int) = l.getD i z67 := by unfold rd_T67; rw [toNat_nat]
    rw [w_succ (n := l.length) (by omega) (by omega), hx]
    exact ev_pos (by omega) (ev_pos (by omega) (ev_pos (by omega) (ev_pos (by omega) ih)))
theorem mfTurn_ev (n : Int) (l : List S67) (hl : l.length ≤ 1048576) : Ev (fun k => spec_mfTurn.f k n l) (turnL n l) := by
  unfold spec_mfTurn.f
  have := mfTurn_l0 n l hl l.length 0 (by omega)
  rwa [foldR_end (Nat.le_refl _)] at this
theorem sTurn_ev (n : Int) (hn : -9223372036854775808 ≤ n ∧ n ≤ 9223372036854775807) (l : List S67) (hl : l.length ≤ 1048576) : Ev (fun k => spec_TurnNetwork.f k n l) (if netOk n l then (turnL n l, true) else ([], false)) := by
  unfold spec_TurnNetwork.f
  refine Ev.bind (mfGood_ev n hn l (maxLen_val (by omega))) (ev_ite (fun h => ?_) (fun h => ev_some ?_))
  · rw [h]; exact Ev.bind (mfTurn_ev n l hl) (ev_some rfl)
  · rw [Bool.not_eq_true] at h; rw [h]; rfl

/- impl_IsNetwork -/
theorem IsNetwork_l0 (n : Int) (l : List S67) (hl : l.length ≤ maxLen) : ∀ (d i : Nat), i + d = l.length →
    Ev (fun k => impl_IsNetwork.l0 k n l (l.length : Int) (i : Int)) (allR (fun j => okE n (l.getD j z67)) i l.length) := by
  have hl := maxLen_le hl
  intro d
  induction d with
  | zero =>
    intro i hi
    exact Ev.step (fun k => impl_IsNetwork.l0.eq_2 n l l.length i k) (ev_neg (by omega) (ev_some (allR_end (by omega)).symm))
  | succ d ih =>
    intro i hi
    refine Ev.step (fun k => impl_IsNetwork.l0.eq_2 n l l.length i k) ?_
    have hx : rd_T67 l (i : Int) = l.getD i z67 := by unfold rd_T67; rw [toNat_nat]
    rw [allR_step (by omega), w_succ (n := l.length) (by omega) (by omega), hx]
    generalize l.getD i z67 = e
    have no : ¬ (0 ≤ e.f0 ∧ e.f0 < n ∧ 0 ≤ e.f1 ∧ e.f1 < n ∧ 0 ≤ e.f2 ∧ e.f2 ≤ 1000000000) → false = (okE n e && allR (fun j => okE n (l.getD j z67)) (i + 1) l.length) := by
      intro h
      rw [show okE n e = false from decide_eq_false h, Bool.false_and]
    refine ev_pos (by omega) (ev_pos (by omega) (ev_pos (by omega) ?_))
    refine ev_ite (fun h => ev_some (no (by omega))) (fun h0 => ?_)
    refine ev_ite (fun h => ev_some (no (by omega))) (fun h1 => ?_)
    refine ev_ite (fun h => ev_some (no (by omega))) (fun h2 => ?_)
    refine ev_ite (fun h => ev_some (no (by omega))) (fun h3 => ?_)
    refine ev_ite (fun h => ev_some (no (by omega))) (fun h4 => ?_)
    refine ev_ite (fun h => ev_some (no (by omega))) (fun h5 => ?_)
    rw [show okE n e = true from decide_eq_true (by omega), Bool.true_and]
    exact ih (i + 1) (by omega)
theorem IsNetwork_ev (n : Int) (l : List S67) (hl : l.length ≤ maxLen) : Ev (fun k => impl_IsNetwork.f k n l) (netOk n l) := by
  unfold impl_IsNetwork.f netOk
  have no : ¬ (2 ≤ n ∧ n ≤ 130 ∧ l.length ≤ 2000) → false = (decide (2 ≤ n ∧ n ≤ 130 ∧ l.length ≤ 2000) && allR (fun j => okE n (l.getD j z67)) 0 l.length) := by
    intro h; rw [decide_eq_false h, Bool.false_and]
  refine ev_ite (fun h => Ev.step (fun k => impl_IsNetwork.j0.eq_2 n l true k) (ev_pos rfl (ev_some (no (by omega))))) (fun h => ?_)
  refine ev_ite (fun h => Ev.step (fun k => impl_IsNetwork.j0.eq_2 n l true k) (ev_pos rfl (ev_some (no (by omega))))) (fun h1 => ?_)
  refine Ev.step (fun k => impl_IsNetwork.j0.eq_2 n l _ k) (ev_ite (fun h2 => ev_some (no ?_)) (fun h2 => ?_))
  · simp only [decide_eq_true_eq] at h2; omega
  · simp only [decide_eq_true_eq] at h2
    rw [decide_eq_true (by omega), Bool.true_and]; exact IsNetwork_l0 n l hl l.length 0 (by omega)

/- impl_TurnNetwork -/
theorem iTurn_l0 (n : Int) (l : List S67) (hl : l.length ≤ 1048576) : ∀ (d i : Nat), i + d = l.length → Ev (fun k => impl_TurnNetwork.l0 k n (foldR (turnAt n l) 0 i []) l (l.length : Int) (i : Int)) (turnL n l, true) := by
  intro d
  induction d with
  | zero =>
    intro i hi
    obtain rfl : i = l.length := by omega
    exact Ev.step (fun k => impl_TurnNetwork.l0.eq_2 n _ l l.length l.length k) (ev_neg (by omega) (ev_some rfl))
  | succ d ih =>
    intro i hi
    have ih := ih (i + 1) (by omega)
    rw [foldR_last (Nat.zero_le _)] at ih
    have hlen := turnAt_len n l i
    refine Ev.step (fun k => impl_TurnNetwork.l0.eq_2 n _ l l.length i k) ?_
    have hx : rd_T67 l (i : Int) = l.getD i z67 := by unfold rd_T67; rw [toNat_nat]
    rw [w_succ (n := l.length) (by omega) (by omega), hx]
    exact ev_pos (by omega) (ev_pos (by omega) (ev_pos (by omega) (ev_pos (by omega) ih)))
theorem iTurn_ev (n : Int) (l : List S67) (hl : l.length ≤ 1048576) : Ev (fun k => impl_TurnNetwork.f k n l) (if netOk n l then (turnL n l, true) else ([], false)) := by
  unfold impl_TurnNetwork.f
  refine Ev.bind (IsNetwork_ev n l (maxLen_val (by omega))) (ev_ite (fun h => ?_) (fun h => ev_some ?_))
  · rw [h]
    have := iTurn_l0 n l hl l.length 0 (by omega)
    rwa [foldR_end (Nat.le_refl _)] at this
  · rw [Bool.not_eq_true] at h; rw [h]; rfl

/- law.FnExactTurnNetwork -/
theorem FnExactTurnNetwork : Pure := by
  intro n l hn hl hg
  have hn := wf64 hn
  refine Ev.rounds ?_
  unfold laws_FnExactTurnNetwork.f
  obtain ⟨r, hr, hz⟩ := szEdgeS_tells l hl
  refine ev_bindc hr (ev_ite (fun h => ev_some rfl) (fun h => ?_))
  have h1 := hz (by omega)
  have tv := toEdgeS_ev l h1
  have hv : (l.map cE).length ≤ 1048576 := by rw [List.length_map]; exact h1
  generalize l.map cE = v at tv hv
  have hs := sTurn_ev n hn v hv
  have hi := iTurn_ev n v hv
  have hr : (if netOk n v then (turnL n v, true) else ([], false)).1.length ≤ 1048576 := by
    split
    · show (turnL n v).length ≤ _; unfold turnL; rw [turnAt_len]; exact hv
    · simp
  generalize (if netOk n v then (turnL n v, true) else ([], false)) = g at hs hi hr
  have hge := eqEdgeS_ev g.1 (maxLen_val (by omega))
  have hve := eqEdgeS_ev v (maxLen_val (by omega))
  obtain ⟨m0, hm0, _, _⟩ := markEdgeS_ev v hv 1 (by omega)
  obtain ⟨m1, hm1, hh1, _⟩ := markEdgeS_ev g.1 hr 1 (by omega)
  refine Ev.bind tv (Ev.bind hs (Ev.bind tv (Ev.bind hi (Ev.bind hge (ev_pos rfl ?_)))))
  refine Ev.step (fun k => laws_FnExactTurnNetwork.j0.eq_2 _ _ _ _ _ _ _ _ k) (ev_neg (by simp) ?_)
  refine Ev.bind tv (Ev.bind hve (ev_pos rfl (Ev.bind hm0 (ev_neg (by simp; omega) (Ev.bind hge (ev_pos rfl ?_))))))
  refine Ev.step (fun k => laws_FnExactTurnNetwork.j1.eq_2 _ _ _ _ _ _ k) (ev_neg (by simp) ?_)
  refine Ev.bind hm1 (Ev.bind hh1 (ev_neg (by omega) (ev_pos rfl (Ev.bind tv (Ev.bind hi (Ev.bind hge (ev_pos rfl ?_)))))))
  refine Ev.step (fun k => laws_FnExactTurnNetwork.j2.eq_2 _ _ _ k) (ev_neg (by simp) ?_)
  exact Ev.bind hh1 (ev_neg (by omega) (ev_pos rfl (ev_some rfl)))

end Go.Proofs.Ytpdkackfdccedaa.PureFnExactTurnNetwork
