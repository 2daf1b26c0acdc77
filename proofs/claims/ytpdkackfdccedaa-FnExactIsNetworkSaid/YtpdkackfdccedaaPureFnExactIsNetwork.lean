/- The pure side of the law FnExactIsNetwork: the printed functions, one by one, and what the law says of them. -/
import Derived.Test.YtpdkackfdccedaaStmtFnExactIsNetwork
import Derived.Test.YtpdkackfdccedaaBase
namespace Go.Proofs.Ytpdkackfdccedaa.PureFnExactIsNetwork
open Go.RowKit Go.Proofs.Ytpdkackfdccedaa.PFnExactIsNetwork Go.Proofs.YtpdkackfdccedaaW.PrintWords Go.Proofs.YtpdkackfdccedaaW.PrintLast Go.Proofs.YtpdkackfdccedaaW.PrintMore Go.Proofs.Ytpdkackfdccedaa.B
set_option linter.unusedVariables false
set_option linter.unusedSimpArgs false
/- laws_szEdgeS -/
theorem szEdgeS_tells (l : List S69) (hl : l.length ≤ maxLen) : ∃ r, laws_szEdgeS.f l 1048576 = some r ∧ (0 ≤ r → l.length ≤ 1048576) := by
  have hl := maxLen_le hl
  unfold laws_szEdgeS.f
  rw [w64 (by omega) (by omega)]
  by_cases h : 1048576 - (l.length : Int) < 0
  · exact ⟨-1, by rw [if_pos h], by omega⟩
  · exact ⟨_, by rw [if_neg h], by omega⟩

/- edges -/
def cE (e : S69) : S67 := ⟨e.f0, e.f1, e.f2⟩
def okE (n : Int) (e : S67) : Bool := decide (0 ≤ e.f0 ∧ e.f0 < n ∧ 0 ≤ e.f1 ∧ e.f1 < n ∧ 0 ≤ e.f2 ∧ e.f2 ≤ 1000000000)
def netOk (n : Int) (l : List S67) : Bool := decide (2 ≤ n ∧ n ≤ 130 ∧ l.length ≤ 2000) && allR (fun j => okE n (l.getD j z67)) 0 l.length

/- laws_toEdgeS -/
theorem toEdgeS_l0 (l : List S69) (hl : l.length ≤ 1048576) : ∀ (d i : Nat) (m : List S67), i + d = l.length → m.length = l.length → (∀ j, j < i → m[j]? = (l.map cE)[j]?) → Ev (fun k => laws_toEdgeS.l0 k l m (i : Int)) (l.map cE) := by
  intro d
  induction d with
  | zero =>
    intro i m hi hm he
    refine Ev.step (fun k => laws_toEdgeS.l0.eq_2 l m i k) ?_
    refine ev_neg (by omega) (ev_some ?_)
    refine List.ext_getElem? (fun j => ?_)
    by_cases hj : j < i
    · exact he j hj
    · rw [List.getElem?_eq_none (by omega), List.getElem?_eq_none (by simp; omega)]
  | succ d ih =>
    intro i m hi hm he
    refine Ev.step (fun k => laws_toEdgeS.l0.eq_2 l m i k) ?_
    refine ev_pos (by omega) (ev_pos (by omega) (ev_bindc rfl (ev_pos (by omega) ?_)))
    rw [w_succ (n := l.length) (by omega) (by omega), toNat_nat]
    refine ih (i + 1) _ (by omega) (by simpa using hm) (fun j hj => ?_)
    by_cases hji : j = i
    · subst hji
      have h1 : j < l.length := by omega
      simp [List.getElem?_set, show j < m.length by omega, rd_T69, h1, cE]
    · rw [← he j (by omega), List.getElem?_set_ne (Ne.symm hji)]
theorem toEdgeS_ev (l : List S69) (hl : l.length ≤ 1048576) : Ev (fun k => laws_toEdgeS.f k l) (l.map cE) := by
  unfold laws_toEdgeS.f
  refine ev_pos (by omega) (ev_pos (by omega) ?_)
  exact toEdgeS_l0 l hl l.length 0 _ (by omega) (by simp) (fun j hj => by omega)

/- laws_eqEdgeS -/
theorem eqEdgeS_l0 (l : List S67) (hl : l.length ≤ maxLen) : ∀ (d i : Nat), i + d = l.length → Ev (fun k => laws_eqEdgeS.l0 k l l (i : Int)) true := by
  have hl := maxLen_le hl
  intro d
  induction d with
  | zero =>
    intro i hi
    exact Ev.step (fun k => laws_eqEdgeS.l0.eq_2 l l i k) (ev_neg (by omega) (ev_some rfl))
  | succ d ih =>
    intro i hi
    refine Ev.step (fun k => laws_eqEdgeS.l0.eq_2 l l i k) ?_
    rw [w_succ (n := l.length) (by omega) (by omega)]
    exact ev_pos (by omega) (ev_pos (by omega) (ev_pos (by omega) (ev_bindc (by unfold laws_eqEdge.f; rw [if_pos rfl, if_pos rfl, if_pos rfl]) (ev_pos rfl (ih (i + 1) (by omega))))))
theorem eqEdgeS_ev (l : List S67) (hl : l.length ≤ maxLen) : Ev (fun k => laws_eqEdgeS.f k l l) true := by
  unfold laws_eqEdgeS.f
  exact ev_pos rfl (eqEdgeS_l0 l hl l.length 0 (by omega))

/- spec_l1In -/
theorem l1In_eq (a b c : Int) : spec_l1In.f a b c = some (decide (b ≤ a ∧ a ≤ c)) := by
  unfold spec_l1In.f
  by_cases h : a ≥ b
  · rw [if_pos h]; simp [show b ≤ a from h]
  · rw [if_neg h]; simp [show ¬ b ≤ a from h]

/- spec_mfGood -/
theorem mfGood_l0 (n : Int) (hn : -9223372036854775808 ≤ n ∧ n ≤ 9223372036854775807) (l : List S67) (hl : l.length ≤ maxLen) : ∀ (d i : Nat), i + d = l.length →
    Ev (fun k => spec_mfGood.l0 k n l l (l.length : Int) (i : Int)) (decide (2 ≤ n ∧ n ≤ 130 ∧ l.length ≤ 2000) && allR (fun j => okE n (l.getD j z67)) i l.length) := by
  have hl := maxLen_le hl
  intro d
  induction d with
  | zero =>
    intro i hi
    refine Ev.step (fun k => spec_mfGood.l0.eq_2 n l l l.length i k) (ev_neg (by omega) (ev_bindc (l1In_eq _ _ _) (ev_ite (fun h => ev_some ?_) (fun h => ev_some ?_))))
    · rw [allR_end (by omega), Bool.and_true, decide_eq_decide]; simp only [decide_eq_true_eq] at h; omega
    · simp only [decide_eq_true_eq] at h; rw [decide_eq_false (by omega), Bool.false_and]
  | succ d ih =>
    intro i hi
    refine Ev.step (fun k => spec_mfGood.l0.eq_2 n l l l.length i k) ?_
    have hx : rd_T67 l (i : Int) = l.getD i z67 := by unfold rd_T67; rw [toNat_nat]
    rw [allR_step (by omega), w_succ (n := l.length) (by omega) (by omega), hx]
    generalize l.getD i z67 = e
    have no : (¬ (2 ≤ n ∧ n ≤ 130) ∨ okE n e = false) → false = (decide (2 ≤ n ∧ n ≤ 130 ∧ l.length ≤ 2000) && (okE n e && allR (fun j => okE n (l.getD j z67)) (i + 1) l.length)) := by
      rintro (h | h)
      · rw [decide_eq_false (by omega), Bool.false_and]
      · rw [h, Bool.false_and, Bool.and_false]
    by_cases hn0 : n = -9223372036854775808
    · subst hn0
      have hw : wrap64 (-9223372036854775808 - 1) = 9223372036854775807 := by unfold wrap64; omega
      have fin : Ev (fun k => spec_mfGood.l0 k (-9223372036854775808) l l (l.length : Int) ((i + 1 : Nat) : Int)) false := by
        have := ih (i + 1) (by omega)
        rwa [decide_eq_false (by omega), Bool.false_and] at this
      rw [hw]
      refine ev_pos (by omega) (ev_pos (by omega) (ev_pos (by omega) (ev_bindc (l1In_eq _ _ _) (ev_eq (no (.inl (by omega))) ?_))))
      refine ev_ite (fun h => ?_) (fun _ => ev_some rfl)
      refine ev_bindc (l1In_eq _ _ _) (ev_ite (fun h => ?_) (fun _ => ev_some rfl))
      exact ev_bindc (l1In_eq _ _ _) (ev_ite (fun h => fin) (fun _ => ev_some rfl))
    · rw [w64 (x := n - 1) (by omega) (by omega)]
      refine ev_pos (by omega) (ev_pos (by omega) (ev_pos (by omega) (ev_bindc (l1In_eq _ _ _) ?_)))
      refine ev_ite (fun h => ?_) (fun h => ev_some (no (.inr (by unfold okE; simp only [decide_eq_true_eq] at h; simp only [decide_eq_false_iff_not]; omega))))
      refine ev_bindc (l1In_eq _ _ _) (ev_ite (fun h1 => ?_) (fun h1 => ev_some (no (.inr (by unfold okE; simp only [decide_eq_true_eq] at h1; simp only [decide_eq_false_iff_not]; omega)))))
      refine ev_bindc (l1In_eq _ _ _) (ev_ite (fun h2 => ?_) (fun h2 => ev_some (no (.inr (by unfold okE; simp only [decide_eq_true_eq] at h2; simp only [decide_eq_false_iff_not]; omega)))))
      simp only [decide_eq_true_eq] at h h1 h2
      have : okE n e = true := by unfold okE; simp only [decide_eq_true_eq]; omega
      rw [this, Bool.true_and]; exact ih (i + 1) (by omega)
theorem mfGood_ev (n : Int) (hn : -9223372036854775808 ≤ n ∧ n ≤ 9223372036854775807) (l : List S67) (hl : l.length ≤ maxLen) : Ev (fun k => spec_mfGood.f k n l) (netOk n l) := by
  unfold spec_mfGood.f netOk
  exact mfGood_l0 n hn l hl l.length 0 (by omega)

/- impl_IsNetwork -/
theorem IsNetwork_l0 (n : Int) (l : List S67) (hl : l.length ≤ maxLen) : ∀ (d i : Nat), i + d = l.length →
    Ev (fun k => impl_IsNetwork.l0 k n l (l.length : Int) (i : Int)) (allR (fun j => okE n (l.getD j z67)) i l.length) := by
  have hl := maxLen_le hl
  intro d
  induction d with
  | zero =>
    intro i hi
    exact Ev.step (fun k => impl_IsNetwork.l0.eq_2 n l l.length i k) (ev_neg (by omega) (ev_some (allR_end (by omega)).symm))
  | succ d ih =>
    intro i hi
    refine Ev.step (fun k => impl_IsNetwork.l0.eq_2 n l l.length i k) ?_
    have hx : rd_T67 l (i : Int) = l.getD i z67 := by unfold rd_T67; rw [toNat_nat]
    rw [allR_step (by omega), w_succ (n := l.length) (by omega) (by omega), hx]
    generalize l.getD i z67 = e
    have no : ¬ (0 ≤ e.f0 ∧ e.f0 < n ∧ 0 ≤ e.f1 ∧ e.f1 < n ∧ 0 ≤ e.f2 ∧ e.f2 ≤ 1000000000) → false = (okE n e && allR (fun j => okE n (l.getD j z67)) (i + 1) l.length) := by
      intro h
      rw [show okE n e = false from decide_eq_false h, Bool.false_and]
    refine ev_pos (by omega) (ev_pos (by omega) (ev_pos (by omega) ?_))
    refine ev_ite (fun h => ev_some (no (by omega))) (fun h0 => ?_)
    refine ev_ite (fun h => ev_some (no (by omega))) (fun h1 => ?_)
    refine ev_ite (fun h => ev_some (no (by omega))) (fun h2 => ?_)
    refine ev_ite (fun h => ev_some (no (by omega))) (fun h3 => ?_)
    refine ev_ite (fun h => ev_some (no (by omega))) (fun h4 => ?_)
    refine ev_ite (fun h => ev_some (no (by omega))) (fun h5 => ?_)
    rw [show okE n e = true from decide_eq_true (by omega), Bool.true_and]
    exact ih (i + 1) (by omega)
theorem IsNetwork_ev (n : Int) (l : List S67) (hl : l.length ≤ maxLen) : Ev (fun k => impl_IsNetwork.f k n l) (netOk n l) := by
  unfold impl_IsNetwork.f netOk
  have no : ¬ (2 ≤ n ∧ n ≤ 130 ∧ l.length ≤ 2000) → false = (decide (2 ≤ n ∧ n ≤ 130 ∧ l.length ≤ 2000) && allR (fun j => okE n (l.getD j z67)) 0 l.length) := by
    intro h; rw [decide_eq_false h, Bool.false_and]
  refine ev_ite (fun h => Ev.step (fun k => impl_IsNetwork.j0.eq_2 n l true k) (ev_pos rfl (ev_some (no (by omega))))) (fun h => ?_)
  refine ev_ite (fun h => Ev.step (fun k => impl_IsNetwork.j0.eq_2 n l true k) (ev_pos rfl (ev_some (no (by omega))))) (fun h1 => ?_)
  refine Ev.step (fun k => impl_IsNetwork.j0.eq_2 n l _ k) (ev_ite (fun h2 => ev_some (no ?_)) (fun h2 => ?_))
  · simp only [decide_eq_true_eq] at h2; omega
  · simp only [decide_eq_true_eq] at h2
    rw [decide_eq_true (by omega), Bool.true_and]; exact IsNetwork_l0 n l hl l.length 0 (by omega)

/- law.FnExactIsNetwork -/
theorem FnExactIsNetwork : Pure := by
  intro n l hn hl hg
  have hn := wf64 hn
  refine Ev.rounds ?_
  unfold laws_FnExactIsNetwork.f spec_IsNetwork.f
  obtain ⟨r, hr, hz⟩ := szEdgeS_tells l hl
  refine ev_bindc hr (ev_ite (fun h => ev_some rfl) (fun h => ?_))
  have h1 := hz (by omega)
  have hm : (l.map cE).length ≤ maxLen := by rw [List.length_map]; exact hl
  refine Ev.bind (toEdgeS_ev l h1) (Ev.bind (ev_id (mfGood_ev n hn _ hm)) (Ev.bind (toEdgeS_ev l h1) (Ev.bind (IsNetwork_ev n _ hm) ?_)))
  refine ev_neg (by simp) ?_
  exact Ev.bind (toEdgeS_ev l h1) (Ev.bind (eqEdgeS_ev _ hm) (ev_pos rfl (ev_some rfl)))

end Go.Proofs.Ytpdkackfdccedaa.PureFnExactIsNetwork
