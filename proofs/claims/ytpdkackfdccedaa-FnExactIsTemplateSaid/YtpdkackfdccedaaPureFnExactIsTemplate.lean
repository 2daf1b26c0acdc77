/- The pure side of the law FnExactIsTemplate: the printed functions, one by one, and what the law says of them. -/
import Derived.Test.YtpdkackfdccedaaStmtFnExactIsTemplate
import Derived.Test.YtpdkackfdccedaaBase
import Derived.Test.YtpdkackfdccedaaMarks
namespace Go.Proofs.Ytpdkackfdccedaa.PureFnExactIsTemplate
open Go.RowKit Go.Proofs.Ytpdkackfdccedaa.PFnExactIsTemplate Go.Proofs.YtpdkackfdccedaaW.PrintWords Go.Proofs.YtpdkackfdccedaaW.PrintLast Go.Proofs.YtpdkackfdccedaaW.PrintMore Go.Proofs.Ytpdkackfdccedaa.B
set_option linter.unusedVariables false
set_option linter.unusedSimpArgs false
/- laws_szOffsetS -/
theorem szOffsetS_tells (l : List S81) (a : Int) (hl : l.length ≤ maxLen) (ha : 0 ≤ a ∧ a ≤ 1048576) : ∃ r, laws_szOffsetS.f l a = some r ∧ (0 ≤ r → r = a - l.length) := by
  have hl := maxLen_le hl
  unfold laws_szOffsetS.f
  rw [w64 (by omega) (by omega)]
  by_cases h : a - (l.length : Int) < 0
  · exact ⟨-1, by rw [if_pos h], by omega⟩
  · exact ⟨_, by rw [if_neg h], by omega⟩

/- offsets -/
def cO (e : S81) : S78 := ⟨e.f0, e.f1, e.f2⟩
def befO (a b : S78) : Bool := if a.f2 = b.f2 then (if a.f1 = b.f1 then decide (a.f0 < b.f0) else decide (a.f1 < b.f1)) else decide (a.f2 < b.f2)
def okO (o : S78) : Bool := decide (-2 ≤ o.f0 ∧ o.f0 ≤ 2 ∧ -2 ≤ o.f1 ∧ o.f1 ≤ 2 ∧ 1 ≤ o.f2 ∧ o.f2 ≤ 2)
def offAt (l : List S78) (j : Nat) : Bool := okO (l.getD j z78) && (decide (j = 0) || befO (l.getD (j - 1) z78) (l.getD j z78))
def tmplOk (l : List S78) : Bool := decide (1 ≤ l.length ∧ l.length ≤ 12) && allR (offAt l) 0 l.length
theorem rdO (l : List S78) (i : Nat) : rd_T78 l (i : Int) = l.getD i z78 := by unfold rd_T78; rw [toNat_nat]

/- laws_toOffsetS -/
theorem toOffsetS_l0 (l : List S81) (hl : l.length ≤ 1048576) : ∀ (d i : Nat) (m : List S78), i + d = l.length → m.length = l.length → (∀ j, j < i → m[j]? = (l.map cO)[j]?) → Ev (fun k => laws_toOffsetS.l0 k l m (i : Int)) (l.map cO) := by
  intro d
  induction d with
  | zero =>
    intro i m hi hm he
    refine Ev.step (fun k => laws_toOffsetS.l0.eq_2 l m i k) ?_
    refine ev_neg (by omega) (ev_some ?_)
    refine List.ext_getElem? (fun j => ?_)
    by_cases hj : j < i
    · exact he j hj
    · rw [List.getElem?_eq_none (by omega), List.getElem?_eq_none (by simp; omega)]
  | succ d ih =>
    intro i m hi hm he
    refine Ev.step (fun k => laws_toOffsetS.l0.eq_2 l m i k) ?_
    refine ev_pos (by omega) (ev_pos (by omega) (ev_bindc rfl (ev_pos (by omega) ?_)))
    rw [w_succ (n := l.length) (by omega) (by omega), toNat_nat]
    refine ih (i + 1) _ (by omega) (by simpa using hm) (fun j hj => ?_)
    by_cases hji : j = i
    · subst hji
      have h1 : j < l.length := by omega
      simp [List.getElem?_set, show j < m.length by omega, rd_T81, h1, cO]
    · rw [← he j (by omega), List.getElem?_set_ne (Ne.symm hji)]
theorem toOffsetS_ev (l : List S81) (hl : l.length ≤ 1048576) : Ev (fun k => laws_toOffsetS.f k l) (l.map cO) := by
  unfold laws_toOffsetS.f
  refine ev_pos (by omega) (ev_pos (by omega) ?_)
  exact toOffsetS_l0 l hl l.length 0 _ (by omega) (by simp) (fun j hj => by omega)

/- laws_eqOffsetS -/
theorem eqOffsetS_l0 (l : List S78) (hl : l.length ≤ maxLen) : ∀ (d i : Nat), i + d = l.length → Ev (fun k => laws_eqOffsetS.l0 k l l (i : Int)) true := by
  have hl := maxLen_le hl
  intro d
  induction d with
  | zero =>
    intro i hi
    exact Ev.step (fun k => laws_eqOffsetS.l0.eq_2 l l i k) (ev_neg (by omega) (ev_some rfl))
  | succ d ih =>
    intro i hi
    refine Ev.step (fun k => laws_eqOffsetS.l0.eq_2 l l i k) ?_
    rw [w_succ (n := l.length) (by omega) (by omega)]
    exact ev_pos (by omega) (ev_pos (by omega) (ev_pos (by omega) (ev_bindc (by unfold laws_eqOffset.f; rw [if_pos rfl, if_pos rfl, if_pos rfl]) (ev_pos rfl (ih (i + 1) (by omega))))))
theorem eqOffsetS_ev (l : List S78) (hl : l.length ≤ maxLen) : Ev (fun k => laws_eqOffsetS.f k l l) true := by
  unfold laws_eqOffsetS.f
  exact ev_pos rfl (eqOffsetS_l0 l hl l.length 0 (by omega))

/- spec_l1In -/
theorem l1In_eq (a b c : Int) : spec_l1In.f a b c = some (decide (b ≤ a ∧ a ≤ c)) := by
  unfold spec_l1In.f
  by_cases h : a ≥ b
  · rw [if_pos h]; simp [show b ≤ a from h]
  · rw [if_neg h]; simp [show ¬ b ≤ a from h]

/- spec_slTemplate -/
theorem slBefore_eq (a b : S78) : spec_slBefore.f a.f0 a.f1 a.f2 b.f0 b.f1 b.f2 = some (befO a b) := by
  unfold spec_slBefore.f befO
  split <;> (try split) <;> rfl
theorem slTemplate_l0 (l : List S78) (hl : l.length ≤ maxLen) : ∀ (d i : Nat), i + d = l.length →
    Ev (fun k => spec_slTemplate.l0 k l l (l.length : Int) (i : Int)) (decide (1 ≤ l.length ∧ l.length ≤ 12) && allR (offAt l) i l.length) := by
  have hl := maxLen_le hl
  intro d
  induction d with
  | zero =>
    intro i hi
    refine Ev.step (fun k => spec_slTemplate.l0.eq_2 l l l.length i k) (ev_neg (by omega) (ev_bindc (l1In_eq _ _ _) (ev_some ?_)))
    rw [allR_end (by omega), Bool.and_true, decide_eq_decide]; omega
  | succ d ih =>
    intro i hi
    refine Ev.step (fun k => spec_slTemplate.l0.eq_2 l l l.length i k) ?_
    have ih := ih (i + 1) (by omega)
    rw [allR_step (by omega), w_succ (n := l.length) (by omega) (by omega), rdO]
    have no : offAt l i = false → false = (decide (1 ≤ l.length ∧ l.length ≤ 12) && (offAt l i && allR (offAt l) (i + 1) l.length)) := by
      intro h; rw [h, Bool.false_and, Bool.and_false]
    have yes : offAt l i = true → Ev (fun k => spec_slTemplate.l0 k l l (l.length : Int) ((i + 1 : Nat) : Int)) (decide (1 ≤ l.length ∧ l.length ≤ 12) && (offAt l i && allR (offAt l) (i + 1) l.length)) := by
      intro h; rw [h, Bool.true_and]; exact ih
    have bad : okO (l.getD i z78) = false → offAt l i = false := by intro h; unfold offAt; rw [h, Bool.false_and]
    refine ev_pos (by omega) (ev_pos (by omega) (ev_pos (by omega) (ev_bindc (l1In_eq _ _ _) ?_)))
    refine ev_ite (fun h => ?_) (fun h => ev_some (no (bad (by unfold okO; simp only [decide_eq_true_eq] at h; simp only [decide_eq_false_iff_not]; omega))))
    refine ev_bindc (l1In_eq _ _ _) (ev_ite (fun h1 => ?_) (fun h1 => ev_some (no (bad (by unfold okO; simp only [decide_eq_true_eq] at h1; simp only [decide_eq_false_iff_not]; omega)))))
    refine ev_bindc (l1In_eq _ _ _) (ev_ite (fun h2 => ?_) (fun h2 => ev_some (no (bad (by unfold okO; simp only [decide_eq_true_eq] at h2; simp only [decide_eq_false_iff_not]; omega)))))
    simp only [decide_eq_true_eq] at h h1 h2
    have hok : okO (l.getD i z78) = true := decide_eq_true (by omega)
    refine ev_ite (fun h0 => ?_) (fun h0 => yes (by unfold offAt; rw [hok, decide_eq_true (show i = 0 by omega)]; rfl))
    rw [w64 (x := (i : Int) - 1) (by omega) (by omega), show (i : Int) - 1 = ((i - 1 : Nat) : Int) by omega, rdO]
    refine ev_pos (by omega) (ev_pos (by omega) (ev_bindc (slBefore_eq _ _) (ev_ite (fun h3 => yes ?_) (fun h3 => ev_some (no ?_)))))
    · unfold offAt; rw [hok, h3, Bool.or_true]; rfl
    · rw [Bool.not_eq_true] at h3; unfold offAt; rw [h3, decide_eq_false (show ¬ i = 0 by omega)]; simp
theorem slTemplate_ev (l : List S78) (hl : l.length ≤ maxLen) : Ev (fun k => spec_slTemplate.f k l) (tmplOk l) := by
  unfold spec_slTemplate.f tmplOk
  exact slTemplate_l0 l hl l.length 0 (by omega)

/- impl_compareOffsets -/
def cmpI (a b : Int) : Int := if a < b then -1 else if a > b then 1 else 0
theorem cmpI_eq (a b : Int) : cmp_Compare_int.f a b = some (cmpI a b) := by
  unfold cmp_Compare_int.f cmp_isNaN_int.f cmpI
  simp only [Option.bind_some, bne_self_eq_false]
  rw [if_neg (by simp), if_neg (by simp)]
  split
  · rfl
  · split <;> rfl
theorem cmpOr3 (x y z : Int) : Ev (fun k => cmp_Or_int.f k [x, y, z]) (if x = 0 then (if y = 0 then z else y) else x) := by
  unfold cmp_Or_int.f
  have e3 : (([x, y, z] : List Int).length : Int) = 3 := rfl
  have w1 : wrap64 (0 + 1) = 1 := by unfold wrap64; omega
  have w2 : wrap64 (1 + 1) = 2 := by unfold wrap64; omega
  have w3 : wrap64 (2 + 1) = 3 := by unfold wrap64; omega
  have r0 : rd [x, y, z] 0 = x := rfl
  have r1 : rd [x, y, z] 1 = y := rfl
  have r2 : rd [x, y, z] 2 = z := rfl
  rw [e3]
  refine Ev.step (fun k => cmp_Or_int.l0.eq_2 0 [x, y, z] 3 0 k) ?_
  rw [e3, w1, r0]
  refine ev_pos (by omega) (ev_pos (by omega) (ev_pos (by omega) (ev_ite (fun h => ?_) (fun h => ev_some (by rw [if_neg h])))))
  rw [if_pos h]
  refine Ev.step (fun k => cmp_Or_int.l0.eq_2 0 [x, y, z] 3 1 k) ?_
  rw [e3, w2, r1]
  refine ev_pos (by omega) (ev_pos (by omega) (ev_pos (by omega) (ev_ite (fun h1 => ?_) (fun h1 => ev_some (by rw [if_neg h1])))))
  rw [if_pos h1]
  refine Ev.step (fun k => cmp_Or_int.l0.eq_2 0 [x, y, z] 3 2 k) ?_
  rw [e3, w3, r2]
  refine ev_pos (by omega) (ev_pos (by omega) (ev_pos (by omega) (ev_ite (fun h2 => ?_) (fun h2 => ev_some rfl))))
  rw [h2]
  exact Ev.step (fun k => cmp_Or_int.l0.eq_2 0 [x, y, 0] 3 3 k) (ev_neg (by omega) (ev_some rfl))
def cmpO (a b : S78) : Int := if cmpI a.f2 b.f2 = 0 then (if cmpI a.f1 b.f1 = 0 then cmpI a.f0 b.f0 else cmpI a.f1 b.f1) else cmpI a.f2 b.f2
theorem cmpO_ev (a b : S78) : Ev (fun k => impl_compareOffsets.f k a.f0 a.f1 a.f2 b.f0 b.f1 b.f2) (cmpO a b) := by
  unfold impl_compareOffsets.f cmpO
  exact ev_bindc (cmpI_eq _ _) (ev_bindc (cmpI_eq _ _) (ev_bindc (cmpI_eq _ _) (ev_id (cmpOr3 _ _ _))))
theorem cmpO_neg (a b : S78) : cmpO a b < 0 ↔ befO a b = true := by
  unfold cmpO befO cmpI
  by_cases h2 : a.f2 = b.f2
  · by_cases h1 : a.f1 = b.f1
    · simp only [h2, h1, Int.lt_irrefl, gt_iff_lt, if_false, if_true, decide_eq_true_eq]
      split
      · omega
      · split <;> omega
    · simp only [h2, h1, Int.lt_irrefl, gt_iff_lt, if_false, if_true, decide_eq_true_eq]
      by_cases h : a.f1 < b.f1
      · simp [h]
      · simp [h, show b.f1 < a.f1 by omega]
  · simp only [h2, if_false, decide_eq_true_eq]
    by_cases h : a.f2 < b.f2
    · simp [h]
    · simp [h, show b.f2 < a.f2 by omega]

/- impl_IsTemplate -/
theorem IsTemplate_l0 (l : List S78) (hl : l.length ≤ maxLen) : ∀ (d i : Nat), i + d = l.length → Ev (fun k => impl_IsTemplate.l0 k l l (l.length : Int) (i : Int)) (allR (offAt l) i l.length) := by
  have hl := maxLen_le hl
  intro d
  induction d with
  | zero =>
    intro i hi
    exact Ev.step (fun k => impl_IsTemplate.l0.eq_2 l l l.length i k) (ev_neg (by omega) (ev_some (allR_end (by omega)).symm))
  | succ d ih =>
    intro i hi
    refine Ev.step (fun k => impl_IsTemplate.l0.eq_2 l l l.length i k) ?_
    have ih := ih (i + 1) (by omega)
    rw [allR_step (by omega), rdO]
    have bad : okO (l.getD i z78) = false → ∀ u v x, Ev (fun k => impl_IsTemplate.j2 k l i l l.length i true u v x) (offAt l i && allR (offAt l) (i + 1) l.length) := by
      intro h u v x
      refine Ev.step (fun k => impl_IsTemplate.j2.eq_2 l i l l.length i true u v x k) (ev_pos rfl (ev_some ?_))
      unfold offAt; rw [h, Bool.false_and, Bool.false_and]
    refine ev_pos (by omega) (ev_pos (by omega) (ev_pos (by omega) ?_))
    refine ev_ite (fun h => bad (decide_eq_false (by omega)) _ _ _) (fun h0 => ?_)
    refine ev_ite (fun h => bad (decide_eq_false (by omega)) _ _ _) (fun h1 => ?_)
    refine ev_ite (fun h => bad (decide_eq_false (by omega)) _ _ _) (fun h2 => ?_)
    refine ev_ite (fun h => bad (decide_eq_false (by omega)) _ _ _) (fun h3 => ?_)
    refine ev_ite (fun h => bad (decide_eq_false (by omega)) _ _ _) (fun h4 => ?_)
    by_cases h5 : (l.getD i z78).f2 > 2
    · rw [decide_eq_true h5]; exact bad (decide_eq_false (by omega)) _ _ _
    · rw [decide_eq_false h5]
      have hok : okO (l.getD i z78) = true := decide_eq_true (by omega)
      refine Ev.step (fun k => impl_IsTemplate.j2.eq_2 l i l l.length i false _ _ _ k) (ev_neg (by simp) ?_)
      rw [w_succ (n := l.length) (by omega) (by omega)]
      have yes : offAt l i = true → Ev (fun k => impl_IsTemplate.l0 k l l (l.length : Int) ((i + 1 : Nat) : Int)) (offAt l i && allR (offAt l) (i + 1) l.length) := by
        intro h; rw [h, Bool.true_and]; exact ih
      refine ev_ite (fun h6 => ?_) (fun h6 => yes (by unfold offAt; rw [hok, decide_eq_true (show i = 0 by omega)]; rfl))
      rw [w64 (x := (i : Int) - 1) (by omega) (by omega), show (i : Int) - 1 = ((i - 1 : Nat) : Int) by omega, rdO]
      refine ev_pos (by omega) (ev_pos (by omega) (Ev.bind (cmpO_ev _ _) ?_))
      have hc := cmpO_neg (l.getD (i - 1) z78) (l.getD i z78)
      refine ev_ite (fun h7 => ev_some ?_) (fun h7 => yes ?_)
      · have : befO (l.getD (i - 1) z78) (l.getD i z78) = false := by
          rw [← Bool.not_eq_true, ← hc]; omega
        unfold offAt; rw [this, decide_eq_false (show ¬ i = 0 by omega)]; simp
      · unfold offAt; rw [hok, hc.1 (by omega), Bool.or_true]; rfl
theorem IsTemplate_ev (l : List S78) (hl : l.length ≤ maxLen) : Ev (fun k => impl_IsTemplate.f k l) (tmplOk l) := by
  unfold impl_IsTemplate.f tmplOk
  refine ev_ite (fun h => ?_) (fun h => ?_)
  · refine Ev.step (fun k => impl_IsTemplate.j0.eq_2 l true k) (ev_pos rfl (ev_some ?_))
    rw [decide_eq_false (by omega), Bool.false_and]
  · refine Ev.step (fun k => impl_IsTemplate.j0.eq_2 l _ k) (ev_ite (fun h1 => ev_some ?_) (fun h1 => ?_))
    · simp only [decide_eq_true_eq] at h1
      rw [decide_eq_false (by omega), Bool.false_and]
    · simp only [decide_eq_true_eq] at h1
      rw [decide_eq_true (by omega), Bool.true_and]; exact IsTemplate_l0 l hl l.length 0 (by omega)

/- law.FnExactIsTemplate -/
theorem FnExactIsTemplate : Pure := by
  intro l hl hg
  refine Ev.rounds ?_
  unfold laws_FnExactIsTemplate.f spec_IsTemplate.f
  obtain ⟨r, hr, hz⟩ := szOffsetS_tells l 1048576 hl (by omega)
  refine ev_bindc hr (ev_ite (fun h => ev_some rfl) (fun h => ?_))
  have h0 := hz (by omega)
  have h1 : l.length ≤ 1048576 := by omega
  have hm : (l.map cO).length ≤ maxLen := by rw [List.length_map]; exact hl
  have tl := toOffsetS_ev l h1
  refine Ev.bind tl (Ev.bind (ev_id (slTemplate_ev _ hm)) (Ev.bind tl (Ev.bind (IsTemplate_ev _ hm) ?_)))
  refine ev_neg (by simp) ?_
  exact Ev.bind tl (Ev.bind (eqOffsetS_ev _ hm) (ev_pos rfl (ev_some rfl)))

end Go.Proofs.Ytpdkackfdccedaa.PureFnExactIsTemplate
