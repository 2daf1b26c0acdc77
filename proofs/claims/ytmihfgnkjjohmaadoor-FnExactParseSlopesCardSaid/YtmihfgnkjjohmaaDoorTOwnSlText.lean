/- spec.slText's text and the lines of slopes. -/
import Derived.Test.YtmihfgnkjjohmaaDoorTOwnNumbersText
import Derived.Test.YtmihfgnkjjohmaaDoorTOwnUnl
import Derived.Test.YtmihfgnkjjohmaaDoorTMFnExactParseSlopesx3
import Derived.Test.YtmihfgnkjjohmaaDoorTMFnExactParseSlopesx2
import Derived.Test.YtmihfgnkjjohmaaDoorTMFnExactParseSlopesx0
import Derived.Test.YtmihfgnkjjohmaaDoorTMFnExactParseSlopesx1
namespace Go.Proofs.YtmihfgnkjjohmaaDoor.OwnSlText
open Go.RowKit Go.Proofs.YtmihfgnkjjohmaaDoor.PFnExactParseSlopes Go.Proofs.YtmihfgnkjjohmaaDoorW.PrintWords Go.Proofs.YtmihfgnkjjohmaaDoorW.PrintLast Go.Proofs.YtmihfgnkjjohmaaDoorW.PrintMore Go.Proofs.YtmihfgnkjjohmaaDoor.B Go.Proofs.YtmihfgnkjjohmaaDoor.OwnNumbersText
set_option linter.unusedVariables false
set_option linter.unusedSimpArgs false
theorem l1In_eq (a b c : Int) : spec_l1In.f a b c = some (decide (b ≤ a ∧ a ≤ c)) := by
  unfold spec_l1In.f
  by_cases h : a ≥ b
  · rw [if_pos h]; simp [show b ≤ a from h]
  · rw [if_neg h]; simp [show ¬ b ≤ a from h]
theorem l1All_l0 (l : List Int) (hl : l.length ≤ maxLen) (lo hi : Int) : ∀ (d i : Nat), i + d = l.length → Ev (fun k => spec_l1All.l0 k lo hi l (l.length : Int) (i : Int)) (allR (fun j => decide (lo ≤ l.getD j 0 ∧ l.getD j 0 ≤ hi)) i l.length) := by
  have hl := maxLen_le hl
  intro d
  induction d with
  | zero =>
    intro i hi'
    exact Ev.step (fun k => spec_l1All.l0.eq_2 lo hi l l.length i k) (ev_neg (by omega) (ev_some (allR_end (by omega)).symm))
  | succ d ih =>
    intro i hi'
    refine Ev.step (fun k => spec_l1All.l0.eq_2 lo hi l l.length i k) ?_
    rw [allR_step (by omega), w_succ (n := l.length) (by omega) (by omega), rd_nat]
    refine ev_pos (by omega) (ev_pos (by omega) (ev_pos (by omega) (ev_bindc (l1In_eq _ _ _) ?_)))
    refine ev_ite (fun h => ?_) (fun h => ?_)
    · rw [h, Bool.true_and]; exact ih (i + 1) (by omega)
    · rw [Bool.not_eq_true] at h; rw [h, Bool.false_and]; exact ev_some rfl
theorem l1All_ev (l : List Int) (hl : l.length ≤ maxLen) (lo hi : Int) : Ev (fun k => spec_l1All.f k l lo hi) (allR (fun j => decide (lo ≤ l.getD j 0 ∧ l.getD j 0 ≤ hi)) 0 l.length) := by
  unfold spec_l1All.f
  exact l1All_l0 l hl lo hi l.length 0 (by omega)
def befO (a b : S52) : Bool := if a.f2 = b.f2 then (if a.f1 = b.f1 then decide (a.f0 < b.f0) else decide (a.f1 < b.f1)) else decide (a.f2 < b.f2)
def okO (o : S52) : Bool := decide (-2 ≤ o.f0 ∧ o.f0 ≤ 2 ∧ -2 ≤ o.f1 ∧ o.f1 ≤ 2 ∧ 1 ≤ o.f2 ∧ o.f2 ≤ 2)
def offAt (l : List S52) (j : Nat) : Bool := okO (l.getD j z52) && (decide (j = 0) || befO (l.getD (j - 1) z52) (l.getD j z52))
def tmplOk (l : List S52) : Bool := decide (1 ≤ l.length ∧ l.length ≤ 12) && allR (offAt l) 0 l.length
theorem rdO (l : List S52) (i : Nat) : rd_T52 l (i : Int) = l.getD i z52 := by unfold rd_T52; rw [toNat_nat]
theorem slBefore_eq (a b : S52) : spec_slBefore.f a.f0 a.f1 a.f2 b.f0 b.f1 b.f2 = some (befO a b) := by
  unfold spec_slBefore.f befO
  split <;> (try split) <;> rfl
theorem slTemplate_l0 (l : List S52) (hl : l.length ≤ maxLen) : ∀ (d i : Nat), i + d = l.length →
    Ev (fun k => spec_slTemplate.l0 k l l (l.length : Int) (i : Int)) (decide (1 ≤ l.length ∧ l.length ≤ 12) && allR (offAt l) i l.length) := by
  have hl := maxLen_le hl
  intro d
  induction d with
  | zero =>
    intro i hi
    refine Ev.step (fun k => spec_slTemplate.l0.eq_2 l l l.length i k) (ev_neg (by omega) (ev_bindc (l1In_eq _ _ _) (ev_some ?_)))
    rw [allR_end (by omega), Bool.and_true, decide_eq_decide]; omega
  | succ d ih =>
    intro i hi
    refine Ev.step (fun k => spec_slTemplate.l0.eq_2 l l l.length i k) ?_
    have ih := ih (i + 1) (by omega)
    rw [allR_step (by omega), w_succ (n := l.length) (by omega) (by omega), rdO]
    have no : offAt l i = false → false = (decide (1 ≤ l.length ∧ l.length ≤ 12) && (offAt l i && allR (offAt l) (i + 1) l.length)) := by
      intro h; rw [h, Bool.false_and, Bool.and_false]
    have yes : offAt l i = true → Ev (fun k => spec_slTemplate.l0 k l l (l.length : Int) ((i + 1 : Nat) : Int)) (decide (1 ≤ l.length ∧ l.length ≤ 12) && (offAt l i && allR (offAt l) (i + 1) l.length)) := by
      intro h; rw [h, Bool.true_and]; exact ih
    have bad : okO (l.getD i z52) = false → offAt l i = false := by intro h; unfold offAt; rw [h, Bool.false_and]
    refine ev_pos (by omega) (ev_pos (by omega) (ev_pos (by omega) (ev_bindc (l1In_eq _ _ _) ?_)))
    refine ev_ite (fun h => ?_) (fun h => ev_some (no (bad (by unfold okO; simp only [decide_eq_true_eq] at h; simp only [decide_eq_false_iff_not]; omega))))
    refine ev_bindc (l1In_eq _ _ _) (ev_ite (fun h1 => ?_) (fun h1 => ev_some (no (bad (by unfold okO; simp only [decide_eq_true_eq] at h1; simp only [decide_eq_false_iff_not]; omega)))))
    refine ev_bindc (l1In_eq _ _ _) (ev_ite (fun h2 => ?_) (fun h2 => ev_some (no (bad (by unfold okO; simp only [decide_eq_true_eq] at h2; simp only [decide_eq_false_iff_not]; omega)))))
    simp only [decide_eq_true_eq] at h h1 h2
    have hok : okO (l.getD i z52) = true := decide_eq_true (by omega)
    refine ev_ite (fun h0 => ?_) (fun h0 => yes (by unfold offAt; rw [hok, decide_eq_true (show i = 0 by omega)]; rfl))
    rw [w64 (x := (i : Int) - 1) (by omega) (by omega), show (i : Int) - 1 = ((i - 1 : Nat) : Int) by omega, rdO]
    refine ev_pos (by omega) (ev_pos (by omega) (ev_bindc (slBefore_eq _ _) (ev_ite (fun h3 => yes ?_) (fun h3 => ev_some (no ?_)))))
    · unfold offAt; rw [hok, h3, Bool.or_true]; rfl
    · rw [Bool.not_eq_true] at h3; unfold offAt; rw [h3, decide_eq_false (show ¬ i = 0 by omega)]; simp
theorem slTemplate_ev (l : List S52) (hl : l.length ≤ maxLen) : Ev (fun k => spec_slTemplate.f k l) (tmplOk l) := by
  unfold spec_slTemplate.f tmplOk
  exact slTemplate_l0 l hl l.length 0 (by omega)
def cmpI (a b : Int) : Int := if a < b then -1 else if a > b then 1 else 0
theorem cmpI_eq (a b : Int) : cmp_Compare_int.f a b = some (cmpI a b) := by
  unfold cmp_Compare_int.f cmp_isNaN_int.f cmpI
  simp only [Option.bind_some, bne_self_eq_false]
  rw [if_neg (by simp), if_neg (by simp)]
  split
  · rfl
  · split <;> rfl
theorem cmpOr3 (x y z : Int) : Ev (fun k => cmp_Or_int.f k [x, y, z]) (if x = 0 then (if y = 0 then z else y) else x) := by
  unfold cmp_Or_int.f
  have e3 : (([x, y, z] : List Int).length : Int) = 3 := rfl
  have w1 : wrap64 (0 + 1) = 1 := by unfold wrap64; omega
  have w2 : wrap64 (1 + 1) = 2 := by unfold wrap64; omega
  have w3 : wrap64 (2 + 1) = 3 := by unfold wrap64; omega
  have r0 : rd [x, y, z] 0 = x := rfl
  have r1 : rd [x, y, z] 1 = y := rfl
  have r2 : rd [x, y, z] 2 = z := rfl
  rw [e3]
  refine Ev.step (fun k => cmp_Or_int.l0.eq_2 0 [x, y, z] 3 0 k) ?_
  rw [e3, w1, r0]
  refine ev_pos (by omega) (ev_pos (by omega) (ev_pos (by omega) (ev_ite (fun h => ?_) (fun h => ev_some (by rw [if_neg h])))))
  rw [if_pos h]
  refine Ev.step (fun k => cmp_Or_int.l0.eq_2 0 [x, y, z] 3 1 k) ?_
  rw [e3, w2, r1]
  refine ev_pos (by omega) (ev_pos (by omega) (ev_pos (by omega) (ev_ite (fun h1 => ?_) (fun h1 => ev_some (by rw [if_neg h1])))))
  rw [if_pos h1]
  refine Ev.step (fun k => cmp_Or_int.l0.eq_2 0 [x, y, z] 3 2 k) ?_
  rw [e3, w3, r2]
  refine ev_pos (by omega) (ev_pos (by omega) (ev_pos (by omega) (ev_ite (fun h2 => ?_) (fun h2 => ev_some rfl))))
  rw [h2]
  exact Ev.step (fun k => cmp_Or_int.l0.eq_2 0 [x, y, 0] 3 3 k) (ev_neg (by omega) (ev_some rfl))
def cmpO (a b : S52) : Int := if cmpI a.f2 b.f2 = 0 then (if cmpI a.f1 b.f1 = 0 then cmpI a.f0 b.f0 else cmpI a.f1 b.f1) else cmpI a.f2 b.f2
theorem cmpO_ev (a b : S52) : Ev (fun k => impl_compareOffsets.f k a.f0 a.f1 a.f2 b.f0 b.f1 b.f2) (cmpO a b) := by
  unfold impl_compareOffsets.f cmpO
  exact ev_bindc (cmpI_eq _ _) (ev_bindc (cmpI_eq _ _) (ev_bindc (cmpI_eq _ _) (ev_id (cmpOr3 _ _ _))))
theorem cmpO_neg (a b : S52) : cmpO a b < 0 ↔ befO a b = true := by
  unfold cmpO befO cmpI
  by_cases h2 : a.f2 = b.f2
  · by_cases h1 : a.f1 = b.f1
    · simp only [h2, h1, Int.lt_irrefl, gt_iff_lt, if_false, if_true, decide_eq_true_eq]
      split
      · omega
      · split <;> omega
    · simp only [h2, h1, Int.lt_irrefl, gt_iff_lt, if_false, if_true, decide_eq_true_eq]
      by_cases h : a.f1 < b.f1
      · simp [h]
      · simp [h, show b.f1 < a.f1 by omega]
  · simp only [h2, if_false, decide_eq_true_eq]
    by_cases h : a.f2 < b.f2
    · simp [h]
    · simp [h, show b.f2 < a.f2 by omega]
theorem IsTemplate_l0 (l : List S52) (hl : l.length ≤ maxLen) : ∀ (d i : Nat), i + d = l.length → Ev (fun k => impl_IsTemplate.l0 k l l (l.length : Int) (i : Int)) (allR (offAt l) i l.length) := by
  have hl := maxLen_le hl
  intro d
  induction d with
  | zero =>
    intro i hi
    exact Ev.step (fun k => impl_IsTemplate.l0.eq_2 l l l.length i k) (ev_neg (by omega) (ev_some (allR_end (by omega)).symm))
  | succ d ih =>
    intro i hi
    refine Ev.step (fun k => impl_IsTemplate.l0.eq_2 l l l.length i k) ?_
    have ih := ih (i + 1) (by omega)
    rw [allR_step (by omega), rdO]
    have bad : okO (l.getD i z52) = false → ∀ u v x, Ev (fun k => impl_IsTemplate.j2 k l i l l.length i true u v x) (offAt l i && allR (offAt l) (i + 1) l.length) := by
      intro h u v x
      refine Ev.step (fun k => impl_IsTemplate.j2.eq_2 l i l l.length i true u v x k) (ev_pos rfl (ev_some ?_))
      unfold offAt; rw [h, Bool.false_and, Bool.false_and]
    refine ev_pos (by omega) (ev_pos (by omega) (ev_pos (by omega) ?_))
    refine ev_ite (fun h => bad (decide_eq_false (by omega)) _ _ _) (fun h0 => ?_)
    refine ev_ite (fun h => bad (decide_eq_false (by omega)) _ _ _) (fun h1 => ?_)
    refine ev_ite (fun h => bad (decide_eq_false (by omega)) _ _ _) (fun h2 => ?_)
    refine ev_ite (fun h => bad (decide_eq_false (by omega)) _ _ _) (fun h3 => ?_)
    refine ev_ite (fun h => bad (decide_eq_false (by omega)) _ _ _) (fun h4 => ?_)
    by_cases h5 : (l.getD i z52).f2 > 2
    · rw [decide_eq_true h5]; exact bad (decide_eq_false (by omega)) _ _ _
    · rw [decide_eq_false h5]
      have hok : okO (l.getD i z52) = true := decide_eq_true (by omega)
      refine Ev.step (fun k => impl_IsTemplate.j2.eq_2 l i l l.length i false _ _ _ k) (ev_neg (by simp) ?_)
      rw [w_succ (n := l.length) (by omega) (by omega)]
      have yes : offAt l i = true → Ev (fun k => impl_IsTemplate.l0 k l l (l.length : Int) ((i + 1 : Nat) : Int)) (offAt l i && allR (offAt l) (i + 1) l.length) := by
        intro h; rw [h, Bool.true_and]; exact ih
      refine ev_ite (fun h6 => ?_) (fun h6 => yes (by unfold offAt; rw [hok, decide_eq_true (show i = 0 by omega)]; rfl))
      rw [w64 (x := (i : Int) - 1) (by omega) (by omega), show (i : Int) - 1 = ((i - 1 : Nat) : Int) by omega, rdO]
      refine ev_pos (by omega) (ev_pos (by omega) (Ev.bind (cmpO_ev _ _) ?_))
      have hc := cmpO_neg (l.getD (i - 1) z52) (l.getD i z52)
      refine ev_ite (fun h7 => ev_some ?_) (fun h7 => yes ?_)
      · have : befO (l.getD (i - 1) z52) (l.getD i z52) = false := by
          rw [← Bool.not_eq_true, ← hc]; omega
        unfold offAt; rw [this, decide_eq_false (show ¬ i = 0 by omega)]; simp
      · unfold offAt; rw [hok, hc.1 (by omega), Bool.or_true]; rfl
theorem IsTemplate_ev (l : List S52) (hl : l.length ≤ maxLen) : Ev (fun k => impl_IsTemplate.f k l) (tmplOk l) := by
  unfold impl_IsTemplate.f tmplOk
  refine ev_ite (fun h => ?_) (fun h => ?_)
  · refine Ev.step (fun k => impl_IsTemplate.j0.eq_2 l true k) (ev_pos rfl (ev_some ?_))
    rw [decide_eq_false (by omega), Bool.false_and]
  · refine Ev.step (fun k => impl_IsTemplate.j0.eq_2 l _ k) (ev_ite (fun h1 => ev_some ?_) (fun h1 => ?_))
    · simp only [decide_eq_true_eq] at h1
      rw [decide_eq_false (by omega), Bool.false_and]
    · simp only [decide_eq_true_eq] at h1
      rw [decide_eq_true (by omega), Bool.true_and]; exact IsTemplate_l0 l hl l.length 0 (by omega)
def gridOk (x y z : Int) : Bool := decide (1 ≤ x ∧ x ≤ 8 ∧ 1 ≤ y ∧ y ≤ 6 ∧ 1 ≤ z ∧ z ≤ 5 ∧ x * y * z ≤ 120)
theorem grid_w {x y z : Int} (h : 1 ≤ x ∧ x ≤ 8 ∧ 1 ≤ y ∧ y ≤ 6 ∧ 1 ≤ z ∧ z ≤ 5) : wrap64 (wrap64 (x * y) * z) = x * y * z ∧ 1 ≤ x * y * z ∧ x * y * z ≤ 240 := by
  obtain ⟨h1, h2, h3, h4, h5, h6⟩ := h
  have a1 : x * y ≤ 8 * 6 := Int.mul_le_mul h2 h4 (by omega) (by omega)
  have a2 : 1 * 1 ≤ x * y := Int.mul_le_mul h1 h3 (by omega) (by omega)
  have a3 : x * y * z ≤ (8 * 6) * 5 := Int.mul_le_mul a1 h6 (by omega) (by omega)
  have a4 : (1 * 1) * 1 ≤ x * y * z := Int.mul_le_mul a2 h5 (by omega) (by omega)
  rw [w64 (x := x * y) (by omega) (by omega), w64 (by omega) (by omega)]
  exact ⟨rfl, by omega, by omega⟩
theorem grGood_eq (x y z : Int) : spec_grGood.f x y z = some (gridOk x y z) := by
  unfold spec_grGood.f gridOk
  simp only [l1In_eq, Option.bind_some, decide_eq_true_eq]
  by_cases h1 : 1 ≤ x ∧ x ≤ 8
  · rw [if_pos h1]
    by_cases h2 : 1 ≤ y ∧ y ≤ 6
    · rw [if_pos h2]
      by_cases h3 : 1 ≤ z ∧ z ≤ 5
      · rw [if_pos h3]
        have := grid_w (x := x) (y := y) (z := z) (by omega)
        rw [this.1]
        congr 1
        rw [Bool.eq_iff_iff, decide_eq_true_eq, decide_eq_true_eq]
        omega
      · rw [if_neg h3, decide_eq_false (by omega)]
    · rw [if_neg h2, decide_eq_false (by omega)]
  · rw [if_neg h1, decide_eq_false (by omega)]
theorem IsGrid_eq (x y z : Int) : impl_IsGrid.f x y z = some (gridOk x y z) := by
  unfold impl_IsGrid.f gridOk
  by_cases h : 1 ≤ x ∧ x ≤ 8 ∧ 1 ≤ y ∧ y ≤ 6 ∧ 1 ≤ z ∧ z ≤ 5
  · rw [if_pos (by omega), if_pos (by omega), if_pos (by omega), if_pos (by omega), if_pos (by omega), if_pos (by omega), (grid_w h).1]
    congr 1
    rw [Bool.eq_iff_iff, decide_eq_true_eq, decide_eq_true_eq]
    omega
  · rw [show decide (1 ≤ x ∧ x ≤ 8 ∧ 1 ≤ y ∧ y ≤ 6 ∧ 1 ≤ z ∧ z ≤ 5 ∧ x * y * z ≤ 120) = false from decide_eq_false (by omega)]
    repeat' split
    all_goals first | rfl | (exfalso; omega)
def slOk (m : Int) (s : List Int) (T : List (List S52)) : Bool := allR (fun j => tmplOk (T.getD j [])) 0 T.length && (decide (1 ≤ T.length ∧ T.length ≤ 4) && (decide ((s.length : Int) = m) && allR (fun j => decide (0 ≤ s.getD j 0 ∧ s.getD j 0 ≤ (T.length : Int) - 1)) 0 s.length))
theorem rdOS (T : List (List S52)) (i : Nat) : rd_L2 T (i : Int) = T.getD i [] := by unfold rd_L2; rw [toNat_nat]
theorem slGood_l0 (x y z : Int) (s : List Int) (T : List (List S52)) (hs : s.length ≤ maxLen) (hT : T.length ≤ maxLen) (hb : ∀ t ∈ T, t.length ≤ maxLen) : ∀ (d i : Nat), i + d = T.length →
    Ev (fun k => spec_slGood.l0 k T (T.length : Int) (i : Int) x y z s T) (allR (fun j => tmplOk (T.getD j [])) i T.length && (decide (1 ≤ T.length ∧ T.length ≤ 4) && (decide ((s.length : Int) = wrap64 (x * y)) && allR (fun j => decide (0 ≤ s.getD j 0 ∧ s.getD j 0 ≤ (T.length : Int) - 1)) 0 s.length))) := by
  have hT := maxLen_le hT
  intro d
  induction d with
  | zero =>
    intro i hi
    refine Ev.step (fun k => spec_slGood.l0.eq_2 T T.length i x y z s T k) (ev_neg (by omega) ?_)
    rw [allR_end (by omega), Bool.true_and]
    refine ev_bindc (l1In_eq _ _ _) (ev_ite (fun h => ?_) (fun h => ev_some ?_))
    · simp only [decide_eq_true_eq] at h
      rw [decide_eq_true (show 1 ≤ T.length ∧ T.length ≤ 4 by omega), Bool.true_and]
      refine ev_ite (fun h2 => ?_) (fun h2 => ev_some ?_)
      · rw [decide_eq_true h2, Bool.true_and, w64 (by omega) (by omega)]
        exact Ev.bind (l1All_ev s hs _ _) (ev_some rfl)
      · rw [decide_eq_false h2, Bool.false_and]
    · simp only [decide_eq_true_eq] at h
      rw [decide_eq_false (by omega), Bool.false_and]
  | succ d ih =>
    intro i hi
    refine Ev.step (fun k => spec_slGood.l0.eq_2 T T.length i x y z s T k) ?_
    have hmem : T.getD i [] ∈ T := getD_mem (by omega)
    rw [allR_step (by omega), w_succ (n := T.length) (by omega) (by omega), rdOS]
    refine ev_pos (by omega) (ev_pos (by omega) (ev_pos (by omega) (Ev.bind (slTemplate_ev _ (hb _ hmem)) (ev_ite (fun h => ?_) (fun h => ?_)))))
    · rw [h, Bool.true_and]; exact ih (i + 1) (by omega)
    · rw [Bool.not_eq_true] at h; rw [h, Bool.false_and, Bool.false_and]; exact ev_some rfl
theorem areSlopes_l1 (s : List Int) (T : List (List S52)) (hs : s.length ≤ maxLen) : ∀ (d i : Nat), i + d = s.length →
    Ev (fun k => impl_areSlopes.l1 k s (s.length : Int) (i : Int) s T) (allR (fun j => decide (0 ≤ s.getD j 0 ∧ s.getD j 0 ≤ (T.length : Int) - 1)) i s.length) := by
  have hs := maxLen_le hs
  intro d
  induction d with
  | zero =>
    intro i hi
    exact Ev.step (fun k => impl_areSlopes.l1.eq_2 s s.length i s T k) (ev_neg (by omega) (ev_some (allR_end (by omega)).symm))
  | succ d ih =>
    intro i hi
    refine Ev.step (fun k => impl_areSlopes.l1.eq_2 s s.length i s T k) ?_
    rw [allR_step (by omega), w_succ (n := s.length) (by omega) (by omega), rd_nat]
    refine ev_pos (by omega) (ev_pos (by omega) (ev_pos (by omega) (ev_ite (fun h => ev_some ?_) (fun h => ev_ite (fun h2 => ev_some ?_) (fun h2 => ?_)))))
    · rw [decide_eq_false (by omega), Bool.false_and]
    · rw [decide_eq_false (by omega), Bool.false_and]
    · rw [decide_eq_true (by omega), Bool.true_and]; exact ih (i + 1) (by omega)
theorem areSlopes_l0 (s : List Int) (T : List (List S52)) (hs : s.length ≤ maxLen) (hT : T.length ≤ maxLen) (hb : ∀ t ∈ T, t.length ≤ maxLen) : ∀ (d i : Nat), i + d = T.length →
    Ev (fun k => impl_areSlopes.l0 k T (T.length : Int) (i : Int) s T) (allR (fun j => tmplOk (T.getD j [])) i T.length && allR (fun j => decide (0 ≤ s.getD j 0 ∧ s.getD j 0 ≤ (T.length : Int) - 1)) 0 s.length) := by
  have hT := maxLen_le hT
  intro d
  induction d with
  | zero =>
    intro i hi
    refine Ev.step (fun k => impl_areSlopes.l0.eq_2 T T.length i s T k) (ev_neg (by omega) ?_)
    rw [allR_end (by omega), Bool.true_and]
    exact areSlopes_l1 s T hs s.length 0 (by omega)
  | succ d ih =>
    intro i hi
    refine Ev.step (fun k => impl_areSlopes.l0.eq_2 T T.length i s T k) ?_
    have hmem : T.getD i [] ∈ T := getD_mem (by omega)
    rw [allR_step (by omega), w_succ (n := T.length) (by omega) (by omega), rdOS]
    refine ev_pos (by omega) (ev_pos (by omega) (ev_pos (by omega) (Ev.bind (IsTemplate_ev _ (hb _ hmem)) (ev_ite (fun h => ?_) (fun h => ?_)))))
    · rw [h, Bool.true_and]; exact ih (i + 1) (by omega)
    · rw [Bool.not_eq_true] at h; rw [h, Bool.false_and, Bool.false_and]; exact ev_some rfl
theorem areSlopes_ev (x y z : Int) (s : List Int) (T : List (List S52)) (hs : s.length ≤ maxLen) (hT : T.length ≤ maxLen) (hb : ∀ t ∈ T, t.length ≤ maxLen) : Ev (fun k => impl_areSlopes.f k x y z s T) (slOk (wrap64 (x * y)) s T) := by
  unfold impl_areSlopes.f slOk
  refine ev_ite (fun h => ?_) (fun h => ev_ite (fun h2 => ?_) (fun h2 => ?_))
  · refine Ev.step (fun k => impl_areSlopes.j0.eq_2 true s T k) (ev_pos rfl (ev_some ?_))
    rw [decide_eq_false (show ¬ (1 ≤ T.length ∧ T.length ≤ 4) by omega), Bool.false_and, Bool.and_false]
  · refine Ev.step (fun k => impl_areSlopes.j0.eq_2 true s T k) (ev_pos rfl (ev_some ?_))
    rw [decide_eq_false (show ¬ (1 ≤ T.length ∧ T.length ≤ 4) by omega), Bool.false_and, Bool.and_false]
  · rw [decide_eq_true (show 1 ≤ T.length ∧ T.length ≤ 4 by omega), Bool.true_and]
    refine Ev.step (fun k => impl_areSlopes.j0.eq_2 _ s T k) (ev_ite (fun h3 => ev_some ?_) (fun h3 => ?_))
    · rw [decide_eq_false (by simpa using h3), Bool.false_and, Bool.and_false]
    · rw [decide_eq_true (by simpa using h3), Bool.true_and]
      exact areSlopes_l0 s T hs hT hb T.length 0 (by omega)
abbrev kOS : Kd (List S52) := Kd.slice 52 k52
/- The texts. -/
def toB (l : List UInt8) : ByteArray := ⟨l.toArray⟩
theorem toB_app (a b : List UInt8) : toB a ++ toB b = toB (a ++ b) := by
  apply ByteArray.ext
  simp [toB]
theorem toB_size (a : List UInt8) : (toB a).size = a.length := by simp [toB, ByteArray.size]
def nums (t : List S52) : List Int := t.flatMap fun o => [o.f0, o.f1, o.f2]
def lineI (t : List S52) : List UInt8 := [116, 101, 109, 112, 108, 97, 116, 101, 32] ++ txtN (nums t) ++ [10]
def stT (s : List Int) (T : List (List S52)) : List UInt8 := T.flatMap lineI ++ [115, 101, 99, 116, 111, 114, 115, 32] ++ txtN s ++ [10]
theorem nums_len (t : List S52) : (nums t).length = 3 * t.length := by
  unfold nums
  induction t with
  | nil => rfl
  | cons o r ih => simp only [List.flatMap_cons, List.length_append, List.length_cons, List.length_nil, ih]; omega
theorem nums_bd {t : List S52} (h : ∀ o ∈ t, okO o = true) : ∀ n ∈ nums t, -2 ≤ n ∧ n ≤ 2 := by
  intro n hn
  unfold nums at hn
  obtain ⟨o, ho, hq⟩ := List.mem_flatMap.1 hn
  have := h o ho
  unfold okO at this
  rw [decide_eq_true_eq] at this
  simp only [List.mem_cons, List.not_mem_nil, or_false] at hq
  omega
structure Facts (m : Int) (s : List Int) (T : List (List S52)) : Prop where
  lT : 1 ≤ T.length ∧ T.length ≤ 4
  row : ∀ t ∈ T, 1 ≤ t.length ∧ t.length ≤ 12 ∧ ∀ o ∈ t, okO o = true
  ls : 1 ≤ s.length ∧ s.length ≤ 48
  sec : ∀ n ∈ s, 0 ≤ n ∧ n ≤ 3
theorem slOk_facts {X Y Z : Int} {s : List Int} {T : List (List S52)} (hg : gridOk X Y Z = true) (h : slOk (wrap64 (X * Y)) s T = true) : Facts (X * Y) s T := by
  unfold gridOk at hg
  rw [decide_eq_true_eq] at hg
  unfold slOk at h
  simp only [Bool.and_eq_true, decide_eq_true_eq, allR_iff] at h
  obtain ⟨ht, hl, hs, hn⟩ := h
  have m1 : X * Y ≤ 8 * 6 := Int.mul_le_mul (by omega) (by omega) (by omega) (by omega)
  have m2 : 1 * 1 ≤ X * Y := Int.mul_le_mul (by omega) (by omega) (by omega) (by omega)
  rw [w64 (by omega) (by omega)] at hs
  refine ⟨hl, ?_, by omega, ?_⟩
  · intro t hm
    obtain ⟨j, hj, rfl⟩ := mem_getD (z := []) hm
    have h1 := ht j (Nat.zero_le _) hj
    unfold tmplOk at h1
    rw [Bool.and_eq_true, decide_eq_true_eq, allR_iff] at h1
    refine ⟨h1.1.1, h1.1.2, fun o ho => ?_⟩
    obtain ⟨q, hq, rfl⟩ := mem_getD (z := z52) ho
    have := h1.2 q (Nat.zero_le _) hq
    unfold offAt at this
    rw [Bool.and_eq_true] at this
    exact this.1
  · intro n hm
    obtain ⟨j, hj, rfl⟩ := mem_getD (z := 0) hm
    have := hn j (Nat.zero_le _) hj
    omega
/- spec's text. -/
theorem toB_byte (a : Int) (n : Nat) (h : a = n) (hn : n ≤ 9) : strOfNums ([(wrap64 (48 + a)) % 256] : List Int) = toB [UInt8.ofNat (48 + n)] := by
  subst h
  have : n = 0 ∨ n = 1 ∨ n = 2 ∨ n = 3 ∨ n = 4 ∨ n = 5 ∨ n = 6 ∨ n = 7 ∨ n = 8 ∨ n = 9 := by omega
  rcases this with rfl | rfl | rfl | rfl | rfl | rfl | rfl | rfl | rfl | rfl <;> decide +kernel
theorem l1Num_ev (a : Int) (h0 : 0 ≤ a) (h1 : a ≤ 9) : Ev (fun k => spec_l1Num.f k a) (toB (Lib.itoa a)) := by
  obtain ⟨n, rfl⟩ : ∃ n : Nat, a = n := ⟨a.toNat, by omega⟩
  refine Ev.step (fun k => spec_l1Num.f.eq_2 n k) (ev_pos (by omega) (ev_some ?_))
  rw [toB_byte n n rfl (by omega), Lib.itoa_nonneg, Lib.decDigits_one (by omega)]
theorem l1Int_ev (a : Int) (h0 : -9 ≤ a) (h1 : a ≤ 9) : Ev (fun k => spec_l1Int.f k a) (toB (Lib.itoa a)) := by
  unfold spec_l1Int.f
  refine ev_ite (fun h => ?_) (fun h => ev_id (l1Num_ev a (by omega) h1))
  obtain ⟨n, rfl⟩ : ∃ n : Nat, a = -(n : Int) := ⟨a.natAbs, by omega⟩
  rw [show wrap64 (-(-(n : Int))) = (n : Int) by rw [Int.neg_neg, w64 (by omega) (by omega)]]
  refine Ev.bind (l1Num_ev n (by omega) (by omega)) (ev_pos ?_ (ev_some ?_))
  · rw [toB_size, Lib.itoa_nonneg, Lib.decDigits_one (by omega)]; simp
  · rw [Lib.itoa_neg n (by omega), Lib.itoa_nonneg]
    show toB [45] ++ toB _ = _
    rw [toB_app]; rfl
theorem itoa_len (a : Int) (h0 : -9 ≤ a) (h1 : a ≤ 9) : (Lib.itoa a).length ≤ 21 := Lib.itoa_length_le a (by omega) (by omega)
def offS (o : S52) : List UInt8 := [32] ++ Lib.itoa o.f0 ++ [32] ++ Lib.itoa o.f1 ++ [32] ++ Lib.itoa o.f2
def offsS (t : List S52) : List UInt8 := t.flatMap offS
def secS (s : List Int) : List UInt8 := s.flatMap fun n => [32] ++ Lib.itoa n
def lineS (t : List S52) : List UInt8 := [116, 101, 109, 112, 108, 97, 116, 101] ++ offsS t ++ [10]
def tailS (s : List Int) : List UInt8 := [115, 101, 99, 116, 111, 114, 115] ++ secS s ++ [10]
theorem slText_l2 (s : List Int) (hs : ∀ n ∈ s, 0 ≤ n ∧ n ≤ 3) (hl : s.length ≤ 48) : ∀ (d i : Nat) (a : List UInt8), i + d = s.length → a.length + 30 * d ≤ 100000 →
    Ev (fun k => spec_slText.l2 k (toB a) s (s.length : Int) (i : Int)) (toB (a ++ secS (s.drop i) ++ [10])) := by
  intro d
  induction d with
  | zero =>
    intro i a hi ha
    refine Ev.step (fun k => spec_slText.l2.eq_2 (toB a) s s.length i k) (ev_neg (by omega) (ev_pos (by rw [toB_size]; omega) (ev_some ?_)))
    rw [List.drop_eq_nil_of_le (by omega)]
    show toB a ++ toB [10] = _
    rw [toB_app]; simp [secS]
  | succ d ih =>
    intro i a hi ha
    have hm : s.getD i 0 ∈ s := getD_mem (by omega)
    have hb := hs _ hm
    have hn := itoa_len (s.getD i 0) (by omega) (by omega)
    refine Ev.step (fun k => spec_slText.l2.eq_2 (toB a) s s.length i k) ?_
    rw [rd_nat, w_succ (n := s.length) (by omega) (by omega)]
    refine ev_pos (by omega) (ev_pos (by omega) (ev_pos (by omega) (Ev.bind (l1Num_ev _ hb.1 (by omega)) ?_)))
    have e1 : (⟨#[32]⟩ : ByteArray) ++ toB (Lib.itoa (s.getD i 0)) = toB ([32] ++ Lib.itoa (s.getD i 0)) := toB_app [32] _
    rw [e1, toB_app, toB_size, toB_size, toB_size]
    refine ev_pos (by omega) (ev_pos (by simp only [List.length_append, List.length_cons, List.length_nil]; omega) ?_)
    refine ev_eq ?_ (ih (i + 1) _ (by omega) (by simp only [List.length_append, List.length_cons, List.length_nil]; omega))
    rw [show s.drop i = s.getD i 0 :: s.drop (i + 1) by rw [List.drop_eq_getElem_cons (by omega), List.getD_eq_getElem?_getD, List.getElem?_eq_getElem (by omega), Option.getD_some]]
    simp [secS]
theorem slText_l1 (s : List Int) (T : List (List S52)) (n x : Int) (r : ByteArray) (t : List S52) (ht : ∀ o ∈ t, okO o = true) (hl : t.length ≤ 12) : ∀ (d i : Nat) (a : List UInt8), i + d = t.length → a.length + 100 * d ≤ 100000 →
    Ev (fun k => spec_slText.l0 k (toB (a ++ offsS (t.drop i) ++ [10])) T n (wrap64 (x + 1)) s T) r →
    Ev (fun k => spec_slText.l1 k (toB a) T n x t (t.length : Int) (i : Int) s T) r := by
  intro d
  induction d with
  | zero =>
    intro i a hi ha hk
    refine Ev.step (fun k => spec_slText.l1.eq_2 (toB a) T n x t t.length i s T k) (ev_neg (by omega) (ev_pos (by rw [toB_size]; omega) ?_))
    rw [List.drop_eq_nil_of_le (by omega)] at hk
    have e : toB a ++ (⟨#[10]⟩ : ByteArray) = toB (a ++ offsS [] ++ [10]) := (toB_app a [10]).trans (by simp [offsS])
    rw [e]; exact hk
  | succ d ih =>
    intro i a hi ha hk
    have hm : t.getD i z52 ∈ t := getD_mem (by omega)
    have ho := ht _ hm
    unfold okO at ho
    rw [decide_eq_true_eq] at ho
    refine Ev.step (fun k => spec_slText.l1.eq_2 (toB a) T n x t t.length i s T k) ?_
    rw [w_succ (n := t.length) (by omega) (by omega), rdO]
    rw [show t.drop i = t.getD i z52 :: t.drop (i + 1) by rw [List.drop_eq_getElem_cons (by omega), List.getD_eq_getElem?_getD, List.getElem?_eq_getElem (by omega), Option.getD_some]] at hk
    generalize t.getD i z52 = o at ho hk ⊢
    have n0 := itoa_len o.f0 (by omega) (by omega)
    have n1 := itoa_len o.f1 (by omega) (by omega)
    have n2 := itoa_len o.f2 (by omega) (by omega)
    have e32 : (⟨#[32]⟩ : ByteArray) = toB [32] := rfl
    refine ev_pos (by omega) (ev_pos (by omega) (ev_pos (by omega) (Ev.bind (l1Int_ev _ (by omega) (by omega)) ?_)))
    rw [e32]
    simp only [toB_app, toB_size]
    refine ev_pos (by omega) (ev_pos (by simp only [List.length_append, List.length_cons, List.length_nil]; omega) (Ev.bind (l1Int_ev _ (by omega) (by omega)) ?_))
    simp only [toB_app, toB_size]
    refine ev_pos (by simp only [List.length_append, List.length_cons, List.length_nil]; omega) (ev_pos (by simp only [List.length_append, List.length_cons, List.length_nil]; omega) (Ev.bind (l1Int_ev _ (by omega) (by omega)) ?_))
    simp only [toB_app, toB_size]
    refine ev_pos (by simp only [List.length_append, List.length_cons, List.length_nil]; omega) (ev_pos (by simp only [List.length_append, List.length_cons, List.length_nil]; omega) ?_)
    refine ih (i + 1) _ (by omega) (by simp only [List.length_append, List.length_cons, List.length_nil]; omega) ?_
    have e : a ++ offsS (o :: t.drop (i + 1)) ++ [10] = a ++ ([32] ++ Lib.itoa o.f0 ++ [32] ++ Lib.itoa o.f1 ++ [32] ++ Lib.itoa o.f2) ++ offsS (t.drop (i + 1)) ++ [10] := by simp [offsS, offS]
    rw [e] at hk
    exact hk
theorem slText_l0 (s : List Int) (T : List (List S52)) (hs : ∀ n ∈ s, 0 ≤ n ∧ n ≤ 3) (hl : s.length ≤ 48) (hT : T.length ≤ 4) (ht : ∀ t ∈ T, t.length ≤ 12 ∧ ∀ o ∈ t, okO o = true) : ∀ (d i : Nat) (a : List UInt8), i + d = T.length → a.length + 5000 * d ≤ 50000 →
    Ev (fun k => spec_slText.l0 k (toB a) T (T.length : Int) (i : Int) s T) (toB (a ++ (T.drop i).flatMap lineS ++ tailS s)) := by
  intro d
  induction d with
  | zero =>
    intro i a hi ha
    refine Ev.step (fun k => spec_slText.l0.eq_2 (toB a) T T.length i s T k) (ev_neg (by omega) (ev_pos (by rw [toB_size]; omega) ?_))
    have e : toB a ++ (⟨#[115, 101, 99, 116, 111, 114, 115]⟩ : ByteArray) = toB (a ++ [115, 101, 99, 116, 111, 114, 115]) := toB_app a _
    rw [e, List.drop_eq_nil_of_le (by omega)]
    refine ev_eq ?_ (slText_l2 s hs hl s.length 0 _ (by omega) (by simp only [List.length_append, List.length_cons, List.length_nil]; omega))
    simp [tailS, List.drop_zero]
  | succ d ih =>
    intro i a hi ha
    have hm : T.getD i [] ∈ T := getD_mem (by omega)
    have h1 := ht _ hm
    refine Ev.step (fun k => spec_slText.l0.eq_2 (toB a) T T.length i s T k) ?_
    rw [show T.drop i = T.getD i [] :: T.drop (i + 1) by rw [List.drop_eq_getElem_cons (by omega), List.getD_eq_getElem?_getD, List.getElem?_eq_getElem (by omega), Option.getD_some], rdOS]
    generalize T.getD i [] = t at h1 ⊢
    have e : toB a ++ (⟨#[116, 101, 109, 112, 108, 97, 116, 101]⟩ : ByteArray) = toB (a ++ [116, 101, 109, 112, 108, 97, 116, 101]) := toB_app a _
    refine ev_pos (by omega) (ev_pos (by omega) (ev_pos (by omega) (ev_pos (by rw [toB_size]; omega) ?_)))
    rw [e]
    have hol : (offsS t).length ≤ 100 * t.length := by
      have h2 := h1.2
      clear h1
      unfold offsS
      induction t with
      | nil => simp
      | cons o r ihr =>
        have := ihr (fun x hx => h2 x (List.mem_cons_of_mem _ hx))
        have ho := h2 o (List.mem_cons_self ..)
        unfold okO at ho
        rw [decide_eq_true_eq] at ho
        have n0 := itoa_len o.f0 (by omega) (by omega)
        have n1 := itoa_len o.f1 (by omega) (by omega)
        have n2 := itoa_len o.f2 (by omega) (by omega)
        simp only [List.flatMap_cons, offS, List.length_append, List.length_cons, List.length_nil] at *
        omega
    refine slText_l1 s T T.length i _ t h1.2 h1.1 t.length 0 _ (by omega) (by simp only [List.length_append, List.length_cons, List.length_nil]; omega) ?_
    rw [w_succ (n := T.length) (by omega) (by omega)]
    refine ev_eq ?_ (ih (i + 1) _ (by omega) (by have := h1.1; simp only [List.length_append, List.length_cons, List.length_nil, List.drop_zero]; omega))
    simp [lineS, List.flatMap_cons]
/- The two texts are one. -/
theorem sep_join (l : List Int) (h : 1 ≤ l.length) : [32] ++ txtN l = l.flatMap fun n => [32] ++ Lib.itoa n := by
  unfold txtN
  cases l with
  | nil => simp at h
  | cons x r =>
    rw [List.map_cons, Lib.join_cons, List.flatMap_cons, ← List.append_assoc]
    congr 1
    unfold Lib.joinTail
    rw [List.map_map, List.flatMap_def]
    rfl
theorem offs_nums (t : List S52) : offsS t = (nums t).flatMap fun n => [32] ++ Lib.itoa n := by
  unfold offsS nums
  induction t with
  | nil => rfl
  | cons o r ih => rw [List.flatMap_cons, List.flatMap_cons, List.flatMap_append, ih]; congr 1; simp [offS]
theorem line_eq {t : List S52} (h : 1 ≤ t.length) : lineS t = lineI t := by
  unfold lineS lineI
  rw [offs_nums, ← sep_join _ (by rw [nums_len]; omega)]
  simp
theorem text_eq {m : Int} {s : List Int} {T : List (List S52)} (h : Facts m s T) : T.flatMap lineS ++ tailS s = stT s T := by
  have e : T.flatMap lineS = T.flatMap lineI := by
    have h2 := h.row
    clear h
    induction T with
    | nil => rfl
    | cons t r ih => rw [List.flatMap_cons, List.flatMap_cons, ih (fun x hx => h2 x (List.mem_cons_of_mem _ hx)), line_eq (h2 t (List.mem_cons_self ..)).1]
  unfold stT tailS secS
  rw [e, ← sep_join s h.ls.1]
  simp
/-- The numbers of a line, three by three. -/
def tri : List Int → List S52
  | a :: b :: c :: r => ⟨a, b, c⟩ :: tri r
  | _ => []
theorem tri_nums : ∀ t : List S52, tri (nums t) = t
  | [] => rfl
  | o :: r => by
    have h := tri_nums r
    unfold nums at h ⊢
    simp only [List.flatMap_cons, List.cons_append, List.nil_append, tri, h]
theorem nums_tri : ∀ ns : List Int, ns.length % 3 = 0 → nums (tri ns) = ns
  | [], _ => rfl
  | [a], h => by simp at h
  | [a, b], h => by simp at h
  | a :: b :: c :: r, h => by
    have ih := nums_tri r (by simp only [List.length_cons] at h; omega)
    rw [tri]
    unfold nums at ih ⊢
    rw [List.flatMap_cons, ih]
    rfl
end Go.Proofs.YtmihfgnkjjohmaaDoor.OwnSlText
