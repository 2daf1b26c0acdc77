/- The contract of impl.arcsOf, by hand: a row for each block, the blocks of its template in rising order. -/
import Derived.Test.YtpndghkfbojokaaTOwnSort
import Derived.Test.YtpndghkfbojokaaTWTab
import Derived.Test.YtpndghkfbojokaaTWKept
import Derived.Test.YtpndghkfbojokaaTMFnExactArcsOfx2
import Derived.Test.YtpndghkfbojokaaTMFnExactArcsOfx2
import Derived.Test.YtpndghkfbojokaaTMFnExactArcsOfx2
import Derived.Test.YtpndghkfbojokaaTMFnExactArcsOfx2
import Derived.Test.YtpndghkfbojokaaTMFnExactArcsOfx2
import Derived.Test.YtpndghkfbojokaaTMFnExactArcsOfx1
import Derived.Laws.EntriesVeiled
namespace Go.Proofs.Ytpndghkfbojokaa.OwnArcs
open Go.RowKit Go.Proofs.Ytpndghkfbojokaa.PFnExactArcsOf Go.Proofs.YtpndghkfbojokaaW.PrintWords Go.Proofs.YtpndghkfbojokaaW.PrintLast Go.Proofs.YtpndghkfbojokaaW.PrintMore Go.Proofs.Ytpndghkfbojokaa.B Go.Proofs.Ytpndghkfbojokaa.OwnSort
set_option linter.unusedVariables false
set_option linter.unusedSimpArgs false
theorem l1In_eq (a b c : Int) : spec_l1In.f a b c = some (decide (b ≤ a ∧ a ≤ c)) := by
  unfold spec_l1In.f
  by_cases h : a ≥ b
  · rw [if_pos h]; simp [show b ≤ a from h]
  · rw [if_neg h]; simp [show ¬ b ≤ a from h]
theorem l1All_l0 (l : List Int) (hl : l.length ≤ maxLen) (lo hi : Int) : ∀ (d i : Nat), i + d = l.length → Ev (fun k => spec_l1All.l0 k lo hi l (l.length : Int) (i : Int)) (allR (fun j => decide (lo ≤ l.getD j 0 ∧ l.getD j 0 ≤ hi)) i l.length) := by
  have hl := maxLen_le hl
  intro d
  induction d with
  | zero =>
    intro i hi'
    exact Ev.step (fun k => spec_l1All.l0.eq_2 lo hi l l.length i k) (ev_neg (by omega) (ev_some (allR_end (by omega)).symm))
  | succ d ih =>
    intro i hi'
    refine Ev.step (fun k => spec_l1All.l0.eq_2 lo hi l l.length i k) ?_
    rw [allR_step (by omega), w_succ (n := l.length) (by omega) (by omega), rd_nat]
    refine ev_pos (by omega) (ev_pos (by omega) (ev_pos (by omega) (ev_bindc (l1In_eq _ _ _) ?_)))
    refine ev_ite (fun h => ?_) (fun h => ?_)
    · rw [h, Bool.true_and]; exact ih (i + 1) (by omega)
    · rw [Bool.not_eq_true] at h; rw [h, Bool.false_and]; exact ev_some rfl
theorem l1All_ev (l : List Int) (hl : l.length ≤ maxLen) (lo hi : Int) : Ev (fun k => spec_l1All.f k l lo hi) (allR (fun j => decide (lo ≤ l.getD j 0 ∧ l.getD j 0 ≤ hi)) 0 l.length) := by
  unfold spec_l1All.f
  exact l1All_l0 l hl lo hi l.length 0 (by omega)
def cO (e : S89) : S86 := ⟨e.f0, e.f1, e.f2⟩
def befO (a b : S86) : Bool := if a.f2 = b.f2 then (if a.f1 = b.f1 then decide (a.f0 < b.f0) else decide (a.f1 < b.f1)) else decide (a.f2 < b.f2)
def okO (o : S86) : Bool := decide (-2 ≤ o.f0 ∧ o.f0 ≤ 2 ∧ -2 ≤ o.f1 ∧ o.f1 ≤ 2 ∧ 1 ≤ o.f2 ∧ o.f2 ≤ 2)
def offAt (l : List S86) (j : Nat) : Bool := okO (l.getD j z86) && (decide (j = 0) || befO (l.getD (j - 1) z86) (l.getD j z86))
def tmplOk (l : List S86) : Bool := decide (1 ≤ l.length ∧ l.length ≤ 12) && allR (offAt l) 0 l.length
theorem rdO (l : List S86) (i : Nat) : rd_T86 l (i : Int) = l.getD i z86 := by unfold rd_T86; rw [toNat_nat]
theorem slBefore_eq (a b : S86) : spec_slBefore.f a.f0 a.f1 a.f2 b.f0 b.f1 b.f2 = some (befO a b) := by
  unfold spec_slBefore.f befO
  split <;> (try split) <;> rfl
theorem slTemplate_l0 (l : List S86) (hl : l.length ≤ maxLen) : ∀ (d i : Nat), i + d = l.length →
    Ev (fun k => spec_slTemplate.l0 k l l (l.length : Int) (i : Int)) (decide (1 ≤ l.length ∧ l.length ≤ 12) && allR (offAt l) i l.length) := by
  have hl := maxLen_le hl
  intro d
  induction d with
  | zero =>
    intro i hi
    refine Ev.step (fun k => spec_slTemplate.l0.eq_2 l l l.length i k) (ev_neg (by omega) (ev_bindc (l1In_eq _ _ _) (ev_some ?_)))
    rw [allR_end (by omega), Bool.and_true, decide_eq_decide]; omega
  | succ d ih =>
    intro i hi
    refine Ev.step (fun k => spec_slTemplate.l0.eq_2 l l l.length i k) ?_
    have ih := ih (i + 1) (by omega)
    rw [allR_step (by omega), w_succ (n := l.length) (by omega) (by omega), rdO]
    have no : offAt l i = false → false = (decide (1 ≤ l.length ∧ l.length ≤ 12) && (offAt l i && allR (offAt l) (i + 1) l.length)) := by
      intro h; rw [h, Bool.false_and, Bool.and_false]
    have yes : offAt l i = true → Ev (fun k => spec_slTemplate.l0 k l l (l.length : Int) ((i + 1 : Nat) : Int)) (decide (1 ≤ l.length ∧ l.length ≤ 12) && (offAt l i && allR (offAt l) (i + 1) l.length)) := by
      intro h; rw [h, Bool.true_and]; exact ih
    have bad : okO (l.getD i z86) = false → offAt l i = false := by intro h; unfold offAt; rw [h, Bool.false_and]
    refine ev_pos (by omega) (ev_pos (by omega) (ev_pos (by omega) (ev_bindc (l1In_eq _ _ _) ?_)))
    refine ev_ite (fun h => ?_) (fun h => ev_some (no (bad (by unfold okO; simp only [decide_eq_true_eq] at h; simp only [decide_eq_false_iff_not]; omega))))
    refine ev_bindc (l1In_eq _ _ _) (ev_ite (fun h1 => ?_) (fun h1 => ev_some (no (bad (by unfold okO; simp only [decide_eq_true_eq] at h1; simp only [decide_eq_false_iff_not]; omega)))))
    refine ev_bindc (l1In_eq _ _ _) (ev_ite (fun h2 => ?_) (fun h2 => ev_some (no (bad (by unfold okO; simp only [decide_eq_true_eq] at h2; simp only [decide_eq_false_iff_not]; omega)))))
    simp only [decide_eq_true_eq] at h h1 h2
    have hok : okO (l.getD i z86) = true := decide_eq_true (by omega)
    refine ev_ite (fun h0 => ?_) (fun h0 => yes (by unfold offAt; rw [hok, decide_eq_true (show i = 0 by omega)]; rfl))
    rw [w64 (x := (i : Int) - 1) (by omega) (by omega), show (i : Int) - 1 = ((i - 1 : Nat) : Int) by omega, rdO]
    refine ev_pos (by omega) (ev_pos (by omega) (ev_bindc (slBefore_eq _ _) (ev_ite (fun h3 => yes ?_) (fun h3 => ev_some (no ?_)))))
    · unfold offAt; rw [hok, h3, Bool.or_true]; rfl
    · rw [Bool.not_eq_true] at h3; unfold offAt; rw [h3, decide_eq_false (show ¬ i = 0 by omega)]; simp
theorem slTemplate_ev (l : List S86) (hl : l.length ≤ maxLen) : Ev (fun k => spec_slTemplate.f k l) (tmplOk l) := by
  unfold spec_slTemplate.f tmplOk
  exact slTemplate_l0 l hl l.length 0 (by omega)
def cmpI (a b : Int) : Int := if a < b then -1 else if a > b then 1 else 0
theorem cmpI_eq (a b : Int) : cmp_Compare_int.f a b = some (cmpI a b) := by
  unfold cmp_Compare_int.f cmp_isNaN_int.f cmpI
  simp only [Option.bind_some, bne_self_eq_false]
  rw [if_neg (by simp), if_neg (by simp)]
  split
  · rfl
  · split <;> rfl
theorem cmpOr3 (x y z : Int) : Ev (fun k => cmp_Or_int.f k [x, y, z]) (if x = 0 then (if y = 0 then z else y) else x) := by
  unfold cmp_Or_int.f
  have e3 : (([x, y, z] : List Int).length : Int) = 3 := rfl
  have w1 : wrap64 (0 + 1) = 1 := by unfold wrap64; omega
  have w2 : wrap64 (1 + 1) = 2 := by unfold wrap64; omega
  have w3 : wrap64 (2 + 1) = 3 := by unfold wrap64; omega
  have r0 : rd [x, y, z] 0 = x := rfl
  have r1 : rd [x, y, z] 1 = y := rfl
  have r2 : rd [x, y, z] 2 = z := rfl
  rw [e3]
  refine Ev.step (fun k => cmp_Or_int.l0.eq_2 0 [x, y, z] 3 0 k) ?_
  rw [e3, w1, r0]
  refine ev_pos (by omega) (ev_pos (by omega) (ev_pos (by omega) (ev_ite (fun h => ?_) (fun h => ev_some (by rw [if_neg h])))))
  rw [if_pos h]
  refine Ev.step (fun k => cmp_Or_int.l0.eq_2 0 [x, y, z] 3 1 k) ?_
  rw [e3, w2, r1]
  refine ev_pos (by omega) (ev_pos (by omega) (ev_pos (by omega) (ev_ite (fun h1 => ?_) (fun h1 => ev_some (by rw [if_neg h1])))))
  rw [if_pos h1]
  refine Ev.step (fun k => cmp_Or_int.l0.eq_2 0 [x, y, z] 3 2 k) ?_
  rw [e3, w3, r2]
  refine ev_pos (by omega) (ev_pos (by omega) (ev_pos (by omega) (ev_ite (fun h2 => ?_) (fun h2 => ev_some rfl))))
  rw [h2]
  exact Ev.step (fun k => cmp_Or_int.l0.eq_2 0 [x, y, 0] 3 3 k) (ev_neg (by omega) (ev_some rfl))
def cmpO (a b : S86) : Int := if cmpI a.f2 b.f2 = 0 then (if cmpI a.f1 b.f1 = 0 then cmpI a.f0 b.f0 else cmpI a.f1 b.f1) else cmpI a.f2 b.f2
theorem cmpO_ev (a b : S86) : Ev (fun k => impl_compareOffsets.f k a.f0 a.f1 a.f2 b.f0 b.f1 b.f2) (cmpO a b) := by
  unfold impl_compareOffsets.f cmpO
  exact ev_bindc (cmpI_eq _ _) (ev_bindc (cmpI_eq _ _) (ev_bindc (cmpI_eq _ _) (ev_id (cmpOr3 _ _ _))))
theorem cmpO_neg (a b : S86) : cmpO a b < 0 ↔ befO a b = true := by
  unfold cmpO befO cmpI
  by_cases h2 : a.f2 = b.f2
  · by_cases h1 : a.f1 = b.f1
    · simp only [h2, h1, Int.lt_irrefl, gt_iff_lt, if_false, if_true, decide_eq_true_eq]
      split
      · omega
      · split <;> omega
    · simp only [h2, h1, Int.lt_irrefl, gt_iff_lt, if_false, if_true, decide_eq_true_eq]
      by_cases h : a.f1 < b.f1
      · simp [h]
      · simp [h, show b.f1 < a.f1 by omega]
  · simp only [h2, if_false, decide_eq_true_eq]
    by_cases h : a.f2 < b.f2
    · simp [h]
    · simp [h, show b.f2 < a.f2 by omega]
theorem IsTemplate_l0 (l : List S86) (hl : l.length ≤ maxLen) : ∀ (d i : Nat), i + d = l.length → Ev (fun k => impl_IsTemplate.l0 k l l (l.length : Int) (i : Int)) (allR (offAt l) i l.length) := by
  have hl := maxLen_le hl
  intro d
  induction d with
  | zero =>
    intro i hi
    exact Ev.step (fun k => impl_IsTemplate.l0.eq_2 l l l.length i k) (ev_neg (by omega) (ev_some (allR_end (by omega)).symm))
  | succ d ih =>
    intro i hi
    refine Ev.step (fun k => impl_IsTemplate.l0.eq_2 l l l.length i k) ?_
    have ih := ih (i + 1) (by omega)
    rw [allR_step (by omega), rdO]
    have bad : okO (l.getD i z86) = false → ∀ u v x, Ev (fun k => impl_IsTemplate.j2 k l i l l.length i true u v x) (offAt l i && allR (offAt l) (i + 1) l.length) := by
      intro h u v x
      refine Ev.step (fun k => impl_IsTemplate.j2.eq_2 l i l l.length i true u v x k) (ev_pos rfl (ev_some ?_))
      unfold offAt; rw [h, Bool.false_and, Bool.false_and]
    refine ev_pos (by omega) (ev_pos (by omega) (ev_pos (by omega) ?_))
    refine ev_ite (fun h => bad (decide_eq_false (by omega)) _ _ _) (fun h0 => ?_)
    refine ev_ite (fun h => bad (decide_eq_false (by omega)) _ _ _) (fun h1 => ?_)
    refine ev_ite (fun h => bad (decide_eq_false (by omega)) _ _ _) (fun h2 => ?_)
    refine ev_ite (fun h => bad (decide_eq_false (by omega)) _ _ _) (fun h3 => ?_)
    refine ev_ite (fun h => bad (decide_eq_false (by omega)) _ _ _) (fun h4 => ?_)
    by_cases h5 : (l.getD i z86).f2 > 2
    · rw [decide_eq_true h5]; exact bad (decide_eq_false (by omega)) _ _ _
    · rw [decide_eq_false h5]
      have hok : okO (l.getD i z86) = true := decide_eq_true (by omega)
      refine Ev.step (fun k => impl_IsTemplate.j2.eq_2 l i l l.length i false _ _ _ k) (ev_neg (by simp) ?_)
      rw [w_succ (n := l.length) (by omega) (by omega)]
      have yes : offAt l i = true → Ev (fun k => impl_IsTemplate.l0 k l l (l.length : Int) ((i + 1 : Nat) : Int)) (offAt l i && allR (offAt l) (i + 1) l.length) := by
        intro h; rw [h, Bool.true_and]; exact ih
      refine ev_ite (fun h6 => ?_) (fun h6 => yes (by unfold offAt; rw [hok, decide_eq_true (show i = 0 by omega)]; rfl))
      rw [w64 (x := (i : Int) - 1) (by omega) (by omega), show (i : Int) - 1 = ((i - 1 : Nat) : Int) by omega, rdO]
      refine ev_pos (by omega) (ev_pos (by omega) (Ev.bind (cmpO_ev _ _) ?_))
      have hc := cmpO_neg (l.getD (i - 1) z86) (l.getD i z86)
      refine ev_ite (fun h7 => ev_some ?_) (fun h7 => yes ?_)
      · have : befO (l.getD (i - 1) z86) (l.getD i z86) = false := by
          rw [← Bool.not_eq_true, ← hc]; omega
        unfold offAt; rw [this, decide_eq_false (show ¬ i = 0 by omega)]; simp
      · unfold offAt; rw [hok, hc.1 (by omega), Bool.or_true]; rfl
theorem IsTemplate_ev (l : List S86) (hl : l.length ≤ maxLen) : Ev (fun k => impl_IsTemplate.f k l) (tmplOk l) := by
  unfold impl_IsTemplate.f tmplOk
  refine ev_ite (fun h => ?_) (fun h => ?_)
  · refine Ev.step (fun k => impl_IsTemplate.j0.eq_2 l true k) (ev_pos rfl (ev_some ?_))
    rw [decide_eq_false (by omega), Bool.false_and]
  · refine Ev.step (fun k => impl_IsTemplate.j0.eq_2 l _ k) (ev_ite (fun h1 => ev_some ?_) (fun h1 => ?_))
    · simp only [decide_eq_true_eq] at h1
      rw [decide_eq_false (by omega), Bool.false_and]
    · simp only [decide_eq_true_eq] at h1
      rw [decide_eq_true (by omega), Bool.true_and]; exact IsTemplate_l0 l hl l.length 0 (by omega)
def gridOk (x y z : Int) : Bool := decide (1 ≤ x ∧ x ≤ 8 ∧ 1 ≤ y ∧ y ≤ 6 ∧ 1 ≤ z ∧ z ≤ 5 ∧ x * y * z ≤ 120)
theorem grid_w {x y z : Int} (h : 1 ≤ x ∧ x ≤ 8 ∧ 1 ≤ y ∧ y ≤ 6 ∧ 1 ≤ z ∧ z ≤ 5) : wrap64 (wrap64 (x * y) * z) = x * y * z ∧ 1 ≤ x * y * z ∧ x * y * z ≤ 240 := by
  obtain ⟨h1, h2, h3, h4, h5, h6⟩ := h
  have a1 : x * y ≤ 8 * 6 := Int.mul_le_mul h2 h4 (by omega) (by omega)
  have a2 : 1 * 1 ≤ x * y := Int.mul_le_mul h1 h3 (by omega) (by omega)
  have a3 : x * y * z ≤ (8 * 6) * 5 := Int.mul_le_mul a1 h6 (by omega) (by omega)
  have a4 : (1 * 1) * 1 ≤ x * y * z := Int.mul_le_mul a2 h5 (by omega) (by omega)
  rw [w64 (x := x * y) (by omega) (by omega), w64 (by omega) (by omega)]
  exact ⟨rfl, by omega, by omega⟩
theorem grid_ok {x y z : Int} (h : gridOk x y z = true) : wrap64 (wrap64 (x * y) * z) = x * y * z ∧ 1 ≤ x * y * z ∧ x * y * z ≤ 120 := by
  unfold gridOk at h
  rw [decide_eq_true_eq] at h
  have := grid_w (x := x) (y := y) (z := z) (by omega)
  exact ⟨this.1, this.2.1, by omega⟩
theorem grGood_eq (x y z : Int) : spec_grGood.f x y z = some (gridOk x y z) := by
  unfold spec_grGood.f gridOk
  simp only [l1In_eq, Option.bind_some, decide_eq_true_eq]
  by_cases h1 : 1 ≤ x ∧ x ≤ 8
  · rw [if_pos h1]
    by_cases h2 : 1 ≤ y ∧ y ≤ 6
    · rw [if_pos h2]
      by_cases h3 : 1 ≤ z ∧ z ≤ 5
      · rw [if_pos h3]
        have := grid_w (x := x) (y := y) (z := z) (by omega)
        rw [this.1]
        congr 1
        rw [Bool.eq_iff_iff, decide_eq_true_eq, decide_eq_true_eq]
        omega
      · rw [if_neg h3, decide_eq_false (by omega)]
    · rw [if_neg h2, decide_eq_false (by omega)]
  · rw [if_neg h1, decide_eq_false (by omega)]
theorem IsGrid_eq (x y z : Int) : impl_IsGrid.f x y z = some (gridOk x y z) := by
  unfold impl_IsGrid.f gridOk
  by_cases h : 1 ≤ x ∧ x ≤ 8 ∧ 1 ≤ y ∧ y ≤ 6 ∧ 1 ≤ z ∧ z ≤ 5
  · rw [if_pos (by omega), if_pos (by omega), if_pos (by omega), if_pos (by omega), if_pos (by omega), if_pos (by omega), (grid_w h).1]
    congr 1
    rw [Bool.eq_iff_iff, decide_eq_true_eq, decide_eq_true_eq]
    omega
  · rw [show decide (1 ≤ x ∧ x ≤ 8 ∧ 1 ≤ y ∧ y ≤ 6 ∧ 1 ≤ z ∧ z ≤ 5 ∧ x * y * z ≤ 120) = false from decide_eq_false (by omega)]
    repeat' split
    all_goals first | rfl | (exfalso; omega)
def slOk (m : Int) (s : List Int) (T : List (List S86)) : Bool := allR (fun j => tmplOk (T.getD j [])) 0 T.length && (decide (1 ≤ T.length ∧ T.length ≤ 4) && (decide ((s.length : Int) = m) && allR (fun j => decide (0 ≤ s.getD j 0 ∧ s.getD j 0 ≤ (T.length : Int) - 1)) 0 s.length))
theorem rdOS (T : List (List S86)) (i : Nat) : rd_L2 T (i : Int) = T.getD i [] := by unfold rd_L2; rw [toNat_nat]
theorem slGood_l0 (x y z : Int) (s : List Int) (T : List (List S86)) (hs : s.length ≤ maxLen) (hT : T.length ≤ maxLen) (hb : ∀ t ∈ T, t.length ≤ maxLen) : ∀ (d i : Nat), i + d = T.length →
    Ev (fun k => spec_slGood.l0 k T (T.length : Int) (i : Int) x y z s T) (allR (fun j => tmplOk (T.getD j [])) i T.length && (decide (1 ≤ T.length ∧ T.length ≤ 4) && (decide ((s.length : Int) = wrap64 (x * y)) && allR (fun j => decide (0 ≤ s.getD j 0 ∧ s.getD j 0 ≤ (T.length : Int) - 1)) 0 s.length))) := by
  have hT := maxLen_le hT
  intro d
  induction d with
  | zero =>
    intro i hi
    refine Ev.step (fun k => spec_slGood.l0.eq_2 T T.length i x y z s T k) (ev_neg (by omega) ?_)
    rw [allR_end (by omega), Bool.true_and]
    refine ev_bindc (l1In_eq _ _ _) (ev_ite (fun h => ?_) (fun h => ev_some ?_))
    · simp only [decide_eq_true_eq] at h
      rw [decide_eq_true (show 1 ≤ T.length ∧ T.length ≤ 4 by omega), Bool.true_and]
      refine ev_ite (fun h2 => ?_) (fun h2 => ev_some ?_)
      · rw [decide_eq_true h2, Bool.true_and, w64 (by omega) (by omega)]
        exact Ev.bind (l1All_ev s hs _ _) (ev_some rfl)
      · rw [decide_eq_false h2, Bool.false_and]
    · simp only [decide_eq_true_eq] at h
      rw [decide_eq_false (by omega), Bool.false_and]
  | succ d ih =>
    intro i hi
    refine Ev.step (fun k => spec_slGood.l0.eq_2 T T.length i x y z s T k) ?_
    have hmem : T.getD i [] ∈ T := getD_mem (by omega)
    rw [allR_step (by omega), w_succ (n := T.length) (by omega) (by omega), rdOS]
    refine ev_pos (by omega) (ev_pos (by omega) (ev_pos (by omega) (Ev.bind (slTemplate_ev _ (hb _ hmem)) (ev_ite (fun h => ?_) (fun h => ?_)))))
    · rw [h, Bool.true_and]; exact ih (i + 1) (by omega)
    · rw [Bool.not_eq_true] at h; rw [h, Bool.false_and, Bool.false_and]; exact ev_some rfl
theorem areSlopes_l1 (s : List Int) (T : List (List S86)) (hs : s.length ≤ maxLen) : ∀ (d i : Nat), i + d = s.length →
    Ev (fun k => impl_areSlopes.l1 k s (s.length : Int) (i : Int) s T) (allR (fun j => decide (0 ≤ s.getD j 0 ∧ s.getD j 0 ≤ (T.length : Int) - 1)) i s.length) := by
  have hs := maxLen_le hs
  intro d
  induction d with
  | zero =>
    intro i hi
    exact Ev.step (fun k => impl_areSlopes.l1.eq_2 s s.length i s T k) (ev_neg (by omega) (ev_some (allR_end (by omega)).symm))
  | succ d ih =>
    intro i hi
    refine Ev.step (fun k => impl_areSlopes.l1.eq_2 s s.length i s T k) ?_
    rw [allR_step (by omega), w_succ (n := s.length) (by omega) (by omega), rd_nat]
    refine ev_pos (by omega) (ev_pos (by omega) (ev_pos (by omega) (ev_ite (fun h => ev_some ?_) (fun h => ev_ite (fun h2 => ev_some ?_) (fun h2 => ?_)))))
    · rw [decide_eq_false (by omega), Bool.false_and]
    · rw [decide_eq_false (by omega), Bool.false_and]
    · rw [decide_eq_true (by omega), Bool.true_and]; exact ih (i + 1) (by omega)
theorem areSlopes_l0 (s : List Int) (T : List (List S86)) (hs : s.length ≤ maxLen) (hT : T.length ≤ maxLen) (hb : ∀ t ∈ T, t.length ≤ maxLen) : ∀ (d i : Nat), i + d = T.length →
    Ev (fun k => impl_areSlopes.l0 k T (T.length : Int) (i : Int) s T) (allR (fun j => tmplOk (T.getD j [])) i T.length && allR (fun j => decide (0 ≤ s.getD j 0 ∧ s.getD j 0 ≤ (T.length : Int) - 1)) 0 s.length) := by
  have hT := maxLen_le hT
  intro d
  induction d with
  | zero =>
    intro i hi
    refine Ev.step (fun k => impl_areSlopes.l0.eq_2 T T.length i s T k) (ev_neg (by omega) ?_)
    rw [allR_end (by omega), Bool.true_and]
    exact areSlopes_l1 s T hs s.length 0 (by omega)
  | succ d ih =>
    intro i hi
    refine Ev.step (fun k => impl_areSlopes.l0.eq_2 T T.length i s T k) ?_
    have hmem : T.getD i [] ∈ T := getD_mem (by omega)
    rw [allR_step (by omega), w_succ (n := T.length) (by omega) (by omega), rdOS]
    refine ev_pos (by omega) (ev_pos (by omega) (ev_pos (by omega) (Ev.bind (IsTemplate_ev _ (hb _ hmem)) (ev_ite (fun h => ?_) (fun h => ?_)))))
    · rw [h, Bool.true_and]; exact ih (i + 1) (by omega)
    · rw [Bool.not_eq_true] at h; rw [h, Bool.false_and, Bool.false_and]; exact ev_some rfl
theorem areSlopes_ev (x y z : Int) (s : List Int) (T : List (List S86)) (hs : s.length ≤ maxLen) (hT : T.length ≤ maxLen) (hb : ∀ t ∈ T, t.length ≤ maxLen) : Ev (fun k => impl_areSlopes.f k x y z s T) (slOk (wrap64 (x * y)) s T) := by
  unfold impl_areSlopes.f slOk
  refine ev_ite (fun h => ?_) (fun h => ev_ite (fun h2 => ?_) (fun h2 => ?_))
  · refine Ev.step (fun k => impl_areSlopes.j0.eq_2 true s T k) (ev_pos rfl (ev_some ?_))
    rw [decide_eq_false (show ¬ (1 ≤ T.length ∧ T.length ≤ 4) by omega), Bool.false_and, Bool.and_false]
  · refine Ev.step (fun k => impl_areSlopes.j0.eq_2 true s T k) (ev_pos rfl (ev_some ?_))
    rw [decide_eq_false (show ¬ (1 ≤ T.length ∧ T.length ≤ 4) by omega), Bool.false_and, Bool.and_false]
  · rw [decide_eq_true (show 1 ≤ T.length ∧ T.length ≤ 4 by omega), Bool.true_and]
    refine Ev.step (fun k => impl_areSlopes.j0.eq_2 _ s T k) (ev_ite (fun h3 => ev_some ?_) (fun h3 => ?_))
    · rw [decide_eq_false (by simpa using h3), Bool.false_and, Bool.and_false]
    · rw [decide_eq_true (by simpa using h3), Bool.true_and]
      exact areSlopes_l0 s T hs hT hb T.length 0 (by omega)
theorem at_G {α : Type} (d : Kd α) (e0 : Nat) {w : World} {A : Option Addr} {n : Nat} {xs : List (List α)} (h : Kd.C (Kd.slice e0 d) w A n xs) (i : Int) (h0 : 0 ≤ i) (h1 : i < n) : ∃ ad A0 c0, A = some ad ∧ w.cell? (ad.add i.toNat) = some (.slice A0 (xs.getD i.toNat []).length c0) ∧ (xs.getD i.toNat []).length ≤ c0 ∧ d.C w A0 (xs.getD i.toNat []).length (xs.getD i.toNat []) := by
  obtain ⟨ad, c, e, _, hK, hc0⟩ := Kd.C_get h ([] : List α) i h0 h1
  have hc : ∀ j u, c[j]? = some u → w.cell? (ad.add (i.toNat * 1 + j)) = some u := hc0
  obtain ⟨A0, c0, rfl, l0, g0⟩ := hK
  exact ⟨ad, A0, c0, e, by have hq := hc 0 _ rfl; rwa [Nat.mul_one, Nat.add_zero] at hq, l0, g0⟩
/-- What is there behind i rounds. -/
def partG {α : Type} (l : List (List α)) (i : Nat) : List (List α) := l.take i ++ List.replicate (l.length - i) []
theorem partG_len {α : Type} (l : List (List α)) (i : Nat) (h : i ≤ l.length) : (partG l i).length = l.length := by
  unfold partG; rw [List.length_append, List.length_take, List.length_replicate]; omega
theorem partG_all {α : Type} (l : List (List α)) : partG l l.length = l := by
  unfold partG; rw [List.take_length, Nat.sub_self]; simp
theorem partG_set {α : Type} (l : List (List α)) (i : Nat) (h : i < l.length) : (partG l i).set i (l.getD i []) = partG l (i + 1) := by
  unfold partG
  rw [List.set_append_right _ _ (by rw [List.length_take]; omega), List.length_take, Nat.min_eq_left (by omega), Nat.sub_self, show l.length - i = (l.length - (i + 1)) + 1 by omega, List.replicate_succ, List.set_cons_zero,
    List.take_succ_eq_append_getElem h, List.append_assoc]
  simp [List.getD_eq_getElem?_getD, h]
/-- An inner row that was made behind the outer one is laid into it. -/
theorem lay_rowG {α : Type} (d : Kd α) (hE : d.E = []) (e0 et : Nat) {w1 : World} {B : Nat} {g n cap : Nat} {xs : List (List α)} {v : Value} {x : List α} {W : World} (hS : Kd.S (Kd.slice e0 d) et w1 B (fun k => k < W.heap.size) (.slice (some ⟨g, 0, none⟩) n cap) xs) (hR : Kd.R d e0 w1 W.heap.size (fun _ => True) v x)
    (hB : B ≤ W.heap.size) (i : Int) (h0 : 0 ≤ i) (h1 : i < n) :
    (∃ old, w1.cell? ⟨g, i.toNat, none⟩ = some old) ∧ w1.frozen? ⟨g, i.toNat, none⟩ = false ∧ Kd.S (Kd.slice e0 d) et (w1.setCell ⟨g, i.toNat, none⟩ v) B (fun _ => True) (.slice (some ⟨g, 0, none⟩) n cap) (xs.set i.toNat x) := by
  have hT := Kd.R_mono (Kd.R_tight hE hR) (ok' := fun k => some k = v.ownBlock) (fun _ h => h)
  have hbase := Kd.R_base hR
  have hX : Kd.S (Kd.slice e0 d) et w1 B (fun k => (fun _ => True) k ∧ ¬ (fun k => some k = v.ownBlock) k) (.slice (some ⟨g, 0, none⟩) n cap) xs :=
    Kd.S_mono hS (fun k hk => ⟨trivial, fun e => by have := hbase k e.symm; omega⟩)
  obtain ⟨oki, ce, hcl, hM, hcc, hfr, hoki, hH⟩ := Kd.S_elem hX [] i h0 h1
  have hn := (Kd.S_reads' hS).1
  have hval := Kd.R_val hR
  have hgo : g < W.heap.size := by
    have := hS
    obtain ⟨f, h0', _⟩ := this
    exact h0' g (by simp [Value.ownBlock])
  obtain ⟨ve, rfl, ge⟩ := hM
  have hP := Kd.S_seg hH h0 h1 (seg := [v]) (j := 0) (show 1 ≤ 1 from by decide) (x' := x)
    (Kd.M_row (Kd.R_mono (Kd.R_lower hT hB) (fun k h => Or.inr h))) (fun _ hk => hk) (fun k hk => ⟨trivial, fun e => by have := hbase k hk.symm; omega⟩)
  have hcc0 := hcc 0 _ rfl
  have hfr0 := hfr 0
  simp only [show (Kd.slice e0 d).sz = 1 from rfl, Nat.mul_one, Nat.add_zero] at hP hcc0 hfr0
  exact ⟨⟨_, hcc0⟩, hfr0, hP.1⟩
abbrev kOS : Kd (List S86) := Kd.slice 86 k86
theorem infoOS : (Try.prog.info? 56).map (fun i => (i.zero, i.size, i.bytes)) = some (some (.slice none 0 0), 1, 24) := by kernel_rfl
def pX (X i : Int) : Int := Int.tmod i X
def pY (X Y i : Int) : Int := Int.tmod (wrap64 (Int.tdiv i X)) Y
def pZ (X Y i : Int) : Int := wrap64 (Int.tdiv (wrap64 (Int.tdiv i X)) Y)
def sq (X Y i : Int) : Int := wrap64 (wrap64 (pY X Y i * X) + pX X i)
def spot (X Y Z a b c : Int) : Option Int := if 0 ≤ a ∧ a < X ∧ 0 ≤ b ∧ b < Y ∧ 0 ≤ c ∧ c < Z then some (wrap64 (wrap64 (wrap64 (wrap64 (c * Y) + b) * X) + a)) else none
def spotO (X Y Z i : Int) (o : S86) : Option Int := spot X Y Z (wrap64 (pX X i + o.f0)) (wrap64 (pY X Y i + o.f1)) (wrap64 (pZ X Y i - o.f2))
def rawL (X Y Z i : Int) (t : List S86) : List Int := t.filterMap (spotO X Y Z i)
def tmAt (X Y : Int) (s : List Int) (T : List (List S86)) (i : Int) : List S86 := T.getD (s.getD (sq X Y i).toNat 0).toNat []
theorem BlockAt_eq {X Y Z : Int} (h : gridOk X Y Z = true) (a b c : Int) : impl_BlockAt.f X Y Z a b c = some (match spot X Y Z a b c with | some v => (v, true) | none => (0, false)) := by
  unfold impl_BlockAt.f spot impl_blockAt.f
  rw [IsGrid_eq, h]
  simp only [Option.bind_some, if_true]
  by_cases hc : 0 ≤ a ∧ a < X ∧ 0 ≤ b ∧ b < Y ∧ 0 ≤ c ∧ c < Z
  · rw [if_pos hc, if_neg (by omega), if_neg (by omega), if_neg (by omega), if_neg (by omega), if_neg (by omega), if_neg (by omega)]
  · rw [if_neg hc]
    by_cases a1 : a < 0
    · rw [if_pos a1]
    · by_cases a2 : a ≥ X
      · rw [if_neg a1, if_pos a2]
      · by_cases b1 : b < 0
        · rw [if_neg a1, if_neg a2, if_pos b1]
        · by_cases b2 : b ≥ Y
          · rw [if_neg a1, if_neg a2, if_neg b1, if_pos b2]
          · by_cases c1 : c < 0
            · rw [if_neg a1, if_neg a2, if_neg b1, if_neg b2, if_pos c1]
            · rw [if_neg a1, if_neg a2, if_neg b1, if_neg b2, if_neg c1, if_pos (by omega)]
theorem grid_bd {X Y Z : Int} (h : gridOk X Y Z = true) : 1 ≤ X ∧ X ≤ 8 ∧ 1 ≤ Y ∧ Y ≤ 6 ∧ 1 ≤ Z ∧ Z ≤ 5 := by
  unfold gridOk at h
  rw [decide_eq_true_eq] at h
  omega
theorem place_eq {X Y Z : Int} (h : gridOk X Y Z = true) (i : Nat) (hi : (i : Int) < X * Y * Z) :
    (0 ≤ pX X i ∧ pX X i < X) ∧ (0 ≤ pY X Y i ∧ pY X Y i < Y) ∧ (0 ≤ pZ X Y i ∧ pZ X Y i < Z) ∧ sq X Y i = pY X Y i * X + pX X i ∧ 0 ≤ sq X Y i ∧ sq X Y i < X * Y := by
  have hb := grid_bd h
  have hn := grid_ok h
  have h0 : (0 : Int) ≤ (i : Int) := Int.natCast_nonneg _
  have e1 : Int.tdiv (i : Int) X = (i : Int) / X := Int.tdiv_eq_ediv_of_nonneg h0
  have b1 : 0 ≤ (i : Int) / X := Int.ediv_nonneg h0 (by omega)
  have b2 : (i : Int) / X < Y * Z := Int.ediv_lt_of_lt_mul (by omega) (by rw [Int.mul_comm, ← Int.mul_assoc]; exact hi)
  have b3 : Y * Z ≤ 6 * 5 := Int.mul_le_mul (by omega) (by omega) (by omega) (by omega)
  have w1 : wrap64 ((i : Int) / X) = (i : Int) / X := w64 (by omega) (by omega)
  have e2 : Int.tdiv ((i : Int) / X) Y = (i : Int) / X / Y := Int.tdiv_eq_ediv_of_nonneg b1
  have c1 : 0 ≤ (i : Int) / X / Y := Int.ediv_nonneg b1 (by omega)
  have c2 : (i : Int) / X / Y < Z := Int.ediv_lt_of_lt_mul (by omega) (by rw [Int.mul_comm]; exact b2)
  have x0 : 0 ≤ pX X i ∧ pX X i < X := by
    unfold pX; rw [Int.tmod_eq_emod_of_nonneg h0]; exact ⟨Int.emod_nonneg _ (by omega), Int.emod_lt_of_pos _ (by omega)⟩
  have y0 : 0 ≤ pY X Y i ∧ pY X Y i < Y := by
    unfold pY; rw [e1, w1, Int.tmod_eq_emod_of_nonneg b1]; exact ⟨Int.emod_nonneg _ (by omega), Int.emod_lt_of_pos _ (by omega)⟩
  have z0 : 0 ≤ pZ X Y i ∧ pZ X Y i < Z := by
    unfold pZ; rw [e1, w1, e2, w64 (by omega) (by omega)]; exact ⟨c1, c2⟩
  have m1 : pY X Y i * X ≤ (Y - 1) * X := Int.mul_le_mul_of_nonneg_right (by omega) (by omega)
  have m2 : (Y - 1) * X = X * Y - X := by rw [Int.sub_mul, Int.mul_comm Y X]; omega
  have m3 : 0 ≤ pY X Y i * X := Int.mul_nonneg y0.1 (by omega)
  have m4 : X * Y ≤ 8 * 6 := Int.mul_le_mul (by omega) (by omega) (by omega) (by omega)
  have e3 : sq X Y i = pY X Y i * X + pX X i := by unfold sq; rw [w64 (x := pY X Y i * X) (by omega) (by omega), w64 (by omega) (by omega)]
  exact ⟨x0, y0, z0, e3, by omega, by omega⟩
theorem mixed {X k k' a a' : Int} (hX : 0 < X) (h0 : 0 ≤ a ∧ a < X) (h1 : 0 ≤ a' ∧ a' < X) (e : k * X + a = k' * X + a') : k = k' ∧ a = a' := by
  have m : ∀ (k a : Int), 0 ≤ a ∧ a < X → (k * X + a) / X = k := by
    intro k a h
    rw [Int.add_comm, Int.add_mul_ediv_right _ _ (by omega), Int.ediv_eq_zero_of_lt h.1 h.2, Int.zero_add]
  have hk : k = k' := by rw [← m k a h0, ← m k' a' h1, e]
  subst hk
  exact ⟨rfl, by omega⟩
theorem spot_some {X Y Z a b c v : Int} (h : gridOk X Y Z = true) (e : spot X Y Z a b c = some v) : (0 ≤ a ∧ a < X) ∧ (0 ≤ b ∧ b < Y) ∧ (0 ≤ c ∧ c < Z) ∧ v = (c * Y + b) * X + a ∧ 0 ≤ v := by
  unfold spot at e
  split at e
  · rename_i hc
    have hb := grid_bd h
    injection e with e
    have m1 : 0 ≤ c * Y := Int.mul_nonneg (by omega) (by omega)
    have m2 : c * Y ≤ 5 * 6 := Int.mul_le_mul (by omega) (by omega) (by omega) (by omega)
    have m3 : 0 ≤ (c * Y + b) * X := Int.mul_nonneg (by omega) (by omega)
    have m4 : (c * Y + b) * X ≤ 36 * 8 := Int.mul_le_mul (by omega) (by omega) (by omega) (by omega)
    rw [w64 (x := c * Y) (by omega) (by omega), w64 (x := c * Y + b) (by omega) (by omega), w64 (x := (c * Y + b) * X) (by omega) (by omega), w64 (by omega) (by omega)] at e
    exact ⟨by omega, by omega, by omega, e.symm, by omega⟩
  · cases e
theorem befO_trans {a b c : S86} (h1 : befO a b = true) (h2 : befO b c = true) : befO a c = true := by
  unfold befO at *
  repeat' split at h1
  all_goals repeat' split at h2
  all_goals simp only [decide_eq_true_eq] at h1 h2
  all_goals repeat' split
  all_goals simp only [decide_eq_true_eq]
  all_goals omega
theorem tmpl_pairwise {t : List S86} (h : tmplOk t = true) : t.length ≤ 12 ∧ (∀ o ∈ t, okO o = true) ∧ t.Pairwise (fun a b => befO a b = true) := by
  unfold tmplOk at h
  rw [Bool.and_eq_true, decide_eq_true_eq, allR_iff] at h
  refine ⟨h.1.2, fun o ho => ?_, ?_⟩
  · obtain ⟨j, hj, rfl⟩ := mem_getD (z := z86) ho
    have := h.2 j (Nat.zero_le _) hj
    unfold offAt at this
    rw [Bool.and_eq_true] at this
    exact this.1
  · have key : ∀ (d a : Nat), a + d + 1 < t.length → befO (t.getD a z86) (t.getD (a + d + 1) z86) = true := by
      intro d
      induction d with
      | zero =>
        intro a ha
        have := h.2 (a + 0 + 1) (Nat.zero_le _) ha
        unfold offAt at this
        rw [Bool.and_eq_true, Bool.or_eq_true, decide_eq_true_eq] at this
        exact this.2.resolve_left (by omega)
      | succ d ih =>
        intro a ha
        have := h.2 (a + (d + 1) + 1) (Nat.zero_le _) ha
        unfold offAt at this
        rw [Bool.and_eq_true, Bool.or_eq_true, decide_eq_true_eq] at this
        exact befO_trans (ih a (by omega)) (this.2.resolve_left (by omega))
    rw [List.pairwise_iff_getElem]
    intro a b ha hb hab
    have := key (b - a - 1) a (by omega)
    rw [show a + (b - a - 1) + 1 = b by omega, List.getD_eq_getElem?_getD, List.getD_eq_getElem?_getD, List.getElem?_eq_getElem ha, List.getElem?_eq_getElem hb] at this
    exact this
theorem okO_iff {o : S86} (h : okO o = true) : -2 ≤ o.f0 ∧ o.f0 ≤ 2 ∧ -2 ≤ o.f1 ∧ o.f1 ≤ 2 ∧ 1 ≤ o.f2 ∧ o.f2 ≤ 2 := by unfold okO at h; rwa [decide_eq_true_eq] at h
/-- No block twice. -/
theorem raw_ne {X Y Z : Int} (h : gridOk X Y Z = true) (i : Nat) (hi : (i : Int) < X * Y * Z) {t : List S86} (ht : tmplOk t = true) : (rawL X Y Z i t).length ≤ 12 ∧ ∀ a b, a < b → b < (rawL X Y Z i t).length → (rawL X Y Z i t).getD a 0 ≠ (rawL X Y Z i t).getD b 0 := by
  obtain ⟨hl, hok, hp⟩ := tmpl_pairwise ht
  have hpl := place_eq h i hi
  have hb := grid_bd h
  refine ⟨Nat.le_trans (List.length_filterMap_le _ _) hl, ?_⟩
  have : (rawL X Y Z i t).Pairwise (· ≠ ·) := by
    unfold rawL
    rw [List.pairwise_filterMap]
    refine List.Pairwise.imp_of_mem (fun {o o'} ho ho' hbef v hv v' hv' hvv => ?_) hp
    subst hvv
    have o1 := okO_iff (hok o ho)
    have o2 := okO_iff (hok o' ho')
    unfold spotO at hv hv'
    rw [w64 (x := pX X i + o.f0) (by omega) (by omega), w64 (x := pY X Y i + o.f1) (by omega) (by omega), w64 (x := pZ X Y i - o.f2) (by omega) (by omega)] at hv
    rw [w64 (x := pX X i + o'.f0) (by omega) (by omega), w64 (x := pY X Y i + o'.f1) (by omega) (by omega), w64 (x := pZ X Y i - o'.f2) (by omega) (by omega)] at hv'
    have s1 := spot_some h hv
    have s2 := spot_some h hv'
    obtain ⟨e1, e2⟩ := mixed (by omega) s1.1 s2.1 (s1.2.2.2.1.symm.trans s2.2.2.2.1)
    obtain ⟨e3, e4⟩ := mixed (by omega) s1.2.1 s2.2.1 e1
    unfold befO at hbef
    rw [if_pos (by omega), if_pos (by omega), decide_eq_true_eq] at hbef
    omega
  intro a b hab hb'
  have q := List.pairwise_iff_getElem.1 this a b (by omega) hb' hab
  rw [List.getD_eq_getElem?_getD, List.getD_eq_getElem?_getD, List.getElem?_eq_getElem (by omega), List.getElem?_eq_getElem hb']
  exact q
theorem slOk_iff {m : Int} {s : List Int} {T : List (List S86)} (h : slOk m s T = true) : (∀ j, j < T.length → tmplOk (T.getD j []) = true) ∧ (1 ≤ T.length ∧ T.length ≤ 4) ∧ (s.length : Int) = m ∧ ∀ j, j < s.length → 0 ≤ s.getD j 0 ∧ s.getD j 0 ≤ (T.length : Int) - 1 := by
  unfold slOk at h
  rw [Bool.and_eq_true, Bool.and_eq_true, Bool.and_eq_true, allR_iff, allR_iff, decide_eq_true_eq, decide_eq_true_eq] at h
  exact ⟨fun j hj => h.1 j (Nat.zero_le _) hj, h.2.1, h.2.2.1, fun j hj => by have := h.2.2.2 j (Nat.zero_le _) hj; rwa [decide_eq_true_eq] at this⟩
theorem grid_m {X Y Z : Int} (h : gridOk X Y Z = true) : wrap64 (X * Y) = X * Y := by
  have hb := grid_bd h
  have m4 : X * Y ≤ 8 * 6 := Int.mul_le_mul (by omega) (by omega) (by omega) (by omega)
  have m5 : 0 ≤ X * Y := Int.mul_nonneg (by omega) (by omega)
  exact w64 (by omega) (by omega)
/-- The sector and the template of a block. -/
theorem sect {X Y Z : Int} (h : gridOk X Y Z = true) {s : List Int} {T : List (List S86)} (hs : slOk (wrap64 (X * Y)) s T = true) (i : Nat) (hi : (i : Int) < X * Y * Z) :
    (0 ≤ sq X Y i ∧ sq X Y i < s.length) ∧ (0 ≤ s.getD (sq X Y i).toNat 0 ∧ s.getD (sq X Y i).toNat 0 < T.length) ∧ tmplOk (tmAt X Y s T i) = true := by
  have p := place_eq h i hi
  have q := slOk_iff hs
  rw [grid_m h] at q
  have r := q.2.2.2 (sq X Y i).toNat (by omega)
  exact ⟨by omega, by omega, q.1 _ (by omega)⟩
def Srt (l r : List Int) : Prop := r.length = l.length ∧ r.Pairwise (· < ·) ∧ ∀ v, v ∈ r ↔ v ∈ l
noncomputable def srt (l : List Int) : List Int := open Classical in if h : ∃ r, Srt l r then h.choose else []
theorem srt_eq {l r : List Int} (h : Srt l r) : srt l = r := by
  have hx : ∃ r, Srt l r := ⟨r, h⟩
  unfold srt
  rw [dif_pos hx]
  exact sorted_ext hx.choose_spec.2.1 h.2.1 (fun v => (hx.choose_spec.2.2 v).trans (h.2.2 v).symm)
/-- The arcs of block i. -/
noncomputable def arcL (X Y Z : Int) (s : List Int) (T : List (List S86)) (i : Nat) : List Int := srt (rawL X Y Z i (tmAt X Y s T i))
noncomputable def arcsL (X Y Z : Int) (s : List Int) (T : List (List S86)) (n : Nat) : List (List Int) := (List.range n).map (arcL X Y Z s T)
theorem arcL_sort {X Y Z : Int} (h : gridOk X Y Z = true) {s : List Int} {T : List (List S86)} (hs : slOk (wrap64 (X * Y)) s T = true) (i : Nat) (hi : (i : Int) < X * Y * Z) :
    Ev (fun k => slices_insertionSortOrdered_int.f k (rawL X Y Z i (tmAt X Y s T i)) 0 ((rawL X Y Z i (tmAt X Y s T i)).length : Int)) (arcL X Y Z s T i) ∧ Srt (rawL X Y Z i (tmAt X Y s T i)) (arcL X Y Z s T i) := by
  have hr := raw_ne h i hi (sect h hs i hi).2.2
  obtain ⟨r, hr, h1, h2, h3⟩ := isort_ev (rawL X Y Z i (tmAt X Y s T i)) (by omega) hr.2
  have e : arcL X Y Z s T i = r := srt_eq ⟨h1, h2, h3⟩
  rw [e]
  exact ⟨hr, h1, h2, h3⟩
theorem arcsL_len (X Y Z : Int) (s : List Int) (T : List (List S86)) (n : Nat) : (arcsL X Y Z s T n).length = n := by unfold arcsL; rw [List.length_map, List.length_range]
theorem arcsL_at (X Y Z : Int) (s : List Int) (T : List (List S86)) (n i : Nat) (h : i < n) : (arcsL X Y Z s T n).getD i [] = arcL X Y Z s T i := by
  unfold arcsL; rw [List.getD_eq_getElem?_getD, List.getElem?_map, List.getElem?_range h]; rfl
theorem placeOf_eq {X Y Z : Int} (h : gridOk X Y Z = true) (i : Int) : impl_placeOf.f X Y Z i = some (pX X i, pY X Y i, pZ X Y i) := by
  have hb := grid_bd h
  unfold impl_placeOf.f
  rw [if_neg (by omega), if_neg (by omega)]
  rfl
theorem blocksOf_eq {X Y Z : Int} (h : gridOk X Y Z = true) : impl_blocksOf.f X Y Z = some (X * Y * Z) := by
  unfold impl_blocksOf.f
  rw [(grid_ok h).1]
abbrev kRows : Kd (List Int) := Kd.slice 3 (Kd.int .i64)
theorem inf24 : (Try.prog.info? 24).map (fun i => (i.zero, i.size, i.bytes)) = some (some (.slice none 0 0), 1, 24) := by kernel_rfl
theorem inf3 : (Try.prog.info? 3).map (fun i => (i.zero, i.size, i.bytes)) = some (some (.int .i64 0), 1, 8) := by kernel_rfl
theorem at_int {w : World} {A : Option Addr} {n : Nat} {xs : List Int} (h : Kd.C (Kd.int .i64) w A n xs) (i : Int) (h0 : 0 ≤ i) (h1 : i < n) : ∃ ad, A = some ad ∧ w.cell? (ad.add i.toNat) = some (.int .i64 (xs.getD i.toNat 0)) := by
  obtain ⟨ad, c, e, _, hK, hc0⟩ := Kd.C_get h 0 i h0 h1
  have hc : ∀ j u, c[j]? = some u → w.cell? (ad.add (i.toNat * 1 + j)) = some u := hc0
  obtain rfl : c = [.int .i64 (xs.getD i.toNat 0)] := hK
  exact ⟨ad, e, by have hq := hc 0 _ rfl; rwa [Nat.mul_one, Nat.add_zero] at hq⟩
/-- Row i, lent: its value, its own region, and what becomes of all rows once it has been appended to and laid back. -/
theorem row_push {W : World} {b g n cap : Nat} {ok : Nat → Prop} {rows : List (List Int)} (h : Kd.S kRows 24 W b ok (.slice (some ⟨g, 0, none⟩) n cap) rows) (i : Int) (h0 : 0 ≤ i) (h1 : i < n) (hfresh : ∀ k, W.heap.size ≤ k → ok k) :
    ∃ v : Value, W.cell? ⟨g, i.toNat, none⟩ = some v ∧ W.frozen? ⟨g, i.toNat, none⟩ = false ∧ (∃ oki : Nat → Prop, (∀ k, oki k → ok k ∧ k ≠ g) ∧ Kd.R (Kd.int .i64) 3 W b oki v (rows.getD i.toNat [])) ∧
      ∀ (W1 : World) (v1 : Value) (x : List Int), (∀ k, k < W.heap.size → some k ≠ v.ownBlock → W1.heap[k]? = W.heap[k]?) → (v1.ownBlock = v.ownBlock ∨ ∃ k, v1.ownBlock = some k ∧ W.heap.size ≤ k) → Kd.R (Kd.int .i64) 3 W1 b (fun _ => True) v1 x →
        W1.cell? ⟨g, i.toNat, none⟩ = some v ∧ W1.frozen? ⟨g, i.toNat, none⟩ = false ∧ Kd.S kRows 24 (W1.setCell ⟨g, i.toNat, none⟩ v1) b ok (.slice (some ⟨g, 0, none⟩) n cap) (rows.set i.toNat x) := by
  have hgl : g < W.heap.size := Kd.R_lt (Kd.S_R h) g rfl
  have hS : Kd.S kRows 24 W b (fun k => ok k ∧ ¬ (fun k => W.heap.size ≤ k) k) (.slice (some ⟨g, 0, none⟩) n cap) rows := Kd.S_mono (Kd.S_bound h) (fun k hk => ⟨hk.1, by have := hk.2.2.1; show ¬ W.heap.size ≤ k; omega⟩)
  obtain ⟨oki, c, hcl, hM, hcc, hfr, hoki, hH⟩ := Kd.S_elem hS [] i h0 h1
  obtain ⟨v, rfl, hR⟩ := hM
  have hcc0 := hcc 0 _ rfl
  have hfr0 := hfr 0
  simp only [show kRows.sz = 1 from rfl, Nat.mul_one, Nat.add_zero] at hcc0 hfr0
  refine ⟨v, hcc0, hfr0, ⟨oki, fun k hk => ⟨(hoki k hk).1.1, (hoki k hk).2⟩, hR⟩, ?_⟩
  intro W1 v1 x hg hat hx
  have hne : some g ≠ v.ownBlock := fun e => (hoki g (hR.1 g e.symm)).2 rfl
  have hcell : W1.cell? ⟨g, i.toNat, none⟩ = W.cell? ⟨g, i.toNat, none⟩ := World.cell?_of_block (hg g hgl hne)
  have hfroz : W1.frozen? ⟨g, i.toNat, none⟩ = W.frozen? ⟨g, i.toNat, none⟩ := World.frozen?_of_block (hg g hgl hne)
  have hH1 := Kd.H_step hH (w1 := W1) (fun k _ hk2 hk3 => hg k hk3 (fun e => hk2 (hR.1 k e.symm)))
  have hP := Kd.S_seg hH1 h0 h1 (seg := [v1]) (j := 0) (show 1 ≤ 1 from by decide) (x' := x) (Kd.M_row (Kd.R_mono (Kd.R_tight rfl hx) (ok' := fun k => some k = v1.ownBlock) (fun k hk => hk)))
    (fun k hk => by
      rcases hat with h | ⟨k2, h, h2⟩
      · exact Or.inl (hR.1 k (by rw [← h]; exact hk.symm))
      · rw [h] at hk
        injection hk with hk
        subst hk
        exact Or.inr h2)
    (fun k hk => ⟨hfresh k hk, by have : W.heap.size ≤ k := hk; omega⟩)
  simp only [show kRows.sz = 1 from rfl, Nat.mul_one, Nat.add_zero] at hP
  exact ⟨by rw [hcell]; exact hcc0, by rw [hfroz]; exact hfr0, hP.1⟩
/-- Row i, lent to what writes within it. -/
theorem row_kept {W : World} {b g n cap : Nat} {ok : Nat → Prop} {rows : List (List Int)} (h : Kd.S kRows 24 W b ok (.slice (some ⟨g, 0, none⟩) n cap) rows) (i : Int) (h0 : 0 ≤ i) (h1 : i < n) :
    ∃ (v : Value) (oki : Nat → Prop), W.cell? ⟨g, i.toNat, none⟩ = some v ∧ (∀ k, oki k → ok k ∧ k ≠ g) ∧ Kd.R (Kd.int .i64) 3 W b oki v (rows.getD i.toNat []) ∧
      ∀ (W1 : World) (x : List Int), Kept W W1 oki → Kd.R (Kd.int .i64) 3 W1 b (fun k => oki k ∨ W.heap.size ≤ k) v x → Kd.S kRows 24 W1 b ok (.slice (some ⟨g, 0, none⟩) n cap) (rows.set i.toNat x) := by
  obtain ⟨oki, ce, hcl, hM, hcc, hoki, hH⟩ := Kd.S_lend h [] i h0 h1
  obtain ⟨v, rfl, hR⟩ := hM
  have hcell := hcc 0 _ rfl
  simp only [show kRows.sz = 1 from rfl, Nat.mul_one, Nat.add_zero] at hcell
  refine ⟨v, oki, hcell, hoki, hR, fun W1 x hk hx => ?_⟩
  exact Kd.H_back (Kd.H_kept hH hk (fun k _ hn h => hn h)) (okp := oki) (x' := x) ⟨v, rfl, Kd.R_reok (ok := oki) rfl hx (fun k e => hR.1 k e)⟩ (fun _ h => h)
theorem partG_nil {α : Type} (l : List (List α)) (i : Nat) (h : i < l.length) : (partG l i).set i [] = partG l i := by
  refine getD_ext [] (by rw [List.length_set]) (fun j hj => ?_)
  rw [getD_set]
  split
  · rename_i h2
    obtain ⟨rfl, h3⟩ := h2
    unfold partG
    rw [List.getD_eq_getElem?_getD, List.getElem?_append_right (by rw [List.length_take]; omega), List.length_take, Nat.min_eq_left (by omega), Nat.sub_self, List.getElem?_replicate_of_lt (by omega)]
    rfl
  · rfl
theorem rawL_step (X Y Z i : Int) (t : List S86) (j : Nat) (h : j < t.length) : rawL X Y Z i (t.take (j + 1)) = rawL X Y Z i (t.take j) ++ (match spotO X Y Z i (t.getD j z86) with | some v => [v] | none => []) := by
  unfold rawL
  rw [List.take_succ_eq_append_getElem h, List.filterMap_append, List.getD_eq_getElem?_getD, List.getElem?_eq_getElem h]
  congr 1
  simp only [Option.getD_some, List.filterMap_cons, List.filterMap_nil]
  split <;> simp_all
theorem rawL_len (X Y Z i : Int) (t : List S86) : (rawL X Y Z i t).length ≤ t.length := List.length_filterMap_le _ _
def impl_arcsOf_T6 : Bool × List (List Nat × List Nat) := (true, [([], []), ([0], [0]), ([], []), ([2], [2]), ([], []), ([], []), ([5], [5]), ([4, 6], [4, 6]), ([], []), ([7, 8], [7, 8]), ([3, 9], [3, 9]), ([10], [10]), ([1, 11], [1, 11]), ([12], [12]), ([13], [13]), ([], [])])
def impl_arcsOf_B6 : List Nat := [0, 1, 0, 4, 0, 0, 32, 112, 0, 496, 1020, 2044, 4095, 8191, 16383, 0]
theorem impl_arcsOf_tab6 : rtab .any (opsOf Try.f65 6) = impl_arcsOf_T6 := by kernel_rfl
theorem impl_arcsOf_bits6 : waitsOk impl_arcsOf_T6.2 impl_arcsOf_B6 = true := by kernel_rfl
set_option maxHeartbeats 8000000 in
set_option maxRecDepth 100000 in
theorem arcsOf_calls (X Y Z : Int) (hg : gridOk X Y Z = true) (n : Nat) (hn : (n : Int) = X * Y * Z) (s : List Int) (T : List (List S86)) (hso : slOk (wrap64 (X * Y)) s T = true) (A0 : Option Addr) (c0 : Nat) (A1 : Option Addr) (c1 : Nat) (w : World)
    (h1 : Kd.C (Kd.int .i64) w A0 s.length s) (h2 : s.length ≤ c0) (h3 : Kd.C kOS w A1 T.length T) (h4 : T.length ≤ c1) :
    Calls Try.prog 65 #[.agg #[.int .i64 X, .int .i64 Y, .int .i64 Z], .agg #[.slice A0 s.length c0, .slice A1 T.length c1]] w fun e w' => ∃ v0 : Value, e = .returned v0 ∧ Kd.S kRows 24 w' w.heap.size (fun _ => True) v0 (arcsL X Y Z s T n) ∧ Below w.heap.size w w' := by
  have hu1 := Try.underlying30
  have hu2 := Try.underlying27
  have hnb := grid_ok hg
  have HG := Aside0.mk hg
  have HN := Aside0.mk hn
  have HNB := Aside0.mk (show 1 ≤ n ∧ n ≤ 120 by omega)
  have HSO := Aside0.mk hso
  have H1 := Aside0.mk h1
  have H3 := Aside0.mk h3
  have HB := Aside0.mk (Below.refl w.heap.size w)
  have n0 := eq_true (show 0 ≤ (n : Int) by omega)
  have n1 : decide (0 ≤ (n : Int)) = true := decide_eq_true (by omega)
  have n2 : decide ((n : Int).toNat ≤ 35184372088832) = true := decide_eq_true (by omega)
  have n3 := eq_true (show (n : Int).toNat ≤ 35184372088832 by omega)
  clear h1 h2 h3 h4 hg hn hso hnb
  go_enter Try.func65, Try.ntmps65
  go_wp2_with (first
    | ((with_reducible refine gate_dst (N := 2) rfl ?_); refine box_event ?hg (N := 2) ?hd (cs := #[.int .i64 X, .int .i64 Y, .int .i64 Z]) (t := 30) ?hr ?_; (case hd => rfl); (case hg => rfl); (case hr => first | (go_simp; done) | (go_simp; rfl)); intro g1 hg w6 hbox hb; have n0_ := Aside0.mk (below_step HB.out hb); have K1 := Aside0.mk hbox; have G1 := Aside0.mk ((by rw [hg]; exact (below_size HB.out)) : w.heap.size ≤ g1); clear HB; have HB := n0_; clear n0_ hb hbox hg)
    | ((with_reducible refine gate_dst (N := 3) rfl ?_); refine box_event ?hg (N := 3) ?hd (cs := #[.slice A0 s.length c0, .slice A1 T.length c1]) (t := 27) ?hr ?_; (case hd => rfl); (case hg => rfl); (case hr => first | (go_simp; done) | (go_simp; rfl)); intro g2 hg w7 hbox hb; have n0_ := Aside0.mk (below_step HB.out hb); have K2 := Aside0.mk hbox; have n1_ := Aside0.mk (blk_below K1.out hb); have G2 := Aside0.mk ((by rw [hg]; exact (below_size HB.out)) : w.heap.size ≤ g2); have N12 := Aside0.mk ((by rw [hg]; exact Nat.ne_of_lt (blk_lt K1.out)) : g1 ≠ g2); clear HB K1; have HB := n0_; have K1 := n1_; clear n0_ n1_ hb hbox hg; have hc10 : w7.cell? ⟨g1, 0, none⟩ = some (.int .i64 X) := (blk_cell K1.out 0).trans rfl; have hc11 : w7.cell? ⟨g1, 1, none⟩ = some (.int .i64 Y) := (blk_cell K1.out 1).trans rfl; have hc12 : w7.cell? ⟨g1, 2, none⟩ = some (.int .i64 Z) := (blk_cell K1.out 2).trans rfl))
  refine (impl_blocksOf.calls X Y Z (n : Int) w7 (by rw [HN.out]; exact blocksOf_eq HG.out)).mono ?_
  rintro e w8 ⟨rfl, hb⟩
  have m0_ := Aside0.mk (below_step HB.out hb)
  have m1_ := Aside0.mk (blk_below K1.out hb)
  have m2_ := Aside0.mk (blk_below K2.out hb)
  clear HB K1 K2 hb hc10 hc11 hc12
  have HB := m0_
  have K1 := m1_
  have K2 := m2_
  clear m0_ m1_ m2_
  go_wp2_with (first | ((with_reducible refine gate_dst (N := 16) rfl ?_); refine Kd.S_make kRows _ 24 rfl (N := 16) rfl 41 _ _ rfl (n : Int) rfl rfl Try.underlying41 (.slice none 0 0) 24 inf24 rfl (by decide) (by omega) [] (ok := fun _ => True) (okp := fun _ => True) ⟨_, rfl, Kd.R_nil _ _ _ _ _⟩ (fun _ hk => hk) trivial (of_decide_eq_true (by first | (with_reducible assumption) | assumption)) (Nat.le_trans (Nat.mul_le_mul_right _ (Nat.le_of_eq (Int.toNat_natCast n))) (by have := HNB.out; omega)) (Below.refl _ _) (Nat.le_refl _) ?_; intro vb w9 ho8 hb hg_ hnew_; clear hg_ hnew_; rw [Int.toNat_natCast] at ho8; obtain ⟨gf, cf, eo, gb, gl_, cl_, HG_⟩ := Kd.S_form ho8 (by rw [List.length_replicate]; have := HNB.out; omega); rw [List.length_replicate] at eo; subst eo; have n0_ := Aside0.mk (Kd.S_lower (Kd.S_mono (Kd.S_bound ho8) (ok' := fun k => k ≠ g1 ∧ k ≠ g2) (fun k hk => ⟨by have := blk_lt K1.out; have := hk.2.1; omega, by have := blk_lt K2.out; have := hk.2.1; omega⟩)) (below_size HB.out)); have n1_ := Aside0.mk (below_step HB.out hb); have n2_ := Aside0.mk (blk_below K1.out hb); have n3_ := Aside0.mk (blk_below K2.out hb); clear HB K1 K2; have HS := n0_; have HB := n1_; have K1 := n2_; have K2 := n3_; clear n0_ n1_ n2_ n3_ gb gl_ cl_ HG_ hb ho8))
  have ELEN := Aside0.mk (arcsL_len X Y Z s T n)
  go_loopg [19] n (fun d v19 wr => ∃ i : Int, v19 = .int .i64 i ∧ Aside0 (0 ≤ i ∧ i + d = n) ∧ Aside0 (wr.heap[g1]? = some (Obj.cells #[.int .i64 X, .int .i64 Y, .int .i64 Z] 30)) ∧ Aside0 (wr.heap[g2]? = some (Obj.cells #[.slice A0 s.length c0, .slice A1 T.length c1] 27)) ∧ Aside0 (Kd.S kRows 24 wr w.heap.size (fun k => k ≠ g1 ∧ k ≠ g2) (.slice (some ⟨gf, 0, none⟩) n cf) (partG (arcsL X Y Z s T n) i.toNat)) ∧ Aside0 (Below w.heap.size w wr))
  case atStart => exact ⟨0, rfl, ⟨by omega⟩, K1, K2, ⟨by have h := HS.out; unfold partG; rw [show (0 : Int).toNat = 0 from rfl, List.take_zero, List.nil_append, Nat.sub_zero, ELEN.out]; exact h⟩, HB⟩
  case round =>
    clear K1 K2 HS HB
    obtain ⟨i, rfl, HI, K1, K2, HS, HB⟩ := hrel
    cases gk with
    | zero =>
      have t1 : decide (i < (n : Int)) = false := decide_eq_false (by have := HI.out; omega)
      have ei : i.toNat = n := by have := HI.out; omega
      have HSE : Aside0 (Kd.S kRows 24 wr w.heap.size (fun _ => True) (.slice (some ⟨gf, 0, none⟩) n cf) (arcsL X Y Z s T n)) := ⟨by
        have h := HS.out
        rw [ei] at h
        have e := partG_all (arcsL X Y Z s T n)
        rw [ELEN.out] at e
        rw [e] at h
        exact Kd.S_mono h (fun _ _ => trivial)⟩
      clear ei
      go_wp2_with fail
      go_ret
      exact ⟨_, rfl, HSE.out, HB.out⟩
    | succ d =>
      have t1 : decide (i < (n : Int)) = true := decide_eq_true (by have := HI.out; omega)
      have HIN := Aside0.mk (show i.toNat < n ∧ ((i.toNat : Nat) : Int) = i ∧ 0 ≤ i ∧ i < (n : Int) by have := HI.out; omega)
      have hpl := place_eq HG.out i.toNat (by have := HN.out; have := HIN.out; omega)
      have hse := sect HG.out HSO.out i.toNat (by have := HN.out; have := HIN.out; omega)
      rw [HIN.out.2.1] at hpl hse
      have HT12 := Aside0.mk hse.2.2
      have hc10 : wr.cell? ⟨g1, 0, none⟩ = some (.int .i64 X) := (blk_cell K1.out 0).trans rfl
      have hc11 : wr.cell? ⟨g1, 1, none⟩ = some (.int .i64 Y) := (blk_cell K1.out 1).trans rfl
      have hc12 : wr.cell? ⟨g1, 2, none⟩ = some (.int .i64 Z) := (blk_cell K1.out 2).trans rfl
      have HPL := Aside0.mk hpl
      have HSE := Aside0.mk hse
      clear hpl hse
      go_wp2_with fail
      refine (impl_placeOf.calls X Y Z i (pX X i) (pY X Y i) (pZ X Y i) wr (placeOf_eq HG.out i)).mono ?_
      rintro e wa ⟨rfl, hb⟩
      have m0_ := Aside0.mk (below_step HB.out hb)
      have m1_ := Aside0.mk (blk_below K1.out hb)
      have m2_ := Aside0.mk (blk_below K2.out hb)
      have m3_ := Aside0.mk (Kd.S_below HS.out hb)
      clear HB K1 K2 HS hb hc10 hc11 hc12
      have HB := m0_
      have K1 := m1_
      have K2 := m2_
      have HS := m3_
      clear m0_ m1_ m2_ m3_
      go_wp2_with fail
      obtain ⟨px, epx⟩ : ∃ z, z = pX X i := ⟨_, rfl⟩
      obtain ⟨py, epy⟩ : ∃ z, z = pY X Y i := ⟨_, rfl⟩
      obtain ⟨pz, epz⟩ : ∃ z, z = pZ X Y i := ⟨_, rfl⟩
      rw [← epx, ← epy, ← epz]
      obtain ⟨sqi, esq⟩ : ∃ z, z = sq X Y i := ⟨_, rfl⟩
      obtain ⟨ti, eti⟩ : ∃ z, z = s.getD sqi.toNat 0 := ⟨_, rfl⟩
      have hse := HSE.out
      rw [← esq] at hse
      rw [← eti] at hse
      have hpl := HPL.out
      rw [← epx, ← epy, ← epz, ← esq] at hpl
      have hw1 : wrap64 (wrap64 (py * X) + px) = sqi := by rw [esq, epx, epy]; rfl
      obtain ⟨aq, eaq⟩ : ∃ z, z = wrap64 (py * X) := ⟨_, rfl⟩
      rw [← eaq] at hw1
      have hw2 : wrap64 (py * X) = aq := eaq.symm
      have hw3 : IntKind.i64.wrap (py * X) = aq := (i64_w _).trans hw2
      have hw4 : IntKind.i64.wrap (aq + px) = sqi := (i64_w _).trans hw1
      have K1 := Aside0.mk (blk_drew K1.out)
      have K2 := Aside0.mk (blk_drew K2.out)
      have HS := Aside0.mk (Kd.S_drew HS.out)
      have HB := Aside0.mk (below_drew1 HB.out)
      obtain ⟨as_, eas, hcs⟩ := at_int H1.out sqi hse.1.1 hse.1.2
      rw [← eti] at hcs
      obtain ⟨at_, Ar, cr, eat, hct, hcrl, HCR⟩ := at_G k86 86 H3.out ti hse.2.1.1 hse.2.1.2
      obtain ⟨t, et⟩ : ∃ z, z = T.getD ti.toNat [] := ⟨_, rfl⟩
      rw [← et] at hct hcrl HCR
      have ETM : Aside0 (t = tmAt X Y s T i) := ⟨by rw [et, eti, esq]; rfl⟩
      replace hcs := (HB.out.cell (World.block_lt_of_cell? w _ hcs)).trans hcs
      replace hct := (HB.out.cell (World.block_lt_of_cell? w _ hct)).trans hct
      subst eas eat
      have EPX := Aside0.mk epx
      have EPY := Aside0.mk epy
      have EPZ := Aside0.mk epz
      have HCR := Aside0.mk HCR
      have q0 := eq_true hse.1.1
      have q1 := eq_true hse.1.2
      have q2 := eq_true hse.2.1.1
      have q3 := eq_true hse.2.1.2
      clear epx epy epz esq eti et hse hpl hcrl eaq
      refine start_ (n := 16) (S := fun w' => w'.cell? ⟨g2, 1, none⟩ = some (.slice (some at_) T.length c1) ∧ w'.cell? ⟨g2, 0, none⟩ = some (.slice (some as_) s.length c0) ∧ w'.cell? ⟨g1, 0, none⟩ = some (.int .i64 X) ∧ w'.cell? (as_.add sqi.toNat) = some (.int .i64 ti) ∧ w'.cell? (at_.add ti.toNat) = some (.slice Ar t.length cr)) (ds := []) #[false, false, false, false, false, false, false, false, false, false, false, false, false, false, false, false] (by kernel_rfl) rfl rfl ⟨(blk_cell K2.out 1).trans rfl, (blk_cell K2.out 0).trans rfl, (blk_cell K1.out 0).trans rfl, hcs, hct⟩ (fun hHeld => ?_)
      refine with_tabW impl_arcsOf_tab6 impl_arcsOf_bits6 (fun HT_ HW_ => ?_)
      generalize wa.drew = wb at K1 K2 HS HB hcs hct hHeld ⊢
      refine pure_ (i := 0) (N := some 29) (v := ?_) (a' := ?_) #[true, false, false, false, false, false, false, false, false, false, false, false, false, false, false, false] rfl rfl (any_of HT_.out (by kernel_rfl)) (fun _ _ _ h => h) (Or.inl ⟨by rfl, ?_⟩) ?_ ?_
      rotate_left
      · intro w'
        go_simp
        with_reducible rfl
      rotate_left
      · simp only [Act.put, List.setIfInBounds_toArray, List.set_cons_zero, List.set_cons_succ, i64_w, i32_w]
        rfl
      refine pure_ (i := 2) (N := some 31) (v := ?_) (a' := ?_) #[true, false, true, false, false, false, false, false, false, false, false, false, false, false, false, false] rfl rfl (any_of HT_.out (by kernel_rfl)) (fun _ _ _ h => h) (Or.inl ⟨by rfl, ?_⟩) ?_ ?_
      rotate_left
      · intro w'
        go_simp
        with_reducible rfl
      rotate_left
      · simp only [Act.put, List.setIfInBounds_toArray, List.set_cons_zero, List.set_cons_succ, i64_w, i32_w]
        rfl
      refine pure_ (i := 4) (N := some 33) (v := ?_) (a' := ?_) #[true, false, true, false, true, false, false, false, false, false, false, false, false, false, false, false] rfl rfl (any_of HT_.out (by kernel_rfl)) (fun _ _ _ h => h) (Or.inl ⟨by rfl, ?_⟩) ?_ ?_
      rotate_left
      · intro w'
        go_simp
        with_reducible rfl
      rotate_left
      · simp only [Act.put, List.setIfInBounds_toArray, List.set_cons_zero, List.set_cons_succ, i64_w, i32_w]
        rfl
      refine pure_ (i := 5) (N := some 34) (v := ?_) (a' := ?_) #[true, false, true, false, true, true, false, false, false, false, false, false, false, false, false, false] rfl rfl (any_of HT_.out (by kernel_rfl)) (fun _ _ _ h => h) (Or.inl ⟨by rfl, ?_⟩) ?_ ?_
      rotate_left
      · intro w'
        go_simp
        with_reducible rfl
      rotate_left
      · simp only [Act.put, List.setIfInBounds_toArray, List.set_cons_zero, List.set_cons_succ, i64_w, i32_w]
        rfl
      refine pure_ (i := 8) (N := some 37) (v := ?_) (a' := ?_) #[true, false, true, false, true, true, false, false, true, false, false, false, false, false, false, false] rfl rfl (any_of HT_.out (by kernel_rfl)) (fun _ _ _ h => h) (Or.inl ⟨by rfl, ?_⟩) ?_ ?_
      rotate_left
      · intro w'
        go_simp
        with_reducible rfl
      rotate_left
      · simp only [Act.put, List.setIfInBounds_toArray, List.set_cons_zero, List.set_cons_succ, i64_w, i32_w]
        rfl
      refine pure_ (i := 15) (N := some 44) (v := ?_) (a' := ?_) #[true, false, true, false, true, true, false, false, true, false, false, false, false, false, false, true] rfl rfl (any_of HT_.out (by kernel_rfl)) (fun _ _ _ h => h) (Or.inl ⟨by rfl, ?_⟩) ?_ ?_
      rotate_left
      · intro w'
        go_simp
        with_reducible rfl
      rotate_left
      · simp only [Act.put, List.setIfInBounds_toArray, List.set_cons_zero, List.set_cons_succ, i64_w, i32_w]
        rfl
      refine take_ (i := 1) (N := some 30) (v := ?_) (a' := ?_) #[true, true, true, false, true, true, false, false, true, false, false, false, false, false, false, true] rfl rfl (take_ofW HT_.out HW_.out (by kernel_rfl)) (fun _ _ _ h => h) (Or.inl ⟨by rfl, ?_⟩) hHeld ?_ ?_
      rotate_left
      · rintro w' ⟨s0, s1, s2, s3, s4⟩
        go_simp
        with_reducible rfl
      rotate_left
      · simp only [Act.put, List.setIfInBounds_toArray, List.set_cons_zero, List.set_cons_succ, i64_w, i32_w]
        rfl
      refine take_ (i := 3) (N := some 32) (v := ?_) (a' := ?_) #[true, true, true, true, true, true, false, false, true, false, false, false, false, false, false, true] rfl rfl (take_ofW HT_.out HW_.out (by kernel_rfl)) (fun _ _ _ h => h) (Or.inl ⟨by rfl, ?_⟩) hHeld ?_ ?_
      rotate_left
      · rintro w' ⟨s0, s1, s2, s3, s4⟩
        go_simp
        with_reducible rfl
      rotate_left
      · simp only [Act.put, List.setIfInBounds_toArray, List.set_cons_zero, List.set_cons_succ, i64_w, i32_w]
        rfl
      refine take_ (i := 6) (N := some 35) (v := ?_) (a' := ?_) #[true, true, true, true, true, true, true, false, true, false, false, false, false, false, false, true] rfl rfl (take_ofW HT_.out HW_.out (by kernel_rfl)) (fun _ _ _ h => h) (Or.inl ⟨by rfl, ?_⟩) hHeld ?_ ?_
      rotate_left
      · rintro w' ⟨s0, s1, s2, s3, s4⟩
        go_simp
        with_reducible rfl
      rotate_left
      · simp only [Act.put, List.setIfInBounds_toArray, List.set_cons_zero, List.set_cons_succ, i64_w, i32_w]
        rfl
      refine pure_ (i := 7) (N := some 36) (v := ?_) (a' := ?_) #[true, true, true, true, true, true, true, true, true, false, false, false, false, false, false, true] rfl rfl (any_of HT_.out (by kernel_rfl)) (fun _ _ _ h => h) (Or.inl ⟨by rfl, ?_⟩) ?_ ?_
      rotate_left
      · intro w'
        go_simp
        with_reducible rfl
      rotate_left
      · simp only [Act.put, List.setIfInBounds_toArray, List.set_cons_zero, List.set_cons_succ, i64_w, i32_w]
        rfl
      refine pure_ (i := 9) (N := some 38) (v := ?_) (a' := ?_) #[true, true, true, true, true, true, true, true, true, true, false, false, false, false, false, true] rfl rfl (any_of HT_.out (by kernel_rfl)) (fun _ _ _ h => h) (Or.inl ⟨by rfl, ?_⟩) ?_ ?_
      rotate_left
      · intro w'
        go_simp
        with_reducible rfl
      rotate_left
      · simp only [Act.put, List.setIfInBounds_toArray, List.set_cons_zero, List.set_cons_succ, i64_w, i32_w]
        rfl
      refine pure_ (i := 10) (N := some 39) (v := ?_) (a' := ?_) #[true, true, true, true, true, true, true, true, true, true, true, false, false, false, false, true] rfl rfl (any_of HT_.out (by kernel_rfl)) (fun _ _ _ h => h) (Or.inl ⟨by rfl, ?_⟩) ?_ ?_
      rotate_left
      · intro w'
        go_simp
        with_reducible rfl
      rotate_left
      · simp only [Act.put, List.setIfInBounds_toArray, List.set_cons_zero, List.set_cons_succ, i64_w, i32_w]
        rfl
      refine take_ (i := 11) (N := some 40) (v := ?_) (a' := ?_) #[true, true, true, true, true, true, true, true, true, true, true, true, false, false, false, true] rfl rfl (take_ofW HT_.out HW_.out (by kernel_rfl)) (fun _ _ _ h => h) (Or.inl ⟨by rfl, ?_⟩) hHeld ?_ ?_
      rotate_left
      · rintro w' ⟨s0, s1, s2, s3, s4⟩
        go_simp
        with_reducible rfl
      rotate_left
      · simp only [Act.put, List.setIfInBounds_toArray, List.set_cons_zero, List.set_cons_succ, i64_w, i32_w]
        rfl
      refine pure_ (i := 12) (N := some 41) (v := ?_) (a' := ?_) #[true, true, true, true, true, true, true, true, true, true, true, true, true, false, false, true] rfl rfl (any_of HT_.out (by kernel_rfl)) (fun _ _ _ h => h) (Or.inl ⟨by rfl, ?_⟩) ?_ ?_
      rotate_left
      · intro w'
        go_simp
        with_reducible rfl
      rotate_left
      · simp only [Act.put, List.setIfInBounds_toArray, List.set_cons_zero, List.set_cons_succ, i64_w, i32_w]
        rfl
      refine take_ (i := 13) (N := some 42) (v := ?_) (a' := ?_) #[true, true, true, true, true, true, true, true, true, true, true, true, true, true, false, true] rfl rfl (take_ofW HT_.out HW_.out (by kernel_rfl)) (fun _ _ _ h => h) (Or.inl ⟨by rfl, ?_⟩) hHeld ?_ ?_
      rotate_left
      · rintro w' ⟨s0, s1, s2, s3, s4⟩
        go_simp
        with_reducible rfl
      rotate_left
      · simp only [Act.put, List.setIfInBounds_toArray, List.set_cons_zero, List.set_cons_succ, i64_w, i32_w]
        rfl
      refine pure_ (i := 14) (N := some 43) (v := ?_) (a' := ?_) #[true, true, true, true, true, true, true, true, true, true, true, true, true, true, true, true] rfl rfl (any_of HT_.out (by kernel_rfl)) (fun _ _ _ h => h) (Or.inl ⟨by rfl, ?_⟩) ?_ ?_
      rotate_left
      · intro w'
        go_simp
        with_reducible rfl
      rotate_left
      · simp only [Act.put, List.setIfInBounds_toArray, List.set_cons_zero, List.set_cons_succ, i64_w, i32_w]
        rfl
      refine done_ (done_of HT_.out (by kernel_rfl)) ?_
      try go_wp2
      have HTL : Aside0 (t.length ≤ 12) := ⟨by rw [ETM.out]; exact (tmpl_pairwise HT12.out).1⟩
      have HLEN : Aside0 ((partG (arcsL X Y Z s T n) i.toNat).length = n) := ⟨by rw [partG_len _ _ (by rw [ELEN.out]; have := HIN.out; omega)]; exact ELEN.out⟩
      have HS0 : Aside0 (Kd.S kRows 24 wb w.heap.size (fun k => k ≠ g1 ∧ k ≠ g2) (.slice (some ⟨gf, 0, none⟩) n cf) ((partG (arcsL X Y Z s T n) i.toNat).set i.toNat (rawL X Y Z i (t.take (0 : Int).toNat)))) := ⟨by
        rw [show (0 : Int).toNat = 0 from rfl, List.take_zero, show rawL X Y Z i [] = [] from rfl, partG_nil _ _ (by rw [ELEN.out]; exact HIN.out.1)]
        exact HS.out⟩
      clear HS q0 q1 q2 q3 hcs hct hw1 hw2 hw3 hw4
      go_loopg [44] (t.length) (fun q v44 wr' => ∃ j : Int, v44 = .int .i64 j ∧ Aside0 (0 ≤ j ∧ j + q = t.length) ∧ Aside0 (wr'.heap[g1]? = some (Obj.cells #[.int .i64 X, .int .i64 Y, .int .i64 Z] 30 (0, 0))) ∧ Aside0 (wr'.heap[g2]? = some (Obj.cells #[.slice (some as_) s.length c0, .slice (some at_) T.length c1] 27 (0, 0))) ∧ Aside0 (Kd.S kRows 24 wr' w.heap.size (fun k => k ≠ g1 ∧ k ≠ g2) (.slice (some ⟨gf, 0, none⟩) n cf) ((partG (arcsL X Y Z s T n) i.toNat).set i.toNat (rawL X Y Z i (t.take j.toNat)))) ∧ Aside0 (Below w.heap.size w wr'))
      case atStart => exact ⟨0, rfl, ⟨by omega⟩, K1, K2, HS0, HB⟩
      case round =>
        clear K1 K2 HS0 HB
        obtain ⟨j, rfl, HJ, K1, K2, HS, HB⟩ := hrel
        have p0 := eq_true HIN.out.2.2.1
        have p1 := eq_true HIN.out.2.2.2
        cases gk with
        | zero =>
          have t2 : decide (j < (t.length : Int)) = false := decide_eq_false (by have := HJ.out; omega)
          have ej : j.toNat = t.length := by have := HJ.out; omega
          have HS2 : Aside0 (Kd.S kRows 24 wr w.heap.size (fun k => k ≠ g1 ∧ k ≠ g2) (.slice (some ⟨gf, 0, none⟩) n cf) ((partG (arcsL X Y Z s T n) i.toNat).set i.toNat (rawL X Y Z i t))) := ⟨by have h := HS.out; rwa [ej, List.take_length] at h⟩
          clear ej HS
          obtain ⟨vr, oki, hcv, hoki, hRr, hback⟩ := row_kept HS2.out i HIN.out.2.2.1 HIN.out.2.2.2
          rw [getD_set, if_pos ⟨rfl, by rw [HLEN.out]; exact HIN.out.1⟩] at hRr
          have hsort := arcL_sort HG.out HSO.out i.toNat (by have := HN.out; have := HIN.out; omega)
          rw [HIN.out.2.1, ← ETM.out] at hsort
          obtain ⟨kf, hkf⟩ := hsort.1.rounds
          have HKF := Aside0.mk hkf
          have HRR := Aside0.mk hRr
          have HBK := Aside0.mk hback
          have HOK := Aside0.mk hoki
          have HRL : Aside0 ((rawL X Y Z i t).length ≤ 12) := ⟨Nat.le_trans (rawL_len X Y Z i t) HTL.out⟩
          clear hsort hkf hRr hback hoki
          go_wp2_with fail
          refine (sort_calls kf oki vr _ _ HRL.out w wr HB.out HRR.out HKF.out).mono ?_
          rintro e wc ⟨rfl, hs1, hb, hk⟩
          have m0_ := Aside0.mk (HBK.out wc _ hk hs1)
          have m1_ := Aside0.mk hb
          have m2_ : Aside0 (wc.heap[g1]? = _) := ⟨(hk.2 g1 (blk_lt K1.out) (fun h => (HOK.out g1 h).1.1 rfl)).trans K1.out⟩
          have m3_ : Aside0 (wc.heap[g2]? = _) := ⟨(hk.2 g2 (blk_lt K2.out) (fun h => (HOK.out g2 h).1.2 rfl)).trans K2.out⟩
          clear HS2 HB K1 K2 hcv HBK HOK HRR hs1 hb hk
          have HS := m0_
          have HB := m1_
          have K1 := m2_
          have K2 := m3_
          clear m0_ m1_ m2_ m3_
          go_wp2_with fail
          go_roundg d
          case measure => omega
          case rel =>
            refine ⟨i + 1, by rw [w64 (by have := HIN.out; omega) (by have := HIN.out; have := HNB.out; omega)], ⟨by have := HI.out; omega⟩, K1, K2, ⟨?_⟩, HB⟩
            have h := HS.out
            rw [List.set_set, show arcL X Y Z s T i.toNat = (arcsL X Y Z s T n).getD i.toNat [] from (arcsL_at X Y Z s T n i.toNat HIN.out.1).symm, partG_set _ _ (by rw [ELEN.out]; exact HIN.out.1)] at h
            rw [show (i + 1).toNat = i.toNat + 1 by have := HIN.out; omega]
            exact h
        | succ q =>
          have hj := HJ.out
          have hlt : j < (t.length : Int) := by omega
          have t2 : decide (j < (t.length : Int)) = true := decide_eq_true hlt
          have q0 := eq_true hj.1
          have q1 := eq_true hlt
          obtain ⟨ad, eA, hx0, hx1, hx2⟩ := at_T86 HCR.out j hj.1 hlt
          subst eA
          replace hx0 := (HB.out.cell (World.block_lt_of_cell? w _ hx0)).trans hx0
          replace hx1 := (HB.out.cell (World.block_lt_of_cell? w _ hx1)).trans hx1
          replace hx2 := (HB.out.cell (World.block_lt_of_cell? w _ hx2)).trans hx2
          obtain ⟨x, ex⟩ : ∃ x, x = rd_T86 t j := ⟨_, rfl⟩
          rw [← ex] at hx0 hx1 hx2
          have EX : Aside0 (x = t.getD j.toNat z86) := ⟨ex⟩
          have HJL := Aside0.mk (And.intro hj.1 hlt)
          clear hj hlt ex
          have hA0 : (wr.alloc (Obj.cells #[.int .i64 x.f0, .int .i64 x.f1, .int .i64 x.f2] 86)).cell? ⟨g1, 0, none⟩ = some (.int .i64 X) := (blk_cell (blk_alloc K1.out _) 0).trans rfl
          have hA1 : (wr.alloc (Obj.cells #[.int .i64 x.f0, .int .i64 x.f1, .int .i64 x.f2] 86)).cell? ⟨g1, 1, none⟩ = some (.int .i64 Y) := (blk_cell (blk_alloc K1.out _) 1).trans rfl
          have hA2 : (wr.alloc (Obj.cells #[.int .i64 x.f0, .int .i64 x.f1, .int .i64 x.f2] 86)).cell? ⟨g1, 2, none⟩ = some (.int .i64 Z) := (blk_cell (blk_alloc K1.out _) 2).trans rfl
          have hB0 : (wr.alloc (Obj.cells #[.int .i64 x.f0, .int .i64 x.f1, .int .i64 x.f2] 86)).cell? ⟨wr.heap.size, 0, none⟩ = some (.int .i64 x.f0) := (blk_cell (blk_new wr _) 0).trans rfl
          have hB1 : (wr.alloc (Obj.cells #[.int .i64 x.f0, .int .i64 x.f1, .int .i64 x.f2] 86)).cell? ⟨wr.heap.size, 1, none⟩ = some (.int .i64 x.f1) := (blk_cell (blk_new wr _) 1).trans rfl
          have hB2 : (wr.alloc (Obj.cells #[.int .i64 x.f0, .int .i64 x.f1, .int .i64 x.f2] 86)).cell? ⟨wr.heap.size, 2, none⟩ = some (.int .i64 x.f2) := (blk_cell (blk_new wr _) 2).trans rfl
          go_wp2_with fail
          obtain ⟨o, eo⟩ : ∃ z, z = spot X Y Z (wrap64 (px + x.f0)) (wrap64 (py + x.f1)) (wrap64 (pz - x.f2)) := ⟨_, rfl⟩
          have hstep := rawL_step X Y Z i t j.toNat (by have := HJL.out; omega)
          rw [← EX.out, show spotO X Y Z i x = o from by rw [eo, EPX.out, EPY.out, EPZ.out]; rfl] at hstep
          have HST := Aside0.mk hstep
          have EO := Aside0.mk eo
          clear hstep eo
          refine (impl_BlockAt.calls X Y Z (wrap64 (px + x.f0)) (wrap64 (py + x.f1)) (wrap64 (pz - x.f2)) _ _ _ (by rw [BlockAt_eq HG.out, ← EO.out])).mono ?_
          rintro e wc ⟨rfl, hb⟩
          have m0_ := Aside0.mk (below_step (below_alloc HB.out (Obj.cells #[.int .i64 x.f0, .int .i64 x.f1, .int .i64 x.f2] 86)) hb)
          have m1_ := Aside0.mk (blk_below (blk_alloc K1.out (Obj.cells #[.int .i64 x.f0, .int .i64 x.f1, .int .i64 x.f2] 86)) hb)
          have m2_ := Aside0.mk (blk_below (blk_alloc K2.out (Obj.cells #[.int .i64 x.f0, .int .i64 x.f1, .int .i64 x.f2] 86)) hb)
          have m3_ := Aside0.mk (Kd.S_below (Kd.S_below HS.out (below_alloc (Below.refl _ _) (Obj.cells #[.int .i64 x.f0, .int .i64 x.f1, .int .i64 x.f2] 86))) hb)
          clear HB K1 K2 HS hb hA0 hA1 hA2 hB0 hB1 hB2 hx0 hx1 hx2
          have HB := m0_
          have K1 := m1_
          have K2 := m2_
          have HS := m3_
          clear m0_ m1_ m2_ m3_
          cases o with
          | none =>
            go_wp2_with fail
            go_roundg q
            case measure => omega
            case rel =>
              refine ⟨j + 1, by rw [w64 (by have := HJL.out; omega) (by have := HJL.out; have := HTL.out; omega)], ⟨by have := HJ.out; omega⟩, K1, K2, ⟨?_⟩, HB⟩
              have h := HS.out
              have e := HST.out
              rw [show (j + 1).toNat = j.toNat + 1 by have := HJL.out; omega, e, List.append_nil]
              exact h
          | some v =>
            obtain ⟨vr_, hcr, hfr, ⟨oki, hoki, hrr⟩, hrp⟩ := row_push HS.out i HIN.out.2.2.1 HIN.out.2.2.2 (fun k hk => ⟨by have := blk_lt K1.out; omega, by have := blk_lt K2.out; omega⟩)
            rw [getD_set, if_pos ⟨rfl, by rw [HLEN.out]; exact HIN.out.1⟩] at hrr
            obtain ⟨cur, ecur⟩ : ∃ z, z = rawL X Y Z i (t.take j.toNat) := ⟨_, rfl⟩
            rw [← ecur] at hrr
            have hcl : cur.length ≤ 12 := by
              rw [ecur]
              refine Nat.le_trans (rawL_len X Y Z i _) ?_
              rw [List.length_take]
              have := HTL.out
              omega
            have ECUR := Aside0.mk ecur
            have HCL := Aside0.mk hcl
            have HRR := Aside0.mk hrr
            have HRP := Aside0.mk hrp
            have HOK := Aside0.mk hoki
            clear ecur hcl hrr hrp hoki
            go_wp2_with (first | ((with_reducible refine gate_builtin (b := .append) (xs := #[.tmp 71, .tmp 73]) rfl ?_); at_builtin; refine Kd.R_append (Kd.int .i64) (w0 := w) w.heap.size rfl (.tmp 71) (.tmp 73) 24 3 (.int .i64 0) 8 rfl Try.underlying24 inf3 rfl (by decide) (by omega) vr_ cur v [.int .i64 v] (fun _ => True) (fun _ => False) rfl rfl ?aP (fun _ hk => hk.elim) ?aF ?aO ?aB ?aS ?aL ?_; (case aP => exact rfl); (case aB => exact HB.out); (case aF => exact (fun _ _ => trivial)); (case aO => exact Kd.R_mono HRR.out (fun _ _ => trivial)); (case aS => exact below_size HB.out); (case aL => have := HCL.out; omega); intro v1 w1 ho1 hb1 hg1 hat1; obtain ⟨Ad_, cd_, ev1⟩ := Kd.R_slice ho1; generalize List.length (_ ++ _) = md_ at ev1; subst ev1; obtain ⟨hcp, hfp, hS1⟩ := HRP.out w1 (Value.slice Ad_ md_ cd_) (cur ++ [v]) (fun k a_ b_ => hg1.block k a_ b_) hat1 (Kd.R_mono ho1 (fun _ _ => trivial)); have HS1 := Aside0.mk hS1; have m0_ := Aside0.mk hb1; have m1_ := Aside0.mk ((hg1.block g1 (blk_lt K1.out) (fun e_ => (HOK.out g1 (HRR.out.1 g1 e_.symm)).1.1 rfl)).trans K1.out); have m2_ := Aside0.mk ((hg1.block g2 (blk_lt K2.out) (fun e_ => (HOK.out g2 (HRR.out.1 g2 e_.symm)).1.2 rfl)).trans K2.out); have HGF : Aside0 ((g1 ≠ gf ∧ g2 ≠ gf) ∧ w.heap.size ≤ gf) := ⟨⟨fun e_ => ((Kd.S_R HS.out).1 gf rfl).1 e_.symm, fun e_ => ((Kd.S_R HS.out).1 gf rfl).2 e_.symm⟩, Kd.S_base HS.out gf rfl⟩; clear HB K1 K2 HS ho1 hb1 hg1 hat1 hS1 HRP HRR HOK hcr hfr; have HB := m0_; have K1 := m1_; have K2 := m2_; clear m0_ m1_ m2_))
            have m0_ := Aside0.mk (below_set (g := gf) (j := i.toNat) (v := (Value.slice Ad_ md_ cd_)) HB.out HGF.out.2)
            have m1_ := Aside0.mk (blk_far (p := ⟨gf, i.toNat, none⟩) K1.out HGF.out.1.1 (Value.slice Ad_ md_ cd_))
            have m2_ := Aside0.mk (blk_far (p := ⟨gf, i.toNat, none⟩) K2.out HGF.out.1.2 (Value.slice Ad_ md_ cd_))
            clear HB K1 K2 hcp hfp
            go_roundg q
            case measure => omega
            case rel =>
              refine ⟨j + 1, by rw [w64 (by have := HJL.out; omega) (by have := HJL.out; have := HTL.out; omega)], ⟨by have := HJ.out; omega⟩, m1_, m2_, ⟨?_⟩, m0_⟩
              have h := HS1.out
              have e := HST.out
              rw [List.set_set, ECUR.out] at h
              rw [show (j + 1).toNat = j.toNat + 1 by have := HJL.out; omega, e]
              exact h
end Go.Proofs.Ytpndghkfbojokaa.OwnArcs
