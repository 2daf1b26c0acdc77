/- The law FnExactBelowOf, walked by hand over its callees' contracts: for every input it returns true. -/
import Derived.Test.YtdjahpigkbgobaaCom
import Derived.Test.YtdjahpigkbgobaaPFnExactBelowOfx16
import Derived.Test.YtdjahpigkbgobaaPFnExactBelowOfx22
namespace Go.Proofs.Ytdjahpigkbgobaa.WalkFnExactBelowOf
open Go.RowKit Go.Proofs.Ytdjahpigkbgobaa.PFnExactBelowOf Go.Proofs.YtdjahpigkbgobaaW.PrintWords Go.Proofs.YtdjahpigkbgobaaW.PrintLast Go.Proofs.YtdjahpigkbgobaaW.PrintMore Go.Proofs.Ytdjahpigkbgobaa.B Go.Proofs.Ytdjahpigkbgobaa.Com
set_option linter.unusedVariables false
set_option linter.unusedSimpArgs false

/- rdB -/
theorem rdB (m : List Bool) (x : Int) : rdOf false m x = at_ m x := rfl

/- rdL1 -/
theorem rdL1 (a : List (List Int)) (i : Nat) : rd_L1 a (i : Int) = a.getD i [] := by unfold rd_L1; rw [toNat_nat]
theorem rdL1' (a : List (List Int)) (x : Int) : rd_L1 a x = a.getD x.toNat [] := rfl

/- spec_l1In -/
theorem l1In_eq (a b c : Int) : spec_l1In.f a b c = some (decide (b ≤ a ∧ a ≤ c)) := by
  unfold spec_l1In.f
  by_cases h : a ≥ b
  · rw [if_pos h]; simp [show b ≤ a from h]
  · rw [if_neg h]; simp [show ¬ b ≤ a from h]

/- spec_l1Rising -/
theorem l1Rising_l0 (l : List Int) (hl : l.length ≤ maxLen) (n : Int) : ∀ (d i : Nat), i + d = l.length → Ev (fun k => spec_l1Rising.l0 k l 0 (n - 1) l (l.length : Int) (i : Int)) (allR (ascAt l n) i l.length) := by
  have hl := maxLen_le hl
  intro d
  induction d with
  | zero =>
    intro i hi
    exact Ev.step (fun k => spec_l1Rising.l0.eq_2 l 0 (n - 1) l l.length i k) (ev_neg (by omega) (ev_some (allR_end (by omega)).symm))
  | succ d ih =>
    intro i hi
    refine Ev.step (fun k => spec_l1Rising.l0.eq_2 l 0 (n - 1) l l.length i k) ?_
    rw [allR_step (by omega), w_succ (n := l.length) (by omega) (by omega), rd_nat]
    refine ev_pos (by omega) (ev_pos (by omega) (ev_pos (by omega) (ev_bindc (l1In_eq _ _ _) ?_)))
    refine ev_ite (fun h => ?_) (fun h => ?_)
    · simp only [decide_eq_true_eq] at h
      refine ev_ite (fun h0 => ?_) (fun h0 => ?_)
      · rw [w64 (x := (i : Int) - 1) (by omega) (by omega), show (i : Int) - 1 = ((i - 1 : Nat) : Int) by omega, rd_nat]
        refine ev_pos (by omega) (ev_pos (by omega) ?_)
        refine ev_ite (fun h1 => ?_) (fun h1 => ?_)
        · refine ev_some ?_
          have : ascAt l n i = false := by unfold ascAt; simp only [decide_eq_false_iff_not]; intro hc; have := hc.2.2 (by omega); omega
          rw [this]; rfl
        · have : ascAt l n i = true := by unfold ascAt; simp only [decide_eq_true_eq]; exact ⟨by omega, by omega, fun _ => by omega⟩
          rw [this]; exact ih (i + 1) (by omega)
      · have : ascAt l n i = true := by unfold ascAt; simp only [decide_eq_true_eq]; exact ⟨by omega, by omega, fun _ => by omega⟩
        rw [this]; exact ih (i + 1) (by omega)
    · refine ev_some ?_
      have : ascAt l n i = false := by
        unfold ascAt; simp only [decide_eq_true_eq] at h; simp only [decide_eq_false_iff_not]; intro hc; exact h ⟨hc.1, by omega⟩
      rw [this]; rfl
theorem l1Rising_ev (l : List Int) (hl : l.length ≤ maxLen) (n : Int) : Ev (fun k => spec_l1Rising.f k l 0 (n - 1)) (asc l n) := by
  unfold spec_l1Rising.f asc
  exact l1Rising_l0 l hl n l.length 0 (by omega)

/- spec_clArcs -/
theorem clArcs_l0 (a : List (List Int)) (hl : a.length ≤ maxLen) (hb : ∀ x ∈ a, x.length ≤ maxLen) : ∀ (d i : Nat), i + d = a.length →
    Ev (fun k => spec_clArcs.l0 k a a (a.length : Int) (i : Int)) (decide (1 ≤ a.length ∧ a.length ≤ 120) && allR (fun i => asc (a.getD i []) i) i a.length) := by
  have hl := maxLen_le hl
  intro d
  induction d with
  | zero =>
    intro i hi
    refine Ev.step (fun k => spec_clArcs.l0.eq_2 a a a.length i k) (ev_neg (by omega) (ev_bindc (l1In_eq _ _ _) (ev_some ?_)))
    rw [allR_end (by omega), Bool.and_true, decide_eq_decide]; omega
  | succ d ih =>
    intro i hi
    refine Ev.step (fun k => spec_clArcs.l0.eq_2 a a a.length i k) ?_
    have hx : rd_L1 a (i : Int) = a.getD i [] := by unfold rd_L1; rw [toNat_nat]
    have hmem : a.getD i [] ∈ a := by
      rw [List.getD_eq_getElem?_getD, List.getElem?_eq_getElem (by omega)]; exact List.getElem_mem _
    rw [allR_step (by omega), w_succ (n := a.length) (by omega) (by omega), hx, w64 (x := (i : Int) - 1) (by omega) (by omega)]
    refine ev_pos (by omega) (ev_pos (by omega) (ev_pos (by omega) (Ev.bind (l1Rising_ev _ (hb _ hmem) _) ?_)))
    refine ev_ite (fun h => ?_) (fun h => ?_)
    · rw [h, Bool.true_and]; exact ih (i + 1) (by omega)
    · rw [Bool.not_eq_true] at h; rw [h, Bool.false_and, Bool.and_false]; exact ev_some rfl
theorem clArcs_ev (a : List (List Int)) (hl : a.length ≤ maxLen) (hb : ∀ x ∈ a, x.length ≤ maxLen) : Ev (fun k => spec_clArcs.f k a) (arcsOk a) := by
  unfold spec_clArcs.f arcsOk
  exact clArcs_l0 a hl hb a.length 0 (by omega)

/- spec_clHas -/
theorem clHas_ev (a : List (List Int)) (ha : a.length ≤ maxLen) (hb : ∀ x ∈ a, x.length ≤ maxLen) (i : Int) : Ev (fun k => spec_clHas.f k a i) (arcsOk a && decide (0 ≤ i ∧ i < a.length)) := by
  have ha' := maxLen_le ha
  unfold spec_clHas.f
  refine Ev.bind (clArcs_ev a ha hb) (ev_ite (fun h => ?_) (fun h => ?_))
  · rw [h, Bool.true_and, w64 (x := (a.length : Int) - 1) (by omega) (by omega)]
    refine ev_bindc (l1In_eq _ _ _) (ev_some ?_)
    rw [decide_eq_decide]; omega
  · rw [Bool.not_eq_true] at h; rw [h, Bool.false_and]; exact ev_some rfl

/- spec_clMarks -/
theorem clMarks_l0 (l : List Int) (hl : l.length ≤ maxLen) : ∀ (d i : Nat) (m : List Bool), i + d = l.length → (∀ x ∈ l, 0 ≤ x ∧ x < m.length) → Ev (fun k => spec_clMarks.l0 k m l (l.length : Int) (i : Int)) (foldR (setAt l) i l.length m) := by
  have hl := maxLen_le hl
  intro d
  induction d with
  | zero =>
    intro i m hi hm
    exact Ev.step (fun k => spec_clMarks.l0.eq_2 m l l.length i k) (ev_neg (by omega) (ev_some (foldR_end (by omega)).symm))
  | succ d ih =>
    intro i m hi hm
    refine Ev.step (fun k => spec_clMarks.l0.eq_2 m l l.length i k) ?_
    have hx := hm _ (getD_mem (z := 0) (show i < l.length by omega))
    rw [foldR_step (by omega), w_succ (n := l.length) (by omega) (by omega), rd_nat]
    refine ev_pos (by omega) (ev_pos (by omega) (ev_pos (by omega) (ev_pos (by omega) (ev_pos (by omega) ?_))))
    exact ih (i + 1) _ (by omega) (by intro x h; have := hm x h; simpa using this)
theorem clMarks_ev (n : Nat) (hn : n ≤ 1048576) (l : List Int) (hl : l.length ≤ maxLen) (h : ∀ x ∈ l, 0 ≤ x ∧ x < n) : Ev (fun k => spec_clMarks.f k (n : Int) l) (mk n l) := by
  unfold spec_clMarks.f mk setAll
  refine ev_pos (by omega) (ev_pos (by omega) ?_)
  rw [toNat_nat]
  exact clMarks_l0 l hl l.length 0 _ (by omega) (by simpa using h)

/- spec_clList -/
theorem clList_l0 (m : List Bool) (hm : m.length ≤ 1048576) : ∀ (d i : Nat), i + d = m.length → Ev (fun k => spec_clList.l0 k (foldR (putAt m) 0 i []) m (m.length : Int) (i : Int)) (listOf m) := by
  intro d
  induction d with
  | zero =>
    intro i hi
    obtain rfl : i = m.length := by omega
    exact Ev.step (fun k => spec_clList.l0.eq_2 _ m m.length m.length k) (ev_neg (by omega) (ev_some rfl))
  | succ d ih =>
    intro i hi
    have ih := ih (i + 1) (by omega)
    rw [foldR_last (Nat.zero_le _)] at ih
    have hlen := putAt_len (m := m) i
    refine Ev.step (fun k => spec_clList.l0.eq_2 _ m m.length i k) ?_
    rw [w_succ (n := m.length) (by omega) (by omega), rdB]
    unfold at_
    rw [toNat_nat]
    refine ev_pos (by omega) (ev_pos (by omega) (ev_pos (by omega) (ev_ite (fun h => ?_) (fun h => ?_))))
    · rw [show putAt m (foldR (putAt m) 0 i []) i = foldR (putAt m) 0 i [] ++ [(i : Int)] from if_pos h] at ih
      exact ev_pos (by omega) ih
    · rw [show putAt m (foldR (putAt m) 0 i []) i = foldR (putAt m) 0 i [] from if_neg h] at ih
      exact ih
theorem clList_ev (m : List Bool) (hm : m.length ≤ 1048576) : Ev (fun k => spec_clList.f k m) (listOf m) := by
  unfold spec_clList.f
  have := clList_l0 m hm m.length 0 (by omega)
  rwa [foldR_end (Nat.le_refl _)] at this

/- spec_BelowOf -/
theorem sBelow_l1 (a : List (List Int)) (n : Int) (m : List Bool) (i : Nat) (hi : i < m.length) (r : List Int) (hr : r.length ≤ 120) (hm : ∀ x ∈ r, 0 ≤ x ∧ x < i) (q : List Int × Bool) : ∀ (d j : Nat) (b : Bool), j + d = r.length → Ev (fun k => spec_BelowOf.l0 k (m.set i (b || anyR (inAt m r) j r.length)) a n (wrap64 ((i : Int) + 1))) q →
    Ev (fun k => spec_BelowOf.l1 k (m.set i b) (i : Int) a n (i : Int) r (r.length : Int) (j : Int)) q := by
  intro d
  induction d with
  | zero =>
    intro j b hj hq
    rw [anyR_end (by omega), Bool.or_false] at hq
    exact Ev.step (fun k => spec_BelowOf.l1.eq_2 (m.set i b) i a n i r r.length j k) (ev_neg (by omega) hq)
  | succ d ih =>
    intro j b hj hq
    refine Ev.step (fun k => spec_BelowOf.l1.eq_2 (m.set i b) i a n i r r.length j k) ?_
    have hx := hm _ (getD_mem (z := 0) (show j < r.length by omega))
    rw [anyR_step (by omega)] at hq
    rw [w_succ (n := r.length) (by omega) (by omega), rd_nat, rdB, rdB, at_set_eq hi, toNat_nat, List.set_set, List.set_set, List.length_set, at_set_ne (by omega)]
    refine ev_pos (by omega) (ev_pos (by omega) (ev_pos (by omega) (ev_pos (by omega) (ev_pos (by omega) ?_))))
    cases b with
    | true =>
      refine ev_pos rfl (ih (j + 1) true (by omega) ?_)
      rw [Bool.true_or] at hq ⊢; exact hq
    | false =>
      refine ev_neg (by simp) (ev_pos (by omega) (ev_pos (by omega) (ih (j + 1) _ (by omega) ?_)))
      rw [Bool.false_or] at hq; exact hq
theorem sBelow_l0 (a : List (List Int)) (ha : Arcs a) : ∀ (d i : Nat) (m : List Bool), i + d = a.length → m.length = a.length → Ev (fun k => spec_BelowOf.l0 k m a (a.length : Int) (i : Int)) (listOf (foldR (belStep a) i a.length m), true) := by
  have hle := ha.le
  intro d
  induction d with
  | zero =>
    intro i m hi hm
    refine Ev.step (fun k => spec_BelowOf.l0.eq_2 m a a.length i k) (ev_neg (by omega) ?_)
    rw [foldR_end (by omega)]
    exact Ev.bind (clList_ev m (by omega)) (ev_some rfl)
  | succ d ih =>
    intro i m hi hm
    have ihi := ih (i + 1) (belStep a m i) (by omega) (by unfold belStep; rw [List.length_set]; exact hm)
    rw [← foldR_step (by omega)] at ihi
    refine Ev.step (fun k => spec_BelowOf.l0.eq_2 m a a.length i k) ?_
    rw [rdL1]
    refine ev_pos (by omega) (ev_pos (by omega) (ev_pos (by omega) ?_))
    have := sBelow_l1 a a.length m i (by omega) (a.getD i []) (ha.len i) (fun x hx => ha.down hx) (listOf (foldR (belStep a) i a.length m), true) (a.getD i []).length 0 (m.getD i false) (by omega) (by
      rw [w_succ (n := a.length) (by omega) (by omega)]; exact ihi)
    rw [set_self] at this
    exact this

/- impl_areBlocks -/
theorem areBlocks_l0 (l : List Int) (hl : l.length ≤ maxLen) (n : Int) : ∀ (d i : Nat), i + d = l.length → Ev (fun k => impl_areBlocks.l0 k l n l (l.length : Int) (i : Int)) (allR (ascAt l n) i l.length) := by
  have hl := maxLen_le hl
  intro d
  induction d with
  | zero =>
    intro i hi
    exact Ev.step (fun k => impl_areBlocks.l0.eq_2 l n l l.length i k) (ev_neg (by omega) (ev_some (allR_end (by omega)).symm))
  | succ d ih =>
    intro i hi
    refine Ev.step (fun k => impl_areBlocks.l0.eq_2 l n l l.length i k) ?_
    rw [allR_step (by omega), w_succ (n := l.length) (by omega) (by omega), rd_nat]
    refine ev_pos (by omega) (ev_pos (by omega) (ev_pos (by omega) ?_))
    have no : ¬ (0 ≤ l.getD i 0 ∧ l.getD i 0 < n ∧ (0 < i → l.getD (i - 1) 0 < l.getD i 0)) → false = (ascAt l n i && allR (ascAt l n) (i + 1) l.length) := by
      intro h
      have : ascAt l n i = false := by unfold ascAt; simp only [decide_eq_false_iff_not]; exact h
      rw [this]; rfl
    have yes : (0 ≤ l.getD i 0 ∧ l.getD i 0 < n ∧ (0 < i → l.getD (i - 1) 0 < l.getD i 0)) → Ev (fun k => impl_areBlocks.l0 k l n l (l.length : Int) ((i + 1 : Nat) : Int)) (ascAt l n i && allR (ascAt l n) (i + 1) l.length) := by
      intro h
      have : ascAt l n i = true := by unfold ascAt; simp only [decide_eq_true_eq]; exact h
      rw [this]; exact ih (i + 1) (by omega)
    refine ev_ite (fun h => ev_some (no (by omega))) (fun h => ?_)
    refine ev_ite (fun h1 => ev_some (no (by omega))) (fun h1 => ?_)
    refine ev_ite (fun h0 => ?_) (fun h0 => yes ⟨by omega, by omega, fun _ => by omega⟩)
    rw [w64 (x := (i : Int) - 1) (by omega) (by omega), show (i : Int) - 1 = ((i - 1 : Nat) : Int) by omega, rd_nat]
    refine ev_pos (by omega) (ev_pos (by omega) ?_)
    refine ev_ite (fun h2 => ev_some (no (fun hc => by have := hc.2.2 (by omega); omega))) (fun h2 => yes ⟨by omega, by omega, fun _ => by omega⟩)
theorem areBlocks_ev (l : List Int) (hl : l.length ≤ maxLen) (n : Int) : Ev (fun k => impl_areBlocks.f k l n) (asc l n) := by
  unfold impl_areBlocks.f asc
  exact areBlocks_l0 l hl n l.length 0 (by omega)

/- impl_AreArcs -/
theorem AreArcs_l0 (a : List (List Int)) (hl : a.length ≤ maxLen) (hb : ∀ x ∈ a, x.length ≤ maxLen) : ∀ (d i : Nat), i + d = a.length →
    Ev (fun k => impl_AreArcs.l0 k a (a.length : Int) (i : Int)) (allR (fun i => asc (a.getD i []) i) i a.length) := by
  have hl := maxLen_le hl
  intro d
  induction d with
  | zero =>
    intro i hi
    exact Ev.step (fun k => impl_AreArcs.l0.eq_2 a a.length i k) (ev_neg (by omega) (ev_some (allR_end (by omega)).symm))
  | succ d ih =>
    intro i hi
    refine Ev.step (fun k => impl_AreArcs.l0.eq_2 a a.length i k) ?_
    have hx : rd_L1 a (i : Int) = a.getD i [] := by unfold rd_L1; rw [toNat_nat]
    have hmem : a.getD i [] ∈ a := by
      rw [List.getD_eq_getElem?_getD, List.getElem?_eq_getElem (by omega)]; exact List.getElem_mem _
    rw [allR_step (by omega), w_succ (n := a.length) (by omega) (by omega), hx]
    refine ev_pos (by omega) (ev_pos (by omega) (ev_pos (by omega) (Ev.bind (areBlocks_ev _ (hb _ hmem) _) ?_)))
    refine ev_ite (fun h => ?_) (fun h => ?_)
    · rw [h, Bool.true_and]; exact ih (i + 1) (by omega)
    · rw [Bool.not_eq_true] at h; rw [h, Bool.false_and]; exact ev_some rfl
theorem AreArcs_ev (a : List (List Int)) (hl : a.length ≤ maxLen) (hb : ∀ x ∈ a, x.length ≤ maxLen) : Ev (fun k => impl_AreArcs.f k a) (arcsOk a) := by
  unfold impl_AreArcs.f arcsOk
  refine ev_ite (fun h => ?_) (fun h => ?_)
  · refine Ev.step (fun k => impl_AreArcs.j0.eq_2 a true k) (ev_pos rfl (ev_some ?_))
    rw [decide_eq_false (by omega), Bool.false_and]
  · refine Ev.step (fun k => impl_AreArcs.j0.eq_2 a _ k) (ev_ite (fun h1 => ev_some ?_) (fun h1 => ?_))
    · simp only [decide_eq_true_eq] at h1
      rw [decide_eq_false (by omega), Bool.false_and]
    · simp only [decide_eq_true_eq] at h1
      rw [decide_eq_true (by omega), Bool.true_and]; exact AreArcs_l0 a hl hb a.length 0 (by omega)

/- impl_markOf -/
theorem markOf_l0 (l : List Int) (hl : l.length ≤ maxLen) : ∀ (d i : Nat) (m : List Bool), i + d = l.length → (∀ x ∈ l, 0 ≤ x ∧ x < m.length) → Ev (fun k => impl_markOf.l0 k m l (l.length : Int) (i : Int)) (foldR (setAt l) i l.length m) := by
  have hl := maxLen_le hl
  intro d
  induction d with
  | zero =>
    intro i m hi hm
    exact Ev.step (fun k => impl_markOf.l0.eq_2 m l l.length i k) (ev_neg (by omega) (ev_some (foldR_end (by omega)).symm))
  | succ d ih =>
    intro i m hi hm
    refine Ev.step (fun k => impl_markOf.l0.eq_2 m l l.length i k) ?_
    have hx := hm _ (getD_mem (z := 0) (show i < l.length by omega))
    rw [foldR_step (by omega), w_succ (n := l.length) (by omega) (by omega), rd_nat]
    refine ev_pos (by omega) (ev_pos (by omega) (ev_pos (by omega) (ev_pos (by omega) (ev_pos (by omega) ?_))))
    exact ih (i + 1) _ (by omega) (by intro x h; have := hm x h; simpa using this)
theorem markOf_ev (n : Nat) (hn : n ≤ 1048576) (l : List Int) (hl : l.length ≤ maxLen) (h : ∀ x ∈ l, 0 ≤ x ∧ x < n) : Ev (fun k => impl_markOf.f k (n : Int) l) (mk n l) := by
  unfold impl_markOf.f mk setAll
  refine ev_pos (by omega) (ev_pos (by omega) ?_)
  rw [toNat_nat]
  exact markOf_l0 l hl l.length 0 _ (by omega) (by simpa using h)

/- impl_belowOf -/
theorem belowOf_l1 (a : List (List Int)) (m : List Bool) (i : Nat) (hi : i < m.length) (r : List Int) (hr : r.length ≤ 120) (hm : ∀ x ∈ r, 0 ≤ x ∧ x < i) (q : List Bool) : ∀ (d j : Nat) (b : Bool), j + d = r.length → Ev (fun k => impl_belowOf.l0 k a (m.set i (b || anyR (inAt m r) j r.length)) (wrap64 ((i : Int) + 1))) q →
    Ev (fun k => impl_belowOf.l1 k a (m.set i b) (i : Int) r (r.length : Int) (j : Int)) q := by
  intro d
  induction d with
  | zero =>
    intro j b hj hq
    rw [anyR_end (by omega), Bool.or_false] at hq
    exact Ev.step (fun k => impl_belowOf.l1.eq_2 a (m.set i b) i r r.length j k) (ev_neg (by omega) hq)
  | succ d ih =>
    intro j b hj hq
    refine Ev.step (fun k => impl_belowOf.l1.eq_2 a (m.set i b) i r r.length j k) ?_
    have hx := hm _ (getD_mem (z := 0) (show j < r.length by omega))
    rw [anyR_step (by omega)] at hq
    rw [w_succ (n := r.length) (by omega) (by omega), rd_nat, rdB, rdB, at_set_eq hi, toNat_nat, List.set_set, List.set_set, List.length_set, at_set_ne (by omega)]
    refine ev_pos (by omega) (ev_pos (by omega) (ev_pos (by omega) (ev_pos (by omega) (ev_pos (by omega) ?_))))
    cases b with
    | true =>
      refine ev_pos rfl (ih (j + 1) true (by omega) ?_)
      rw [Bool.true_or] at hq ⊢; exact hq
    | false =>
      refine ev_neg (by simp) (ev_pos (by omega) (ev_pos (by omega) (ih (j + 1) _ (by omega) ?_)))
      rw [Bool.false_or] at hq; exact hq
theorem belowOf_l0 (a : List (List Int)) (ha : Arcs a) : ∀ (d i : Nat) (m : List Bool), i + d = a.length → m.length = a.length → Ev (fun k => impl_belowOf.l0 k a m (i : Int)) (foldR (belStep a) i a.length m) := by
  have hle := ha.le
  intro d
  induction d with
  | zero =>
    intro i m hi hm
    exact Ev.step (fun k => impl_belowOf.l0.eq_2 a m i k) (ev_neg (by omega) (ev_some (foldR_end (by omega)).symm))
  | succ d ih =>
    intro i m hi hm
    have ihi := ih (i + 1) (belStep a m i) (by omega) (by unfold belStep; rw [List.length_set]; exact hm)
    rw [← foldR_step (by omega)] at ihi
    refine Ev.step (fun k => impl_belowOf.l0.eq_2 a m i k) ?_
    rw [rdL1]
    refine ev_pos (by omega) (ev_pos (by omega) ?_)
    have := belowOf_l1 a m i (by omega) (a.getD i []) (ha.len i) (fun x hx => ha.down hx) (foldR (belStep a) i a.length m) (a.getD i []).length 0 (m.getD i false) (by omega) (by
      rw [w_succ (n := a.length) (by omega) (by omega)]; exact ihi)
    rw [set_self] at this
    exact this
theorem belowOf_ev (a : List (List Int)) (ha : Arcs a) (i : Nat) (hi : i < a.length) : Ev (fun k => impl_belowOf.f k a (i : Int)) (foldR (belStep a) 0 a.length (mk a.length [(i : Int)])) := by
  have hle := ha.le
  unfold impl_belowOf.f
  refine Ev.bind (markOf_ev a.length (by omega) [(i : Int)] (maxLen_val (by simp)) (fun x hx => by rw [List.mem_singleton] at hx; omega)) ?_
  rw [w_succ (n := a.length) (by omega) (by omega), foldR_split (j := i + 1) (by omega) (by omega), bel_skip ha i hi]
  exact belowOf_l0 a ha (a.length - (i + 1)) (i + 1) _ (by omega) mk_len

/- impl_listOf -/
theorem listOf_l0 (m : List Bool) (hm : m.length ≤ 1048576) : ∀ (d i : Nat), i + d = m.length → Ev (fun k => impl_listOf.l0 k (foldR (putAt m) 0 i []) m (m.length : Int) (i : Int)) (listOf m) := by
  intro d
  induction d with
  | zero =>
    intro i hi
    obtain rfl : i = m.length := by omega
    exact Ev.step (fun k => impl_listOf.l0.eq_2 _ m m.length m.length k) (ev_neg (by omega) (ev_some rfl))
  | succ d ih =>
    intro i hi
    have ih := ih (i + 1) (by omega)
    rw [foldR_last (Nat.zero_le _)] at ih
    have hlen := putAt_len (m := m) i
    refine Ev.step (fun k => impl_listOf.l0.eq_2 _ m m.length i k) ?_
    rw [w_succ (n := m.length) (by omega) (by omega), rdB]
    unfold at_
    rw [toNat_nat]
    refine ev_pos (by omega) (ev_pos (by omega) (ev_pos (by omega) (ev_ite (fun h => ?_) (fun h => ?_))))
    · rw [show putAt m (foldR (putAt m) 0 i []) i = foldR (putAt m) 0 i [] ++ [(i : Int)] from if_pos h] at ih
      exact ev_pos (by omega) ih
    · rw [show putAt m (foldR (putAt m) 0 i []) i = foldR (putAt m) 0 i [] from if_neg h] at ih
      exact ih
theorem listOf_ev (m : List Bool) (hm : m.length ≤ 1048576) : Ev (fun k => impl_listOf.f k m) (listOf m) := by
  unfold impl_listOf.f
  have := listOf_l0 m hm m.length 0 (by omega)
  rwa [foldR_end (Nat.le_refl _)] at this

/- hand.FnExactBelowOf -/
def belowL (a : List (List Int)) (i : Int) : List Int × Bool := if arcsOk a && decide (0 ≤ i ∧ i < a.length) then (listOf (foldR (belStep a) 0 a.length (mk a.length [i])), true) else ([], false)
theorem sBelow_ev (a : List (List Int)) (ha : a.length ≤ maxLen) (hb : ∀ x ∈ a, x.length ≤ maxLen) (i : Int) : Ev (fun k => spec_BelowOf.f k a i) (belowL a i) := by
  unfold spec_BelowOf.f belowL
  refine Ev.bind (clHas_ev a ha hb i) (ev_ite (fun h => ?_) (fun h => ?_))
  · rw [if_pos h]
    rw [Bool.and_eq_true, decide_eq_true_eq] at h
    have hA := arcsOk_iff.1 h.1
    have hle := hA.le
    refine Ev.bind (clMarks_ev a.length (by omega) [i] (maxLen_val (by simp)) (fun x hx => by rw [List.mem_singleton] at hx; omega)) ?_
    exact sBelow_l0 a hA a.length 0 _ (by omega) mk_len
  · rw [if_neg h]; exact ev_some rfl
theorem iBelow_ev (a : List (List Int)) (ha : a.length ≤ maxLen) (hb : ∀ x ∈ a, x.length ≤ maxLen) (i : Int) : Ev (fun k => impl_BelowOf.f k a i) (belowL a i) := by
  unfold impl_BelowOf.f belowL
  refine Ev.bind (AreArcs_ev a ha hb) (ev_ite (fun h => ?_) (fun h => ?_))
  · rw [h, Bool.true_and]
    have hA := arcsOk_iff.1 h
    have hle := hA.le
    refine ev_ite (fun h1 => Ev.step (fun k => impl_BelowOf.j0.eq_2 a i true k) (ev_pos rfl (ev_some ?_))) (fun h1 => ?_)
    · rw [if_neg (by rw [decide_eq_true_eq]; omega)]
    · refine Ev.step (fun k => impl_BelowOf.j0.eq_2 a i _ k) (ev_ite (fun h2 => ev_some ?_) (fun h2 => ?_))
      · rw [decide_eq_true_eq] at h2; rw [if_neg (by rw [decide_eq_true_eq]; omega)]
      · rw [decide_eq_true_eq] at h2; rw [if_pos (by rw [decide_eq_true_eq]; omega)]
        obtain ⟨j, rfl⟩ : ∃ j : Nat, i = j := ⟨i.toNat, by omega⟩
        refine Ev.bind (belowOf_ev a hA j (by omega)) (Ev.bind (listOf_ev _ (by rw [bel_len, mk_len]; omega)) (ev_some rfl))
  · rw [Bool.not_eq_true] at h; rw [h]
    exact Ev.step (fun k => impl_BelowOf.j0.eq_2 a i true k) (ev_pos rfl (ev_some rfl))
theorem belowL_len (a : List (List Int)) (i : Int) : (belowL a i).1.length ≤ 1048576 := by
  unfold belowL
  split
  · rename_i h
    rw [Bool.and_eq_true] at h
    have := (arcsOk_iff.1 h.1).le
    have := listOf_len (m := foldR (belStep a) 0 a.length (mk a.length [i]))
    rw [bel_len, mk_len] at this
    show (listOf (foldR (belStep a) 0 a.length (mk a.length [i]))).length ≤ _
    omega
  · simp
theorem both (a : List (List Int)) (i : Int) (ha : a.length ≤ 1048576) (hb : ∀ x ∈ a, x.length ≤ 1048576) (hi : -9223372036854775808 ≤ i ∧ i ≤ 9223372036854775807) :
    ∃ r : List Int × Bool, Ev (fun k => spec_BelowOf.f k a i) r ∧ Ev (fun k => impl_BelowOf.f k a i) r ∧ r.1.length ≤ 1048576 :=
  ⟨belowL a i, sBelow_ev a (maxLen_val (by omega)) (fun x hx => maxLen_val (by have := hb x hx; omega)) i, iBelow_ev a (maxLen_val (by omega)) (fun x hx => maxLen_val (by have := hb x hx; omega)) i, belowL_len a i⟩

set_option maxHeartbeats 4000000 in
set_option maxRecDepth 100000 in
theorem walk (a0 : List (List Int)) (a1 : Int) (Aa0 : Option Addr) (ca0 : Nat) (w : World) (hra0 : Kd.C kSS w Aa0 a0.length a0) (hca0 : a0.length ≤ ca0) (r : Int) (hsz : ∀ (A : Option Addr) (c : Nat) (w : World), Kd.C kSS w A a0.length a0 → a0.length ≤ c → Calls Try.prog 15 #[.slice A a0.length c, .int .i64 1048576] w fun e w' => e = .returned (.int .i64 r) ∧ Below w.heap.size w w') (hlt : ¬ r < 0) (g0 : List Int) (g1 : Bool) (hla0 : a0.length ≤ 1048576) (hba0 : ∀ x ∈ a0, x.length ≤ 1048576) (hlg0 : g0.length ≤ 1048576)  (hs : ∃ k, spec_BelowOf.f k a0 a1 = some (g0, g1)) (hi : ∃ k, impl_BelowOf.f k a0 a1 = some (g0, g1)) :
    Calls Try.prog 4 #[.slice Aa0 a0.length ca0, .int .i64 a1] w fun e w' => e = .returned (.bool true) ∧ Below w.heap.size w w' := by
  obtain ⟨ks, hs⟩ := hs
  obtain ⟨ki, hi⟩ := hi
  have Hs := Aside0.mk hs
  have Hi := Aside0.mk hi
  have HRa0 := Aside0.mk hra0
  have HCa0 := Aside0.mk hca0
  have HLa0 := Aside0.mk hla0
  have HBa0 := Aside0.mk hba0
  have HLg0 := Aside0.mk hlg0
  have HSZ := Aside0.mk hsz
  have d1 : decide (r < 0) = false := decide_eq_false hlt
  clear hs hi hra0 hca0 hla0 hba0 hlg0 hsz hlt
  go_enter Try.func4, Try.ntmps4
  go_wp2_with fail
  refine (HSZ.out Aa0 ca0 w HRa0.out HCa0.out).mono ?_
  rintro e w1 ⟨rfl, hb⟩
  have B1 := Aside0.mk hb
  have z1 := hb.size
  clear hb
  go_wp2_with fail
  refine (toIntSS_calls a0 HLa0.out HBa0.out Aa0 ca0 w1 (Kd.C_below HRa0.out B1.out) HCa0.out).mono ?_
  rintro e w2 ⟨v, rfl, ho, hb⟩
  have B2 := Aside0.mk (below_step B1.out hb)
  have z2 := hb.size
  obtain ⟨At0_2, ct0_2, rfl⟩ := Kd.S_slice ho
  have Ft0_2 := Aside0.mk (ivS (w := w) ho (by omega))
  clear ho
  clear hb
  go_wp2_with fail
  refine (spec_BelowOf.calls ks At0_2 ct0_2 a0 a1 g0 g1 w2 (readsS Ft0_2.out).2.2 (readsS Ft0_2.out).2.1 Hs.out).mono ?_
  rintro e w3 ⟨v, rfl, ho, hb⟩
  have B3 := Aside0.mk (below_step B2.out hb)
  have z3 := hb.size
  obtain ⟨Aw0_3, cw0_3, rfl⟩ := Kd.R_slice ho
  have Fw0_3 := Aside0.mk (ivR (w := w) ho (by omega))
  clear ho
  have Ft0_3 := Aside0.mk (Kd.S_below Ft0_2.out hb)
  clear Ft0_2
  clear hb
  go_wp2_with fail
  refine (toIntSS_calls a0 HLa0.out HBa0.out Aa0 ca0 w3 (Kd.C_below HRa0.out B3.out) HCa0.out).mono ?_
  rintro e w4 ⟨v, rfl, ho, hb⟩
  have B4 := Aside0.mk (below_step B3.out hb)
  have z4 := hb.size
  obtain ⟨Ax0_4, cx0_4, rfl⟩ := Kd.S_slice ho
  have Fx0_4 := Aside0.mk (ivS (w := w) ho (by omega))
  clear ho
  have Fw0_4 := Aside0.mk (Kd.R_below Fw0_3.out hb)
  clear Fw0_3
  clear hb
  go_wp2_with fail
  refine (impl_BelowOf.calls ki Ax0_4 cx0_4 a0 a1 g0 g1 w4 (readsS Fx0_4.out).2.2 (readsS Fx0_4.out).2.1 Hi.out).mono ?_
  rintro e w5 ⟨v, rfl, ho, hb⟩
  have B5 := Aside0.mk (below_step B4.out hb)
  have z5 := hb.size
  obtain ⟨Ag0_5, cg0_5, rfl⟩ := Kd.R_slice ho
  have Fg0_5 := Aside0.mk (ivR (w := w) ho (by omega))
  clear ho
  have Fw0_5 := Aside0.mk (Kd.R_below Fw0_4.out hb)
  clear Fw0_4
  have Fx0_5 := Aside0.mk (Kd.S_below Fx0_4.out hb)
  clear Fx0_4
  clear hb
  go_wp2_with fail
  refine (eqIntS_calls g0 (maxLen_val (by have := HLg0.out; omega)) Ag0_5 Aw0_3 cg0_5 cw0_3 w5 (readsR Fg0_5.out).2.2 (readsR Fg0_5.out).2.1 (readsR Fw0_5.out).2.2 (readsR Fw0_5.out).2.1).mono ?_
  rintro e w6 ⟨rfl, hb⟩
  have B6 := Aside0.mk (below_step B5.out hb)
  have z6 := hb.size
  have Fw0_6 := Aside0.mk (Kd.R_below Fw0_5.out hb)
  clear Fw0_5
  have Fx0_6 := Aside0.mk (Kd.S_below Fx0_5.out hb)
  clear Fx0_5
  have Fg0_6 := Aside0.mk (Kd.R_below Fg0_5.out hb)
  clear Fg0_5
  clear hb
  go_wp2_with fail
  refine (toIntSS_calls a0 HLa0.out HBa0.out Aa0 ca0 w6 (Kd.C_below HRa0.out B6.out) HCa0.out).mono ?_
  rintro e w7 ⟨v, rfl, ho, hb⟩
  have B7 := Aside0.mk (below_step B6.out hb)
  have z7 := hb.size
  obtain ⟨Au_7, cu_7, rfl⟩ := Kd.S_slice ho
  have Fu_7 := Aside0.mk (ivS (w := w) ho (by omega))
  clear ho
  have Fw0_7 := Aside0.mk (Kd.R_below Fw0_6.out hb)
  clear Fw0_6
  have Fx0_7 := Aside0.mk (Kd.S_below Fx0_6.out hb)
  clear Fx0_6
  have Fg0_7 := Aside0.mk (Kd.R_below Fg0_6.out hb)
  clear Fg0_6
  clear hb
  go_wp2_with fail
  refine (eqIntSS_calls a0 (maxLen_val (by have := HLa0.out; omega)) (fun x hx => maxLen_val (by have := HBa0.out x hx; omega)) Ax0_4 Au_7 cx0_4 cu_7 w7 (readsS Fx0_7.out).2.2 (readsS Fx0_7.out).2.1 (readsS Fu_7.out).2.2 (readsS Fu_7.out).2.1).mono ?_
  rintro e w8 ⟨rfl, hb⟩
  have B8 := Aside0.mk (below_step B7.out hb)
  have z8 := hb.size
  have Fw0_8 := Aside0.mk (Kd.R_below Fw0_7.out hb)
  clear Fw0_7
  have Fx0_8 := Aside0.mk (Kd.S_below Fx0_7.out hb)
  clear Fx0_7
  have Fg0_8 := Aside0.mk (Kd.R_below Fg0_7.out hb)
  clear Fg0_7
  have Fu_8 := Aside0.mk (Kd.S_below Fu_7.out hb)
  clear Fu_7
  clear hb
  go_wp2_with fail
  refine (markIntSS_calls a0 HLa0.out HBa0.out 1 (by omega) (by have := HLa0.out; omega) (Btw w3 w4) (.slice Ax0_4 a0.length cx0_4) w w8 B8.out Fx0_8.out).mono ?_
  rintro e w9 ⟨rfl, ho, hb, hk⟩
  have z9 := hk.1
  have B9 := Aside0.mk hb
  have Fw0_9 := Aside0.mk (Kd.R_kept Fw0_8.out hk (apart (by omega)))
  clear Fw0_8
  have Fg0_9 := Aside0.mk (Kd.R_kept Fg0_8.out hk (apart (by omega)))
  clear Fg0_8
  have hbd := markAll_bd 1 a0 HBa0.out a0.length
  have hll := HLa0.out
  obtain ⟨m9, em9⟩ : ∃ z : Int, z = (markAll 1 a0 a0.length).1 := ⟨_, rfl⟩
  rw [← em9] at hbd ⊢
  have lm9 : 0 ≤ m9 ∧ m9 ≤ 1099511627777 := by omega
  have dm9 : decide (m9 < 0) = false := decide_eq_false (by omega)
  have Em9 := Aside0.mk em9
  have Lm9 := Aside0.mk lm9
  clear Fx0_8
  clear hb hk ho hll em9 lm9 hbd
  go_wp2_with fail
  refine (eqIntS_calls g0 (maxLen_val (by have := HLg0.out; omega)) Ag0_5 Aw0_3 cg0_5 cw0_3 w9 (readsR Fg0_9.out).2.2 (readsR Fg0_9.out).2.1 (readsR Fw0_9.out).2.2 (readsR Fw0_9.out).2.1).mono ?_
  rintro e w10 ⟨rfl, hb⟩
  have B10 := Aside0.mk (below_step B9.out hb)
  have z10 := hb.size
  have Fw0_10 := Aside0.mk (Kd.R_below Fw0_9.out hb)
  clear Fw0_9
  have Fg0_10 := Aside0.mk (Kd.R_below Fg0_9.out hb)
  clear Fg0_9
  clear hb
  go_wp2_with fail
  refine (markIntS_calls g0 (by have := HLg0.out; omega) 1 (by omega) (Btw w4 w5) (.slice Ag0_5 g0.length cg0_5) w w10 B10.out Fg0_10.out).mono ?_
  rintro e w11 ⟨rfl, ho, hb, hk⟩
  have z11 := hk.1
  have B11 := Aside0.mk hb
  have Fw0_11 := Aside0.mk (Kd.R_kept Fw0_10.out hk (apart (by omega)))
  clear Fw0_10
  have hll := HLg0.out
  obtain ⟨m11, em11⟩ : ∃ z : Int, z = 1 + (g0.length : Int) := ⟨_, rfl⟩
  rw [← em11]
  have lm11 : 0 ≤ m11 ∧ m11 ≤ 8388609 := by omega
  have dm11 : decide (m11 < 0) = false := decide_eq_false (by omega)
  have Em11 := Aside0.mk em11
  have Lm11 := Aside0.mk lm11
  have Fg0_11 := Aside0.mk ho
  clear Fg0_10
  clear hb hk ho hll em11 lm11
  go_wp2_with fail
  refine (heldIntS_calls g0.length (by have := HLg0.out; omega) 1 (by omega) Ag0_5 cg0_5 w11 (by have h := (readsR Fg0_11.out).2.2; rwa [markRow_len] at h) (by have h := (readsR Fg0_11.out).2.1; rwa [markRow_len] at h)).mono ?_
  rintro e w12 ⟨rfl, hb⟩
  have B12 := Aside0.mk (below_step B11.out hb)
  have z12 := hb.size
  have Fw0_12 := Aside0.mk (Kd.R_below Fw0_11.out hb)
  clear Fw0_11
  have Fg0_12 := Aside0.mk (Kd.R_below Fg0_11.out hb)
  clear Fg0_11
  rw [← Em11.out]
  clear hb
  go_wp2_with fail
  refine (toIntSS_calls a0 HLa0.out HBa0.out Aa0 ca0 w12 (Kd.C_below HRa0.out B12.out) HCa0.out).mono ?_
  rintro e w13 ⟨v, rfl, ho, hb⟩
  have B13 := Aside0.mk (below_step B12.out hb)
  have z13 := hb.size
  obtain ⟨At0_13, ct0_13, rfl⟩ := Kd.S_slice ho
  have Ft0_13 := Aside0.mk (ivS (w := w) ho (by omega))
  clear ho
  have Fw0_13 := Aside0.mk (Kd.R_below Fw0_12.out hb)
  clear Fw0_12
  have Fg0_13 := Aside0.mk (Kd.R_below Fg0_12.out hb)
  clear Fg0_12
  clear hb
  go_wp2_with fail
  refine (impl_BelowOf.calls ki At0_13 ct0_13 a0 a1 g0 g1 w13 (readsS Ft0_13.out).2.2 (readsS Ft0_13.out).2.1 Hi.out).mono ?_
  rintro e w14 ⟨v, rfl, ho, hb⟩
  have B14 := Aside0.mk (below_step B13.out hb)
  have z14 := hb.size
  obtain ⟨Ah0_14, ch0_14, rfl⟩ := Kd.R_slice ho
  have Fh0_14 := Aside0.mk (ivR (w := w) ho (by omega))
  clear ho
  have Fw0_14 := Aside0.mk (Kd.R_below Fw0_13.out hb)
  clear Fw0_13
  have Fg0_14 := Aside0.mk (Kd.R_below Fg0_13.out hb)
  clear Fg0_13
  have Ft0_14 := Aside0.mk (Kd.S_below Ft0_13.out hb)
  clear Ft0_13
  clear hb
  go_wp2_with fail
  refine (eqIntS_calls g0 (maxLen_val (by have := HLg0.out; omega)) Ah0_14 Aw0_3 ch0_14 cw0_3 w14 (readsR Fh0_14.out).2.2 (readsR Fh0_14.out).2.1 (readsR Fw0_14.out).2.2 (readsR Fw0_14.out).2.1).mono ?_
  rintro e w15 ⟨rfl, hb⟩
  have B15 := Aside0.mk (below_step B14.out hb)
  have z15 := hb.size
  have Fw0_15 := Aside0.mk (Kd.R_below Fw0_14.out hb)
  clear Fw0_14
  have Fg0_15 := Aside0.mk (Kd.R_below Fg0_14.out hb)
  clear Fg0_14
  have Fh0_15 := Aside0.mk (Kd.R_below Fh0_14.out hb)
  clear Fh0_14
  clear hb
  go_wp2_with fail
  refine (heldIntS_calls g0.length (by have := HLg0.out; omega) 1 (by omega) Ag0_5 cg0_5 w15 (by have h := (readsR Fg0_15.out).2.2; rwa [markRow_len] at h) (by have h := (readsR Fg0_15.out).2.1; rwa [markRow_len] at h)).mono ?_
  rintro e w16 ⟨rfl, hb⟩
  have B16 := Aside0.mk (below_step B15.out hb)
  have z16 := hb.size
  have Fw0_16 := Aside0.mk (Kd.R_below Fw0_15.out hb)
  clear Fw0_15
  have Fg0_16 := Aside0.mk (Kd.R_below Fg0_15.out hb)
  clear Fg0_15
  have Fh0_16 := Aside0.mk (Kd.R_below Fh0_15.out hb)
  clear Fh0_15
  rw [← Em11.out]
  clear hb
  go_wp2_with fail
  go_ret
  exact ⟨rfl, B16.out⟩
set_option maxRecDepth 100000 in
theorem walk_neg (a0 : List (List Int)) (a1 : Int) (Aa0 : Option Addr) (ca0 : Nat) (w : World) (hra0 : Kd.C kSS w Aa0 a0.length a0) (hca0 : a0.length ≤ ca0)  (r : Int) (hsz : ∀ (A : Option Addr) (c : Nat) (w : World), Kd.C kSS w A a0.length a0 → a0.length ≤ c → Calls Try.prog 15 #[.slice A a0.length c, .int .i64 1048576] w fun e w' => e = .returned (.int .i64 r) ∧ Below w.heap.size w w') (hlt : r < 0) : Calls Try.prog 4 #[.slice Aa0 a0.length ca0, .int .i64 a1] w fun e w' => e = .returned (.bool true) ∧ Below w.heap.size w w' := by
  have HSZ := Aside0.mk hsz
  have HR := Aside0.mk hra0
  have HC := Aside0.mk hca0
  have d1 : decide (r < 0) = true := decide_eq_true hlt
  clear hsz hlt  hra0 hca0
  go_enter Try.func4, Try.ntmps4
  go_wp2_with fail
  refine (HSZ.out Aa0 ca0 w HR.out HC.out).mono ?_
  rintro e w1 ⟨rfl, hb⟩
  have B1 := Aside0.mk hb
  clear hb
  go_wp2_with fail
  go_ret
  exact ⟨rfl, B1.out⟩
theorem law (a0 : List (List Int)) (a1 : Int) (ha0 : a0.length ≤ maxLen) (ga0 : ∀ x ∈ a0, x.length ≤ maxLen ∧ ∀ y0 ∈ x, (Lit.int .i64 y0).wf = true) (ga1 : (Lit.int .i64 a1).wf = true) (Aa0 : Option Addr) (ca0 : Nat) (w : World) (hra0 : Kd.C kSS w Aa0 a0.length a0) (hca0 : a0.length ≤ ca0) : Calls Try.prog 4 #[.slice Aa0 a0.length ca0, .int .i64 a1] w fun e w' => e = .returned (.bool true) ∧ Below w.heap.size w w' := by
  obtain ⟨r, hz, hsz⟩ := szIntSS_calls a0 ha0 (fun x hx => (ga0 x hx).1)
  by_cases hlt : r < 0
  · exact walk_neg a0 a1 Aa0 ca0 w hra0 hca0  r hsz hlt
  obtain ⟨l1, l2⟩ := hz (by omega)
  obtain ⟨⟨g0, g1⟩, hs, hi, ng0⟩ := both a0 a1 l1 l2 (wf64 ga1)
  exact walk a0 a1 Aa0 ca0 w hra0 hca0 r hsz hlt g0 g1 l1 l2 ng0 hs.rounds hi.rounds
end Go.Proofs.Ytdjahpigkbgobaa.WalkFnExactBelowOf
