/- The law FnExactLeastClosure, walked by hand over its callees' contracts: for every input it returns true. -/
import Derived.Test.YtdjahpigkbgobaaCom
import Derived.Test.YtdjahpigkbgobaaPFnExactLeastClosurex17
import Derived.Test.YtdjahpigkbgobaaPFnExactLeastClosurex23
namespace Go.Proofs.Ytdjahpigkbgobaa.WalkFnExactLeastClosure
open Go.RowKit Go.Proofs.Ytdjahpigkbgobaa.PFnExactLeastClosure Go.Proofs.YtdjahpigkbgobaaW.PrintWords Go.Proofs.YtdjahpigkbgobaaW.PrintLast Go.Proofs.YtdjahpigkbgobaaW.PrintMore Go.Proofs.Ytdjahpigkbgobaa.B Go.Proofs.Ytdjahpigkbgobaa.Com
set_option linter.unusedVariables false
set_option linter.unusedSimpArgs false

/- spec_l1In -/
theorem l1In_eq (a b c : Int) : spec_l1In.f a b c = some (decide (b ≤ a ∧ a ≤ c)) := by
  unfold spec_l1In.f
  by_cases h : a ≥ b
  · rw [if_pos h]; simp [show b ≤ a from h]
  · rw [if_neg h]; simp [show ¬ b ≤ a from h]

/- spec_l1Rising -/
theorem l1Rising_l0 (l : List Int) (hl : l.length ≤ maxLen) (n : Int) : ∀ (d i : Nat), i + d = l.length → Ev (fun k => spec_l1Rising.l0 k l 0 (n - 1) l (l.length : Int) (i : Int)) (allR (ascAt l n) i l.length) := by
  have hl := maxLen_le hl
  intro d
  induction d with
  | zero =>
    intro i hi
    exact Ev.step (fun k => spec_l1Rising.l0.eq_2 l 0 (n - 1) l l.length i k) (ev_neg (by omega) (ev_some (allR_end (by omega)).symm))
  | succ d ih =>
    intro i hi
    refine Ev.step (fun k => spec_l1Rising.l0.eq_2 l 0 (n - 1) l l.length i k) ?_
    rw [allR_step (by omega), w_succ (n := l.length) (by omega) (by omega), rd_nat]
    refine ev_pos (by omega) (ev_pos (by omega) (ev_pos (by omega) (ev_bindc (l1In_eq _ _ _) ?_)))
    refine ev_ite (fun h => ?_) (fun h => ?_)
    · simp only [decide_eq_true_eq] at h
      refine ev_ite (fun h0 => ?_) (fun h0 => ?_)
      · rw [w64 (x := (i : Int) - 1) (by omega) (by omega), show (i : Int) - 1 = ((i - 1 : Nat) : Int) by omega, rd_nat]
        refine ev_pos (by omega) (ev_pos (by omega) ?_)
        refine ev_ite (fun h1 => ?_) (fun h1 => ?_)
        · refine ev_some ?_
          have : ascAt l n i = false := by unfold ascAt; simp only [decide_eq_false_iff_not]; intro hc; have := hc.2.2 (by omega); omega
          rw [this]; rfl
        · have : ascAt l n i = true := by unfold ascAt; simp only [decide_eq_true_eq]; exact ⟨by omega, by omega, fun _ => by omega⟩
          rw [this]; exact ih (i + 1) (by omega)
      · have : ascAt l n i = true := by unfold ascAt; simp only [decide_eq_true_eq]; exact ⟨by omega, by omega, fun _ => by omega⟩
        rw [this]; exact ih (i + 1) (by omega)
    · refine ev_some ?_
      have : ascAt l n i = false := by
        unfold ascAt; simp only [decide_eq_true_eq] at h; simp only [decide_eq_false_iff_not]; intro hc; exact h ⟨hc.1, by omega⟩
      rw [this]; rfl
theorem l1Rising_ev (l : List Int) (hl : l.length ≤ maxLen) (n : Int) : Ev (fun k => spec_l1Rising.f k l 0 (n - 1)) (asc l n) := by
  unfold spec_l1Rising.f asc
  exact l1Rising_l0 l hl n l.length 0 (by omega)

/- spec_clArcs -/
theorem clArcs_l0 (a : List (List Int)) (hl : a.length ≤ maxLen) (hb : ∀ x ∈ a, x.length ≤ maxLen) : ∀ (d i : Nat), i + d = a.length →
    Ev (fun k => spec_clArcs.l0 k a a (a.length : Int) (i : Int)) (decide (1 ≤ a.length ∧ a.length ≤ 120) && allR (fun i => asc (a.getD i []) i) i a.length) := by
  have hl := maxLen_le hl
  intro d
  induction d with
  | zero =>
    intro i hi
    refine Ev.step (fun k => spec_clArcs.l0.eq_2 a a a.length i k) (ev_neg (by omega) (ev_bindc (l1In_eq _ _ _) (ev_some ?_)))
    rw [allR_end (by omega), Bool.and_true, decide_eq_decide]; omega
  | succ d ih =>
    intro i hi
    refine Ev.step (fun k => spec_clArcs.l0.eq_2 a a a.length i k) ?_
    have hx : rd_L1 a (i : Int) = a.getD i [] := by unfold rd_L1; rw [toNat_nat]
    have hmem : a.getD i [] ∈ a := by
      rw [List.getD_eq_getElem?_getD, List.getElem?_eq_getElem (by omega)]; exact List.getElem_mem _
    rw [allR_step (by omega), w_succ (n := a.length) (by omega) (by omega), hx, w64 (x := (i : Int) - 1) (by omega) (by omega)]
    refine ev_pos (by omega) (ev_pos (by omega) (ev_pos (by omega) (Ev.bind (l1Rising_ev _ (hb _ hmem) _) ?_)))
    refine ev_ite (fun h => ?_) (fun h => ?_)
    · rw [h, Bool.true_and]; exact ih (i + 1) (by omega)
    · rw [Bool.not_eq_true] at h; rw [h, Bool.false_and, Bool.and_false]; exact ev_some rfl
theorem clArcs_ev (a : List (List Int)) (hl : a.length ≤ maxLen) (hb : ∀ x ∈ a, x.length ≤ maxLen) : Ev (fun k => spec_clArcs.f k a) (arcsOk a) := by
  unfold spec_clArcs.f arcsOk
  exact clArcs_l0 a hl hb a.length 0 (by omega)

/- spec_clBlocks -/
theorem clBlocks_ev (a : List (List Int)) (ha : a.length ≤ maxLen) (hb : ∀ x ∈ a, x.length ≤ maxLen) (l : List Int) (hl : l.length ≤ maxLen) : Ev (fun k => spec_clBlocks.f k a l) (arcsOk a && asc l a.length) := by
  have ha' := maxLen_le ha
  unfold spec_clBlocks.f
  refine Ev.bind (clArcs_ev a ha hb) (ev_ite (fun h => ?_) (fun h => ?_))
  · rw [h, Bool.true_and, w64 (x := (a.length : Int) - 1) (by omega) (by omega)]
    exact ev_id (l1Rising_ev l hl _)
  · rw [Bool.not_eq_true] at h; rw [h, Bool.false_and]; exact ev_some rfl

/- rdB -/
theorem rdB (m : List Bool) (x : Int) : rdOf false m x = at_ m x := rfl

/- rdL1 -/
theorem rdL1 (a : List (List Int)) (i : Nat) : rd_L1 a (i : Int) = a.getD i [] := by unfold rd_L1; rw [toNat_nat]
theorem rdL1' (a : List (List Int)) (x : Int) : rd_L1 a x = a.getD x.toNat [] := rfl

/- spec_clMarks -/
theorem clMarks_l0 (l : List Int) (hl : l.length ≤ maxLen) : ∀ (d i : Nat) (m : List Bool), i + d = l.length → (∀ x ∈ l, 0 ≤ x ∧ x < m.length) → Ev (fun k => spec_clMarks.l0 k m l (l.length : Int) (i : Int)) (foldR (setAt l) i l.length m) := by
  have hl := maxLen_le hl
  intro d
  induction d with
  | zero =>
    intro i m hi hm
    exact Ev.step (fun k => spec_clMarks.l0.eq_2 m l l.length i k) (ev_neg (by omega) (ev_some (foldR_end (by omega)).symm))
  | succ d ih =>
    intro i m hi hm
    refine Ev.step (fun k => spec_clMarks.l0.eq_2 m l l.length i k) ?_
    have hx := hm _ (getD_mem (z := 0) (show i < l.length by omega))
    rw [foldR_step (by omega), w_succ (n := l.length) (by omega) (by omega), rd_nat]
    refine ev_pos (by omega) (ev_pos (by omega) (ev_pos (by omega) (ev_pos (by omega) (ev_pos (by omega) ?_))))
    exact ih (i + 1) _ (by omega) (by intro x h; have := hm x h; simpa using this)
theorem clMarks_ev (n : Nat) (hn : n ≤ 1048576) (l : List Int) (hl : l.length ≤ maxLen) (h : ∀ x ∈ l, 0 ≤ x ∧ x < n) : Ev (fun k => spec_clMarks.f k (n : Int) l) (mk n l) := by
  unfold spec_clMarks.f mk setAll
  refine ev_pos (by omega) (ev_pos (by omega) ?_)
  rw [toNat_nat]
  exact clMarks_l0 l hl l.length 0 _ (by omega) (by simpa using h)

/- spec_clList -/
theorem clList_l0 (m : List Bool) (hm : m.length ≤ 1048576) : ∀ (d i : Nat), i + d = m.length → Ev (fun k => spec_clList.l0 k (foldR (putAt m) 0 i []) m (m.length : Int) (i : Int)) (listOf m) := by
  intro d
  induction d with
  | zero =>
    intro i hi
    obtain rfl : i = m.length := by omega
    exact Ev.step (fun k => spec_clList.l0.eq_2 _ m m.length m.length k) (ev_neg (by omega) (ev_some rfl))
  | succ d ih =>
    intro i hi
    have ih := ih (i + 1) (by omega)
    rw [foldR_last (Nat.zero_le _)] at ih
    have hlen := putAt_len (m := m) i
    refine Ev.step (fun k => spec_clList.l0.eq_2 _ m m.length i k) ?_
    rw [w_succ (n := m.length) (by omega) (by omega), rdB]
    unfold at_
    rw [toNat_nat]
    refine ev_pos (by omega) (ev_pos (by omega) (ev_pos (by omega) (ev_ite (fun h => ?_) (fun h => ?_))))
    · rw [show putAt m (foldR (putAt m) 0 i []) i = foldR (putAt m) 0 i [] ++ [(i : Int)] from if_pos h] at ih
      exact ev_pos (by omega) ih
    · rw [show putAt m (foldR (putAt m) 0 i []) i = foldR (putAt m) 0 i [] from if_neg h] at ih
      exact ih
theorem clList_ev (m : List Bool) (hm : m.length ≤ 1048576) : Ev (fun k => spec_clList.f k m) (listOf m) := by
  unfold spec_clList.f
  have := clList_l0 m hm m.length 0 (by omega)
  rwa [foldR_end (Nat.le_refl _)] at this

/- spec_clLeast -/
theorem clLeast_l1 (a : List (List Int)) (r : List Int) (hr : r.length ≤ 120) (i : Nat) (q : List Int) : ∀ (d j : Nat) (m : List Bool), j + d = r.length → (∀ x ∈ r, 0 ≤ x ∧ x < m.length) → Ev (fun k => spec_clLeast.l0 k a (foldR (setAt r) j r.length m) (wrap64 ((i : Int) - 1))) q →
    Ev (fun k => spec_clLeast.l1 k a m (i : Int) r (r.length : Int) (j : Int)) q := by
  intro d
  induction d with
  | zero =>
    intro j m hj hm hq
    rw [foldR_end (by omega)] at hq
    exact Ev.step (fun k => spec_clLeast.l1.eq_2 a m i r r.length j k) (ev_neg (by omega) hq)
  | succ d ih =>
    intro j m hj hm hq
    refine Ev.step (fun k => spec_clLeast.l1.eq_2 a m i r r.length j k) ?_
    have hx := hm _ (getD_mem (z := 0) (show j < r.length by omega))
    rw [foldR_step (by omega)] at hq
    rw [w_succ (n := r.length) (by omega) (by omega), rd_nat]
    refine ev_pos (by omega) (ev_pos (by omega) (ev_pos (by omega) (ev_pos (by omega) (ev_pos (by omega) ?_))))
    exact ih (j + 1) _ (by omega) (by intro x h; have := hm x h; simpa using this) hq
theorem clLeast_l0 (a : List (List Int)) (ha : Arcs a) : ∀ (i : Nat) (m : List Bool), i ≤ a.length → m.length = a.length → Ev (fun k => spec_clLeast.l0 k a m ((i : Int) - 1)) (listOf (cloD a i m)) := by
  have hle := ha.le
  intro i
  induction i with
  | zero =>
    intro m hi hm
    exact Ev.step (fun k => spec_clLeast.l0.eq_2 a m _ k) (ev_neg (by omega) (ev_id (clList_ev m (by omega))))
  | succ i ih =>
    intro m hi hm
    rw [show ((i + 1 : Nat) : Int) - 1 = (i : Int) by omega]
    have ihi := ih (cloStep a m i) (by omega) (by rw [cloStep_len]; exact hm)
    rw [cloD]
    refine Ev.step (fun k => spec_clLeast.l0.eq_2 a m i k) ?_
    rw [rdB, rdL1]
    unfold at_
    rw [toNat_nat]
    refine ev_pos (by omega) (ev_pos (by omega) (ev_pos (by omega) (ev_ite (fun h => ?_) (fun h => ?_))))
    · rw [show cloStep a m i = setAll m (a.getD i []) from if_pos h] at ihi ⊢
      refine ev_pos (by omega) (clLeast_l1 a _ (ha.len i) i _ (a.getD i []).length 0 m (by omega) (fun x hx => by have := ha.down hx; omega) ?_)
      rw [w64 (x := (i : Int) - 1) (by omega) (by omega)]
      exact ihi
    · rw [show cloStep a m i = m from if_neg h] at ihi ⊢
      rw [w64 (x := (i : Int) - 1) (by omega) (by omega)]
      exact ihi
theorem clLeast_ev (a : List (List Int)) (ha : Arcs a) (l : List Int) (hl : l.length ≤ 1048576) (h : ∀ x ∈ l, 0 ≤ x ∧ x < a.length) : Ev (fun k => spec_clLeast.f k a l) (listOf (clo a (mk a.length l))) := by
  have hle := ha.le
  unfold spec_clLeast.f clo
  refine Ev.bind (clMarks_ev a.length (by omega) l (maxLen_val (by omega)) h) ?_
  rw [w64 (by omega) (by omega)]
  exact clLeast_l0 a ha a.length _ (Nat.le_refl _) mk_len

/- impl_areBlocks -/
theorem areBlocks_l0 (l : List Int) (hl : l.length ≤ maxLen) (n : Int) : ∀ (d i : Nat), i + d = l.length → Ev (fun k => impl_areBlocks.l0 k l n l (l.length : Int) (i : Int)) (allR (ascAt l n) i l.length) := by
  have hl := maxLen_le hl
  intro d
  induction d with
  | zero =>
    intro i hi
    exact Ev.step (fun k => impl_areBlocks.l0.eq_2 l n l l.length i k) (ev_neg (by omega) (ev_some (allR_end (by omega)).symm))
  | succ d ih =>
    intro i hi
    refine Ev.step (fun k => impl_areBlocks.l0.eq_2 l n l l.length i k) ?_
    rw [allR_step (by omega), w_succ (n := l.length) (by omega) (by omega), rd_nat]
    refine ev_pos (by omega) (ev_pos (by omega) (ev_pos (by omega) ?_))
    have no : ¬ (0 ≤ l.getD i 0 ∧ l.getD i 0 < n ∧ (0 < i → l.getD (i - 1) 0 < l.getD i 0)) → false = (ascAt l n i && allR (ascAt l n) (i + 1) l.length) := by
      intro h
      have : ascAt l n i = false := by unfold ascAt; simp only [decide_eq_false_iff_not]; exact h
      rw [this]; rfl
    have yes : (0 ≤ l.getD i 0 ∧ l.getD i 0 < n ∧ (0 < i → l.getD (i - 1) 0 < l.getD i 0)) → Ev (fun k => impl_areBlocks.l0 k l n l (l.length : Int) ((i + 1 : Nat) : Int)) (ascAt l n i && allR (ascAt l n) (i + 1) l.length) := by
      intro h
      have : ascAt l n i = true := by unfold ascAt; simp only [decide_eq_true_eq]; exact h
      rw [this]; exact ih (i + 1) (by omega)
    refine ev_ite (fun h => ev_some (no (by omega))) (fun h => ?_)
    refine ev_ite (fun h1 => ev_some (no (by omega))) (fun h1 => ?_)
    refine ev_ite (fun h0 => ?_) (fun h0 => yes ⟨by omega, by omega, fun _ => by omega⟩)
    rw [w64 (x := (i : Int) - 1) (by omega) (by omega), show (i : Int) - 1 = ((i - 1 : Nat) : Int) by omega, rd_nat]
    refine ev_pos (by omega) (ev_pos (by omega) ?_)
    refine ev_ite (fun h2 => ev_some (no (fun hc => by have := hc.2.2 (by omega); omega))) (fun h2 => yes ⟨by omega, by omega, fun _ => by omega⟩)
theorem areBlocks_ev (l : List Int) (hl : l.length ≤ maxLen) (n : Int) : Ev (fun k => impl_areBlocks.f k l n) (asc l n) := by
  unfold impl_areBlocks.f asc
  exact areBlocks_l0 l hl n l.length 0 (by omega)

/- impl_AreArcs -/
theorem AreArcs_l0 (a : List (List Int)) (hl : a.length ≤ maxLen) (hb : ∀ x ∈ a, x.length ≤ maxLen) : ∀ (d i : Nat), i + d = a.length →
    Ev (fun k => impl_AreArcs.l0 k a (a.length : Int) (i : Int)) (allR (fun i => asc (a.getD i []) i) i a.length) := by
  have hl := maxLen_le hl
  intro d
  induction d with
  | zero =>
    intro i hi
    exact Ev.step (fun k => impl_AreArcs.l0.eq_2 a a.length i k) (ev_neg (by omega) (ev_some (allR_end (by omega)).symm))
  | succ d ih =>
    intro i hi
    refine Ev.step (fun k => impl_AreArcs.l0.eq_2 a a.length i k) ?_
    have hx : rd_L1 a (i : Int) = a.getD i [] := by unfold rd_L1; rw [toNat_nat]
    have hmem : a.getD i [] ∈ a := by
      rw [List.getD_eq_getElem?_getD, List.getElem?_eq_getElem (by omega)]; exact List.getElem_mem _
    rw [allR_step (by omega), w_succ (n := a.length) (by omega) (by omega), hx]
    refine ev_pos (by omega) (ev_pos (by omega) (ev_pos (by omega) (Ev.bind (areBlocks_ev _ (hb _ hmem) _) ?_)))
    refine ev_ite (fun h => ?_) (fun h => ?_)
    · rw [h, Bool.true_and]; exact ih (i + 1) (by omega)
    · rw [Bool.not_eq_true] at h; rw [h, Bool.false_and]; exact ev_some rfl
theorem AreArcs_ev (a : List (List Int)) (hl : a.length ≤ maxLen) (hb : ∀ x ∈ a, x.length ≤ maxLen) : Ev (fun k => impl_AreArcs.f k a) (arcsOk a) := by
  unfold impl_AreArcs.f arcsOk
  refine ev_ite (fun h => ?_) (fun h => ?_)
  · refine Ev.step (fun k => impl_AreArcs.j0.eq_2 a true k) (ev_pos rfl (ev_some ?_))
    rw [decide_eq_false (by omega), Bool.false_and]
  · refine Ev.step (fun k => impl_AreArcs.j0.eq_2 a _ k) (ev_ite (fun h1 => ev_some ?_) (fun h1 => ?_))
    · simp only [decide_eq_true_eq] at h1
      rw [decide_eq_false (by omega), Bool.false_and]
    · simp only [decide_eq_true_eq] at h1
      rw [decide_eq_true (by omega), Bool.true_and]; exact AreArcs_l0 a hl hb a.length 0 (by omega)

/- impl_markOf -/
theorem markOf_l0 (l : List Int) (hl : l.length ≤ maxLen) : ∀ (d i : Nat) (m : List Bool), i + d = l.length → (∀ x ∈ l, 0 ≤ x ∧ x < m.length) → Ev (fun k => impl_markOf.l0 k m l (l.length : Int) (i : Int)) (foldR (setAt l) i l.length m) := by
  have hl := maxLen_le hl
  intro d
  induction d with
  | zero =>
    intro i m hi hm
    exact Ev.step (fun k => impl_markOf.l0.eq_2 m l l.length i k) (ev_neg (by omega) (ev_some (foldR_end (by omega)).symm))
  | succ d ih =>
    intro i m hi hm
    refine Ev.step (fun k => impl_markOf.l0.eq_2 m l l.length i k) ?_
    have hx := hm _ (getD_mem (z := 0) (show i < l.length by omega))
    rw [foldR_step (by omega), w_succ (n := l.length) (by omega) (by omega), rd_nat]
    refine ev_pos (by omega) (ev_pos (by omega) (ev_pos (by omega) (ev_pos (by omega) (ev_pos (by omega) ?_))))
    exact ih (i + 1) _ (by omega) (by intro x h; have := hm x h; simpa using this)
theorem markOf_ev (n : Nat) (hn : n ≤ 1048576) (l : List Int) (hl : l.length ≤ maxLen) (h : ∀ x ∈ l, 0 ≤ x ∧ x < n) : Ev (fun k => impl_markOf.f k (n : Int) l) (mk n l) := by
  unfold impl_markOf.f mk setAll
  refine ev_pos (by omega) (ev_pos (by omega) ?_)
  rw [toNat_nat]
  exact markOf_l0 l hl l.length 0 _ (by omega) (by simpa using h)

/- impl_closureOf -/
theorem closureOf_l1 (a : List (List Int)) (r : List Int) (hr : r.length ≤ 120) (i : Nat) (q : List Bool) : ∀ (d j : Nat) (m : List Bool), j + d = r.length → (∀ x ∈ r, 0 ≤ x ∧ x < m.length) → Ev (fun k => impl_closureOf.l0 k a (foldR (setAt r) j r.length m) (wrap64 ((i : Int) - 1))) q →
    Ev (fun k => impl_closureOf.l1 k a m (i : Int) r (r.length : Int) (j : Int)) q := by
  intro d
  induction d with
  | zero =>
    intro j m hj hm hq
    rw [foldR_end (by omega)] at hq
    exact Ev.step (fun k => impl_closureOf.l1.eq_2 a m i r r.length j k) (ev_neg (by omega) hq)
  | succ d ih =>
    intro j m hj hm hq
    refine Ev.step (fun k => impl_closureOf.l1.eq_2 a m i r r.length j k) ?_
    have hx := hm _ (getD_mem (z := 0) (show j < r.length by omega))
    rw [foldR_step (by omega)] at hq
    rw [w_succ (n := r.length) (by omega) (by omega), rd_nat]
    refine ev_pos (by omega) (ev_pos (by omega) (ev_pos (by omega) (ev_pos (by omega) (ev_pos (by omega) ?_))))
    exact ih (j + 1) _ (by omega) (by intro x h; have := hm x h; simpa using this) hq
theorem closureOf_l0 (a : List (List Int)) (ha : Arcs a) : ∀ (i : Nat) (m : List Bool), i ≤ a.length → m.length = a.length → Ev (fun k => impl_closureOf.l0 k a m ((i : Int) - 1)) (cloD a i m) := by
  have hle := ha.le
  intro i
  induction i with
  | zero =>
    intro m hi hm
    exact Ev.step (fun k => impl_closureOf.l0.eq_2 a m _ k) (ev_neg (by omega) (ev_some rfl))
  | succ i ih =>
    intro m hi hm
    rw [show ((i + 1 : Nat) : Int) - 1 = (i : Int) by omega]
    have ihi := ih (cloStep a m i) (by omega) (by rw [cloStep_len]; exact hm)
    rw [cloD]
    refine Ev.step (fun k => impl_closureOf.l0.eq_2 a m i k) ?_
    rw [rdB, rdL1]
    unfold at_
    rw [toNat_nat]
    refine ev_pos (by omega) (ev_pos (by omega) (ev_pos (by omega) (ev_ite (fun h => ?_) (fun h => ?_))))
    · rw [show cloStep a m i = setAll m (a.getD i []) from if_pos h] at ihi ⊢
      refine ev_pos (by omega) (closureOf_l1 a _ (ha.len i) i _ (a.getD i []).length 0 m (by omega) (fun x hx => by have := ha.down hx; omega) ?_)
      rw [w64 (x := (i : Int) - 1) (by omega) (by omega)]
      exact ihi
    · rw [show cloStep a m i = m from if_neg h] at ihi ⊢
      rw [w64 (x := (i : Int) - 1) (by omega) (by omega)]
      exact ihi
theorem closureOf_ev (a : List (List Int)) (ha : Arcs a) (l : List Int) (hl : l.length ≤ 1048576) (h : ∀ x ∈ l, 0 ≤ x ∧ x < a.length) : Ev (fun k => impl_closureOf.f k a l) (clo a (mk a.length l)) := by
  have hle := ha.le
  unfold impl_closureOf.f clo
  refine Ev.bind (markOf_ev a.length (by omega) l (maxLen_val (by omega)) h) ?_
  rw [w64 (by omega) (by omega)]
  exact closureOf_l0 a ha a.length _ (Nat.le_refl _) mk_len

/- impl_listOf -/
theorem listOf_l0 (m : List Bool) (hm : m.length ≤ 1048576) : ∀ (d i : Nat), i + d = m.length → Ev (fun k => impl_listOf.l0 k (foldR (putAt m) 0 i []) m (m.length : Int) (i : Int)) (listOf m) := by
  intro d
  induction d with
  | zero =>
    intro i hi
    obtain rfl : i = m.length := by omega
    exact Ev.step (fun k => impl_listOf.l0.eq_2 _ m m.length m.length k) (ev_neg (by omega) (ev_some rfl))
  | succ d ih =>
    intro i hi
    have ih := ih (i + 1) (by omega)
    rw [foldR_last (Nat.zero_le _)] at ih
    have hlen := putAt_len (m := m) i
    refine Ev.step (fun k => impl_listOf.l0.eq_2 _ m m.length i k) ?_
    rw [w_succ (n := m.length) (by omega) (by omega), rdB]
    unfold at_
    rw [toNat_nat]
    refine ev_pos (by omega) (ev_pos (by omega) (ev_pos (by omega) (ev_ite (fun h => ?_) (fun h => ?_))))
    · rw [show putAt m (foldR (putAt m) 0 i []) i = foldR (putAt m) 0 i [] ++ [(i : Int)] from if_pos h] at ih
      exact ev_pos (by omega) ih
    · rw [show putAt m (foldR (putAt m) 0 i []) i = foldR (putAt m) 0 i [] from if_neg h] at ih
      exact ih
theorem listOf_ev (m : List Bool) (hm : m.length ≤ 1048576) : Ev (fun k => impl_listOf.f k m) (listOf m) := by
  unfold impl_listOf.f
  have := listOf_l0 m hm m.length 0 (by omega)
  rwa [foldR_end (Nat.le_refl _)] at this

/- hand.FnExactLeastClosure -/
def leastL (a : List (List Int)) (l : List Int) : List Int × Bool := if arcsOk a && asc l a.length then (listOf (clo a (mk a.length l)), true) else ([], false)
theorem sLeast_ev (a : List (List Int)) (ha : a.length ≤ maxLen) (hb : ∀ x ∈ a, x.length ≤ maxLen) (l : List Int) (hl : l.length ≤ 1048576) : Ev (fun k => spec_LeastClosure.f k a l) (leastL a l) := by
  unfold spec_LeastClosure.f leastL
  refine Ev.bind (clBlocks_ev a ha hb l (maxLen_val (by omega))) (ev_ite (fun h => ?_) (fun h => ?_))
  · rw [if_pos h]
    rw [Bool.and_eq_true] at h
    exact Ev.bind (clLeast_ev a (arcsOk_iff.1 h.1) l hl (fun x hx => asc_mem h.2 hx)) (ev_some rfl)
  · rw [if_neg h]; exact ev_some rfl
theorem iLeast_ev (a : List (List Int)) (ha : a.length ≤ maxLen) (hb : ∀ x ∈ a, x.length ≤ maxLen) (l : List Int) (hl : l.length ≤ 1048576) : Ev (fun k => impl_LeastClosure.f k a l) (leastL a l) := by
  unfold impl_LeastClosure.f leastL
  refine Ev.bind (AreArcs_ev a ha hb) (ev_ite (fun h => ?_) (fun h => ?_))
  · rw [h, Bool.true_and]
    have hA := arcsOk_iff.1 h
    have hle := hA.le
    refine Ev.bind (areBlocks_ev l (maxLen_val (by omega)) _) (Ev.step (fun k => impl_LeastClosure.j0.eq_2 a l _ k) ?_)
    cases h1 : asc l a.length with
    | false => exact ev_pos rfl (ev_some rfl)
    | true => exact ev_neg (by simp) (Ev.bind (closureOf_ev a hA l hl (fun x hx => asc_mem h1 hx)) (Ev.bind (listOf_ev _ (by rw [clo_len, mk_len]; omega)) (ev_some rfl)))
  · rw [Bool.not_eq_true] at h; rw [h]
    exact Ev.step (fun k => impl_LeastClosure.j0.eq_2 a l true k) (ev_pos rfl (ev_some rfl))
theorem leastL_len (a : List (List Int)) (l : List Int) : (leastL a l).1.length ≤ 1048576 := by
  unfold leastL
  split
  · rename_i h
    rw [Bool.and_eq_true] at h
    have := (arcsOk_iff.1 h.1).le
    have := listOf_len (m := clo a (mk a.length l))
    rw [clo_len, mk_len] at this
    show (listOf (clo a (mk a.length l))).length ≤ _
    omega
  · simp
theorem both (a : List (List Int)) (l : List Int) (ha : a.length ≤ 1048576) (hb : ∀ x ∈ a, x.length ≤ 1048576) (hl : l.length ≤ 1048576) :
    ∃ r : List Int × Bool, Ev (fun k => spec_LeastClosure.f k a l) r ∧ Ev (fun k => impl_LeastClosure.f k a l) r ∧ r.1.length ≤ 1048576 :=
  ⟨leastL a l, sLeast_ev a (maxLen_val (by omega)) (fun x hx => maxLen_val (by have := hb x hx; omega)) l hl, iLeast_ev a (maxLen_val (by omega)) (fun x hx => maxLen_val (by have := hb x hx; omega)) l hl, leastL_len a l⟩

set_option maxHeartbeats 4000000 in
set_option maxRecDepth 100000 in
theorem walk (a0 : List (List Int)) (a1 : List Int) (Aa0 : Option Addr) (ca0 : Nat) (Aa1 : Option Addr) (ca1 : Nat) (w : World) (hra0 : Kd.C kSS w Aa0 a0.length a0) (hca0 : a0.length ≤ ca0) (hra1 : Kd.C (Kd.int .i64) w Aa1 a1.length a1) (hca1 : a1.length ≤ ca1) (r : Int) (hsz : ∀ (A : Option Addr) (c : Nat) (w : World), Kd.C kSS w A a0.length a0 → a0.length ≤ c → Calls Try.prog 15 #[.slice A a0.length c, .int .i64 1048576] w fun e w' => e = .returned (.int .i64 r) ∧ Below w.heap.size w w') (hlt : ¬ r < 0) (g0 : List Int) (g1 : Bool) (hla0 : a0.length ≤ 1048576) (hba0 : ∀ x ∈ a0, x.length ≤ 1048576) (hla1 : a1.length ≤ 1048576) (hlg0 : g0.length ≤ 1048576)  (hs : ∃ k, spec_LeastClosure.f k a0 a1 = some (g0, g1)) (hi : ∃ k, impl_LeastClosure.f k a0 a1 = some (g0, g1)) :
    Calls Try.prog 5 #[.slice Aa0 a0.length ca0, .slice Aa1 a1.length ca1] w fun e w' => e = .returned (.bool true) ∧ Below w.heap.size w w' := by
  obtain ⟨ks, hs⟩ := hs
  obtain ⟨ki, hi⟩ := hi
  have Hs := Aside0.mk hs
  have Hi := Aside0.mk hi
  have HRa0 := Aside0.mk hra0
  have HCa0 := Aside0.mk hca0
  have HLa0 := Aside0.mk hla0
  have HBa0 := Aside0.mk hba0
  have HRa1 := Aside0.mk hra1
  have HCa1 := Aside0.mk hca1
  have HLa1 := Aside0.mk hla1
  have xa1 : decide (1048576 < (a1.length : Int)) = false := decide_eq_false (by omega)
  have ya1 : decide (1048576 < a1.length) = false := decide_eq_false (by omega)
  have HLg0 := Aside0.mk hlg0
  have HSZ := Aside0.mk hsz
  have d1 : decide (r < 0) = false := decide_eq_false hlt
  clear hs hi hra0 hca0 hla0 hba0 hra1 hca1 hla1 hlg0 hsz hlt
  go_enter Try.func5, Try.ntmps5
  go_wp2_with fail
  refine (HSZ.out Aa0 ca0 w HRa0.out HCa0.out).mono ?_
  rintro e w1 ⟨rfl, hb⟩
  have B1 := Aside0.mk hb
  have z1 := hb.size
  clear hb
  go_wp2_with fail
  refine (toIntSS_calls a0 HLa0.out HBa0.out Aa0 ca0 w1 (Kd.C_below HRa0.out B1.out) HCa0.out).mono ?_
  rintro e w2 ⟨v, rfl, ho, hb⟩
  have B2 := Aside0.mk (below_step B1.out hb)
  have z2 := hb.size
  obtain ⟨At0_2, ct0_2, rfl⟩ := Kd.S_slice ho
  have Ft0_2 := Aside0.mk (ivS (w := w) ho (by omega))
  clear ho
  clear hb
  go_wp2_with fail
  refine (toIntS_calls a1 (by have := HLa1.out; omega) Aa1 ca1 w2 (Kd.C_below HRa1.out B2.out) HCa1.out).mono ?_
  rintro e w3 ⟨v, rfl, ho, hb⟩
  have B3 := Aside0.mk (below_step B2.out hb)
  have z3 := hb.size
  obtain ⟨At1_3, ct1_3, rfl⟩ := Kd.R_slice ho
  have Ft1_3 := Aside0.mk (ivR (w := w) ho (by omega))
  clear ho
  have Ft0_3 := Aside0.mk (Kd.S_below Ft0_2.out hb)
  clear Ft0_2
  clear hb
  go_wp2_with fail
  refine (spec_LeastClosure.calls ks At0_2 ct0_2 a0 At1_3 ct1_3 a1 g0 g1 w3 (readsS Ft0_3.out).2.2 (readsS Ft0_3.out).2.1 (readsR Ft1_3.out).2.2 (readsR Ft1_3.out).2.1 Hs.out).mono ?_
  rintro e w4 ⟨v, rfl, ho, hb⟩
  have B4 := Aside0.mk (below_step B3.out hb)
  have z4 := hb.size
  obtain ⟨Aw0_4, cw0_4, rfl⟩ := Kd.R_slice ho
  have Fw0_4 := Aside0.mk (ivR (w := w) ho (by omega))
  clear ho
  have Ft0_4 := Aside0.mk (Kd.S_below Ft0_3.out hb)
  clear Ft0_3
  have Ft1_4 := Aside0.mk (Kd.R_below Ft1_3.out hb)
  clear Ft1_3
  clear hb
  go_wp2_with fail
  refine (toIntSS_calls a0 HLa0.out HBa0.out Aa0 ca0 w4 (Kd.C_below HRa0.out B4.out) HCa0.out).mono ?_
  rintro e w5 ⟨v, rfl, ho, hb⟩
  have B5 := Aside0.mk (below_step B4.out hb)
  have z5 := hb.size
  obtain ⟨Ax0_5, cx0_5, rfl⟩ := Kd.S_slice ho
  have Fx0_5 := Aside0.mk (ivS (w := w) ho (by omega))
  clear ho
  have Fw0_5 := Aside0.mk (Kd.R_below Fw0_4.out hb)
  clear Fw0_4
  clear hb
  go_wp2_with fail
  refine (toIntS_calls a1 (by have := HLa1.out; omega) Aa1 ca1 w5 (Kd.C_below HRa1.out B5.out) HCa1.out).mono ?_
  rintro e w6 ⟨v, rfl, ho, hb⟩
  have B6 := Aside0.mk (below_step B5.out hb)
  have z6 := hb.size
  obtain ⟨Ax1_6, cx1_6, rfl⟩ := Kd.R_slice ho
  have Fx1_6 := Aside0.mk (ivR (w := w) ho (by omega))
  clear ho
  have Fw0_6 := Aside0.mk (Kd.R_below Fw0_5.out hb)
  clear Fw0_5
  have Fx0_6 := Aside0.mk (Kd.S_below Fx0_5.out hb)
  clear Fx0_5
  clear hb
  go_wp2_with fail
  refine (impl_LeastClosure.calls ki Ax0_5 cx0_5 a0 Ax1_6 cx1_6 a1 g0 g1 w6 (readsS Fx0_6.out).2.2 (readsS Fx0_6.out).2.1 (readsR Fx1_6.out).2.2 (readsR Fx1_6.out).2.1 Hi.out).mono ?_
  rintro e w7 ⟨v, rfl, ho, hb⟩
  have B7 := Aside0.mk (below_step B6.out hb)
  have z7 := hb.size
  obtain ⟨Ag0_7, cg0_7, rfl⟩ := Kd.R_slice ho
  have Fg0_7 := Aside0.mk (ivR (w := w) ho (by omega))
  clear ho
  have Fw0_7 := Aside0.mk (Kd.R_below Fw0_6.out hb)
  clear Fw0_6
  have Fx0_7 := Aside0.mk (Kd.S_below Fx0_6.out hb)
  clear Fx0_6
  have Fx1_7 := Aside0.mk (Kd.R_below Fx1_6.out hb)
  clear Fx1_6
  clear hb
  go_wp2_with fail
  refine (eqIntS_calls g0 (maxLen_val (by have := HLg0.out; omega)) Ag0_7 Aw0_4 cg0_7 cw0_4 w7 (readsR Fg0_7.out).2.2 (readsR Fg0_7.out).2.1 (readsR Fw0_7.out).2.2 (readsR Fw0_7.out).2.1).mono ?_
  rintro e w8 ⟨rfl, hb⟩
  have B8 := Aside0.mk (below_step B7.out hb)
  have z8 := hb.size
  have Fw0_8 := Aside0.mk (Kd.R_below Fw0_7.out hb)
  clear Fw0_7
  have Fx0_8 := Aside0.mk (Kd.S_below Fx0_7.out hb)
  clear Fx0_7
  have Fx1_8 := Aside0.mk (Kd.R_below Fx1_7.out hb)
  clear Fx1_7
  have Fg0_8 := Aside0.mk (Kd.R_below Fg0_7.out hb)
  clear Fg0_7
  clear hb
  go_wp2_with fail
  refine (toIntSS_calls a0 HLa0.out HBa0.out Aa0 ca0 w8 (Kd.C_below HRa0.out B8.out) HCa0.out).mono ?_
  rintro e w9 ⟨v, rfl, ho, hb⟩
  have B9 := Aside0.mk (below_step B8.out hb)
  have z9 := hb.size
  obtain ⟨Au_9, cu_9, rfl⟩ := Kd.S_slice ho
  have Fu_9 := Aside0.mk (ivS (w := w) ho (by omega))
  clear ho
  have Fw0_9 := Aside0.mk (Kd.R_below Fw0_8.out hb)
  clear Fw0_8
  have Fx0_9 := Aside0.mk (Kd.S_below Fx0_8.out hb)
  clear Fx0_8
  have Fx1_9 := Aside0.mk (Kd.R_below Fx1_8.out hb)
  clear Fx1_8
  have Fg0_9 := Aside0.mk (Kd.R_below Fg0_8.out hb)
  clear Fg0_8
  clear hb
  go_wp2_with fail
  refine (eqIntSS_calls a0 (maxLen_val (by have := HLa0.out; omega)) (fun x hx => maxLen_val (by have := HBa0.out x hx; omega)) Ax0_5 Au_9 cx0_5 cu_9 w9 (readsS Fx0_9.out).2.2 (readsS Fx0_9.out).2.1 (readsS Fu_9.out).2.2 (readsS Fu_9.out).2.1).mono ?_
  rintro e w10 ⟨rfl, hb⟩
  have B10 := Aside0.mk (below_step B9.out hb)
  have z10 := hb.size
  have Fw0_10 := Aside0.mk (Kd.R_below Fw0_9.out hb)
  clear Fw0_9
  have Fx0_10 := Aside0.mk (Kd.S_below Fx0_9.out hb)
  clear Fx0_9
  have Fx1_10 := Aside0.mk (Kd.R_below Fx1_9.out hb)
  clear Fx1_9
  have Fg0_10 := Aside0.mk (Kd.R_below Fg0_9.out hb)
  clear Fg0_9
  have Fu_10 := Aside0.mk (Kd.S_below Fu_9.out hb)
  clear Fu_9
  clear hb
  go_wp2_with fail
  refine (toIntS_calls a1 (by have := HLa1.out; omega) Aa1 ca1 w10 (Kd.C_below HRa1.out B10.out) HCa1.out).mono ?_
  rintro e w11 ⟨v, rfl, ho, hb⟩
  have B11 := Aside0.mk (below_step B10.out hb)
  have z11 := hb.size
  obtain ⟨Au_11, cu_11, rfl⟩ := Kd.R_slice ho
  have Fu_11 := Aside0.mk (ivR (w := w) ho (by omega))
  clear ho
  have Fw0_11 := Aside0.mk (Kd.R_below Fw0_10.out hb)
  clear Fw0_10
  have Fx0_11 := Aside0.mk (Kd.S_below Fx0_10.out hb)
  clear Fx0_10
  have Fx1_11 := Aside0.mk (Kd.R_below Fx1_10.out hb)
  clear Fx1_10
  have Fg0_11 := Aside0.mk (Kd.R_below Fg0_10.out hb)
  clear Fg0_10
  clear hb
  go_wp2_with fail
  refine (eqIntS_calls a1 (maxLen_val (by have := HLa1.out; omega)) Ax1_6 Au_11 cx1_6 cu_11 w11 (readsR Fx1_11.out).2.2 (readsR Fx1_11.out).2.1 (readsR Fu_11.out).2.2 (readsR Fu_11.out).2.1).mono ?_
  rintro e w12 ⟨rfl, hb⟩
  have B12 := Aside0.mk (below_step B11.out hb)
  have z12 := hb.size
  have Fw0_12 := Aside0.mk (Kd.R_below Fw0_11.out hb)
  clear Fw0_11
  have Fx0_12 := Aside0.mk (Kd.S_below Fx0_11.out hb)
  clear Fx0_11
  have Fx1_12 := Aside0.mk (Kd.R_below Fx1_11.out hb)
  clear Fx1_11
  have Fg0_12 := Aside0.mk (Kd.R_below Fg0_11.out hb)
  clear Fg0_11
  have Fu_12 := Aside0.mk (Kd.R_below Fu_11.out hb)
  clear Fu_11
  clear hb
  go_wp2_with fail
  refine (markIntSS_calls a0 HLa0.out HBa0.out 1 (by omega) (by have := HLa0.out; omega) (Btw w4 w5) (.slice Ax0_5 a0.length cx0_5) w w12 B12.out Fx0_12.out).mono ?_
  rintro e w13 ⟨rfl, ho, hb, hk⟩
  have z13 := hk.1
  have B13 := Aside0.mk hb
  have Fw0_13 := Aside0.mk (Kd.R_kept Fw0_12.out hk (apart (by omega)))
  clear Fw0_12
  have Fx1_13 := Aside0.mk (Kd.R_kept Fx1_12.out hk (apart (by omega)))
  clear Fx1_12
  have Fg0_13 := Aside0.mk (Kd.R_kept Fg0_12.out hk (apart (by omega)))
  clear Fg0_12
  have hbd := markAll_bd 1 a0 HBa0.out a0.length
  have hll := HLa0.out
  obtain ⟨m13, em13⟩ : ∃ z : Int, z = (markAll 1 a0 a0.length).1 := ⟨_, rfl⟩
  rw [← em13] at hbd ⊢
  have lm13 : 0 ≤ m13 ∧ m13 ≤ 1099511627777 := by omega
  have dm13 : decide (m13 < 0) = false := decide_eq_false (by omega)
  have Em13 := Aside0.mk em13
  have Lm13 := Aside0.mk lm13
  clear Fx0_12
  clear hb hk ho hll em13 lm13 hbd
  have lk := Lm13.out
  go_wp2_with fail
  refine (markIntS_calls a1 (by have := HLa1.out; omega) m13 (by omega) (Btw w5 w6) (.slice Ax1_6 a1.length cx1_6) w w13 B13.out Fx1_13.out).mono ?_
  rintro e w14 ⟨rfl, ho, hb, hk⟩
  have z14 := hk.1
  have B14 := Aside0.mk hb
  have Fw0_14 := Aside0.mk (Kd.R_kept Fw0_13.out hk (apart (by omega)))
  clear Fw0_13
  have Fg0_14 := Aside0.mk (Kd.R_kept Fg0_13.out hk (apart (by omega)))
  clear Fg0_13
  have hll := HLa1.out
  obtain ⟨m14, em14⟩ : ∃ z : Int, z = m13 + (a1.length : Int) := ⟨_, rfl⟩
  rw [← em14]
  have lm14 : 0 ≤ m14 ∧ m14 ≤ 1099520016385 := by omega
  have dm14 : decide (m14 < 0) = false := decide_eq_false (by omega)
  have Em14 := Aside0.mk em14
  have Lm14 := Aside0.mk lm14
  clear Fx1_13
  clear hb hk ho hll em14 lm14
  clear lk
  go_wp2_with fail
  refine (eqIntS_calls g0 (maxLen_val (by have := HLg0.out; omega)) Ag0_7 Aw0_4 cg0_7 cw0_4 w14 (readsR Fg0_14.out).2.2 (readsR Fg0_14.out).2.1 (readsR Fw0_14.out).2.2 (readsR Fw0_14.out).2.1).mono ?_
  rintro e w15 ⟨rfl, hb⟩
  have B15 := Aside0.mk (below_step B14.out hb)
  have z15 := hb.size
  have Fw0_15 := Aside0.mk (Kd.R_below Fw0_14.out hb)
  clear Fw0_14
  have Fg0_15 := Aside0.mk (Kd.R_below Fg0_14.out hb)
  clear Fg0_14
  clear hb
  go_wp2_with fail
  refine (markIntS_calls g0 (by have := HLg0.out; omega) 1 (by omega) (Btw w6 w7) (.slice Ag0_7 g0.length cg0_7) w w15 B15.out Fg0_15.out).mono ?_
  rintro e w16 ⟨rfl, ho, hb, hk⟩
  have z16 := hk.1
  have B16 := Aside0.mk hb
  have Fw0_16 := Aside0.mk (Kd.R_kept Fw0_15.out hk (apart (by omega)))
  clear Fw0_15
  have hll := HLg0.out
  obtain ⟨m16, em16⟩ : ∃ z : Int, z = 1 + (g0.length : Int) := ⟨_, rfl⟩
  rw [← em16]
  have lm16 : 0 ≤ m16 ∧ m16 ≤ 8388609 := by omega
  have dm16 : decide (m16 < 0) = false := decide_eq_false (by omega)
  have Em16 := Aside0.mk em16
  have Lm16 := Aside0.mk lm16
  have Fg0_16 := Aside0.mk ho
  clear Fg0_15
  clear hb hk ho hll em16 lm16
  go_wp2_with fail
  refine (heldIntS_calls g0.length (by have := HLg0.out; omega) 1 (by omega) Ag0_7 cg0_7 w16 (by have h := (readsR Fg0_16.out).2.2; rwa [markRow_len] at h) (by have h := (readsR Fg0_16.out).2.1; rwa [markRow_len] at h)).mono ?_
  rintro e w17 ⟨rfl, hb⟩
  have B17 := Aside0.mk (below_step B16.out hb)
  have z17 := hb.size
  have Fw0_17 := Aside0.mk (Kd.R_below Fw0_16.out hb)
  clear Fw0_16
  have Fg0_17 := Aside0.mk (Kd.R_below Fg0_16.out hb)
  clear Fg0_16
  rw [← Em16.out]
  clear hb
  go_wp2_with fail
  refine (toIntSS_calls a0 HLa0.out HBa0.out Aa0 ca0 w17 (Kd.C_below HRa0.out B17.out) HCa0.out).mono ?_
  rintro e w18 ⟨v, rfl, ho, hb⟩
  have B18 := Aside0.mk (below_step B17.out hb)
  have z18 := hb.size
  obtain ⟨At0_18, ct0_18, rfl⟩ := Kd.S_slice ho
  have Ft0_18 := Aside0.mk (ivS (w := w) ho (by omega))
  clear ho
  have Fw0_18 := Aside0.mk (Kd.R_below Fw0_17.out hb)
  clear Fw0_17
  have Fg0_18 := Aside0.mk (Kd.R_below Fg0_17.out hb)
  clear Fg0_17
  clear hb
  go_wp2_with fail
  refine (toIntS_calls a1 (by have := HLa1.out; omega) Aa1 ca1 w18 (Kd.C_below HRa1.out B18.out) HCa1.out).mono ?_
  rintro e w19 ⟨v, rfl, ho, hb⟩
  have B19 := Aside0.mk (below_step B18.out hb)
  have z19 := hb.size
  obtain ⟨At1_19, ct1_19, rfl⟩ := Kd.R_slice ho
  have Ft1_19 := Aside0.mk (ivR (w := w) ho (by omega))
  clear ho
  have Fw0_19 := Aside0.mk (Kd.R_below Fw0_18.out hb)
  clear Fw0_18
  have Fg0_19 := Aside0.mk (Kd.R_below Fg0_18.out hb)
  clear Fg0_18
  have Ft0_19 := Aside0.mk (Kd.S_below Ft0_18.out hb)
  clear Ft0_18
  clear hb
  go_wp2_with fail
  refine (impl_LeastClosure.calls ki At0_18 ct0_18 a0 At1_19 ct1_19 a1 g0 g1 w19 (readsS Ft0_19.out).2.2 (readsS Ft0_19.out).2.1 (readsR Ft1_19.out).2.2 (readsR Ft1_19.out).2.1 Hi.out).mono ?_
  rintro e w20 ⟨v, rfl, ho, hb⟩
  have B20 := Aside0.mk (below_step B19.out hb)
  have z20 := hb.size
  obtain ⟨Ah0_20, ch0_20, rfl⟩ := Kd.R_slice ho
  have Fh0_20 := Aside0.mk (ivR (w := w) ho (by omega))
  clear ho
  have Fw0_20 := Aside0.mk (Kd.R_below Fw0_19.out hb)
  clear Fw0_19
  have Fg0_20 := Aside0.mk (Kd.R_below Fg0_19.out hb)
  clear Fg0_19
  have Ft0_20 := Aside0.mk (Kd.S_below Ft0_19.out hb)
  clear Ft0_19
  have Ft1_20 := Aside0.mk (Kd.R_below Ft1_19.out hb)
  clear Ft1_19
  clear hb
  go_wp2_with fail
  refine (eqIntS_calls g0 (maxLen_val (by have := HLg0.out; omega)) Ah0_20 Aw0_4 ch0_20 cw0_4 w20 (readsR Fh0_20.out).2.2 (readsR Fh0_20.out).2.1 (readsR Fw0_20.out).2.2 (readsR Fw0_20.out).2.1).mono ?_
  rintro e w21 ⟨rfl, hb⟩
  have B21 := Aside0.mk (below_step B20.out hb)
  have z21 := hb.size
  have Fw0_21 := Aside0.mk (Kd.R_below Fw0_20.out hb)
  clear Fw0_20
  have Fg0_21 := Aside0.mk (Kd.R_below Fg0_20.out hb)
  clear Fg0_20
  have Fh0_21 := Aside0.mk (Kd.R_below Fh0_20.out hb)
  clear Fh0_20
  clear hb
  go_wp2_with fail
  refine (heldIntS_calls g0.length (by have := HLg0.out; omega) 1 (by omega) Ag0_7 cg0_7 w21 (by have h := (readsR Fg0_21.out).2.2; rwa [markRow_len] at h) (by have h := (readsR Fg0_21.out).2.1; rwa [markRow_len] at h)).mono ?_
  rintro e w22 ⟨rfl, hb⟩
  have B22 := Aside0.mk (below_step B21.out hb)
  have z22 := hb.size
  have Fw0_22 := Aside0.mk (Kd.R_below Fw0_21.out hb)
  clear Fw0_21
  have Fg0_22 := Aside0.mk (Kd.R_below Fg0_21.out hb)
  clear Fg0_21
  have Fh0_22 := Aside0.mk (Kd.R_below Fh0_21.out hb)
  clear Fh0_21
  rw [← Em16.out]
  clear hb
  go_wp2_with fail
  go_ret
  exact ⟨rfl, B22.out⟩
set_option maxRecDepth 100000 in
theorem walk_len0 (a0 : List (List Int)) (a1 : List Int) (Aa0 : Option Addr) (ca0 : Nat) (Aa1 : Option Addr) (ca1 : Nat) (w : World) (hra0 : Kd.C kSS w Aa0 a0.length a0) (hca0 : a0.length ≤ ca0) (hra1 : Kd.C (Kd.int .i64) w Aa1 a1.length a1) (hca1 : a1.length ≤ ca1)  (h : ¬ a1.length ≤ 1048576) : Calls Try.prog 5 #[.slice Aa0 a0.length ca0, .slice Aa1 a1.length ca1] w fun e w' => e = .returned (.bool true) ∧ Below w.heap.size w w' := by
  have xx : decide (1048576 < (a1.length : Int)) = true := decide_eq_true (by omega)
  have yy : decide (1048576 < a1.length) = true := decide_eq_true (by omega)
  clear h  hra0 hca0 hra1 hca1
  go_enter Try.func5, Try.ntmps5
  go_wp2
  go_ret
  exact ⟨rfl, Below.refl _ _⟩
set_option maxRecDepth 100000 in
theorem walk_neg (a0 : List (List Int)) (a1 : List Int) (Aa0 : Option Addr) (ca0 : Nat) (Aa1 : Option Addr) (ca1 : Nat) (w : World) (hra0 : Kd.C kSS w Aa0 a0.length a0) (hca0 : a0.length ≤ ca0) (hra1 : Kd.C (Kd.int .i64) w Aa1 a1.length a1) (hca1 : a1.length ≤ ca1) (h0 : a1.length ≤ 1048576) (r : Int) (hsz : ∀ (A : Option Addr) (c : Nat) (w : World), Kd.C kSS w A a0.length a0 → a0.length ≤ c → Calls Try.prog 15 #[.slice A a0.length c, .int .i64 1048576] w fun e w' => e = .returned (.int .i64 r) ∧ Below w.heap.size w w') (hlt : r < 0) : Calls Try.prog 5 #[.slice Aa0 a0.length ca0, .slice Aa1 a1.length ca1] w fun e w' => e = .returned (.bool true) ∧ Below w.heap.size w w' := by
  have x0 : decide (1048576 < (a1.length : Int)) = false := decide_eq_false (by omega)
  have y0 : decide (1048576 < a1.length) = false := decide_eq_false (by omega)
  have HSZ := Aside0.mk hsz
  have HR := Aside0.mk hra0
  have HC := Aside0.mk hca0
  have d1 : decide (r < 0) = true := decide_eq_true hlt
  clear hsz hlt h0 hra0 hca0 hra1 hca1
  go_enter Try.func5, Try.ntmps5
  go_wp2_with fail
  refine (HSZ.out Aa0 ca0 w HR.out HC.out).mono ?_
  rintro e w1 ⟨rfl, hb⟩
  have B1 := Aside0.mk hb
  clear hb
  go_wp2_with fail
  go_ret
  exact ⟨rfl, B1.out⟩
theorem law (a0 : List (List Int)) (a1 : List Int) (ha0 : a0.length ≤ maxLen) (ga0 : ∀ x ∈ a0, x.length ≤ maxLen ∧ ∀ y0 ∈ x, (Lit.int .i64 y0).wf = true) (ha1 : a1.length ≤ maxLen) (sa1 : a1.length * 8 ≤ 140737488351232) (ga1 : ∀ x ∈ a1, (Lit.int .i64 x).wf = true) (Aa0 : Option Addr) (ca0 : Nat) (Aa1 : Option Addr) (ca1 : Nat) (w : World) (hra0 : Kd.C kSS w Aa0 a0.length a0) (hca0 : a0.length ≤ ca0) (hra1 : Kd.C (Kd.int .i64) w Aa1 a1.length a1) (hca1 : a1.length ≤ ca1) : Calls Try.prog 5 #[.slice Aa0 a0.length ca0, .slice Aa1 a1.length ca1] w fun e w' => e = .returned (.bool true) ∧ Below w.heap.size w w' := by
  by_cases q0 : a1.length ≤ 1048576
  rotate_left
  · exact walk_len0 a0 a1 Aa0 ca0 Aa1 ca1 w hra0 hca0 hra1 hca1  q0
  obtain ⟨r, hz, hsz⟩ := szIntSS_calls a0 ha0 (fun x hx => (ga0 x hx).1)
  by_cases hlt : r < 0
  · exact walk_neg a0 a1 Aa0 ca0 Aa1 ca1 w hra0 hca0 hra1 hca1 q0 r hsz hlt
  obtain ⟨l1, l2⟩ := hz (by omega)
  obtain ⟨⟨g0, g1⟩, hs, hi, ng0⟩ := both a0 a1 l1 l2 q0
  exact walk a0 a1 Aa0 ca0 Aa1 ca1 w hra0 hca0 hra1 hca1 r hsz hlt g0 g1 l1 l2 q0 ng0 hs.rounds hi.rounds
end Go.Proofs.Ytdjahpigkbgobaa.WalkFnExactLeastClosure
