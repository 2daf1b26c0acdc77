/- The law FnExactJoinClosures, walked by hand over its callees' contracts: for every input it returns true. -/
import Derived.Test.YtdjahpigkbgobaaCom
import Derived.Test.YtdjahpigkbgobaaPFnExactJoinClosuresx19
import Derived.Test.YtdjahpigkbgobaaPFnExactJoinClosuresx27
namespace Go.Proofs.Ytdjahpigkbgobaa.WalkFnExactJoinClosures
open Go.RowKit Go.Proofs.Ytdjahpigkbgobaa.PFnExactJoinClosures Go.Proofs.YtdjahpigkbgobaaW.PrintWords Go.Proofs.YtdjahpigkbgobaaW.PrintLast Go.Proofs.YtdjahpigkbgobaaW.PrintMore Go.Proofs.Ytdjahpigkbgobaa.B Go.Proofs.Ytdjahpigkbgobaa.Com
set_option linter.unusedVariables false
set_option linter.unusedSimpArgs false

/- closGood -/
def goodC (a : List (List Int)) (l : List Int) : Bool := arcsOk a && (asc l a.length && isClo a l)
theorem goodC_iff {a : List (List Int)} {l : List Int} : goodC a l = true ↔ Arcs a ∧ asc l a.length = true ∧ isClo a l = true := by
  unfold goodC; rw [Bool.and_eq_true, Bool.and_eq_true, arcsOk_iff]

/- spec_l1In -/
theorem l1In_eq (a b c : Int) : spec_l1In.f a b c = some (decide (b ≤ a ∧ a ≤ c)) := by
  unfold spec_l1In.f
  by_cases h : a ≥ b
  · rw [if_pos h]; simp [show b ≤ a from h]
  · rw [if_neg h]; simp [show ¬ b ≤ a from h]

/- spec_l1Rising -/
theorem l1Rising_l0 (l : List Int) (hl : l.length ≤ maxLen) (n : Int) : ∀ (d i : Nat), i + d = l.length → Ev (fun k => spec_l1Rising.l0 k l 0 (n - 1) l (l.length : Int) (i : Int)) (allR (ascAt l n) i l.length) := by
  have hl := maxLen_le hl
  intro d
  induction d with
  | zero =>
    intro i hi
    exact Ev.step (fun k => spec_l1Rising.l0.eq_2 l 0 (n - 1) l l.length i k) (ev_neg (by omega) (ev_some (allR_end (by omega)).symm))
  | succ d ih =>
    intro i hi
    refine Ev.step (fun k => spec_l1Rising.l0.eq_2 l 0 (n - 1) l l.length i k) ?_
    rw [allR_step (by omega), w_succ (n := l.length) (by omega) (by omega), rd_nat]
    refine ev_pos (by omega) (ev_pos (by omega) (ev_pos (by omega) (ev_bindc (l1In_eq _ _ _) ?_)))
    refine ev_ite (fun h => ?_) (fun h => ?_)
    · simp only [decide_eq_true_eq] at h
      refine ev_ite (fun h0 => ?_) (fun h0 => ?_)
      · rw [w64 (x := (i : Int) - 1) (by omega) (by omega), show (i : Int) - 1 = ((i - 1 : Nat) : Int) by omega, rd_nat]
        refine ev_pos (by omega) (ev_pos (by omega) ?_)
        refine ev_ite (fun h1 => ?_) (fun h1 => ?_)
        · refine ev_some ?_
          have : ascAt l n i = false := by unfold ascAt; simp only [decide_eq_false_iff_not]; intro hc; have := hc.2.2 (by omega); omega
          rw [this]; rfl
        · have : ascAt l n i = true := by unfold ascAt; simp only [decide_eq_true_eq]; exact ⟨by omega, by omega, fun _ => by omega⟩
          rw [this]; exact ih (i + 1) (by omega)
      · have : ascAt l n i = true := by unfold ascAt; simp only [decide_eq_true_eq]; exact ⟨by omega, by omega, fun _ => by omega⟩
        rw [this]; exact ih (i + 1) (by omega)
    · refine ev_some ?_
      have : ascAt l n i = false := by
        unfold ascAt; simp only [decide_eq_true_eq] at h; simp only [decide_eq_false_iff_not]; intro hc; exact h ⟨hc.1, by omega⟩
      rw [this]; rfl
theorem l1Rising_ev (l : List Int) (hl : l.length ≤ maxLen) (n : Int) : Ev (fun k => spec_l1Rising.f k l 0 (n - 1)) (asc l n) := by
  unfold spec_l1Rising.f asc
  exact l1Rising_l0 l hl n l.length 0 (by omega)

/- spec_clArcs -/
theorem clArcs_l0 (a : List (List Int)) (hl : a.length ≤ maxLen) (hb : ∀ x ∈ a, x.length ≤ maxLen) : ∀ (d i : Nat), i + d = a.length →
    Ev (fun k => spec_clArcs.l0 k a a (a.length : Int) (i : Int)) (decide (1 ≤ a.length ∧ a.length ≤ 120) && allR (fun i => asc (a.getD i []) i) i a.length) := by
  have hl := maxLen_le hl
  intro d
  induction d with
  | zero =>
    intro i hi
    refine Ev.step (fun k => spec_clArcs.l0.eq_2 a a a.length i k) (ev_neg (by omega) (ev_bindc (l1In_eq _ _ _) (ev_some ?_)))
    rw [allR_end (by omega), Bool.and_true, decide_eq_decide]; omega
  | succ d ih =>
    intro i hi
    refine Ev.step (fun k => spec_clArcs.l0.eq_2 a a a.length i k) ?_
    have hx : rd_L1 a (i : Int) = a.getD i [] := by unfold rd_L1; rw [toNat_nat]
    have hmem : a.getD i [] ∈ a := by
      rw [List.getD_eq_getElem?_getD, List.getElem?_eq_getElem (by omega)]; exact List.getElem_mem _
    rw [allR_step (by omega), w_succ (n := a.length) (by omega) (by omega), hx, w64 (x := (i : Int) - 1) (by omega) (by omega)]
    refine ev_pos (by omega) (ev_pos (by omega) (ev_pos (by omega) (Ev.bind (l1Rising_ev _ (hb _ hmem) _) ?_)))
    refine ev_ite (fun h => ?_) (fun h => ?_)
    · rw [h, Bool.true_and]; exact ih (i + 1) (by omega)
    · rw [Bool.not_eq_true] at h; rw [h, Bool.false_and, Bool.and_false]; exact ev_some rfl
theorem clArcs_ev (a : List (List Int)) (hl : a.length ≤ maxLen) (hb : ∀ x ∈ a, x.length ≤ maxLen) : Ev (fun k => spec_clArcs.f k a) (arcsOk a) := by
  unfold spec_clArcs.f arcsOk
  exact clArcs_l0 a hl hb a.length 0 (by omega)

/- spec_clBlocks -/
theorem clBlocks_ev (a : List (List Int)) (ha : a.length ≤ maxLen) (hb : ∀ x ∈ a, x.length ≤ maxLen) (l : List Int) (hl : l.length ≤ maxLen) : Ev (fun k => spec_clBlocks.f k a l) (arcsOk a && asc l a.length) := by
  have ha' := maxLen_le ha
  unfold spec_clBlocks.f
  refine Ev.bind (clArcs_ev a ha hb) (ev_ite (fun h => ?_) (fun h => ?_))
  · rw [h, Bool.true_and, w64 (x := (a.length : Int) - 1) (by omega) (by omega)]
    exact ev_id (l1Rising_ev l hl _)
  · rw [Bool.not_eq_true] at h; rw [h, Bool.false_and]; exact ev_some rfl

/- rdB -/
theorem rdB (m : List Bool) (x : Int) : rdOf false m x = at_ m x := rfl

/- rdL1 -/
theorem rdL1 (a : List (List Int)) (i : Nat) : rd_L1 a (i : Int) = a.getD i [] := by unfold rd_L1; rw [toNat_nat]
theorem rdL1' (a : List (List Int)) (x : Int) : rd_L1 a x = a.getD x.toNat [] := rfl

/- spec_clMarks -/
theorem clMarks_l0 (l : List Int) (hl : l.length ≤ maxLen) : ∀ (d i : Nat) (m : List Bool), i + d = l.length → (∀ x ∈ l, 0 ≤ x ∧ x < m.length) → Ev (fun k => spec_clMarks.l0 k m l (l.length : Int) (i : Int)) (foldR (setAt l) i l.length m) := by
  have hl := maxLen_le hl
  intro d
  induction d with
  | zero =>
    intro i m hi hm
    exact Ev.step (fun k => spec_clMarks.l0.eq_2 m l l.length i k) (ev_neg (by omega) (ev_some (foldR_end (by omega)).symm))
  | succ d ih =>
    intro i m hi hm
    refine Ev.step (fun k => spec_clMarks.l0.eq_2 m l l.length i k) ?_
    have hx := hm _ (getD_mem (z := 0) (show i < l.length by omega))
    rw [foldR_step (by omega), w_succ (n := l.length) (by omega) (by omega), rd_nat]
    refine ev_pos (by omega) (ev_pos (by omega) (ev_pos (by omega) (ev_pos (by omega) (ev_pos (by omega) ?_))))
    exact ih (i + 1) _ (by omega) (by intro x h; have := hm x h; simpa using this)
theorem clMarks_ev (n : Nat) (hn : n ≤ 1048576) (l : List Int) (hl : l.length ≤ maxLen) (h : ∀ x ∈ l, 0 ≤ x ∧ x < n) : Ev (fun k => spec_clMarks.f k (n : Int) l) (mk n l) := by
  unfold spec_clMarks.f mk setAll
  refine ev_pos (by omega) (ev_pos (by omega) ?_)
  rw [toNat_nat]
  exact clMarks_l0 l hl l.length 0 _ (by omega) (by simpa using h)

/- spec_clIs -/
theorem clIs_l1 (a : List (List Int)) (m : List Bool) (l : List Int) (n i : Int) (r : List Int) (hr : r.length ≤ 120) (hm : ∀ x ∈ r, 0 ≤ x ∧ x < m.length) (q : Bool) (hq : Ev (fun k => spec_clIs.l0 k a m l n (wrap64 (i + 1))) q) : ∀ (d j : Nat), j + d = r.length →
    Ev (fun k => spec_clIs.l1 k a m l n i r (r.length : Int) (j : Int)) (allR (inAt m r) j r.length && q) := by
  intro d
  induction d with
  | zero =>
    intro j hj
    refine Ev.step (fun k => spec_clIs.l1.eq_2 a m l n i r r.length j k) (ev_neg (by omega) ?_)
    rw [allR_end (by omega), Bool.true_and]; exact hq
  | succ d ih =>
    intro j hj
    refine Ev.step (fun k => spec_clIs.l1.eq_2 a m l n i r r.length j k) ?_
    have hx := hm _ (getD_mem (z := 0) (show j < r.length by omega))
    rw [allR_step (by omega), w_succ (n := r.length) (by omega) (by omega), rd_nat, rdB]
    refine ev_pos (by omega) (ev_pos (by omega) (ev_pos (by omega) (ev_pos (by omega) (ev_pos (by omega) ?_))))
    refine ev_ite (fun h => ?_) (fun h => ?_)
    · rw [show inAt m r j = true from h, Bool.true_and]; exact ih (j + 1) (by omega)
    · rw [Bool.not_eq_true] at h; rw [show inAt m r j = false from h, Bool.false_and, Bool.false_and]; exact ev_some rfl
theorem clIs_l0 (a : List (List Int)) (ha : Arcs a) (m : List Bool) (hm : m.length = a.length) (l : List Int) (hl : asc l a.length = true) : ∀ (d i : Nat), i + d = l.length → Ev (fun k => spec_clIs.l0 k a m l (l.length : Int) (i : Int)) (allR (cloAt a m l) i l.length) := by
  have h1 := asc_len hl
  have h2 := ha.le
  intro d
  induction d with
  | zero =>
    intro i hi
    exact Ev.step (fun k => spec_clIs.l0.eq_2 a m l l.length i k) (ev_neg (by omega) (ev_some (allR_end (by omega)).symm))
  | succ d ih =>
    intro i hi
    refine Ev.step (fun k => spec_clIs.l0.eq_2 a m l l.length i k) ?_
    have hx := asc_at hl (show i < l.length by omega)
    have ih := ih (i + 1) (by omega)
    rw [← w_succ (n := l.length) (i := i) (by omega) (by omega)] at ih
    rw [allR_step (by omega), rd_nat, rdL1']
    refine ev_pos (by omega) (ev_pos (by omega) (ev_pos (by omega) (ev_pos (by omega) (ev_pos (by omega) ?_))))
    exact clIs_l1 a m l l.length i (a.getD (l.getD i 0).toNat []) (ha.len _) (fun x hx => by have := ha.down hx; omega) _ ih (a.getD (l.getD i 0).toNat []).length 0 (by omega)
theorem clIs_ev (a : List (List Int)) (ha : Arcs a) (l : List Int) (hl : asc l a.length = true) : Ev (fun k => spec_clIs.f k a l) (isClo a l) := by
  have h1 := asc_len hl
  have h2 := ha.le
  unfold spec_clIs.f isClo
  exact Ev.bind (clMarks_ev a.length (by omega) l (maxLen_val (by omega)) (fun x hx => asc_mem hl hx)) (clIs_l0 a ha _ mk_len l hl l.length 0 (by omega))

/- spec_clGood -/
theorem clGood_ev (a : List (List Int)) (ha : a.length ≤ maxLen) (hb : ∀ x ∈ a, x.length ≤ maxLen) (l : List Int) (hl : l.length ≤ maxLen) : Ev (fun k => spec_clGood.f k a l) (arcsOk a && (asc l a.length && isClo a l)) := by
  unfold spec_clGood.f
  refine Ev.bind (clBlocks_ev a ha hb l hl) (ev_ite (fun h => ?_) (fun h => ?_))
  · rw [Bool.and_eq_true] at h
    rw [h.1, h.2, Bool.true_and, Bool.true_and]
    exact ev_id (clIs_ev a (arcsOk_iff.1 h.1) l h.2)
  · rw [Bool.not_eq_true] at h; rw [← Bool.and_assoc, h, Bool.false_and]; exact ev_some rfl

/- spec_l1Put -/
theorem l1Put_l0 (l : List Int) (hl : l.length ≤ 1048576) (hs : l.Pairwise (· < ·)) (n : Int) : ∀ (d i : Nat), i + d = l.length → (∀ j, j < i → l.getD j 0 < n) →
    ∃ r, Ev (fun k => spec_l1Put.l0 k l n (i : Int)) r ∧ r.Pairwise (· < ·) ∧ (∀ x, x ∈ r ↔ x ∈ l ∨ x = n) ∧ r.length ≤ l.length + 1 := by
  intro d
  induction d with
  | zero =>
    intro i hi h
    obtain rfl : i = l.length := by omega
    have hp := put_sorted hs (Nat.le_refl _) h (fun hc => by omega)
    refine ⟨_, Ev.step (fun k => spec_l1Put.l0.eq_2 l n l.length k) (ev_neg (by omega) ?_), hp.1, hp.2, by simp⟩
    simp only [Option.bind_some, toNat_nat, List.nil_append, List.length_append, List.length_take, List.length_drop, List.length_cons, List.length_nil]
    exact ev_pos (by omega) (ev_pos (by omega) (ev_pos (by omega) (ev_pos (by omega) (ev_pos (by omega) (ev_some rfl)))))
  | succ d ih =>
    intro i hi h
    by_cases h1 : l.getD i 0 < n
    · obtain ⟨r, hr, hz⟩ := ih (i + 1) (by omega) (fun j hj => by
        by_cases e : j = i
        · subst e; exact h1
        · exact h j (by omega))
      refine ⟨r, Ev.step (fun k => spec_l1Put.l0.eq_2 l n i k) ?_, hz⟩
      rw [w_succ (n := l.length) (by omega) (by omega), rd_nat]
      exact ev_pos (by omega) (ev_pos (by omega) (ev_pos h1 hr))
    · by_cases h2 : l.getD i 0 = n
      · refine ⟨l, Ev.step (fun k => spec_l1Put.l0.eq_2 l n i k) ?_, hs, fun x => ⟨.inl, ?_⟩, by omega⟩
        · rw [rd_nat]; exact ev_pos (by omega) (ev_pos (by omega) (ev_neg h1 (ev_pos h2 (ev_some rfl))))
        · rintro (h3 | rfl)
          · exact h3
          · rw [← h2]; exact getD_mem (by omega)
      · have hp := put_sorted hs (show i ≤ l.length by omega) h (fun _ => by omega)
        refine ⟨_, Ev.step (fun k => spec_l1Put.l0.eq_2 l n i k) ?_, hp.1, hp.2, by simp; omega⟩
        rw [rd_nat]
        refine ev_pos (by omega) (ev_pos (by omega) (ev_neg h1 (ev_neg h2 ?_)))
        simp only [Option.bind_some, toNat_nat, List.nil_append, List.length_append, List.length_take, List.length_drop, List.length_cons, List.length_nil]
        exact ev_pos (by omega) (ev_pos (by omega) (ev_pos (by omega) (ev_pos (by omega) (ev_some rfl))))
theorem l1Put_ev (l : List Int) (hl : l.length ≤ 1048576) (hs : l.Pairwise (· < ·)) (n : Int) :
    ∃ r, Ev (fun k => spec_l1Put.f k l n) r ∧ r.Pairwise (· < ·) ∧ (∀ x, x ∈ r ↔ x ∈ l ∨ x = n) ∧ r.length ≤ l.length + 1 := by
  unfold spec_l1Put.f
  exact l1Put_l0 l hl hs n l.length 0 (by omega) (fun j hj => by omega)

/- impl_areBlocks -/
theorem areBlocks_l0 (l : List Int) (hl : l.length ≤ maxLen) (n : Int) : ∀ (d i : Nat), i + d = l.length → Ev (fun k => impl_areBlocks.l0 k l n l (l.length : Int) (i : Int)) (allR (ascAt l n) i l.length) := by
  have hl := maxLen_le hl
  intro d
  induction d with
  | zero =>
    intro i hi
    exact Ev.step (fun k => impl_areBlocks.l0.eq_2 l n l l.length i k) (ev_neg (by omega) (ev_some (allR_end (by omega)).symm))
  | succ d ih =>
    intro i hi
    refine Ev.step (fun k => impl_areBlocks.l0.eq_2 l n l l.length i k) ?_
    rw [allR_step (by omega), w_succ (n := l.length) (by omega) (by omega), rd_nat]
    refine ev_pos (by omega) (ev_pos (by omega) (ev_pos (by omega) ?_))
    have no : ¬ (0 ≤ l.getD i 0 ∧ l.getD i 0 < n ∧ (0 < i → l.getD (i - 1) 0 < l.getD i 0)) → false = (ascAt l n i && allR (ascAt l n) (i + 1) l.length) := by
      intro h
      have : ascAt l n i = false := by unfold ascAt; simp only [decide_eq_false_iff_not]; exact h
      rw [this]; rfl
    have yes : (0 ≤ l.getD i 0 ∧ l.getD i 0 < n ∧ (0 < i → l.getD (i - 1) 0 < l.getD i 0)) → Ev (fun k => impl_areBlocks.l0 k l n l (l.length : Int) ((i + 1 : Nat) : Int)) (ascAt l n i && allR (ascAt l n) (i + 1) l.length) := by
      intro h
      have : ascAt l n i = true := by unfold ascAt; simp only [decide_eq_true_eq]; exact h
      rw [this]; exact ih (i + 1) (by omega)
    refine ev_ite (fun h => ev_some (no (by omega))) (fun h => ?_)
    refine ev_ite (fun h1 => ev_some (no (by omega))) (fun h1 => ?_)
    refine ev_ite (fun h0 => ?_) (fun h0 => yes ⟨by omega, by omega, fun _ => by omega⟩)
    rw [w64 (x := (i : Int) - 1) (by omega) (by omega), show (i : Int) - 1 = ((i - 1 : Nat) : Int) by omega, rd_nat]
    refine ev_pos (by omega) (ev_pos (by omega) ?_)
    refine ev_ite (fun h2 => ev_some (no (fun hc => by have := hc.2.2 (by omega); omega))) (fun h2 => yes ⟨by omega, by omega, fun _ => by omega⟩)
theorem areBlocks_ev (l : List Int) (hl : l.length ≤ maxLen) (n : Int) : Ev (fun k => impl_areBlocks.f k l n) (asc l n) := by
  unfold impl_areBlocks.f asc
  exact areBlocks_l0 l hl n l.length 0 (by omega)

/- impl_AreArcs -/
theorem AreArcs_l0 (a : List (List Int)) (hl : a.length ≤ maxLen) (hb : ∀ x ∈ a, x.length ≤ maxLen) : ∀ (d i : Nat), i + d = a.length →
    Ev (fun k => impl_AreArcs.l0 k a (a.length : Int) (i : Int)) (allR (fun i => asc (a.getD i []) i) i a.length) := by
  have hl := maxLen_le hl
  intro d
  induction d with
  | zero =>
    intro i hi
    exact Ev.step (fun k => impl_AreArcs.l0.eq_2 a a.length i k) (ev_neg (by omega) (ev_some (allR_end (by omega)).symm))
  | succ d ih =>
    intro i hi
    refine Ev.step (fun k => impl_AreArcs.l0.eq_2 a a.length i k) ?_
    have hx : rd_L1 a (i : Int) = a.getD i [] := by unfold rd_L1; rw [toNat_nat]
    have hmem : a.getD i [] ∈ a := by
      rw [List.getD_eq_getElem?_getD, List.getElem?_eq_getElem (by omega)]; exact List.getElem_mem _
    rw [allR_step (by omega), w_succ (n := a.length) (by omega) (by omega), hx]
    refine ev_pos (by omega) (ev_pos (by omega) (ev_pos (by omega) (Ev.bind (areBlocks_ev _ (hb _ hmem) _) ?_)))
    refine ev_ite (fun h => ?_) (fun h => ?_)
    · rw [h, Bool.true_and]; exact ih (i + 1) (by omega)
    · rw [Bool.not_eq_true] at h; rw [h, Bool.false_and]; exact ev_some rfl
theorem AreArcs_ev (a : List (List Int)) (hl : a.length ≤ maxLen) (hb : ∀ x ∈ a, x.length ≤ maxLen) : Ev (fun k => impl_AreArcs.f k a) (arcsOk a) := by
  unfold impl_AreArcs.f arcsOk
  refine ev_ite (fun h => ?_) (fun h => ?_)
  · refine Ev.step (fun k => impl_AreArcs.j0.eq_2 a true k) (ev_pos rfl (ev_some ?_))
    rw [decide_eq_false (by omega), Bool.false_and]
  · refine Ev.step (fun k => impl_AreArcs.j0.eq_2 a _ k) (ev_ite (fun h1 => ev_some ?_) (fun h1 => ?_))
    · simp only [decide_eq_true_eq] at h1
      rw [decide_eq_false (by omega), Bool.false_and]
    · simp only [decide_eq_true_eq] at h1
      rw [decide_eq_true (by omega), Bool.true_and]; exact AreArcs_l0 a hl hb a.length 0 (by omega)

/- impl_markOf -/
theorem markOf_l0 (l : List Int) (hl : l.length ≤ maxLen) : ∀ (d i : Nat) (m : List Bool), i + d = l.length → (∀ x ∈ l, 0 ≤ x ∧ x < m.length) → Ev (fun k => impl_markOf.l0 k m l (l.length : Int) (i : Int)) (foldR (setAt l) i l.length m) := by
  have hl := maxLen_le hl
  intro d
  induction d with
  | zero =>
    intro i m hi hm
    exact Ev.step (fun k => impl_markOf.l0.eq_2 m l l.length i k) (ev_neg (by omega) (ev_some (foldR_end (by omega)).symm))
  | succ d ih =>
    intro i m hi hm
    refine Ev.step (fun k => impl_markOf.l0.eq_2 m l l.length i k) ?_
    have hx := hm _ (getD_mem (z := 0) (show i < l.length by omega))
    rw [foldR_step (by omega), w_succ (n := l.length) (by omega) (by omega), rd_nat]
    refine ev_pos (by omega) (ev_pos (by omega) (ev_pos (by omega) (ev_pos (by omega) (ev_pos (by omega) ?_))))
    exact ih (i + 1) _ (by omega) (by intro x h; have := hm x h; simpa using this)
theorem markOf_ev (n : Nat) (hn : n ≤ 1048576) (l : List Int) (hl : l.length ≤ maxLen) (h : ∀ x ∈ l, 0 ≤ x ∧ x < n) : Ev (fun k => impl_markOf.f k (n : Int) l) (mk n l) := by
  unfold impl_markOf.f mk setAll
  refine ev_pos (by omega) (ev_pos (by omega) ?_)
  rw [toNat_nat]
  exact markOf_l0 l hl l.length 0 _ (by omega) (by simpa using h)

/- impl_allIn -/
theorem allIn_l0 (m : List Bool) (l : List Int) (hl : l.length ≤ maxLen) (hm : ∀ x ∈ l, 0 ≤ x ∧ x < m.length) : ∀ (d i : Nat), i + d = l.length → Ev (fun k => impl_allIn.l0 k m l (l.length : Int) (i : Int)) (allR (inAt m l) i l.length) := by
  have hl := maxLen_le hl
  intro d
  induction d with
  | zero =>
    intro i hi
    exact Ev.step (fun k => impl_allIn.l0.eq_2 m l l.length i k) (ev_neg (by omega) (ev_some (allR_end (by omega)).symm))
  | succ d ih =>
    intro i hi
    refine Ev.step (fun k => impl_allIn.l0.eq_2 m l l.length i k) ?_
    have hx := hm _ (getD_mem (z := 0) (show i < l.length by omega))
    rw [allR_step (by omega), w_succ (n := l.length) (by omega) (by omega), rd_nat, rdB]
    refine ev_pos (by omega) (ev_pos (by omega) (ev_pos (by omega) (ev_pos (by omega) (ev_pos (by omega) ?_))))
    refine ev_ite (fun h => ?_) (fun h => ?_)
    · rw [show inAt m l i = true from h, Bool.true_and]; exact ih (i + 1) (by omega)
    · rw [Bool.not_eq_true] at h; rw [show inAt m l i = false from h, Bool.false_and]; exact ev_some rfl
theorem allIn_ev (m : List Bool) (l : List Int) (hl : l.length ≤ maxLen) (hm : ∀ x ∈ l, 0 ≤ x ∧ x < m.length) : Ev (fun k => impl_allIn.f k m l) (allIn m l) := by
  unfold impl_allIn.f allIn
  exact allIn_l0 m l hl hm l.length 0 (by omega)

/- impl_isClosure -/
theorem isClosure_l0 (a : List (List Int)) (ha : Arcs a) (m : List Bool) (hm : m.length = a.length) (l : List Int) (hl : asc l a.length = true) : ∀ (d i : Nat), i + d = l.length → Ev (fun k => impl_isClosure.l0 k a m l (l.length : Int) (i : Int)) (allR (cloAt a m l) i l.length) := by
  have h1 := asc_len hl
  have h2 := ha.le
  intro d
  induction d with
  | zero =>
    intro i hi
    exact Ev.step (fun k => impl_isClosure.l0.eq_2 a m l l.length i k) (ev_neg (by omega) (ev_some (allR_end (by omega)).symm))
  | succ d ih =>
    intro i hi
    refine Ev.step (fun k => impl_isClosure.l0.eq_2 a m l l.length i k) ?_
    have hx := asc_at hl (show i < l.length by omega)
    rw [allR_step (by omega), w_succ (n := l.length) (by omega) (by omega), rd_nat, rdL1']
    refine ev_pos (by omega) (ev_pos (by omega) (ev_pos (by omega) (ev_pos (by omega) (ev_pos (by omega) ?_))))
    have hlen := ha.len (l.getD i 0).toNat
    refine Ev.bind (allIn_ev m _ (maxLen_val (by omega)) (fun x hx => by have := ha.down hx; omega)) ?_
    refine ev_ite (fun h => ?_) (fun h => ?_)
    · rw [show cloAt a m l i = true from h, Bool.true_and]; exact ih (i + 1) (by omega)
    · rw [Bool.not_eq_true] at h; rw [show cloAt a m l i = false from h, Bool.false_and]; exact ev_some rfl
theorem isClosure_ev (a : List (List Int)) (ha : Arcs a) (l : List Int) (hl : asc l a.length = true) : Ev (fun k => impl_isClosure.f k a l) (isClo a l) := by
  have h1 := asc_len hl
  have h2 := ha.le
  unfold impl_isClosure.f isClo
  exact Ev.bind (markOf_ev a.length (by omega) l (maxLen_val (by omega)) (fun x hx => asc_mem hl hx)) (isClosure_l0 a ha _ mk_len l hl l.length 0 (by omega))

/- impl_arePits -/
def pitAt (a : List (List Int)) (Ls : List (List Int)) (j : Nat) : Bool := asc (Ls.getD j []) a.length && isClo a (Ls.getD j [])
theorem arePits_l0 (a : List (List Int)) (ha : Arcs a) (Ls : List (List Int)) (hl : Ls.length ≤ 1048576) (hb : ∀ x ∈ Ls, x.length ≤ maxLen) : ∀ (d i : Nat), i + d = Ls.length → Ev (fun k => impl_arePits.l0 k a Ls (Ls.length : Int) (i : Int)) (allR (pitAt a Ls) i Ls.length) := by
  intro d
  induction d with
  | zero =>
    intro i hi
    exact Ev.step (fun k => impl_arePits.l0.eq_2 a Ls Ls.length i k) (ev_neg (by omega) (ev_some (allR_end (by omega)).symm))
  | succ d ih =>
    intro i hi
    refine Ev.step (fun k => impl_arePits.l0.eq_2 a Ls Ls.length i k) ?_
    rw [allR_step (by omega), w_succ (n := Ls.length) (by omega) (by omega), rdL1]
    refine ev_pos (by omega) (ev_pos (by omega) (ev_pos (by omega) (Ev.bind (areBlocks_ev _ (hb _ (getD_mem (by omega))) _) ?_)))
    refine ev_ite (fun h => ?_) (fun h => ?_)
    · refine Ev.bind (isClosure_ev a ha _ h) (ev_ite (fun h1 => ?_) (fun h1 => ?_))
      · rw [show pitAt a Ls i = true by unfold pitAt; rw [h, h1]; rfl, Bool.true_and]; exact ih (i + 1) (by omega)
      · rw [Bool.not_eq_true] at h1; rw [show pitAt a Ls i = false by unfold pitAt; rw [h1, Bool.and_false], Bool.false_and]; exact ev_some rfl
    · rw [Bool.not_eq_true] at h; rw [show pitAt a Ls i = false by unfold pitAt; rw [h, Bool.false_and], Bool.false_and]; exact ev_some rfl
theorem arePits_ev (a : List (List Int)) (ha : a.length ≤ maxLen) (hb : ∀ x ∈ a, x.length ≤ maxLen) (Ls : List (List Int)) (hl : Ls.length ≤ 1048576) (hbl : ∀ x ∈ Ls, x.length ≤ maxLen) : Ev (fun k => impl_arePits.f k a Ls) (arcsOk a && allR (pitAt a Ls) 0 Ls.length) := by
  unfold impl_arePits.f
  refine Ev.bind (AreArcs_ev a ha hb) (ev_ite (fun h => ?_) (fun h => ?_))
  · rw [h, Bool.true_and]; exact arePits_l0 a (arcsOk_iff.1 h) Ls hl hbl Ls.length 0 (by omega)
  · rw [Bool.not_eq_true] at h; rw [h, Bool.false_and]; exact ev_some rfl
theorem arePits1_ev (a : List (List Int)) (ha : a.length ≤ maxLen) (hb : ∀ x ∈ a, x.length ≤ maxLen) (l : List Int) (hl : l.length ≤ maxLen) : Ev (fun k => impl_arePits.f k a [l]) (arcsOk a && (asc l a.length && isClo a l)) := by
  have := arePits_ev a ha hb [l] (by simp) (fun x hx => by rw [List.mem_singleton] at hx; subst hx; exact hl)
  rw [show [l].length = 1 from rfl, allR_step (i := 0) (by omega), allR_end (i := 0 + 1) (by omega), Bool.and_true] at this
  exact this
theorem arePits2_ev (a : List (List Int)) (ha : a.length ≤ maxLen) (hb : ∀ x ∈ a, x.length ≤ maxLen) (l m : List Int) (hl : l.length ≤ maxLen) (hm : m.length ≤ maxLen) : Ev (fun k => impl_arePits.f k a [l, m]) (arcsOk a && ((asc l a.length && isClo a l) && (asc m a.length && isClo a m))) := by
  have := arePits_ev a ha hb [l, m] (by simp) (fun x hx => by
    simp only [List.mem_cons, List.not_mem_nil, or_false] at hx
    rcases hx with rfl | rfl
    · exact hl
    · exact hm)
  rw [show [l, m].length = 2 from rfl, allR_step (i := 0) (by omega), allR_step (i := 0 + 1) (by omega), allR_end (i := 0 + 1 + 1) (by omega), Bool.and_true] at this
  exact this

/- impl_listOf -/
theorem listOf_l0 (m : List Bool) (hm : m.length ≤ 1048576) : ∀ (d i : Nat), i + d = m.length → Ev (fun k => impl_listOf.l0 k (foldR (putAt m) 0 i []) m (m.length : Int) (i : Int)) (listOf m) := by
  intro d
  induction d with
  | zero =>
    intro i hi
    obtain rfl : i = m.length := by omega
    exact Ev.step (fun k => impl_listOf.l0.eq_2 _ m m.length m.length k) (ev_neg (by omega) (ev_some rfl))
  | succ d ih =>
    intro i hi
    have ih := ih (i + 1) (by omega)
    rw [foldR_last (Nat.zero_le _)] at ih
    have hlen := putAt_len (m := m) i
    refine Ev.step (fun k => impl_listOf.l0.eq_2 _ m m.length i k) ?_
    rw [w_succ (n := m.length) (by omega) (by omega), rdB]
    unfold at_
    rw [toNat_nat]
    refine ev_pos (by omega) (ev_pos (by omega) (ev_pos (by omega) (ev_ite (fun h => ?_) (fun h => ?_))))
    · rw [show putAt m (foldR (putAt m) 0 i []) i = foldR (putAt m) 0 i [] ++ [(i : Int)] from if_pos h] at ih
      exact ev_pos (by omega) ih
    · rw [show putAt m (foldR (putAt m) 0 i []) i = foldR (putAt m) 0 i [] from if_neg h] at ih
      exact ih
theorem listOf_ev (m : List Bool) (hm : m.length ≤ 1048576) : Ev (fun k => impl_listOf.f k m) (listOf m) := by
  unfold impl_listOf.f
  have := listOf_l0 m hm m.length 0 (by omega)
  rwa [foldR_end (Nat.le_refl _)] at this

/- hand.FnExactJoinClosures -/
def joinL (a : List (List Int)) (l m : List Int) : List Int × Bool := if goodC a l && goodC a m then (listOf (setAll (mk a.length l) m), true) else ([], false)
theorem sJoin_l0 (m : List Int) (hm : m.length ≤ 524288) : ∀ (d i : Nat) (o : List Int), i + d = m.length → o.length ≤ 524288 + i → o.Pairwise (· < ·) → ∃ r, Ev (fun k => spec_JoinClosures.l0 k o m (m.length : Int) (i : Int)) (r, true) ∧ r.Pairwise (· < ·) ∧ ∀ x, x ∈ r ↔ x ∈ o ∨ x ∈ m.drop i := by
  intro d
  induction d with
  | zero =>
    intro i o hi ho hs
    refine ⟨o, Ev.step (fun k => spec_JoinClosures.l0.eq_2 o m m.length i k) (ev_neg (by omega) (ev_some rfl)), hs, fun x => ?_⟩
    rw [List.drop_of_length_le (by omega)]; simp
  | succ d ih =>
    intro i o hi ho hs
    obtain ⟨p, hp, hps, hpm, hpl⟩ := l1Put_ev o (by omega) hs (m.getD i 0)
    obtain ⟨r, hr, hrs, hrm⟩ := ih (i + 1) p (by omega) (by omega) hps
    refine ⟨r, Ev.step (fun k => spec_JoinClosures.l0.eq_2 o m m.length i k) ?_, hrs, fun x => ?_⟩
    · rw [w_succ (n := m.length) (by omega) (by omega), rd_nat]
      exact ev_pos (by omega) (ev_pos (by omega) (ev_pos (by omega) (Ev.bind hp hr)))
    · have hd : m.drop i = m.getD i 0 :: m.drop (i + 1) := by
        rw [List.drop_eq_getElem_cons (by omega)]; congr 1; simp [List.getD_eq_getElem?_getD, show i < m.length by omega]
      rw [hrm, hpm, hd, List.mem_cons]
      constructor
      · rintro ((h | h) | h)
        · exact .inl h
        · exact .inr (.inl h)
        · exact .inr (.inr h)
      · rintro (h | h | h)
        · exact .inl (.inl h)
        · exact .inl (.inr h)
        · exact .inr h
theorem joinL_mem (a : List (List Int)) (l m : List Int) (hl : asc l a.length = true) (hm : asc m a.length = true) (x : Int) : x ∈ listOf (setAll (mk a.length l) m) ↔ x ∈ l ∨ x ∈ m := by
  rw [listOf_mem]
  unfold at_
  constructor
  · rintro ⟨h0, h⟩
    rw [setAll_at (fun y hy => by rw [mk_len]; exact asc_mem hm hy), mk_at (fun y hy => asc_mem hl hy), Int.toNat_of_nonneg h0] at h
    exact h
  · intro h
    have h0 : 0 ≤ x := by
      rcases h with h | h
      · exact (asc_mem hl h).1
      · exact (asc_mem hm h).1
    refine ⟨h0, ?_⟩
    rw [setAll_at (fun y hy => by rw [mk_len]; exact asc_mem hm hy), mk_at (fun y hy => asc_mem hl hy), Int.toNat_of_nonneg h0]
    exact h
theorem sJoin_ev (a : List (List Int)) (ha : a.length ≤ maxLen) (hb : ∀ x ∈ a, x.length ≤ maxLen) (l m : List Int) (hl : l.length ≤ 1048576) (hm : m.length ≤ 1048576) : Ev (fun k => spec_JoinClosures.f k a l m) (joinL a l m) := by
  unfold spec_JoinClosures.f joinL
  refine Ev.bind (clGood_ev a ha hb l (maxLen_val (by omega))) (ev_ite (fun h => ?_) (fun h => ?_))
  · have hg := goodC_iff.1 h
    rw [show goodC a l = true from h, Bool.true_and]
    refine Ev.bind (clGood_ev a ha hb m (maxLen_val (by omega))) (Ev.step (fun k => spec_JoinClosures.j0.eq_2 l m _ k) ?_)
    change Ev (fun k => if (!(goodC a m)) = true then _ else _) _
    cases hgm : goodC a m with
    | false => exact ev_pos rfl (ev_some rfl)
    | true =>
      have hg' := goodC_iff.1 hgm
      obtain ⟨hA, h1, _⟩ := hg
      obtain ⟨_, h2, _⟩ := hg'
      have hle := hA.le
      have l1 := asc_len h1
      have l2 := asc_len h2
      refine ev_neg (by simp) (ev_bindc (a := l) ?_ ?_)
      · unfold spec_l1Own.f; simp only [Option.bind_some, List.nil_append, List.length_nil]; rw [if_pos (by omega)]
      · obtain ⟨r, hr, hrs, hrm⟩ := sJoin_l0 m (by omega) m.length 0 l (by omega) (by omega) (asc_pairwise h1)
        have e : r = listOf (setAll (mk a.length l) m) := sorted_ext hrs (asc_pairwise listOf_asc) (fun x => by rw [hrm, List.drop_zero, joinL_mem a l m h1 h2])
        rw [e] at hr
        exact hr
  · rw [Bool.not_eq_true] at h
    rw [show goodC a l = false from h]
    exact Ev.step (fun k => spec_JoinClosures.j0.eq_2 l m true k) (ev_pos rfl (ev_some rfl))
theorem iJoin_l0 (m : List Int) (hl : m.length ≤ 1048576) : ∀ (d i : Nat) (k : List Bool), i + d = m.length → k.length ≤ 1048576 → (∀ x ∈ m, 0 ≤ x ∧ x < k.length) → Ev (fun r => impl_JoinClosures.l0 r k m (m.length : Int) (i : Int)) (listOf (foldR (setAt m) i m.length k), true) := by
  intro d
  induction d with
  | zero =>
    intro i k hi hk hm
    refine Ev.step (fun r => impl_JoinClosures.l0.eq_2 k m m.length i r) (ev_neg (by omega) ?_)
    rw [foldR_end (by omega)]
    exact Ev.bind (listOf_ev k hk) (ev_some rfl)
  | succ d ih =>
    intro i k hi hk hm
    have hx := hm _ (getD_mem (z := 0) (show i < m.length by omega))
    refine Ev.step (fun r => impl_JoinClosures.l0.eq_2 k m m.length i r) ?_
    rw [foldR_step (by omega), w_succ (n := m.length) (by omega) (by omega), rd_nat]
    refine ev_pos (by omega) (ev_pos (by omega) (ev_pos (by omega) (ev_pos (by omega) (ev_pos (by omega) ?_))))
    exact ih (i + 1) _ (by omega) (by simpa using hk) (by intro x h; have := hm x h; simpa using this)
theorem iJoin_ev (a : List (List Int)) (ha : a.length ≤ maxLen) (hb : ∀ x ∈ a, x.length ≤ maxLen) (l m : List Int) (hl : l.length ≤ 1048576) (hm : m.length ≤ 1048576) : Ev (fun k => impl_JoinClosures.f k a l m) (joinL a l m) := by
  unfold impl_JoinClosures.f joinL
  refine Ev.bind (arePits2_ev a ha hb l m (maxLen_val (by omega)) (maxLen_val (by omega))) ?_
  have e : (arcsOk a && ((asc l a.length && isClo a l) && (asc m a.length && isClo a m))) = (goodC a l && goodC a m) := by
    unfold goodC; cases arcsOk a <;> simp
  rw [e]
  refine ev_ite (fun h => ?_) (fun h => ?_)
  · rw [if_pos h]
    rw [Bool.and_eq_true, goodC_iff, goodC_iff] at h
    obtain ⟨⟨hA, h1, _⟩, _, h2, _⟩ := h
    have hle := hA.le
    refine Ev.bind (markOf_ev a.length (by omega) l (maxLen_val (by omega)) (fun x hx => asc_mem h1 hx)) ?_
    exact iJoin_l0 m hm m.length 0 _ (by omega) (by rw [mk_len]; omega) (fun x hx => by rw [mk_len]; exact asc_mem h2 hx)
  · rw [if_neg h]; exact ev_some rfl
theorem both (a : List (List Int)) (l m : List Int) (ha : a.length ≤ 1048576) (hb : ∀ x ∈ a, x.length ≤ 1048576) (hl : l.length ≤ 1048576) (hm : m.length ≤ 1048576) :
    ∃ r : List Int × Bool, Ev (fun k => spec_JoinClosures.f k a l m) r ∧ Ev (fun k => impl_JoinClosures.f k a l m) r ∧ r.1.length ≤ 1048576 := by
  refine ⟨joinL a l m, sJoin_ev a (maxLen_val (by omega)) (fun x hx => maxLen_val (by have := hb x hx; omega)) l m hl hm, iJoin_ev a (maxLen_val (by omega)) (fun x hx => maxLen_val (by have := hb x hx; omega)) l m hl hm, ?_⟩
  unfold joinL
  split
  · have := listOf_len (m := setAll (mk a.length l) m)
    rw [setAll_len, mk_len] at this
    show (listOf (setAll (mk a.length l) m)).length ≤ _
    omega
  · simp

set_option maxHeartbeats 4000000 in
set_option maxRecDepth 100000 in
theorem walk (a0 : List (List Int)) (a1 : List Int) (a2 : List Int) (Aa0 : Option Addr) (ca0 : Nat) (Aa1 : Option Addr) (ca1 : Nat) (Aa2 : Option Addr) (ca2 : Nat) (w : World) (hra0 : Kd.C kSS w Aa0 a0.length a0) (hca0 : a0.length ≤ ca0) (hra1 : Kd.C (Kd.int .i64) w Aa1 a1.length a1) (hca1 : a1.length ≤ ca1) (hra2 : Kd.C (Kd.int .i64) w Aa2 a2.length a2) (hca2 : a2.length ≤ ca2) (r : Int) (hsz : ∀ (A : Option Addr) (c : Nat) (w : World), Kd.C kSS w A a0.length a0 → a0.length ≤ c → Calls Try.prog 15 #[.slice A a0.length c, .int .i64 1048576] w fun e w' => e = .returned (.int .i64 r) ∧ Below w.heap.size w w') (hlt : ¬ r < 0) (g0 : List Int) (g1 : Bool) (hla0 : a0.length ≤ 1048576) (hba0 : ∀ x ∈ a0, x.length ≤ 1048576) (hla1 : a1.length ≤ 1048576) (hla2 : a2.length ≤ 1048576) (hlg0 : g0.length ≤ 1048576)  (hs : ∃ k, spec_JoinClosures.f k a0 a1 a2 = some (g0, g1)) (hi : ∃ k, impl_JoinClosures.f k a0 a1 a2 = some (g0, g1)) :
    Calls Try.prog 8 #[.slice Aa0 a0.length ca0, .slice Aa1 a1.length ca1, .slice Aa2 a2.length ca2] w fun e w' => e = .returned (.bool true) ∧ Below w.heap.size w w' := by
  obtain ⟨ks, hs⟩ := hs
  obtain ⟨ki, hi⟩ := hi
  have Hs := Aside0.mk hs
  have Hi := Aside0.mk hi
  have HRa0 := Aside0.mk hra0
  have HCa0 := Aside0.mk hca0
  have HLa0 := Aside0.mk hla0
  have HBa0 := Aside0.mk hba0
  have HRa1 := Aside0.mk hra1
  have HCa1 := Aside0.mk hca1
  have HLa1 := Aside0.mk hla1
  have xa1 : decide (1048576 < (a1.length : Int)) = false := decide_eq_false (by omega)
  have ya1 : decide (1048576 < a1.length) = false := decide_eq_false (by omega)
  have HRa2 := Aside0.mk hra2
  have HCa2 := Aside0.mk hca2
  have HLa2 := Aside0.mk hla2
  have xa2 : decide (1048576 < (a2.length : Int)) = false := decide_eq_false (by omega)
  have ya2 : decide (1048576 < a2.length) = false := decide_eq_false (by omega)
  have HLg0 := Aside0.mk hlg0
  have HSZ := Aside0.mk hsz
  have d1 : decide (r < 0) = false := decide_eq_false hlt
  clear hs hi hra0 hca0 hla0 hba0 hra1 hca1 hla1 hra2 hca2 hla2 hlg0 hsz hlt
  go_enter Try.func8, Try.ntmps8
  go_wp2_with fail
  refine (HSZ.out Aa0 ca0 w HRa0.out HCa0.out).mono ?_
  rintro e w1 ⟨rfl, hb⟩
  have B1 := Aside0.mk hb
  have z1 := hb.size
  clear hb
  go_wp2_with fail
  refine (toIntSS_calls a0 HLa0.out HBa0.out Aa0 ca0 w1 (Kd.C_below HRa0.out B1.out) HCa0.out).mono ?_
  rintro e w2 ⟨v, rfl, ho, hb⟩
  have B2 := Aside0.mk (below_step B1.out hb)
  have z2 := hb.size
  obtain ⟨At0_2, ct0_2, rfl⟩ := Kd.S_slice ho
  have Ft0_2 := Aside0.mk (ivS (w := w) ho (by omega))
  clear ho
  clear hb
  go_wp2_with fail
  refine (toIntS_calls a1 (by have := HLa1.out; omega) Aa1 ca1 w2 (Kd.C_below HRa1.out B2.out) HCa1.out).mono ?_
  rintro e w3 ⟨v, rfl, ho, hb⟩
  have B3 := Aside0.mk (below_step B2.out hb)
  have z3 := hb.size
  obtain ⟨At1_3, ct1_3, rfl⟩ := Kd.R_slice ho
  have Ft1_3 := Aside0.mk (ivR (w := w) ho (by omega))
  clear ho
  have Ft0_3 := Aside0.mk (Kd.S_below Ft0_2.out hb)
  clear Ft0_2
  clear hb
  go_wp2_with fail
  refine (toIntS_calls a2 (by have := HLa2.out; omega) Aa2 ca2 w3 (Kd.C_below HRa2.out B3.out) HCa2.out).mono ?_
  rintro e w4 ⟨v, rfl, ho, hb⟩
  have B4 := Aside0.mk (below_step B3.out hb)
  have z4 := hb.size
  obtain ⟨At2_4, ct2_4, rfl⟩ := Kd.R_slice ho
  have Ft2_4 := Aside0.mk (ivR (w := w) ho (by omega))
  clear ho
  have Ft0_4 := Aside0.mk (Kd.S_below Ft0_3.out hb)
  clear Ft0_3
  have Ft1_4 := Aside0.mk (Kd.R_below Ft1_3.out hb)
  clear Ft1_3
  clear hb
  go_wp2_with fail
  refine (spec_JoinClosures.calls ks At0_2 ct0_2 a0 At1_3 ct1_3 a1 At2_4 ct2_4 a2 g0 g1 w4 (readsS Ft0_4.out).2.2 (readsS Ft0_4.out).2.1 (readsR Ft1_4.out).2.2 (readsR Ft1_4.out).2.1 (readsR Ft2_4.out).2.2 (readsR Ft2_4.out).2.1 Hs.out).mono ?_
  rintro e w5 ⟨v, rfl, ho, hb⟩
  have ho := Kd.R_mono ho (ok' := fun _ => True) (fun _ _ => trivial)
  have B5 := Aside0.mk (below_step B4.out hb)
  have z5 := hb.size
  obtain ⟨Aw0_5, cw0_5, rfl⟩ := Kd.R_slice ho
  have Fw0_5 := Aside0.mk (ivR (w := w) ho (by omega))
  clear ho
  have Ft0_5 := Aside0.mk (Kd.S_below Ft0_4.out hb)
  clear Ft0_4
  have Ft1_5 := Aside0.mk (Kd.R_below Ft1_4.out hb)
  clear Ft1_4
  have Ft2_5 := Aside0.mk (Kd.R_below Ft2_4.out hb)
  clear Ft2_4
  clear hb
  go_wp2_with fail
  refine (toIntSS_calls a0 HLa0.out HBa0.out Aa0 ca0 w5 (Kd.C_below HRa0.out B5.out) HCa0.out).mono ?_
  rintro e w6 ⟨v, rfl, ho, hb⟩
  have B6 := Aside0.mk (below_step B5.out hb)
  have z6 := hb.size
  obtain ⟨Ax0_6, cx0_6, rfl⟩ := Kd.S_slice ho
  have Fx0_6 := Aside0.mk (ivS (w := w) ho (by omega))
  clear ho
  have Fw0_6 := Aside0.mk (Kd.R_below Fw0_5.out hb)
  clear Fw0_5
  clear hb
  go_wp2_with fail
  refine (toIntS_calls a1 (by have := HLa1.out; omega) Aa1 ca1 w6 (Kd.C_below HRa1.out B6.out) HCa1.out).mono ?_
  rintro e w7 ⟨v, rfl, ho, hb⟩
  have B7 := Aside0.mk (below_step B6.out hb)
  have z7 := hb.size
  obtain ⟨Ax1_7, cx1_7, rfl⟩ := Kd.R_slice ho
  have Fx1_7 := Aside0.mk (ivR (w := w) ho (by omega))
  clear ho
  have Fw0_7 := Aside0.mk (Kd.R_below Fw0_6.out hb)
  clear Fw0_6
  have Fx0_7 := Aside0.mk (Kd.S_below Fx0_6.out hb)
  clear Fx0_6
  clear hb
  go_wp2_with fail
  refine (toIntS_calls a2 (by have := HLa2.out; omega) Aa2 ca2 w7 (Kd.C_below HRa2.out B7.out) HCa2.out).mono ?_
  rintro e w8 ⟨v, rfl, ho, hb⟩
  have B8 := Aside0.mk (below_step B7.out hb)
  have z8 := hb.size
  obtain ⟨Ax2_8, cx2_8, rfl⟩ := Kd.R_slice ho
  have Fx2_8 := Aside0.mk (ivR (w := w) ho (by omega))
  clear ho
  have Fw0_8 := Aside0.mk (Kd.R_below Fw0_7.out hb)
  clear Fw0_7
  have Fx0_8 := Aside0.mk (Kd.S_below Fx0_7.out hb)
  clear Fx0_7
  have Fx1_8 := Aside0.mk (Kd.R_below Fx1_7.out hb)
  clear Fx1_7
  clear hb
  go_wp2_with fail
  refine (impl_JoinClosures.calls ki Ax0_6 cx0_6 a0 (Btw w6 w7) Ax1_7 cx1_7 a1 (Btw w7 w8) Ax2_8 cx2_8 a2 g0 g1 w8 (readsS Fx0_8.out).2.2 (readsS Fx0_8.out).2.1 (Kd.R_V Fx1_8.out) (Kd.R_V Fx2_8.out) Hi.out).mono ?_
  rintro e w9 ⟨v, rfl, ho, hb⟩
  have ho := Kd.R_mono ho (ok' := fun _ => True) (fun _ _ => trivial)
  have B9 := Aside0.mk (below_step B8.out hb)
  have z9 := hb.size
  obtain ⟨Ag0_9, cg0_9, rfl⟩ := Kd.R_slice ho
  have Fg0_9 := Aside0.mk (ivR (w := w) ho (by omega))
  clear ho
  have Fw0_9 := Aside0.mk (Kd.R_below Fw0_8.out hb)
  clear Fw0_8
  have Fx0_9 := Aside0.mk (Kd.S_below Fx0_8.out hb)
  clear Fx0_8
  have Fx1_9 := Aside0.mk (Kd.R_below Fx1_8.out hb)
  clear Fx1_8
  have Fx2_9 := Aside0.mk (Kd.R_below Fx2_8.out hb)
  clear Fx2_8
  clear hb
  go_wp2_with fail
  refine (eqIntS_calls g0 (maxLen_val (by have := HLg0.out; omega)) Ag0_9 Aw0_5 cg0_9 cw0_5 w9 (readsR Fg0_9.out).2.2 (readsR Fg0_9.out).2.1 (readsR Fw0_9.out).2.2 (readsR Fw0_9.out).2.1).mono ?_
  rintro e w10 ⟨rfl, hb⟩
  have B10 := Aside0.mk (below_step B9.out hb)
  have z10 := hb.size
  have Fw0_10 := Aside0.mk (Kd.R_below Fw0_9.out hb)
  clear Fw0_9
  have Fx0_10 := Aside0.mk (Kd.S_below Fx0_9.out hb)
  clear Fx0_9
  have Fx1_10 := Aside0.mk (Kd.R_below Fx1_9.out hb)
  clear Fx1_9
  have Fx2_10 := Aside0.mk (Kd.R_below Fx2_9.out hb)
  clear Fx2_9
  have Fg0_10 := Aside0.mk (Kd.R_below Fg0_9.out hb)
  clear Fg0_9
  clear hb
  go_wp2_with fail
  refine (toIntSS_calls a0 HLa0.out HBa0.out Aa0 ca0 w10 (Kd.C_below HRa0.out B10.out) HCa0.out).mono ?_
  rintro e w11 ⟨v, rfl, ho, hb⟩
  have B11 := Aside0.mk (below_step B10.out hb)
  have z11 := hb.size
  obtain ⟨Au_11, cu_11, rfl⟩ := Kd.S_slice ho
  have Fu_11 := Aside0.mk (ivS (w := w) ho (by omega))
  clear ho
  have Fw0_11 := Aside0.mk (Kd.R_below Fw0_10.out hb)
  clear Fw0_10
  have Fx0_11 := Aside0.mk (Kd.S_below Fx0_10.out hb)
  clear Fx0_10
  have Fx1_11 := Aside0.mk (Kd.R_below Fx1_10.out hb)
  clear Fx1_10
  have Fx2_11 := Aside0.mk (Kd.R_below Fx2_10.out hb)
  clear Fx2_10
  have Fg0_11 := Aside0.mk (Kd.R_below Fg0_10.out hb)
  clear Fg0_10
  clear hb
  go_wp2_with fail
  refine (eqIntSS_calls a0 (maxLen_val (by have := HLa0.out; omega)) (fun x hx => maxLen_val (by have := HBa0.out x hx; omega)) Ax0_6 Au_11 cx0_6 cu_11 w11 (readsS Fx0_11.out).2.2 (readsS Fx0_11.out).2.1 (readsS Fu_11.out).2.2 (readsS Fu_11.out).2.1).mono ?_
  rintro e w12 ⟨rfl, hb⟩
  have B12 := Aside0.mk (below_step B11.out hb)
  have z12 := hb.size
  have Fw0_12 := Aside0.mk (Kd.R_below Fw0_11.out hb)
  clear Fw0_11
  have Fx0_12 := Aside0.mk (Kd.S_below Fx0_11.out hb)
  clear Fx0_11
  have Fx1_12 := Aside0.mk (Kd.R_below Fx1_11.out hb)
  clear Fx1_11
  have Fx2_12 := Aside0.mk (Kd.R_below Fx2_11.out hb)
  clear Fx2_11
  have Fg0_12 := Aside0.mk (Kd.R_below Fg0_11.out hb)
  clear Fg0_11
  have Fu_12 := Aside0.mk (Kd.S_below Fu_11.out hb)
  clear Fu_11
  clear hb
  go_wp2_with fail
  refine (toIntS_calls a1 (by have := HLa1.out; omega) Aa1 ca1 w12 (Kd.C_below HRa1.out B12.out) HCa1.out).mono ?_
  rintro e w13 ⟨v, rfl, ho, hb⟩
  have B13 := Aside0.mk (below_step B12.out hb)
  have z13 := hb.size
  obtain ⟨Au_13, cu_13, rfl⟩ := Kd.R_slice ho
  have Fu_13 := Aside0.mk (ivR (w := w) ho (by omega))
  clear ho
  have Fw0_13 := Aside0.mk (Kd.R_below Fw0_12.out hb)
  clear Fw0_12
  have Fx0_13 := Aside0.mk (Kd.S_below Fx0_12.out hb)
  clear Fx0_12
  have Fx1_13 := Aside0.mk (Kd.R_below Fx1_12.out hb)
  clear Fx1_12
  have Fx2_13 := Aside0.mk (Kd.R_below Fx2_12.out hb)
  clear Fx2_12
  have Fg0_13 := Aside0.mk (Kd.R_below Fg0_12.out hb)
  clear Fg0_12
  clear hb
  go_wp2_with fail
  refine (eqIntS_calls a1 (maxLen_val (by have := HLa1.out; omega)) Ax1_7 Au_13 cx1_7 cu_13 w13 (readsR Fx1_13.out).2.2 (readsR Fx1_13.out).2.1 (readsR Fu_13.out).2.2 (readsR Fu_13.out).2.1).mono ?_
  rintro e w14 ⟨rfl, hb⟩
  have B14 := Aside0.mk (below_step B13.out hb)
  have z14 := hb.size
  have Fw0_14 := Aside0.mk (Kd.R_below Fw0_13.out hb)
  clear Fw0_13
  have Fx0_14 := Aside0.mk (Kd.S_below Fx0_13.out hb)
  clear Fx0_13
  have Fx1_14 := Aside0.mk (Kd.R_below Fx1_13.out hb)
  clear Fx1_13
  have Fx2_14 := Aside0.mk (Kd.R_below Fx2_13.out hb)
  clear Fx2_13
  have Fg0_14 := Aside0.mk (Kd.R_below Fg0_13.out hb)
  clear Fg0_13
  have Fu_14 := Aside0.mk (Kd.R_below Fu_13.out hb)
  clear Fu_13
  clear hb
  go_wp2_with fail
  refine (toIntS_calls a2 (by have := HLa2.out; omega) Aa2 ca2 w14 (Kd.C_below HRa2.out B14.out) HCa2.out).mono ?_
  rintro e w15 ⟨v, rfl, ho, hb⟩
  have B15 := Aside0.mk (below_step B14.out hb)
  have z15 := hb.size
  obtain ⟨Au_15, cu_15, rfl⟩ := Kd.R_slice ho
  have Fu_15 := Aside0.mk (ivR (w := w) ho (by omega))
  clear ho
  have Fw0_15 := Aside0.mk (Kd.R_below Fw0_14.out hb)
  clear Fw0_14
  have Fx0_15 := Aside0.mk (Kd.S_below Fx0_14.out hb)
  clear Fx0_14
  have Fx1_15 := Aside0.mk (Kd.R_below Fx1_14.out hb)
  clear Fx1_14
  have Fx2_15 := Aside0.mk (Kd.R_below Fx2_14.out hb)
  clear Fx2_14
  have Fg0_15 := Aside0.mk (Kd.R_below Fg0_14.out hb)
  clear Fg0_14
  clear hb
  go_wp2_with fail
  refine (eqIntS_calls a2 (maxLen_val (by have := HLa2.out; omega)) Ax2_8 Au_15 cx2_8 cu_15 w15 (readsR Fx2_15.out).2.2 (readsR Fx2_15.out).2.1 (readsR Fu_15.out).2.2 (readsR Fu_15.out).2.1).mono ?_
  rintro e w16 ⟨rfl, hb⟩
  have B16 := Aside0.mk (below_step B15.out hb)
  have z16 := hb.size
  have Fw0_16 := Aside0.mk (Kd.R_below Fw0_15.out hb)
  clear Fw0_15
  have Fx0_16 := Aside0.mk (Kd.S_below Fx0_15.out hb)
  clear Fx0_15
  have Fx1_16 := Aside0.mk (Kd.R_below Fx1_15.out hb)
  clear Fx1_15
  have Fx2_16 := Aside0.mk (Kd.R_below Fx2_15.out hb)
  clear Fx2_15
  have Fg0_16 := Aside0.mk (Kd.R_below Fg0_15.out hb)
  clear Fg0_15
  have Fu_16 := Aside0.mk (Kd.R_below Fu_15.out hb)
  clear Fu_15
  clear hb
  go_wp2_with fail
  refine (markIntSS_calls a0 HLa0.out HBa0.out 1 (by omega) (by have := HLa0.out; omega) (Btw w5 w6) (.slice Ax0_6 a0.length cx0_6) w w16 B16.out Fx0_16.out).mono ?_
  rintro e w17 ⟨rfl, ho, hb, hk⟩
  have z17 := hk.1
  have B17 := Aside0.mk hb
  have Fw0_17 := Aside0.mk (Kd.R_kept Fw0_16.out hk (apart (by omega)))
  clear Fw0_16
  have Fx1_17 := Aside0.mk (Kd.R_kept Fx1_16.out hk (apart (by omega)))
  clear Fx1_16
  have Fx2_17 := Aside0.mk (Kd.R_kept Fx2_16.out hk (apart (by omega)))
  clear Fx2_16
  have Fg0_17 := Aside0.mk (Kd.R_kept Fg0_16.out hk (apart (by omega)))
  clear Fg0_16
  have hbd := markAll_bd 1 a0 HBa0.out a0.length
  have hll := HLa0.out
  obtain ⟨m17, em17⟩ : ∃ z : Int, z = (markAll 1 a0 a0.length).1 := ⟨_, rfl⟩
  rw [← em17] at hbd ⊢
  have lm17 : 0 ≤ m17 ∧ m17 ≤ 1099511627777 := by omega
  have dm17 : decide (m17 < 0) = false := decide_eq_false (by omega)
  have Em17 := Aside0.mk em17
  have Lm17 := Aside0.mk lm17
  clear Fx0_16
  clear hb hk ho hll em17 lm17 hbd
  have lk := Lm17.out
  go_wp2_with fail
  refine (markIntS_calls a1 (by have := HLa1.out; omega) m17 (by omega) (Btw w6 w7) (.slice Ax1_7 a1.length cx1_7) w w17 B17.out Fx1_17.out).mono ?_
  rintro e w18 ⟨rfl, ho, hb, hk⟩
  have z18 := hk.1
  have B18 := Aside0.mk hb
  have Fw0_18 := Aside0.mk (Kd.R_kept Fw0_17.out hk (apart (by omega)))
  clear Fw0_17
  have Fx2_18 := Aside0.mk (Kd.R_kept Fx2_17.out hk (apart (by omega)))
  clear Fx2_17
  have Fg0_18 := Aside0.mk (Kd.R_kept Fg0_17.out hk (apart (by omega)))
  clear Fg0_17
  have hll := HLa1.out
  obtain ⟨m18, em18⟩ : ∃ z : Int, z = m17 + (a1.length : Int) := ⟨_, rfl⟩
  rw [← em18]
  have lm18 : 0 ≤ m18 ∧ m18 ≤ 1099520016385 := by omega
  have dm18 : decide (m18 < 0) = false := decide_eq_false (by omega)
  have Em18 := Aside0.mk em18
  have Lm18 := Aside0.mk lm18
  clear Fx1_17
  clear hb hk ho hll em18 lm18
  clear lk
  have lk := Lm18.out
  go_wp2_with fail
  refine (markIntS_calls a2 (by have := HLa2.out; omega) m18 (by omega) (Btw w7 w8) (.slice Ax2_8 a2.length cx2_8) w w18 B18.out Fx2_18.out).mono ?_
  rintro e w19 ⟨rfl, ho, hb, hk⟩
  have z19 := hk.1
  have B19 := Aside0.mk hb
  have Fw0_19 := Aside0.mk (Kd.R_kept Fw0_18.out hk (apart (by omega)))
  clear Fw0_18
  have Fg0_19 := Aside0.mk (Kd.R_kept Fg0_18.out hk (apart (by omega)))
  clear Fg0_18
  have hll := HLa2.out
  obtain ⟨m19, em19⟩ : ∃ z : Int, z = m18 + (a2.length : Int) := ⟨_, rfl⟩
  rw [← em19]
  have lm19 : 0 ≤ m19 ∧ m19 ≤ 1099528404993 := by omega
  have dm19 : decide (m19 < 0) = false := decide_eq_false (by omega)
  have Em19 := Aside0.mk em19
  have Lm19 := Aside0.mk lm19
  clear Fx2_18
  clear hb hk ho hll em19 lm19
  clear lk
  go_wp2_with fail
  refine (eqIntS_calls g0 (maxLen_val (by have := HLg0.out; omega)) Ag0_9 Aw0_5 cg0_9 cw0_5 w19 (readsR Fg0_19.out).2.2 (readsR Fg0_19.out).2.1 (readsR Fw0_19.out).2.2 (readsR Fw0_19.out).2.1).mono ?_
  rintro e w20 ⟨rfl, hb⟩
  have B20 := Aside0.mk (below_step B19.out hb)
  have z20 := hb.size
  have Fw0_20 := Aside0.mk (Kd.R_below Fw0_19.out hb)
  clear Fw0_19
  have Fg0_20 := Aside0.mk (Kd.R_below Fg0_19.out hb)
  clear Fg0_19
  clear hb
  go_wp2_with fail
  refine (markIntS_calls g0 (by have := HLg0.out; omega) 1 (by omega) (Btw w8 w9) (.slice Ag0_9 g0.length cg0_9) w w20 B20.out Fg0_20.out).mono ?_
  rintro e w21 ⟨rfl, ho, hb, hk⟩
  have z21 := hk.1
  have B21 := Aside0.mk hb
  have Fw0_21 := Aside0.mk (Kd.R_kept Fw0_20.out hk (apart (by omega)))
  clear Fw0_20
  have hll := HLg0.out
  obtain ⟨m21, em21⟩ : ∃ z : Int, z = 1 + (g0.length : Int) := ⟨_, rfl⟩
  rw [← em21]
  have lm21 : 0 ≤ m21 ∧ m21 ≤ 8388609 := by omega
  have dm21 : decide (m21 < 0) = false := decide_eq_false (by omega)
  have Em21 := Aside0.mk em21
  have Lm21 := Aside0.mk lm21
  have Fg0_21 := Aside0.mk ho
  clear Fg0_20
  clear hb hk ho hll em21 lm21
  go_wp2_with fail
  refine (heldIntS_calls g0.length (by have := HLg0.out; omega) 1 (by omega) Ag0_9 cg0_9 w21 (by have h := (readsR Fg0_21.out).2.2; rwa [markRow_len] at h) (by have h := (readsR Fg0_21.out).2.1; rwa [markRow_len] at h)).mono ?_
  rintro e w22 ⟨rfl, hb⟩
  have B22 := Aside0.mk (below_step B21.out hb)
  have z22 := hb.size
  have Fw0_22 := Aside0.mk (Kd.R_below Fw0_21.out hb)
  clear Fw0_21
  have Fg0_22 := Aside0.mk (Kd.R_below Fg0_21.out hb)
  clear Fg0_21
  rw [← Em21.out]
  clear hb
  go_wp2_with fail
  refine (toIntSS_calls a0 HLa0.out HBa0.out Aa0 ca0 w22 (Kd.C_below HRa0.out B22.out) HCa0.out).mono ?_
  rintro e w23 ⟨v, rfl, ho, hb⟩
  have B23 := Aside0.mk (below_step B22.out hb)
  have z23 := hb.size
  obtain ⟨At0_23, ct0_23, rfl⟩ := Kd.S_slice ho
  have Ft0_23 := Aside0.mk (ivS (w := w) ho (by omega))
  clear ho
  have Fw0_23 := Aside0.mk (Kd.R_below Fw0_22.out hb)
  clear Fw0_22
  have Fg0_23 := Aside0.mk (Kd.R_below Fg0_22.out hb)
  clear Fg0_22
  clear hb
  go_wp2_with fail
  refine (toIntS_calls a1 (by have := HLa1.out; omega) Aa1 ca1 w23 (Kd.C_below HRa1.out B23.out) HCa1.out).mono ?_
  rintro e w24 ⟨v, rfl, ho, hb⟩
  have B24 := Aside0.mk (below_step B23.out hb)
  have z24 := hb.size
  obtain ⟨At1_24, ct1_24, rfl⟩ := Kd.R_slice ho
  have Ft1_24 := Aside0.mk (ivR (w := w) ho (by omega))
  clear ho
  have Fw0_24 := Aside0.mk (Kd.R_below Fw0_23.out hb)
  clear Fw0_23
  have Fg0_24 := Aside0.mk (Kd.R_below Fg0_23.out hb)
  clear Fg0_23
  have Ft0_24 := Aside0.mk (Kd.S_below Ft0_23.out hb)
  clear Ft0_23
  clear hb
  go_wp2_with fail
  refine (toIntS_calls a2 (by have := HLa2.out; omega) Aa2 ca2 w24 (Kd.C_below HRa2.out B24.out) HCa2.out).mono ?_
  rintro e w25 ⟨v, rfl, ho, hb⟩
  have B25 := Aside0.mk (below_step B24.out hb)
  have z25 := hb.size
  obtain ⟨At2_25, ct2_25, rfl⟩ := Kd.R_slice ho
  have Ft2_25 := Aside0.mk (ivR (w := w) ho (by omega))
  clear ho
  have Fw0_25 := Aside0.mk (Kd.R_below Fw0_24.out hb)
  clear Fw0_24
  have Fg0_25 := Aside0.mk (Kd.R_below Fg0_24.out hb)
  clear Fg0_24
  have Ft0_25 := Aside0.mk (Kd.S_below Ft0_24.out hb)
  clear Ft0_24
  have Ft1_25 := Aside0.mk (Kd.R_below Ft1_24.out hb)
  clear Ft1_24
  clear hb
  go_wp2_with fail
  refine (impl_JoinClosures.calls ki At0_23 ct0_23 a0 (Btw w23 w24) At1_24 ct1_24 a1 (Btw w24 w25) At2_25 ct2_25 a2 g0 g1 w25 (readsS Ft0_25.out).2.2 (readsS Ft0_25.out).2.1 (Kd.R_V Ft1_25.out) (Kd.R_V Ft2_25.out) Hi.out).mono ?_
  rintro e w26 ⟨v, rfl, ho, hb⟩
  have ho := Kd.R_mono ho (ok' := fun _ => True) (fun _ _ => trivial)
  have B26 := Aside0.mk (below_step B25.out hb)
  have z26 := hb.size
  obtain ⟨Ah0_26, ch0_26, rfl⟩ := Kd.R_slice ho
  have Fh0_26 := Aside0.mk (ivR (w := w) ho (by omega))
  clear ho
  have Fw0_26 := Aside0.mk (Kd.R_below Fw0_25.out hb)
  clear Fw0_25
  have Fg0_26 := Aside0.mk (Kd.R_below Fg0_25.out hb)
  clear Fg0_25
  have Ft0_26 := Aside0.mk (Kd.S_below Ft0_25.out hb)
  clear Ft0_25
  have Ft1_26 := Aside0.mk (Kd.R_below Ft1_25.out hb)
  clear Ft1_25
  have Ft2_26 := Aside0.mk (Kd.R_below Ft2_25.out hb)
  clear Ft2_25
  clear hb
  go_wp2_with fail
  refine (eqIntS_calls g0 (maxLen_val (by have := HLg0.out; omega)) Ah0_26 Aw0_5 ch0_26 cw0_5 w26 (readsR Fh0_26.out).2.2 (readsR Fh0_26.out).2.1 (readsR Fw0_26.out).2.2 (readsR Fw0_26.out).2.1).mono ?_
  rintro e w27 ⟨rfl, hb⟩
  have B27 := Aside0.mk (below_step B26.out hb)
  have z27 := hb.size
  have Fw0_27 := Aside0.mk (Kd.R_below Fw0_26.out hb)
  clear Fw0_26
  have Fg0_27 := Aside0.mk (Kd.R_below Fg0_26.out hb)
  clear Fg0_26
  have Fh0_27 := Aside0.mk (Kd.R_below Fh0_26.out hb)
  clear Fh0_26
  clear hb
  go_wp2_with fail
  refine (heldIntS_calls g0.length (by have := HLg0.out; omega) 1 (by omega) Ag0_9 cg0_9 w27 (by have h := (readsR Fg0_27.out).2.2; rwa [markRow_len] at h) (by have h := (readsR Fg0_27.out).2.1; rwa [markRow_len] at h)).mono ?_
  rintro e w28 ⟨rfl, hb⟩
  have B28 := Aside0.mk (below_step B27.out hb)
  have z28 := hb.size
  have Fw0_28 := Aside0.mk (Kd.R_below Fw0_27.out hb)
  clear Fw0_27
  have Fg0_28 := Aside0.mk (Kd.R_below Fg0_27.out hb)
  clear Fg0_27
  have Fh0_28 := Aside0.mk (Kd.R_below Fh0_27.out hb)
  clear Fh0_27
  rw [← Em21.out]
  clear hb
  go_wp2_with fail
  go_ret
  exact ⟨rfl, B28.out⟩
set_option maxRecDepth 100000 in
theorem walk_len0 (a0 : List (List Int)) (a1 : List Int) (a2 : List Int) (Aa0 : Option Addr) (ca0 : Nat) (Aa1 : Option Addr) (ca1 : Nat) (Aa2 : Option Addr) (ca2 : Nat) (w : World) (hra0 : Kd.C kSS w Aa0 a0.length a0) (hca0 : a0.length ≤ ca0) (hra1 : Kd.C (Kd.int .i64) w Aa1 a1.length a1) (hca1 : a1.length ≤ ca1) (hra2 : Kd.C (Kd.int .i64) w Aa2 a2.length a2) (hca2 : a2.length ≤ ca2)  (h : ¬ a1.length ≤ 1048576) : Calls Try.prog 8 #[.slice Aa0 a0.length ca0, .slice Aa1 a1.length ca1, .slice Aa2 a2.length ca2] w fun e w' => e = .returned (.bool true) ∧ Below w.heap.size w w' := by
  have xx : decide (1048576 < (a1.length : Int)) = true := decide_eq_true (by omega)
  have yy : decide (1048576 < a1.length) = true := decide_eq_true (by omega)
  clear h  hra0 hca0 hra1 hca1 hra2 hca2
  go_enter Try.func8, Try.ntmps8
  go_wp2
  go_ret
  exact ⟨rfl, Below.refl _ _⟩
set_option maxRecDepth 100000 in
theorem walk_len1 (a0 : List (List Int)) (a1 : List Int) (a2 : List Int) (Aa0 : Option Addr) (ca0 : Nat) (Aa1 : Option Addr) (ca1 : Nat) (Aa2 : Option Addr) (ca2 : Nat) (w : World) (hra0 : Kd.C kSS w Aa0 a0.length a0) (hca0 : a0.length ≤ ca0) (hra1 : Kd.C (Kd.int .i64) w Aa1 a1.length a1) (hca1 : a1.length ≤ ca1) (hra2 : Kd.C (Kd.int .i64) w Aa2 a2.length a2) (hca2 : a2.length ≤ ca2) (h0 : a1.length ≤ 1048576) (h : ¬ a2.length ≤ 1048576) : Calls Try.prog 8 #[.slice Aa0 a0.length ca0, .slice Aa1 a1.length ca1, .slice Aa2 a2.length ca2] w fun e w' => e = .returned (.bool true) ∧ Below w.heap.size w w' := by
  have x0 : decide (1048576 < (a1.length : Int)) = false := decide_eq_false (by omega)
  have y0 : decide (1048576 < a1.length) = false := decide_eq_false (by omega)
  have xx : decide (1048576 < (a2.length : Int)) = true := decide_eq_true (by omega)
  have yy : decide (1048576 < a2.length) = true := decide_eq_true (by omega)
  clear h h0 hra0 hca0 hra1 hca1 hra2 hca2
  go_enter Try.func8, Try.ntmps8
  go_wp2
  go_ret
  exact ⟨rfl, Below.refl _ _⟩
set_option maxRecDepth 100000 in
theorem walk_neg (a0 : List (List Int)) (a1 : List Int) (a2 : List Int) (Aa0 : Option Addr) (ca0 : Nat) (Aa1 : Option Addr) (ca1 : Nat) (Aa2 : Option Addr) (ca2 : Nat) (w : World) (hra0 : Kd.C kSS w Aa0 a0.length a0) (hca0 : a0.length ≤ ca0) (hra1 : Kd.C (Kd.int .i64) w Aa1 a1.length a1) (hca1 : a1.length ≤ ca1) (hra2 : Kd.C (Kd.int .i64) w Aa2 a2.length a2) (hca2 : a2.length ≤ ca2) (h0 : a1.length ≤ 1048576) (h1 : a2.length ≤ 1048576) (r : Int) (hsz : ∀ (A : Option Addr) (c : Nat) (w : World), Kd.C kSS w A a0.length a0 → a0.length ≤ c → Calls Try.prog 15 #[.slice A a0.length c, .int .i64 1048576] w fun e w' => e = .returned (.int .i64 r) ∧ Below w.heap.size w w') (hlt : r < 0) : Calls Try.prog 8 #[.slice Aa0 a0.length ca0, .slice Aa1 a1.length ca1, .slice Aa2 a2.length ca2] w fun e w' => e = .returned (.bool true) ∧ Below w.heap.size w w' := by
  have x0 : decide (1048576 < (a1.length : Int)) = false := decide_eq_false (by omega)
  have y0 : decide (1048576 < a1.length) = false := decide_eq_false (by omega)
  have x1 : decide (1048576 < (a2.length : Int)) = false := decide_eq_false (by omega)
  have y1 : decide (1048576 < a2.length) = false := decide_eq_false (by omega)
  have HSZ := Aside0.mk hsz
  have HR := Aside0.mk hra0
  have HC := Aside0.mk hca0
  have d1 : decide (r < 0) = true := decide_eq_true hlt
  clear hsz hlt h0 h1 hra0 hca0 hra1 hca1 hra2 hca2
  go_enter Try.func8, Try.ntmps8
  go_wp2_with fail
  refine (HSZ.out Aa0 ca0 w HR.out HC.out).mono ?_
  rintro e w1 ⟨rfl, hb⟩
  have B1 := Aside0.mk hb
  clear hb
  go_wp2_with fail
  go_ret
  exact ⟨rfl, B1.out⟩
theorem law (a0 : List (List Int)) (a1 : List Int) (a2 : List Int) (ha0 : a0.length ≤ maxLen) (ga0 : ∀ x ∈ a0, x.length ≤ maxLen ∧ ∀ y0 ∈ x, (Lit.int .i64 y0).wf = true) (ha1 : a1.length ≤ maxLen) (sa1 : a1.length * 8 ≤ 140737488351232) (ga1 : ∀ x ∈ a1, (Lit.int .i64 x).wf = true) (ha2 : a2.length ≤ maxLen) (sa2 : a2.length * 8 ≤ 140737488351232) (ga2 : ∀ x ∈ a2, (Lit.int .i64 x).wf = true) (Aa0 : Option Addr) (ca0 : Nat) (Aa1 : Option Addr) (ca1 : Nat) (Aa2 : Option Addr) (ca2 : Nat) (w : World) (hra0 : Kd.C kSS w Aa0 a0.length a0) (hca0 : a0.length ≤ ca0) (hra1 : Kd.C (Kd.int .i64) w Aa1 a1.length a1) (hca1 : a1.length ≤ ca1) (hra2 : Kd.C (Kd.int .i64) w Aa2 a2.length a2) (hca2 : a2.length ≤ ca2) : Calls Try.prog 8 #[.slice Aa0 a0.length ca0, .slice Aa1 a1.length ca1, .slice Aa2 a2.length ca2] w fun e w' => e = .returned (.bool true) ∧ Below w.heap.size w w' := by
  by_cases q0 : a1.length ≤ 1048576
  rotate_left
  · exact walk_len0 a0 a1 a2 Aa0 ca0 Aa1 ca1 Aa2 ca2 w hra0 hca0 hra1 hca1 hra2 hca2  q0
  by_cases q1 : a2.length ≤ 1048576
  rotate_left
  · exact walk_len1 a0 a1 a2 Aa0 ca0 Aa1 ca1 Aa2 ca2 w hra0 hca0 hra1 hca1 hra2 hca2 q0 q1
  obtain ⟨r, hz, hsz⟩ := szIntSS_calls a0 ha0 (fun x hx => (ga0 x hx).1)
  by_cases hlt : r < 0
  · exact walk_neg a0 a1 a2 Aa0 ca0 Aa1 ca1 Aa2 ca2 w hra0 hca0 hra1 hca1 hra2 hca2 q0 q1 r hsz hlt
  obtain ⟨l1, l2⟩ := hz (by omega)
  obtain ⟨⟨g0, g1⟩, hs, hi, ng0⟩ := both a0 a1 a2 l1 l2 q0 q1
  exact walk a0 a1 a2 Aa0 ca0 Aa1 ca1 Aa2 ca2 w hra0 hca0 hra1 hca1 hra2 hca2 r hsz hlt g0 g1 l1 l2 q0 q1 ng0 hs.rounds hi.rounds
end Go.Proofs.Ytdjahpigkbgobaa.WalkFnExactJoinClosures
