/- The law FnExactLastBlocks, walked by hand over its callees' contracts: for every input it returns true. -/
import Derived.Test.YtdjahpigkbgobaaCom
import Derived.Test.YtdjahpigkbgobaaPFnExactLastBlocksx18
import Derived.Test.YtdjahpigkbgobaaPFnExactLastBlocksx25
namespace Go.Proofs.Ytdjahpigkbgobaa.WalkFnExactLastBlocks
open Go.RowKit Go.Proofs.Ytdjahpigkbgobaa.PFnExactLastBlocks Go.Proofs.YtdjahpigkbgobaaW.PrintWords Go.Proofs.YtdjahpigkbgobaaW.PrintLast Go.Proofs.YtdjahpigkbgobaaW.PrintMore Go.Proofs.Ytdjahpigkbgobaa.B Go.Proofs.Ytdjahpigkbgobaa.Com
set_option linter.unusedVariables false
set_option linter.unusedSimpArgs false

/- closGood -/
def goodC (a : List (List Int)) (l : List Int) : Bool := arcsOk a && (asc l a.length && isClo a l)
theorem goodC_iff {a : List (List Int)} {l : List Int} : goodC a l = true ↔ Arcs a ∧ asc l a.length = true ∧ isClo a l = true := by
  unfold goodC; rw [Bool.and_eq_true, Bool.and_eq_true, arcsOk_iff]

/- lastL -/
def clrAt (r : List Int) (m : List Bool) (j : Nat) : List Bool := m.set (r.getD j 0).toNat false
theorem clr_len {r : List Int} {m : List Bool} {i n : Nat} : (foldR (clrAt r) i n m).length = m.length := by
  by_cases h : i ≤ n
  · exact foldR_inv (P := fun _ (t : List Bool) => t.length = m.length) rfl (fun j t _ _ h => by unfold clrAt; rw [List.length_set]; exact h) h
  · rw [foldR_end (by omega)]
theorem clr_at {r : List Int} {m : List Bool} (hr : ∀ x ∈ r, 0 ≤ x ∧ x < m.length) (j : Nat) : (foldR (clrAt r) 0 r.length m).getD j false = true ↔ m.getD j false = true ∧ ¬ (j : Int) ∈ r := by
  have key : ∀ n, n ≤ r.length → ((foldR (clrAt r) 0 n m).getD j false = true ↔ m.getD j false = true ∧ ¬ ∃ i, i < n ∧ r.getD i 0 = (j : Int)) := by
    intro n
    induction n with
    | zero => intro _; rw [foldR_end (Nat.le_refl _)]; simp
    | succ n ih =>
      intro hn
      have ih := ih (by omega)
      rw [foldR_last (Nat.zero_le _)]
      have hx := hr _ (getD_mem (z := 0) (show n < r.length by omega))
      have hlen := clr_len (r := r) (m := m) (i := 0) (n := n)
      generalize foldR (clrAt r) 0 n m = t at ih hlen ⊢
      unfold clrAt
      rw [getD_set]
      split
      · rename_i hc
        constructor
        · intro h; cases h
        · rintro ⟨_, h⟩; exact absurd ⟨n, by omega, by omega⟩ h
      · rename_i hc
        rw [ih]
        constructor
        · rintro ⟨h1, h2⟩
          refine ⟨h1, ?_⟩
          rintro ⟨i, hi, he⟩
          by_cases e : i = n
          · subst e
            by_cases hj : j < t.length
            · exact hc ⟨by omega, hj⟩
            · omega
          · exact h2 ⟨i, by omega, he⟩
        · rintro ⟨h1, h2⟩
          exact ⟨h1, fun ⟨i, hi, he⟩ => h2 ⟨i, by omega, he⟩⟩
  rw [key _ (Nat.le_refl _)]
  constructor
  · rintro ⟨h1, h2⟩
    exact ⟨h1, fun h => by obtain ⟨i, hi, he⟩ := mem_getD (z := 0) h; exact h2 ⟨i, hi, he⟩⟩
  · rintro ⟨h1, h2⟩
    exact ⟨h1, fun ⟨i, hi, he⟩ => h2 (he ▸ getD_mem hi)⟩
def rowOf (a : List (List Int)) (l : List Int) (i : Nat) : List Int := a.getD (l.getD i 0).toNat []
def clrStep (a : List (List Int)) (l : List Int) (m : List Bool) (i : Nat) : List Bool := foldR (clrAt (rowOf a l i)) 0 (rowOf a l i).length m
def needStep (a : List (List Int)) (l : List Int) (m : List Bool) (i : Nat) : List Bool := setAll m (rowOf a l i)
theorem clrStep_at {a : List (List Int)} (ha : Arcs a) {l : List Int} (hl : asc l a.length = true) {m : List Bool} (hm : m.length = a.length) (n : Nat) (hn : n ≤ l.length) :
    (foldR (clrStep a l) 0 n m).length = a.length ∧ ∀ j : Nat, (foldR (clrStep a l) 0 n m).getD j false = true ↔ m.getD j false = true ∧ ¬ ∃ i, i < n ∧ (j : Int) ∈ rowOf a l i := by
  induction n with
  | zero => rw [foldR_end (Nat.le_refl _)]; exact ⟨hm, fun j => by simp⟩
  | succ n ih =>
    obtain ⟨h1, h2⟩ := ih (by omega)
    rw [foldR_last (Nat.zero_le _)]
    generalize foldR (clrStep a l) 0 n m = t at h1 h2 ⊢
    have hx := asc_at hl (show n < l.length by omega)
    have hrow : ∀ x ∈ rowOf a l n, 0 ≤ x ∧ x < t.length := fun x hx' => by have := ha.down hx'; omega
    unfold clrStep
    refine ⟨by rw [clr_len]; exact h1, fun j => ?_⟩
    rw [clr_at hrow, h2]
    constructor
    · rintro ⟨⟨h3, h4⟩, h5⟩
      refine ⟨h3, ?_⟩
      rintro ⟨i, hi, he⟩
      by_cases e : i = n
      · subst e; exact h5 he
      · exact h4 ⟨i, by omega, he⟩
    · rintro ⟨h3, h4⟩
      exact ⟨⟨h3, fun ⟨i, hi, he⟩ => h4 ⟨i, by omega, he⟩⟩, fun h => h4 ⟨n, by omega, h⟩⟩
theorem needStep_at {a : List (List Int)} (ha : Arcs a) {l : List Int} (hl : asc l a.length = true) {m : List Bool} (hm : m.length = a.length) (n : Nat) (hn : n ≤ l.length) :
    (foldR (needStep a l) 0 n m).length = a.length ∧ ∀ j : Nat, (foldR (needStep a l) 0 n m).getD j false = true ↔ m.getD j false = true ∨ ∃ i, i < n ∧ (j : Int) ∈ rowOf a l i := by
  induction n with
  | zero => rw [foldR_end (Nat.le_refl _)]; exact ⟨hm, fun j => by simp⟩
  | succ n ih =>
    obtain ⟨h1, h2⟩ := ih (by omega)
    rw [foldR_last (Nat.zero_le _)]
    generalize foldR (needStep a l) 0 n m = t at h1 h2 ⊢
    have hx := asc_at hl (show n < l.length by omega)
    have hrow : ∀ x ∈ rowOf a l n, 0 ≤ x ∧ x < t.length := fun x hx' => by have := ha.down hx'; omega
    unfold needStep
    refine ⟨by rw [setAll_len]; exact h1, fun j => ?_⟩
    rw [setAll_at hrow, h2]
    constructor
    · rintro ((h | ⟨i, hi, he⟩) | h)
      · exact .inl h
      · exact .inr ⟨i, by omega, he⟩
      · exact .inr ⟨n, by omega, h⟩
    · rintro (h | ⟨i, hi, he⟩)
      · exact .inl (.inl h)
      · by_cases e : i = n
        · subst e; exact .inr he
        · exact .inl (.inr ⟨i, by omega, he⟩)
def clrM (a : List (List Int)) (l : List Int) : List Bool := foldR (clrStep a l) 0 l.length (mk a.length l)
def needM (a : List (List Int)) (l : List Int) : List Bool := foldR (needStep a l) 0 l.length (List.replicate a.length false)
theorem last_eq {a : List (List Int)} (ha : Arcs a) {l : List Int} (hl : asc l a.length = true) : l.filter (fun x => !(at_ (needM a l) x)) = listOf (clrM a l) := by
  have h1 := clrStep_at ha hl (m := mk a.length l) mk_len l.length (Nat.le_refl _)
  have h2 := needStep_at ha hl (m := List.replicate a.length false) (by simp) l.length (Nat.le_refl _)
  refine asc_ext (filter_asc _ hl) listOf_asc (fun x => ?_)
  rw [List.mem_filter, listOf_mem]
  unfold at_
  have hrep : ∀ j, (List.replicate a.length false).getD j false = false := by
    intro j
    by_cases h : j < a.length
    · exact getD_replicate h
    · exact getD_none (by simp; omega)
  have e1 := h1.2 x.toNat
  have e2 := h2.2 x.toNat
  rw [hrep, mk_at (fun y hy => asc_mem hl hy)] at *
  constructor
  · rintro ⟨h3, h4⟩
    have hx := asc_mem hl h3
    rw [Int.toNat_of_nonneg hx.1] at e1 e2
    refine ⟨hx.1, e1.2 ⟨h3, fun h5 => ?_⟩⟩
    have := e2.2 (.inr h5)
    rw [show (needM a l).getD x.toNat false = true from this] at h4
    cases h4
  · rintro ⟨h3, h4⟩
    rw [Int.toNat_of_nonneg h3] at e1 e2
    obtain ⟨h5, h6⟩ := e1.1 h4
    refine ⟨h5, ?_⟩
    rw [Bool.not_eq_true', ← Bool.not_eq_true]
    intro h7
    rcases e2.1 h7 with h8 | h8
    · cases h8
    · exact h6 h8

/- rdB -/
theorem rdB (m : List Bool) (x : Int) : rdOf false m x = at_ m x := rfl

/- rdL1 -/
theorem rdL1 (a : List (List Int)) (i : Nat) : rd_L1 a (i : Int) = a.getD i [] := by unfold rd_L1; rw [toNat_nat]
theorem rdL1' (a : List (List Int)) (x : Int) : rd_L1 a x = a.getD x.toNat [] := rfl

/- spec_l1In -/
theorem l1In_eq (a b c : Int) : spec_l1In.f a b c = some (decide (b ≤ a ∧ a ≤ c)) := by
  unfold spec_l1In.f
  by_cases h : a ≥ b
  · rw [if_pos h]; simp [show b ≤ a from h]
  · rw [if_neg h]; simp [show ¬ b ≤ a from h]

/- spec_l1Rising -/
theorem l1Rising_l0 (l : List Int) (hl : l.length ≤ maxLen) (n : Int) : ∀ (d i : Nat), i + d = l.length → Ev (fun k => spec_l1Rising.l0 k l 0 (n - 1) l (l.length : Int) (i : Int)) (allR (ascAt l n) i l.length) := by
  have hl := maxLen_le hl
  intro d
  induction d with
  | zero =>
    intro i hi
    exact Ev.step (fun k => spec_l1Rising.l0.eq_2 l 0 (n - 1) l l.length i k) (ev_neg (by omega) (ev_some (allR_end (by omega)).symm))
  | succ d ih =>
    intro i hi
    refine Ev.step (fun k => spec_l1Rising.l0.eq_2 l 0 (n - 1) l l.length i k) ?_
    rw [allR_step (by omega), w_succ (n := l.length) (by omega) (by omega), rd_nat]
    refine ev_pos (by omega) (ev_pos (by omega) (ev_pos (by omega) (ev_bindc (l1In_eq _ _ _) ?_)))
    refine ev_ite (fun h => ?_) (fun h => ?_)
    · simp only [decide_eq_true_eq] at h
      refine ev_ite (fun h0 => ?_) (fun h0 => ?_)
      · rw [w64 (x := (i : Int) - 1) (by omega) (by omega), show (i : Int) - 1 = ((i - 1 : Nat) : Int) by omega, rd_nat]
        refine ev_pos (by omega) (ev_pos (by omega) ?_)
        refine ev_ite (fun h1 => ?_) (fun h1 => ?_)
        · refine ev_some ?_
          have : ascAt l n i = false := by unfold ascAt; simp only [decide_eq_false_iff_not]; intro hc; have := hc.2.2 (by omega); omega
          rw [this]; rfl
        · have : ascAt l n i = true := by unfold ascAt; simp only [decide_eq_true_eq]; exact ⟨by omega, by omega, fun _ => by omega⟩
          rw [this]; exact ih (i + 1) (by omega)
      · have : ascAt l n i = true := by unfold ascAt; simp only [decide_eq_true_eq]; exact ⟨by omega, by omega, fun _ => by omega⟩
        rw [this]; exact ih (i + 1) (by omega)
    · refine ev_some ?_
      have : ascAt l n i = false := by
        unfold ascAt; simp only [decide_eq_true_eq] at h; simp only [decide_eq_false_iff_not]; intro hc; exact h ⟨hc.1, by omega⟩
      rw [this]; rfl
theorem l1Rising_ev (l : List Int) (hl : l.length ≤ maxLen) (n : Int) : Ev (fun k => spec_l1Rising.f k l 0 (n - 1)) (asc l n) := by
  unfold spec_l1Rising.f asc
  exact l1Rising_l0 l hl n l.length 0 (by omega)

/- spec_clArcs -/
theorem clArcs_l0 (a : List (List Int)) (hl : a.length ≤ maxLen) (hb : ∀ x ∈ a, x.length ≤ maxLen) : ∀ (d i : Nat), i + d = a.length →
    Ev (fun k => spec_clArcs.l0 k a a (a.length : Int) (i : Int)) (decide (1 ≤ a.length ∧ a.length ≤ 120) && allR (fun i => asc (a.getD i []) i) i a.length) := by
  have hl := maxLen_le hl
  intro d
  induction d with
  | zero =>
    intro i hi
    refine Ev.step (fun k => spec_clArcs.l0.eq_2 a a a.length i k) (ev_neg (by omega) (ev_bindc (l1In_eq _ _ _) (ev_some ?_)))
    rw [allR_end (by omega), Bool.and_true, decide_eq_decide]; omega
  | succ d ih =>
    intro i hi
    refine Ev.step (fun k => spec_clArcs.l0.eq_2 a a a.length i k) ?_
    have hx : rd_L1 a (i : Int) = a.getD i [] := by unfold rd_L1; rw [toNat_nat]
    have hmem : a.getD i [] ∈ a := by
      rw [List.getD_eq_getElem?_getD, List.getElem?_eq_getElem (by omega)]; exact List.getElem_mem _
    rw [allR_step (by omega), w_succ (n := a.length) (by omega) (by omega), hx, w64 (x := (i : Int) - 1) (by omega) (by omega)]
    refine ev_pos (by omega) (ev_pos (by omega) (ev_pos (by omega) (Ev.bind (l1Rising_ev _ (hb _ hmem) _) ?_)))
    refine ev_ite (fun h => ?_) (fun h => ?_)
    · rw [h, Bool.true_and]; exact ih (i + 1) (by omega)
    · rw [Bool.not_eq_true] at h; rw [h, Bool.false_and, Bool.and_false]; exact ev_some rfl
theorem clArcs_ev (a : List (List Int)) (hl : a.length ≤ maxLen) (hb : ∀ x ∈ a, x.length ≤ maxLen) : Ev (fun k => spec_clArcs.f k a) (arcsOk a) := by
  unfold spec_clArcs.f arcsOk
  exact clArcs_l0 a hl hb a.length 0 (by omega)

/- spec_clBlocks -/
theorem clBlocks_ev (a : List (List Int)) (ha : a.length ≤ maxLen) (hb : ∀ x ∈ a, x.length ≤ maxLen) (l : List Int) (hl : l.length ≤ maxLen) : Ev (fun k => spec_clBlocks.f k a l) (arcsOk a && asc l a.length) := by
  have ha' := maxLen_le ha
  unfold spec_clBlocks.f
  refine Ev.bind (clArcs_ev a ha hb) (ev_ite (fun h => ?_) (fun h => ?_))
  · rw [h, Bool.true_and, w64 (x := (a.length : Int) - 1) (by omega) (by omega)]
    exact ev_id (l1Rising_ev l hl _)
  · rw [Bool.not_eq_true] at h; rw [h, Bool.false_and]; exact ev_some rfl

/- spec_clMarks -/
theorem clMarks_l0 (l : List Int) (hl : l.length ≤ maxLen) : ∀ (d i : Nat) (m : List Bool), i + d = l.length → (∀ x ∈ l, 0 ≤ x ∧ x < m.length) → Ev (fun k => spec_clMarks.l0 k m l (l.length : Int) (i : Int)) (foldR (setAt l) i l.length m) := by
  have hl := maxLen_le hl
  intro d
  induction d with
  | zero =>
    intro i m hi hm
    exact Ev.step (fun k => spec_clMarks.l0.eq_2 m l l.length i k) (ev_neg (by omega) (ev_some (foldR_end (by omega)).symm))
  | succ d ih =>
    intro i m hi hm
    refine Ev.step (fun k => spec_clMarks.l0.eq_2 m l l.length i k) ?_
    have hx := hm _ (getD_mem (z := 0) (show i < l.length by omega))
    rw [foldR_step (by omega), w_succ (n := l.length) (by omega) (by omega), rd_nat]
    refine ev_pos (by omega) (ev_pos (by omega) (ev_pos (by omega) (ev_pos (by omega) (ev_pos (by omega) ?_))))
    exact ih (i + 1) _ (by omega) (by intro x h; have := hm x h; simpa using this)
theorem clMarks_ev (n : Nat) (hn : n ≤ 1048576) (l : List Int) (hl : l.length ≤ maxLen) (h : ∀ x ∈ l, 0 ≤ x ∧ x < n) : Ev (fun k => spec_clMarks.f k (n : Int) l) (mk n l) := by
  unfold spec_clMarks.f mk setAll
  refine ev_pos (by omega) (ev_pos (by omega) ?_)
  rw [toNat_nat]
  exact clMarks_l0 l hl l.length 0 _ (by omega) (by simpa using h)

/- spec_clIs -/
theorem clIs_l1 (a : List (List Int)) (m : List Bool) (l : List Int) (n i : Int) (r : List Int) (hr : r.length ≤ 120) (hm : ∀ x ∈ r, 0 ≤ x ∧ x < m.length) (q : Bool) (hq : Ev (fun k => spec_clIs.l0 k a m l n (wrap64 (i + 1))) q) : ∀ (d j : Nat), j + d = r.length →
    Ev (fun k => spec_clIs.l1 k a m l n i r (r.length : Int) (j : Int)) (allR (inAt m r) j r.length && q) := by
  intro d
  induction d with
  | zero =>
    intro j hj
    refine Ev.step (fun k => spec_clIs.l1.eq_2 a m l n i r r.length j k) (ev_neg (by omega) ?_)
    rw [allR_end (by omega), Bool.true_and]; exact hq
  | succ d ih =>
    intro j hj
    refine Ev.step (fun k => spec_clIs.l1.eq_2 a m l n i r r.length j k) ?_
    have hx := hm _ (getD_mem (z := 0) (show j < r.length by omega))
    rw [allR_step (by omega), w_succ (n := r.length) (by omega) (by omega), rd_nat, rdB]
    refine ev_pos (by omega) (ev_pos (by omega) (ev_pos (by omega) (ev_pos (by omega) (ev_pos (by omega) ?_))))
    refine ev_ite (fun h => ?_) (fun h => ?_)
    · rw [show inAt m r j = true from h, Bool.true_and]; exact ih (j + 1) (by omega)
    · rw [Bool.not_eq_true] at h; rw [show inAt m r j = false from h, Bool.false_and, Bool.false_and]; exact ev_some rfl
theorem clIs_l0 (a : List (List Int)) (ha : Arcs a) (m : List Bool) (hm : m.length = a.length) (l : List Int) (hl : asc l a.length = true) : ∀ (d i : Nat), i + d = l.length → Ev (fun k => spec_clIs.l0 k a m l (l.length : Int) (i : Int)) (allR (cloAt a m l) i l.length) := by
  have h1 := asc_len hl
  have h2 := ha.le
  intro d
  induction d with
  | zero =>
    intro i hi
    exact Ev.step (fun k => spec_clIs.l0.eq_2 a m l l.length i k) (ev_neg (by omega) (ev_some (allR_end (by omega)).symm))
  | succ d ih =>
    intro i hi
    refine Ev.step (fun k => spec_clIs.l0.eq_2 a m l l.length i k) ?_
    have hx := asc_at hl (show i < l.length by omega)
    have ih := ih (i + 1) (by omega)
    rw [← w_succ (n := l.length) (i := i) (by omega) (by omega)] at ih
    rw [allR_step (by omega), rd_nat, rdL1']
    refine ev_pos (by omega) (ev_pos (by omega) (ev_pos (by omega) (ev_pos (by omega) (ev_pos (by omega) ?_))))
    exact clIs_l1 a m l l.length i (a.getD (l.getD i 0).toNat []) (ha.len _) (fun x hx => by have := ha.down hx; omega) _ ih (a.getD (l.getD i 0).toNat []).length 0 (by omega)
theorem clIs_ev (a : List (List Int)) (ha : Arcs a) (l : List Int) (hl : asc l a.length = true) : Ev (fun k => spec_clIs.f k a l) (isClo a l) := by
  have h1 := asc_len hl
  have h2 := ha.le
  unfold spec_clIs.f isClo
  exact Ev.bind (clMarks_ev a.length (by omega) l (maxLen_val (by omega)) (fun x hx => asc_mem hl hx)) (clIs_l0 a ha _ mk_len l hl l.length 0 (by omega))

/- spec_clGood -/
theorem clGood_ev (a : List (List Int)) (ha : a.length ≤ maxLen) (hb : ∀ x ∈ a, x.length ≤ maxLen) (l : List Int) (hl : l.length ≤ maxLen) : Ev (fun k => spec_clGood.f k a l) (arcsOk a && (asc l a.length && isClo a l)) := by
  unfold spec_clGood.f
  refine Ev.bind (clBlocks_ev a ha hb l hl) (ev_ite (fun h => ?_) (fun h => ?_))
  · rw [Bool.and_eq_true] at h
    rw [h.1, h.2, Bool.true_and, Bool.true_and]
    exact ev_id (clIs_ev a (arcsOk_iff.1 h.1) l h.2)
  · rw [Bool.not_eq_true] at h; rw [← Bool.and_assoc, h, Bool.false_and]; exact ev_some rfl

/- spec_clList -/
theorem clList_l0 (m : List Bool) (hm : m.length ≤ 1048576) : ∀ (d i : Nat), i + d = m.length → Ev (fun k => spec_clList.l0 k (foldR (putAt m) 0 i []) m (m.length : Int) (i : Int)) (listOf m) := by
  intro d
  induction d with
  | zero =>
    intro i hi
    obtain rfl : i = m.length := by omega
    exact Ev.step (fun k => spec_clList.l0.eq_2 _ m m.length m.length k) (ev_neg (by omega) (ev_some rfl))
  | succ d ih =>
    intro i hi
    have ih := ih (i + 1) (by omega)
    rw [foldR_last (Nat.zero_le _)] at ih
    have hlen := putAt_len (m := m) i
    refine Ev.step (fun k => spec_clList.l0.eq_2 _ m m.length i k) ?_
    rw [w_succ (n := m.length) (by omega) (by omega), rdB]
    unfold at_
    rw [toNat_nat]
    refine ev_pos (by omega) (ev_pos (by omega) (ev_pos (by omega) (ev_ite (fun h => ?_) (fun h => ?_))))
    · rw [show putAt m (foldR (putAt m) 0 i []) i = foldR (putAt m) 0 i [] ++ [(i : Int)] from if_pos h] at ih
      exact ev_pos (by omega) ih
    · rw [show putAt m (foldR (putAt m) 0 i []) i = foldR (putAt m) 0 i [] from if_neg h] at ih
      exact ih
theorem clList_ev (m : List Bool) (hm : m.length ≤ 1048576) : Ev (fun k => spec_clList.f k m) (listOf m) := by
  unfold spec_clList.f
  have := clList_l0 m hm m.length 0 (by omega)
  rwa [foldR_end (Nat.le_refl _)] at this

/- impl_areBlocks -/
theorem areBlocks_l0 (l : List Int) (hl : l.length ≤ maxLen) (n : Int) : ∀ (d i : Nat), i + d = l.length → Ev (fun k => impl_areBlocks.l0 k l n l (l.length : Int) (i : Int)) (allR (ascAt l n) i l.length) := by
  have hl := maxLen_le hl
  intro d
  induction d with
  | zero =>
    intro i hi
    exact Ev.step (fun k => impl_areBlocks.l0.eq_2 l n l l.length i k) (ev_neg (by omega) (ev_some (allR_end (by omega)).symm))
  | succ d ih =>
    intro i hi
    refine Ev.step (fun k => impl_areBlocks.l0.eq_2 l n l l.length i k) ?_
    rw [allR_step (by omega), w_succ (n := l.length) (by omega) (by omega), rd_nat]
    refine ev_pos (by omega) (ev_pos (by omega) (ev_pos (by omega) ?_))
    have no : ¬ (0 ≤ l.getD i 0 ∧ l.getD i 0 < n ∧ (0 < i → l.getD (i - 1) 0 < l.getD i 0)) → false = (ascAt l n i && allR (ascAt l n) (i + 1) l.length) := by
      intro h
      have : ascAt l n i = false := by unfold ascAt; simp only [decide_eq_false_iff_not]; exact h
      rw [this]; rfl
    have yes : (0 ≤ l.getD i 0 ∧ l.getD i 0 < n ∧ (0 < i → l.getD (i - 1) 0 < l.getD i 0)) → Ev (fun k => impl_areBlocks.l0 k l n l (l.length : Int) ((i + 1 : Nat) : Int)) (ascAt l n i && allR (ascAt l n) (i + 1) l.length) := by
      intro h
      have : ascAt l n i = true := by unfold ascAt; simp only [decide_eq_true_eq]; exact h
      rw [this]; exact ih (i + 1) (by omega)
    refine ev_ite (fun h => ev_some (no (by omega))) (fun h => ?_)
    refine ev_ite (fun h1 => ev_some (no (by omega))) (fun h1 => ?_)
    refine ev_ite (fun h0 => ?_) (fun h0 => yes ⟨by omega, by omega, fun _ => by omega⟩)
    rw [w64 (x := (i : Int) - 1) (by omega) (by omega), show (i : Int) - 1 = ((i - 1 : Nat) : Int) by omega, rd_nat]
    refine ev_pos (by omega) (ev_pos (by omega) ?_)
    refine ev_ite (fun h2 => ev_some (no (fun hc => by have := hc.2.2 (by omega); omega))) (fun h2 => yes ⟨by omega, by omega, fun _ => by omega⟩)
theorem areBlocks_ev (l : List Int) (hl : l.length ≤ maxLen) (n : Int) : Ev (fun k => impl_areBlocks.f k l n) (asc l n) := by
  unfold impl_areBlocks.f asc
  exact areBlocks_l0 l hl n l.length 0 (by omega)

/- impl_AreArcs -/
theorem AreArcs_l0 (a : List (List Int)) (hl : a.length ≤ maxLen) (hb : ∀ x ∈ a, x.length ≤ maxLen) : ∀ (d i : Nat), i + d = a.length →
    Ev (fun k => impl_AreArcs.l0 k a (a.length : Int) (i : Int)) (allR (fun i => asc (a.getD i []) i) i a.length) := by
  have hl := maxLen_le hl
  intro d
  induction d with
  | zero =>
    intro i hi
    exact Ev.step (fun k => impl_AreArcs.l0.eq_2 a a.length i k) (ev_neg (by omega) (ev_some (allR_end (by omega)).symm))
  | succ d ih =>
    intro i hi
    refine Ev.step (fun k => impl_AreArcs.l0.eq_2 a a.length i k) ?_
    have hx : rd_L1 a (i : Int) = a.getD i [] := by unfold rd_L1; rw [toNat_nat]
    have hmem : a.getD i [] ∈ a := by
      rw [List.getD_eq_getElem?_getD, List.getElem?_eq_getElem (by omega)]; exact List.getElem_mem _
    rw [allR_step (by omega), w_succ (n := a.length) (by omega) (by omega), hx]
    refine ev_pos (by omega) (ev_pos (by omega) (ev_pos (by omega) (Ev.bind (areBlocks_ev _ (hb _ hmem) _) ?_)))
    refine ev_ite (fun h => ?_) (fun h => ?_)
    · rw [h, Bool.true_and]; exact ih (i + 1) (by omega)
    · rw [Bool.not_eq_true] at h; rw [h, Bool.false_and]; exact ev_some rfl
theorem AreArcs_ev (a : List (List Int)) (hl : a.length ≤ maxLen) (hb : ∀ x ∈ a, x.length ≤ maxLen) : Ev (fun k => impl_AreArcs.f k a) (arcsOk a) := by
  unfold impl_AreArcs.f arcsOk
  refine ev_ite (fun h => ?_) (fun h => ?_)
  · refine Ev.step (fun k => impl_AreArcs.j0.eq_2 a true k) (ev_pos rfl (ev_some ?_))
    rw [decide_eq_false (by omega), Bool.false_and]
  · refine Ev.step (fun k => impl_AreArcs.j0.eq_2 a _ k) (ev_ite (fun h1 => ev_some ?_) (fun h1 => ?_))
    · simp only [decide_eq_true_eq] at h1
      rw [decide_eq_false (by omega), Bool.false_and]
    · simp only [decide_eq_true_eq] at h1
      rw [decide_eq_true (by omega), Bool.true_and]; exact AreArcs_l0 a hl hb a.length 0 (by omega)

/- impl_markOf -/
theorem markOf_l0 (l : List Int) (hl : l.length ≤ maxLen) : ∀ (d i : Nat) (m : List Bool), i + d = l.length → (∀ x ∈ l, 0 ≤ x ∧ x < m.length) → Ev (fun k => impl_markOf.l0 k m l (l.length : Int) (i : Int)) (foldR (setAt l) i l.length m) := by
  have hl := maxLen_le hl
  intro d
  induction d with
  | zero =>
    intro i m hi hm
    exact Ev.step (fun k => impl_markOf.l0.eq_2 m l l.length i k) (ev_neg (by omega) (ev_some (foldR_end (by omega)).symm))
  | succ d ih =>
    intro i m hi hm
    refine Ev.step (fun k => impl_markOf.l0.eq_2 m l l.length i k) ?_
    have hx := hm _ (getD_mem (z := 0) (show i < l.length by omega))
    rw [foldR_step (by omega), w_succ (n := l.length) (by omega) (by omega), rd_nat]
    refine ev_pos (by omega) (ev_pos (by omega) (ev_pos (by omega) (ev_pos (by omega) (ev_pos (by omega) ?_))))
    exact ih (i + 1) _ (by omega) (by intro x h; have := hm x h; simpa using this)
theorem markOf_ev (n : Nat) (hn : n ≤ 1048576) (l : List Int) (hl : l.length ≤ maxLen) (h : ∀ x ∈ l, 0 ≤ x ∧ x < n) : Ev (fun k => impl_markOf.f k (n : Int) l) (mk n l) := by
  unfold impl_markOf.f mk setAll
  refine ev_pos (by omega) (ev_pos (by omega) ?_)
  rw [toNat_nat]
  exact markOf_l0 l hl l.length 0 _ (by omega) (by simpa using h)

/- impl_allIn -/
theorem allIn_l0 (m : List Bool) (l : List Int) (hl : l.length ≤ maxLen) (hm : ∀ x ∈ l, 0 ≤ x ∧ x < m.length) : ∀ (d i : Nat), i + d = l.length → Ev (fun k => impl_allIn.l0 k m l (l.length : Int) (i : Int)) (allR (inAt m l) i l.length) := by
  have hl := maxLen_le hl
  intro d
  induction d with
  | zero =>
    intro i hi
    exact Ev.step (fun k => impl_allIn.l0.eq_2 m l l.length i k) (ev_neg (by omega) (ev_some (allR_end (by omega)).symm))
  | succ d ih =>
    intro i hi
    refine Ev.step (fun k => impl_allIn.l0.eq_2 m l l.length i k) ?_
    have hx := hm _ (getD_mem (z := 0) (show i < l.length by omega))
    rw [allR_step (by omega), w_succ (n := l.length) (by omega) (by omega), rd_nat, rdB]
    refine ev_pos (by omega) (ev_pos (by omega) (ev_pos (by omega) (ev_pos (by omega) (ev_pos (by omega) ?_))))
    refine ev_ite (fun h => ?_) (fun h => ?_)
    · rw [show inAt m l i = true from h, Bool.true_and]; exact ih (i + 1) (by omega)
    · rw [Bool.not_eq_true] at h; rw [show inAt m l i = false from h, Bool.false_and]; exact ev_some rfl
theorem allIn_ev (m : List Bool) (l : List Int) (hl : l.length ≤ maxLen) (hm : ∀ x ∈ l, 0 ≤ x ∧ x < m.length) : Ev (fun k => impl_allIn.f k m l) (allIn m l) := by
  unfold impl_allIn.f allIn
  exact allIn_l0 m l hl hm l.length 0 (by omega)

/- impl_isClosure -/
theorem isClosure_l0 (a : List (List Int)) (ha : Arcs a) (m : List Bool) (hm : m.length = a.length) (l : List Int) (hl : asc l a.length = true) : ∀ (d i : Nat), i + d = l.length → Ev (fun k => impl_isClosure.l0 k a m l (l.length : Int) (i : Int)) (allR (cloAt a m l) i l.length) := by
  have h1 := asc_len hl
  have h2 := ha.le
  intro d
  induction d with
  | zero =>
    intro i hi
    exact Ev.step (fun k => impl_isClosure.l0.eq_2 a m l l.length i k) (ev_neg (by omega) (ev_some (allR_end (by omega)).symm))
  | succ d ih =>
    intro i hi
    refine Ev.step (fun k => impl_isClosure.l0.eq_2 a m l l.length i k) ?_
    have hx := asc_at hl (show i < l.length by omega)
    rw [allR_step (by omega), w_succ (n := l.length) (by omega) (by omega), rd_nat, rdL1']
    refine ev_pos (by omega) (ev_pos (by omega) (ev_pos (by omega) (ev_pos (by omega) (ev_pos (by omega) ?_))))
    have hlen := ha.len (l.getD i 0).toNat
    refine Ev.bind (allIn_ev m _ (maxLen_val (by omega)) (fun x hx => by have := ha.down hx; omega)) ?_
    refine ev_ite (fun h => ?_) (fun h => ?_)
    · rw [show cloAt a m l i = true from h, Bool.true_and]; exact ih (i + 1) (by omega)
    · rw [Bool.not_eq_true] at h; rw [show cloAt a m l i = false from h, Bool.false_and]; exact ev_some rfl
theorem isClosure_ev (a : List (List Int)) (ha : Arcs a) (l : List Int) (hl : asc l a.length = true) : Ev (fun k => impl_isClosure.f k a l) (isClo a l) := by
  have h1 := asc_len hl
  have h2 := ha.le
  unfold impl_isClosure.f isClo
  exact Ev.bind (markOf_ev a.length (by omega) l (maxLen_val (by omega)) (fun x hx => asc_mem hl hx)) (isClosure_l0 a ha _ mk_len l hl l.length 0 (by omega))

/- impl_arePits -/
def pitAt (a : List (List Int)) (Ls : List (List Int)) (j : Nat) : Bool := asc (Ls.getD j []) a.length && isClo a (Ls.getD j [])
theorem arePits_l0 (a : List (List Int)) (ha : Arcs a) (Ls : List (List Int)) (hl : Ls.length ≤ 1048576) (hb : ∀ x ∈ Ls, x.length ≤ maxLen) : ∀ (d i : Nat), i + d = Ls.length → Ev (fun k => impl_arePits.l0 k a Ls (Ls.length : Int) (i : Int)) (allR (pitAt a Ls) i Ls.length) := by
  intro d
  induction d with
  | zero =>
    intro i hi
    exact Ev.step (fun k => impl_arePits.l0.eq_2 a Ls Ls.length i k) (ev_neg (by omega) (ev_some (allR_end (by omega)).symm))
  | succ d ih =>
    intro i hi
    refine Ev.step (fun k => impl_arePits.l0.eq_2 a Ls Ls.length i k) ?_
    rw [allR_step (by omega), w_succ (n := Ls.length) (by omega) (by omega), rdL1]
    refine ev_pos (by omega) (ev_pos (by omega) (ev_pos (by omega) (Ev.bind (areBlocks_ev _ (hb _ (getD_mem (by omega))) _) ?_)))
    refine ev_ite (fun h => ?_) (fun h => ?_)
    · refine Ev.bind (isClosure_ev a ha _ h) (ev_ite (fun h1 => ?_) (fun h1 => ?_))
      · rw [show pitAt a Ls i = true by unfold pitAt; rw [h, h1]; rfl, Bool.true_and]; exact ih (i + 1) (by omega)
      · rw [Bool.not_eq_true] at h1; rw [show pitAt a Ls i = false by unfold pitAt; rw [h1, Bool.and_false], Bool.false_and]; exact ev_some rfl
    · rw [Bool.not_eq_true] at h; rw [show pitAt a Ls i = false by unfold pitAt; rw [h, Bool.false_and], Bool.false_and]; exact ev_some rfl
theorem arePits_ev (a : List (List Int)) (ha : a.length ≤ maxLen) (hb : ∀ x ∈ a, x.length ≤ maxLen) (Ls : List (List Int)) (hl : Ls.length ≤ 1048576) (hbl : ∀ x ∈ Ls, x.length ≤ maxLen) : Ev (fun k => impl_arePits.f k a Ls) (arcsOk a && allR (pitAt a Ls) 0 Ls.length) := by
  unfold impl_arePits.f
  refine Ev.bind (AreArcs_ev a ha hb) (ev_ite (fun h => ?_) (fun h => ?_))
  · rw [h, Bool.true_and]; exact arePits_l0 a (arcsOk_iff.1 h) Ls hl hbl Ls.length 0 (by omega)
  · rw [Bool.not_eq_true] at h; rw [h, Bool.false_and]; exact ev_some rfl
theorem arePits1_ev (a : List (List Int)) (ha : a.length ≤ maxLen) (hb : ∀ x ∈ a, x.length ≤ maxLen) (l : List Int) (hl : l.length ≤ maxLen) : Ev (fun k => impl_arePits.f k a [l]) (arcsOk a && (asc l a.length && isClo a l)) := by
  have := arePits_ev a ha hb [l] (by simp) (fun x hx => by rw [List.mem_singleton] at hx; subst hx; exact hl)
  rw [show [l].length = 1 from rfl, allR_step (i := 0) (by omega), allR_end (i := 0 + 1) (by omega), Bool.and_true] at this
  exact this
theorem arePits2_ev (a : List (List Int)) (ha : a.length ≤ maxLen) (hb : ∀ x ∈ a, x.length ≤ maxLen) (l m : List Int) (hl : l.length ≤ maxLen) (hm : m.length ≤ maxLen) : Ev (fun k => impl_arePits.f k a [l, m]) (arcsOk a && ((asc l a.length && isClo a l) && (asc m a.length && isClo a m))) := by
  have := arePits_ev a ha hb [l, m] (by simp) (fun x hx => by
    simp only [List.mem_cons, List.not_mem_nil, or_false] at hx
    rcases hx with rfl | rfl
    · exact hl
    · exact hm)
  rw [show [l, m].length = 2 from rfl, allR_step (i := 0) (by omega), allR_step (i := 0 + 1) (by omega), allR_end (i := 0 + 1 + 1) (by omega), Bool.and_true] at this
  exact this

/- hand.FnExactLastBlocks -/
def lastB (a : List (List Int)) (l : List Int) : List Int × Bool := if goodC a l then (listOf (clrM a l), true) else ([], false)
theorem sLast_l1 (a : List (List Int)) (l : List Int) (n i : Int) (r : List Int) (hr : r.length ≤ 120) (q : List Int × Bool) : ∀ (d j : Nat) (m : List Bool), j + d = r.length → (∀ x ∈ r, 0 ≤ x ∧ x < m.length) →
    Ev (fun k => spec_LastBlocks.l0 k a (foldR (clrAt r) j r.length m) l n (wrap64 (i + 1))) q → Ev (fun k => spec_LastBlocks.l1 k a m l n i r (r.length : Int) (j : Int)) q := by
  intro d
  induction d with
  | zero =>
    intro j m hj hm hq
    rw [foldR_end (by omega)] at hq
    exact Ev.step (fun k => spec_LastBlocks.l1.eq_2 a m l n i r r.length j k) (ev_neg (by omega) hq)
  | succ d ih =>
    intro j m hj hm hq
    refine Ev.step (fun k => spec_LastBlocks.l1.eq_2 a m l n i r r.length j k) ?_
    have hx := hm _ (getD_mem (z := 0) (show j < r.length by omega))
    rw [foldR_step (by omega)] at hq
    rw [w_succ (n := r.length) (by omega) (by omega), rd_nat]
    refine ev_pos (by omega) (ev_pos (by omega) (ev_pos (by omega) (ev_pos (by omega) (ev_pos (by omega) ?_))))
    exact ih (j + 1) _ (by omega) (by intro x h; have := hm x h; simpa using this) hq
theorem sLast_l0 (a : List (List Int)) (ha : Arcs a) (l : List Int) (hl : asc l a.length = true) : ∀ (d i : Nat) (m : List Bool), i + d = l.length → m.length = a.length → Ev (fun k => spec_LastBlocks.l0 k a m l (l.length : Int) (i : Int)) (listOf (foldR (clrStep a l) i l.length m), true) := by
  have hle := ha.le
  have hll := asc_len hl
  intro d
  induction d with
  | zero =>
    intro i m hi hm
    refine Ev.step (fun k => spec_LastBlocks.l0.eq_2 a m l l.length i k) (ev_neg (by omega) ?_)
    rw [foldR_end (by omega)]
    exact Ev.bind (clList_ev m (by omega)) (ev_some rfl)
  | succ d ih =>
    intro i m hi hm
    have hx := asc_at hl (show i < l.length by omega)
    have ih := ih (i + 1) (clrStep a l m i) (by omega) (by unfold clrStep; rw [clr_len]; exact hm)
    refine Ev.step (fun k => spec_LastBlocks.l0.eq_2 a m l l.length i k) ?_
    rw [foldR_step (by omega), rd_nat, rdL1']
    refine ev_pos (by omega) (ev_pos (by omega) (ev_pos (by omega) (ev_pos (by omega) (ev_pos (by omega) ?_))))
    refine sLast_l1 a l l.length i (rowOf a l i) (ha.len _) _ (rowOf a l i).length 0 m (by omega) (fun x hx' => by have := ha.down hx'; omega) ?_
    rw [w_succ (n := l.length) (by omega) (by omega)]
    exact ih
theorem sLast_ev (a : List (List Int)) (ha : a.length ≤ maxLen) (hb : ∀ x ∈ a, x.length ≤ maxLen) (l : List Int) (hl : l.length ≤ 1048576) : Ev (fun k => spec_LastBlocks.f k a l) (lastB a l) := by
  unfold spec_LastBlocks.f lastB
  refine Ev.bind (clGood_ev a ha hb l (maxLen_val (by omega))) (ev_ite (fun h => ?_) (fun h => ?_))
  · have hg := goodC_iff.1 h
    have hle := hg.1.le
    rw [if_pos (show goodC a l = true from h)]
    exact Ev.bind (clMarks_ev a.length (by omega) l (maxLen_val (by omega)) (fun x hx => asc_mem hg.2.1 hx)) (sLast_l0 a hg.1 l hg.2.1 l.length 0 _ (by omega) mk_len)
  · rw [if_neg (show ¬ goodC a l = true from h)]; exact ev_some rfl
theorem iLast_l2 (m : List Bool) (l : List Int) (hl : l.length ≤ 1048576) (hm : ∀ x ∈ l, 0 ≤ x ∧ x < m.length) : ∀ (d i : Nat), i + d = l.length → Ev (fun k => impl_LastBlocks.l2 k m (foldR (keepAt (fun x => !(at_ m x)) l) 0 i []) l (l.length : Int) (i : Int)) (l.filter (fun x => !(at_ m x)), true) := by
  intro d
  induction d with
  | zero =>
    intro i hi
    obtain rfl : i = l.length := by omega
    refine Ev.step (fun k => impl_LastBlocks.l2.eq_2 m _ l l.length l.length k) (ev_neg (by omega) (ev_some ?_))
    rw [keepAt_filter _ _ _ (Nat.le_refl _), List.take_length]
  | succ d ih =>
    intro i hi
    have ih := ih (i + 1) (by omega)
    rw [foldR_last (Nat.zero_le _)] at ih
    have hlen := keepAt_len (fun x => !(at_ m x)) l i (by omega)
    have hx := hm _ (getD_mem (z := 0) (show i < l.length by omega))
    refine Ev.step (fun k => impl_LastBlocks.l2.eq_2 m _ l l.length i k) ?_
    rw [w_succ (n := l.length) (by omega) (by omega), rd_nat, rdB]
    unfold keepAt at ih hlen ⊢
    refine ev_pos (by omega) (ev_pos (by omega) (ev_pos (by omega) (ev_pos (by omega) (ev_pos (by omega) (ev_ite (fun h => ?_) (fun h => ?_))))))
    · rw [if_neg (by show ¬ ((!(at_ m (l.getD i 0))) = true); rw [h]; simp)] at ih; exact ih
    · rw [if_pos (by show (!(at_ m (l.getD i 0))) = true; rw [Bool.not_eq_true] at h; rw [h]; rfl)] at ih; exact ev_pos (by omega) ih
theorem iLast_l1 (a : List (List Int)) (l : List Int) (n i : Int) (r : List Int) (hr : r.length ≤ 120) (q : List Int × Bool) : ∀ (d j : Nat) (m : List Bool), j + d = r.length → (∀ x ∈ r, 0 ≤ x ∧ x < m.length) →
    Ev (fun k => impl_LastBlocks.l0 k a l (foldR (setAt r) j r.length m) l n (wrap64 (i + 1))) q → Ev (fun k => impl_LastBlocks.l1 k a l m l n i r (r.length : Int) (j : Int)) q := by
  intro d
  induction d with
  | zero =>
    intro j m hj hm hq
    rw [foldR_end (by omega)] at hq
    exact Ev.step (fun k => impl_LastBlocks.l1.eq_2 a l m l n i r r.length j k) (ev_neg (by omega) hq)
  | succ d ih =>
    intro j m hj hm hq
    refine Ev.step (fun k => impl_LastBlocks.l1.eq_2 a l m l n i r r.length j k) ?_
    have hx := hm _ (getD_mem (z := 0) (show j < r.length by omega))
    rw [foldR_step (by omega)] at hq
    rw [w_succ (n := r.length) (by omega) (by omega), rd_nat]
    refine ev_pos (by omega) (ev_pos (by omega) (ev_pos (by omega) (ev_pos (by omega) (ev_pos (by omega) ?_))))
    exact ih (j + 1) _ (by omega) (by intro x h; have := hm x h; simpa using this) hq
theorem iLast_l0 (a : List (List Int)) (ha : Arcs a) (l : List Int) (hl : asc l a.length = true) : ∀ (d i : Nat) (m : List Bool), i + d = l.length → m.length = a.length → Ev (fun k => impl_LastBlocks.l0 k a l m l (l.length : Int) (i : Int)) (l.filter (fun x => !(at_ (foldR (needStep a l) i l.length m) x)), true) := by
  have hle := ha.le
  have hll := asc_len hl
  intro d
  induction d with
  | zero =>
    intro i m hi hm
    refine Ev.step (fun k => impl_LastBlocks.l0.eq_2 a l m l l.length i k) (ev_neg (by omega) ?_)
    rw [foldR_end (by omega)]
    have := iLast_l2 m l (by omega) (fun x hx => by have := asc_mem hl hx; omega) l.length 0 (by omega)
    rwa [foldR_end (Nat.le_refl _)] at this
  | succ d ih =>
    intro i m hi hm
    have hx := asc_at hl (show i < l.length by omega)
    have ih := ih (i + 1) (needStep a l m i) (by omega) (by unfold needStep; rw [setAll_len]; exact hm)
    refine Ev.step (fun k => impl_LastBlocks.l0.eq_2 a l m l l.length i k) ?_
    rw [foldR_step (by omega), rd_nat, rdL1']
    refine ev_pos (by omega) (ev_pos (by omega) (ev_pos (by omega) (ev_pos (by omega) (ev_pos (by omega) ?_))))
    refine iLast_l1 a l l.length i (rowOf a l i) (ha.len _) _ (rowOf a l i).length 0 m (by omega) (fun x hx' => by have := ha.down hx'; omega) ?_
    rw [w_succ (n := l.length) (by omega) (by omega)]
    exact ih
theorem iLast_ev (a : List (List Int)) (ha : a.length ≤ maxLen) (hb : ∀ x ∈ a, x.length ≤ maxLen) (l : List Int) (hl : l.length ≤ 1048576) : Ev (fun k => impl_LastBlocks.f k a l) (lastB a l) := by
  unfold impl_LastBlocks.f lastB
  refine Ev.bind (arePits1_ev a ha hb l (maxLen_val (by omega))) (ev_ite (fun h => ?_) (fun h => ?_))
  · have hg := goodC_iff.1 h
    have hle := hg.1.le
    rw [if_pos (show goodC a l = true from h), toNat_nat]
    refine ev_pos (by omega) (ev_pos (by omega) ?_)
    have := iLast_l0 a hg.1 l hg.2.1 l.length 0 (List.replicate a.length false) (by omega) (by simp)
    rw [show foldR (needStep a l) 0 l.length (List.replicate a.length false) = needM a l from rfl, last_eq hg.1 hg.2.1] at this
    exact this
  · rw [if_neg (show ¬ goodC a l = true from h)]; exact ev_some rfl
theorem both (a : List (List Int)) (l : List Int) (ha : a.length ≤ 1048576) (hb : ∀ x ∈ a, x.length ≤ 1048576) (hl : l.length ≤ 1048576) :
    ∃ r : List Int × Bool, Ev (fun k => spec_LastBlocks.f k a l) r ∧ Ev (fun k => impl_LastBlocks.f k a l) r ∧ r.1.length ≤ 1048576 := by
  refine ⟨lastB a l, sLast_ev a (maxLen_val (by omega)) (fun x hx => maxLen_val (by have := hb x hx; omega)) l hl, iLast_ev a (maxLen_val (by omega)) (fun x hx => maxLen_val (by have := hb x hx; omega)) l hl, ?_⟩
  unfold lastB
  split
  · rename_i h
    have hg := goodC_iff.1 h
    rw [← last_eq hg.1 hg.2.1]
    have := List.length_filter_le (fun x => !(at_ (needM a l) x)) l
    show (l.filter (fun x => !(at_ (needM a l) x))).length ≤ _
    omega
  · simp

set_option maxHeartbeats 4000000 in
set_option maxRecDepth 100000 in
theorem walk (a0 : List (List Int)) (a1 : List Int) (Aa0 : Option Addr) (ca0 : Nat) (Aa1 : Option Addr) (ca1 : Nat) (w : World) (hra0 : Kd.C kSS w Aa0 a0.length a0) (hca0 : a0.length ≤ ca0) (hra1 : Kd.C (Kd.int .i64) w Aa1 a1.length a1) (hca1 : a1.length ≤ ca1) (r : Int) (hsz : ∀ (A : Option Addr) (c : Nat) (w : World), Kd.C kSS w A a0.length a0 → a0.length ≤ c → Calls Try.prog 15 #[.slice A a0.length c, .int .i64 1048576] w fun e w' => e = .returned (.int .i64 r) ∧ Below w.heap.size w w') (hlt : ¬ r < 0) (g0 : List Int) (g1 : Bool) (hla0 : a0.length ≤ 1048576) (hba0 : ∀ x ∈ a0, x.length ≤ 1048576) (hla1 : a1.length ≤ 1048576) (hlg0 : g0.length ≤ 1048576)  (hs : ∃ k, spec_LastBlocks.f k a0 a1 = some (g0, g1)) (hi : ∃ k, impl_LastBlocks.f k a0 a1 = some (g0, g1)) :
    Calls Try.prog 10 #[.slice Aa0 a0.length ca0, .slice Aa1 a1.length ca1] w fun e w' => e = .returned (.bool true) ∧ Below w.heap.size w w' := by
  obtain ⟨ks, hs⟩ := hs
  obtain ⟨ki, hi⟩ := hi
  have Hs := Aside0.mk hs
  have Hi := Aside0.mk hi
  have HRa0 := Aside0.mk hra0
  have HCa0 := Aside0.mk hca0
  have HLa0 := Aside0.mk hla0
  have HBa0 := Aside0.mk hba0
  have HRa1 := Aside0.mk hra1
  have HCa1 := Aside0.mk hca1
  have HLa1 := Aside0.mk hla1
  have xa1 : decide (1048576 < (a1.length : Int)) = false := decide_eq_false (by omega)
  have ya1 : decide (1048576 < a1.length) = false := decide_eq_false (by omega)
  have HLg0 := Aside0.mk hlg0
  have HSZ := Aside0.mk hsz
  have d1 : decide (r < 0) = false := decide_eq_false hlt
  clear hs hi hra0 hca0 hla0 hba0 hra1 hca1 hla1 hlg0 hsz hlt
  go_enter Try.func10, Try.ntmps10
  go_wp2_with fail
  refine (HSZ.out Aa0 ca0 w HRa0.out HCa0.out).mono ?_
  rintro e w1 ⟨rfl, hb⟩
  have B1 := Aside0.mk hb
  have z1 := hb.size
  clear hb
  go_wp2_with fail
  refine (toIntSS_calls a0 HLa0.out HBa0.out Aa0 ca0 w1 (Kd.C_below HRa0.out B1.out) HCa0.out).mono ?_
  rintro e w2 ⟨v, rfl, ho, hb⟩
  have B2 := Aside0.mk (below_step B1.out hb)
  have z2 := hb.size
  obtain ⟨At0_2, ct0_2, rfl⟩ := Kd.S_slice ho
  have Ft0_2 := Aside0.mk (ivS (w := w) ho (by omega))
  clear ho
  clear hb
  go_wp2_with fail
  refine (toIntS_calls a1 (by have := HLa1.out; omega) Aa1 ca1 w2 (Kd.C_below HRa1.out B2.out) HCa1.out).mono ?_
  rintro e w3 ⟨v, rfl, ho, hb⟩
  have B3 := Aside0.mk (below_step B2.out hb)
  have z3 := hb.size
  obtain ⟨At1_3, ct1_3, rfl⟩ := Kd.R_slice ho
  have Ft1_3 := Aside0.mk (ivR (w := w) ho (by omega))
  clear ho
  have Ft0_3 := Aside0.mk (Kd.S_below Ft0_2.out hb)
  clear Ft0_2
  clear hb
  go_wp2_with fail
  refine (spec_LastBlocks.calls ks At0_2 ct0_2 a0 At1_3 ct1_3 a1 g0 g1 w3 (readsS Ft0_3.out).2.2 (readsS Ft0_3.out).2.1 (readsR Ft1_3.out).2.2 (readsR Ft1_3.out).2.1 Hs.out).mono ?_
  rintro e w4 ⟨v, rfl, ho, hb⟩
  have ho := Kd.R_mono ho (ok' := fun _ => True) (fun _ _ => trivial)
  have B4 := Aside0.mk (below_step B3.out hb)
  have z4 := hb.size
  obtain ⟨Aw0_4, cw0_4, rfl⟩ := Kd.R_slice ho
  have Fw0_4 := Aside0.mk (ivR (w := w) ho (by omega))
  clear ho
  have Ft0_4 := Aside0.mk (Kd.S_below Ft0_3.out hb)
  clear Ft0_3
  have Ft1_4 := Aside0.mk (Kd.R_below Ft1_3.out hb)
  clear Ft1_3
  clear hb
  go_wp2_with fail
  refine (toIntSS_calls a0 HLa0.out HBa0.out Aa0 ca0 w4 (Kd.C_below HRa0.out B4.out) HCa0.out).mono ?_
  rintro e w5 ⟨v, rfl, ho, hb⟩
  have B5 := Aside0.mk (below_step B4.out hb)
  have z5 := hb.size
  obtain ⟨Ax0_5, cx0_5, rfl⟩ := Kd.S_slice ho
  have Fx0_5 := Aside0.mk (ivS (w := w) ho (by omega))
  clear ho
  have Fw0_5 := Aside0.mk (Kd.R_below Fw0_4.out hb)
  clear Fw0_4
  clear hb
  go_wp2_with fail
  refine (toIntS_calls a1 (by have := HLa1.out; omega) Aa1 ca1 w5 (Kd.C_below HRa1.out B5.out) HCa1.out).mono ?_
  rintro e w6 ⟨v, rfl, ho, hb⟩
  have B6 := Aside0.mk (below_step B5.out hb)
  have z6 := hb.size
  obtain ⟨Ax1_6, cx1_6, rfl⟩ := Kd.R_slice ho
  have Fx1_6 := Aside0.mk (ivR (w := w) ho (by omega))
  clear ho
  have Fw0_6 := Aside0.mk (Kd.R_below Fw0_5.out hb)
  clear Fw0_5
  have Fx0_6 := Aside0.mk (Kd.S_below Fx0_5.out hb)
  clear Fx0_5
  clear hb
  go_wp2_with fail
  refine (impl_LastBlocks.calls ki Ax0_5 cx0_5 a0 (Btw w5 w6) Ax1_6 cx1_6 a1 g0 g1 w6 (readsS Fx0_6.out).2.2 (readsS Fx0_6.out).2.1 (Kd.R_V Fx1_6.out) Hi.out).mono ?_
  rintro e w7 ⟨v, rfl, ho, hb⟩
  have ho := Kd.R_mono ho (ok' := fun _ => True) (fun _ _ => trivial)
  have B7 := Aside0.mk (below_step B6.out hb)
  have z7 := hb.size
  obtain ⟨Ag0_7, cg0_7, rfl⟩ := Kd.R_slice ho
  have Fg0_7 := Aside0.mk (ivR (w := w) ho (by omega))
  clear ho
  have Fw0_7 := Aside0.mk (Kd.R_below Fw0_6.out hb)
  clear Fw0_6
  have Fx0_7 := Aside0.mk (Kd.S_below Fx0_6.out hb)
  clear Fx0_6
  have Fx1_7 := Aside0.mk (Kd.R_below Fx1_6.out hb)
  clear Fx1_6
  clear hb
  go_wp2_with fail
  refine (eqIntS_calls g0 (maxLen_val (by have := HLg0.out; omega)) Ag0_7 Aw0_4 cg0_7 cw0_4 w7 (readsR Fg0_7.out).2.2 (readsR Fg0_7.out).2.1 (readsR Fw0_7.out).2.2 (readsR Fw0_7.out).2.1).mono ?_
  rintro e w8 ⟨rfl, hb⟩
  have B8 := Aside0.mk (below_step B7.out hb)
  have z8 := hb.size
  have Fw0_8 := Aside0.mk (Kd.R_below Fw0_7.out hb)
  clear Fw0_7
  have Fx0_8 := Aside0.mk (Kd.S_below Fx0_7.out hb)
  clear Fx0_7
  have Fx1_8 := Aside0.mk (Kd.R_below Fx1_7.out hb)
  clear Fx1_7
  have Fg0_8 := Aside0.mk (Kd.R_below Fg0_7.out hb)
  clear Fg0_7
  clear hb
  go_wp2_with fail
  refine (toIntSS_calls a0 HLa0.out HBa0.out Aa0 ca0 w8 (Kd.C_below HRa0.out B8.out) HCa0.out).mono ?_
  rintro e w9 ⟨v, rfl, ho, hb⟩
  have B9 := Aside0.mk (below_step B8.out hb)
  have z9 := hb.size
  obtain ⟨Au_9, cu_9, rfl⟩ := Kd.S_slice ho
  have Fu_9 := Aside0.mk (ivS (w := w) ho (by omega))
  clear ho
  have Fw0_9 := Aside0.mk (Kd.R_below Fw0_8.out hb)
  clear Fw0_8
  have Fx0_9 := Aside0.mk (Kd.S_below Fx0_8.out hb)
  clear Fx0_8
  have Fx1_9 := Aside0.mk (Kd.R_below Fx1_8.out hb)
  clear Fx1_8
  have Fg0_9 := Aside0.mk (Kd.R_below Fg0_8.out hb)
  clear Fg0_8
  clear hb
  go_wp2_with fail
  refine (eqIntSS_calls a0 (maxLen_val (by have := HLa0.out; omega)) (fun x hx => maxLen_val (by have := HBa0.out x hx; omega)) Ax0_5 Au_9 cx0_5 cu_9 w9 (readsS Fx0_9.out).2.2 (readsS Fx0_9.out).2.1 (readsS Fu_9.out).2.2 (readsS Fu_9.out).2.1).mono ?_
  rintro e w10 ⟨rfl, hb⟩
  have B10 := Aside0.mk (below_step B9.out hb)
  have z10 := hb.size
  have Fw0_10 := Aside0.mk (Kd.R_below Fw0_9.out hb)
  clear Fw0_9
  have Fx0_10 := Aside0.mk (Kd.S_below Fx0_9.out hb)
  clear Fx0_9
  have Fx1_10 := Aside0.mk (Kd.R_below Fx1_9.out hb)
  clear Fx1_9
  have Fg0_10 := Aside0.mk (Kd.R_below Fg0_9.out hb)
  clear Fg0_9
  have Fu_10 := Aside0.mk (Kd.S_below Fu_9.out hb)
  clear Fu_9
  clear hb
  go_wp2_with fail
  refine (toIntS_calls a1 (by have := HLa1.out; omega) Aa1 ca1 w10 (Kd.C_below HRa1.out B10.out) HCa1.out).mono ?_
  rintro e w11 ⟨v, rfl, ho, hb⟩
  have B11 := Aside0.mk (below_step B10.out hb)
  have z11 := hb.size
  obtain ⟨Au_11, cu_11, rfl⟩ := Kd.R_slice ho
  have Fu_11 := Aside0.mk (ivR (w := w) ho (by omega))
  clear ho
  have Fw0_11 := Aside0.mk (Kd.R_below Fw0_10.out hb)
  clear Fw0_10
  have Fx0_11 := Aside0.mk (Kd.S_below Fx0_10.out hb)
  clear Fx0_10
  have Fx1_11 := Aside0.mk (Kd.R_below Fx1_10.out hb)
  clear Fx1_10
  have Fg0_11 := Aside0.mk (Kd.R_below Fg0_10.out hb)
  clear Fg0_10
  clear hb
  go_wp2_with fail
  refine (eqIntS_calls a1 (maxLen_val (by have := HLa1.out; omega)) Ax1_6 Au_11 cx1_6 cu_11 w11 (readsR Fx1_11.out).2.2 (readsR Fx1_11.out).2.1 (readsR Fu_11.out).2.2 (readsR Fu_11.out).2.1).mono ?_
  rintro e w12 ⟨rfl, hb⟩
  have B12 := Aside0.mk (below_step B11.out hb)
  have z12 := hb.size
  have Fw0_12 := Aside0.mk (Kd.R_below Fw0_11.out hb)
  clear Fw0_11
  have Fx0_12 := Aside0.mk (Kd.S_below Fx0_11.out hb)
  clear Fx0_11
  have Fx1_12 := Aside0.mk (Kd.R_below Fx1_11.out hb)
  clear Fx1_11
  have Fg0_12 := Aside0.mk (Kd.R_below Fg0_11.out hb)
  clear Fg0_11
  have Fu_12 := Aside0.mk (Kd.R_below Fu_11.out hb)
  clear Fu_11
  clear hb
  go_wp2_with fail
  refine (markIntSS_calls a0 HLa0.out HBa0.out 1 (by omega) (by have := HLa0.out; omega) (Btw w4 w5) (.slice Ax0_5 a0.length cx0_5) w w12 B12.out Fx0_12.out).mono ?_
  rintro e w13 ⟨rfl, ho, hb, hk⟩
  have z13 := hk.1
  have B13 := Aside0.mk hb
  have Fw0_13 := Aside0.mk (Kd.R_kept Fw0_12.out hk (apart (by omega)))
  clear Fw0_12
  have Fx1_13 := Aside0.mk (Kd.R_kept Fx1_12.out hk (apart (by omega)))
  clear Fx1_12
  have Fg0_13 := Aside0.mk (Kd.R_kept Fg0_12.out hk (apart (by omega)))
  clear Fg0_12
  have hbd := markAll_bd 1 a0 HBa0.out a0.length
  have hll := HLa0.out
  obtain ⟨m13, em13⟩ : ∃ z : Int, z = (markAll 1 a0 a0.length).1 := ⟨_, rfl⟩
  rw [← em13] at hbd ⊢
  have lm13 : 0 ≤ m13 ∧ m13 ≤ 1099511627777 := by omega
  have dm13 : decide (m13 < 0) = false := decide_eq_false (by omega)
  have Em13 := Aside0.mk em13
  have Lm13 := Aside0.mk lm13
  clear Fx0_12
  clear hb hk ho hll em13 lm13 hbd
  have lk := Lm13.out
  go_wp2_with fail
  refine (markIntS_calls a1 (by have := HLa1.out; omega) m13 (by omega) (Btw w5 w6) (.slice Ax1_6 a1.length cx1_6) w w13 B13.out Fx1_13.out).mono ?_
  rintro e w14 ⟨rfl, ho, hb, hk⟩
  have z14 := hk.1
  have B14 := Aside0.mk hb
  have Fw0_14 := Aside0.mk (Kd.R_kept Fw0_13.out hk (apart (by omega)))
  clear Fw0_13
  have Fg0_14 := Aside0.mk (Kd.R_kept Fg0_13.out hk (apart (by omega)))
  clear Fg0_13
  have hll := HLa1.out
  obtain ⟨m14, em14⟩ : ∃ z : Int, z = m13 + (a1.length : Int) := ⟨_, rfl⟩
  rw [← em14]
  have lm14 : 0 ≤ m14 ∧ m14 ≤ 1099520016385 := by omega
  have dm14 : decide (m14 < 0) = false := decide_eq_false (by omega)
  have Em14 := Aside0.mk em14
  have Lm14 := Aside0.mk lm14
  clear Fx1_13
  clear hb hk ho hll em14 lm14
  clear lk
  go_wp2_with fail
  refine (eqIntS_calls g0 (maxLen_val (by have := HLg0.out; omega)) Ag0_7 Aw0_4 cg0_7 cw0_4 w14 (readsR Fg0_14.out).2.2 (readsR Fg0_14.out).2.1 (readsR Fw0_14.out).2.2 (readsR Fw0_14.out).2.1).mono ?_
  rintro e w15 ⟨rfl, hb⟩
  have B15 := Aside0.mk (below_step B14.out hb)
  have z15 := hb.size
  have Fw0_15 := Aside0.mk (Kd.R_below Fw0_14.out hb)
  clear Fw0_14
  have Fg0_15 := Aside0.mk (Kd.R_below Fg0_14.out hb)
  clear Fg0_14
  clear hb
  go_wp2_with fail
  refine (markIntS_calls g0 (by have := HLg0.out; omega) 1 (by omega) (Btw w6 w7) (.slice Ag0_7 g0.length cg0_7) w w15 B15.out Fg0_15.out).mono ?_
  rintro e w16 ⟨rfl, ho, hb, hk⟩
  have z16 := hk.1
  have B16 := Aside0.mk hb
  have Fw0_16 := Aside0.mk (Kd.R_kept Fw0_15.out hk (apart (by omega)))
  clear Fw0_15
  have hll := HLg0.out
  obtain ⟨m16, em16⟩ : ∃ z : Int, z = 1 + (g0.length : Int) := ⟨_, rfl⟩
  rw [← em16]
  have lm16 : 0 ≤ m16 ∧ m16 ≤ 8388609 := by omega
  have dm16 : decide (m16 < 0) = false := decide_eq_false (by omega)
  have Em16 := Aside0.mk em16
  have Lm16 := Aside0.mk lm16
  have Fg0_16 := Aside0.mk ho
  clear Fg0_15
  clear hb hk ho hll em16 lm16
  go_wp2_with fail
  refine (heldIntS_calls g0.length (by have := HLg0.out; omega) 1 (by omega) Ag0_7 cg0_7 w16 (by have h := (readsR Fg0_16.out).2.2; rwa [markRow_len] at h) (by have h := (readsR Fg0_16.out).2.1; rwa [markRow_len] at h)).mono ?_
  rintro e w17 ⟨rfl, hb⟩
  have B17 := Aside0.mk (below_step B16.out hb)
  have z17 := hb.size
  have Fw0_17 := Aside0.mk (Kd.R_below Fw0_16.out hb)
  clear Fw0_16
  have Fg0_17 := Aside0.mk (Kd.R_below Fg0_16.out hb)
  clear Fg0_16
  rw [← Em16.out]
  clear hb
  go_wp2_with fail
  refine (toIntSS_calls a0 HLa0.out HBa0.out Aa0 ca0 w17 (Kd.C_below HRa0.out B17.out) HCa0.out).mono ?_
  rintro e w18 ⟨v, rfl, ho, hb⟩
  have B18 := Aside0.mk (below_step B17.out hb)
  have z18 := hb.size
  obtain ⟨At0_18, ct0_18, rfl⟩ := Kd.S_slice ho
  have Ft0_18 := Aside0.mk (ivS (w := w) ho (by omega))
  clear ho
  have Fw0_18 := Aside0.mk (Kd.R_below Fw0_17.out hb)
  clear Fw0_17
  have Fg0_18 := Aside0.mk (Kd.R_below Fg0_17.out hb)
  clear Fg0_17
  clear hb
  go_wp2_with fail
  refine (toIntS_calls a1 (by have := HLa1.out; omega) Aa1 ca1 w18 (Kd.C_below HRa1.out B18.out) HCa1.out).mono ?_
  rintro e w19 ⟨v, rfl, ho, hb⟩
  have B19 := Aside0.mk (below_step B18.out hb)
  have z19 := hb.size
  obtain ⟨At1_19, ct1_19, rfl⟩ := Kd.R_slice ho
  have Ft1_19 := Aside0.mk (ivR (w := w) ho (by omega))
  clear ho
  have Fw0_19 := Aside0.mk (Kd.R_below Fw0_18.out hb)
  clear Fw0_18
  have Fg0_19 := Aside0.mk (Kd.R_below Fg0_18.out hb)
  clear Fg0_18
  have Ft0_19 := Aside0.mk (Kd.S_below Ft0_18.out hb)
  clear Ft0_18
  clear hb
  go_wp2_with fail
  refine (impl_LastBlocks.calls ki At0_18 ct0_18 a0 (Btw w18 w19) At1_19 ct1_19 a1 g0 g1 w19 (readsS Ft0_19.out).2.2 (readsS Ft0_19.out).2.1 (Kd.R_V Ft1_19.out) Hi.out).mono ?_
  rintro e w20 ⟨v, rfl, ho, hb⟩
  have ho := Kd.R_mono ho (ok' := fun _ => True) (fun _ _ => trivial)
  have B20 := Aside0.mk (below_step B19.out hb)
  have z20 := hb.size
  obtain ⟨Ah0_20, ch0_20, rfl⟩ := Kd.R_slice ho
  have Fh0_20 := Aside0.mk (ivR (w := w) ho (by omega))
  clear ho
  have Fw0_20 := Aside0.mk (Kd.R_below Fw0_19.out hb)
  clear Fw0_19
  have Fg0_20 := Aside0.mk (Kd.R_below Fg0_19.out hb)
  clear Fg0_19
  have Ft0_20 := Aside0.mk (Kd.S_below Ft0_19.out hb)
  clear Ft0_19
  have Ft1_20 := Aside0.mk (Kd.R_below Ft1_19.out hb)
  clear Ft1_19
  clear hb
  go_wp2_with fail
  refine (eqIntS_calls g0 (maxLen_val (by have := HLg0.out; omega)) Ah0_20 Aw0_4 ch0_20 cw0_4 w20 (readsR Fh0_20.out).2.2 (readsR Fh0_20.out).2.1 (readsR Fw0_20.out).2.2 (readsR Fw0_20.out).2.1).mono ?_
  rintro e w21 ⟨rfl, hb⟩
  have B21 := Aside0.mk (below_step B20.out hb)
  have z21 := hb.size
  have Fw0_21 := Aside0.mk (Kd.R_below Fw0_20.out hb)
  clear Fw0_20
  have Fg0_21 := Aside0.mk (Kd.R_below Fg0_20.out hb)
  clear Fg0_20
  have Fh0_21 := Aside0.mk (Kd.R_below Fh0_20.out hb)
  clear Fh0_20
  clear hb
  go_wp2_with fail
  refine (heldIntS_calls g0.length (by have := HLg0.out; omega) 1 (by omega) Ag0_7 cg0_7 w21 (by have h := (readsR Fg0_21.out).2.2; rwa [markRow_len] at h) (by have h := (readsR Fg0_21.out).2.1; rwa [markRow_len] at h)).mono ?_
  rintro e w22 ⟨rfl, hb⟩
  have B22 := Aside0.mk (below_step B21.out hb)
  have z22 := hb.size
  have Fw0_22 := Aside0.mk (Kd.R_below Fw0_21.out hb)
  clear Fw0_21
  have Fg0_22 := Aside0.mk (Kd.R_below Fg0_21.out hb)
  clear Fg0_21
  have Fh0_22 := Aside0.mk (Kd.R_below Fh0_21.out hb)
  clear Fh0_21
  rw [← Em16.out]
  clear hb
  go_wp2_with fail
  go_ret
  exact ⟨rfl, B22.out⟩
set_option maxRecDepth 100000 in
theorem walk_len0 (a0 : List (List Int)) (a1 : List Int) (Aa0 : Option Addr) (ca0 : Nat) (Aa1 : Option Addr) (ca1 : Nat) (w : World) (hra0 : Kd.C kSS w Aa0 a0.length a0) (hca0 : a0.length ≤ ca0) (hra1 : Kd.C (Kd.int .i64) w Aa1 a1.length a1) (hca1 : a1.length ≤ ca1)  (h : ¬ a1.length ≤ 1048576) : Calls Try.prog 10 #[.slice Aa0 a0.length ca0, .slice Aa1 a1.length ca1] w fun e w' => e = .returned (.bool true) ∧ Below w.heap.size w w' := by
  have xx : decide (1048576 < (a1.length : Int)) = true := decide_eq_true (by omega)
  have yy : decide (1048576 < a1.length) = true := decide_eq_true (by omega)
  clear h  hra0 hca0 hra1 hca1
  go_enter Try.func10, Try.ntmps10
  go_wp2
  go_ret
  exact ⟨rfl, Below.refl _ _⟩
set_option maxRecDepth 100000 in
theorem walk_neg (a0 : List (List Int)) (a1 : List Int) (Aa0 : Option Addr) (ca0 : Nat) (Aa1 : Option Addr) (ca1 : Nat) (w : World) (hra0 : Kd.C kSS w Aa0 a0.length a0) (hca0 : a0.length ≤ ca0) (hra1 : Kd.C (Kd.int .i64) w Aa1 a1.length a1) (hca1 : a1.length ≤ ca1) (h0 : a1.length ≤ 1048576) (r : Int) (hsz : ∀ (A : Option Addr) (c : Nat) (w : World), Kd.C kSS w A a0.length a0 → a0.length ≤ c → Calls Try.prog 15 #[.slice A a0.length c, .int .i64 1048576] w fun e w' => e = .returned (.int .i64 r) ∧ Below w.heap.size w w') (hlt : r < 0) : Calls Try.prog 10 #[.slice Aa0 a0.length ca0, .slice Aa1 a1.length ca1] w fun e w' => e = .returned (.bool true) ∧ Below w.heap.size w w' := by
  have x0 : decide (1048576 < (a1.length : Int)) = false := decide_eq_false (by omega)
  have y0 : decide (1048576 < a1.length) = false := decide_eq_false (by omega)
  have HSZ := Aside0.mk hsz
  have HR := Aside0.mk hra0
  have HC := Aside0.mk hca0
  have d1 : decide (r < 0) = true := decide_eq_true hlt
  clear hsz hlt h0 hra0 hca0 hra1 hca1
  go_enter Try.func10, Try.ntmps10
  go_wp2_with fail
  refine (HSZ.out Aa0 ca0 w HR.out HC.out).mono ?_
  rintro e w1 ⟨rfl, hb⟩
  have B1 := Aside0.mk hb
  clear hb
  go_wp2_with fail
  go_ret
  exact ⟨rfl, B1.out⟩
theorem law (a0 : List (List Int)) (a1 : List Int) (ha0 : a0.length ≤ maxLen) (ga0 : ∀ x ∈ a0, x.length ≤ maxLen ∧ ∀ y0 ∈ x, (Lit.int .i64 y0).wf = true) (ha1 : a1.length ≤ maxLen) (sa1 : a1.length * 8 ≤ 140737488351232) (ga1 : ∀ x ∈ a1, (Lit.int .i64 x).wf = true) (Aa0 : Option Addr) (ca0 : Nat) (Aa1 : Option Addr) (ca1 : Nat) (w : World) (hra0 : Kd.C kSS w Aa0 a0.length a0) (hca0 : a0.length ≤ ca0) (hra1 : Kd.C (Kd.int .i64) w Aa1 a1.length a1) (hca1 : a1.length ≤ ca1) : Calls Try.prog 10 #[.slice Aa0 a0.length ca0, .slice Aa1 a1.length ca1] w fun e w' => e = .returned (.bool true) ∧ Below w.heap.size w w' := by
  by_cases q0 : a1.length ≤ 1048576
  rotate_left
  · exact walk_len0 a0 a1 Aa0 ca0 Aa1 ca1 w hra0 hca0 hra1 hca1  q0
  obtain ⟨r, hz, hsz⟩ := szIntSS_calls a0 ha0 (fun x hx => (ga0 x hx).1)
  by_cases hlt : r < 0
  · exact walk_neg a0 a1 Aa0 ca0 Aa1 ca1 w hra0 hca0 hra1 hca1 q0 r hsz hlt
  obtain ⟨l1, l2⟩ := hz (by omega)
  obtain ⟨⟨g0, g1⟩, hs, hi, ng0⟩ := both a0 a1 l1 l2 q0
  exact walk a0 a1 Aa0 ca0 Aa1 ca1 w hra0 hca0 hra1 hca1 r hsz hlt g0 g1 l1 l2 q0 ng0 hs.rounds hi.rounds
end Go.Proofs.Ytdjahpigkbgobaa.WalkFnExactLastBlocks
