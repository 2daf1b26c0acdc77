/- The law FnExactReducedArcs, walked by hand over its callees' contracts: for every input it returns true. -/
import Derived.Test.YtdjahpigkbgobaaCom
import Derived.Test.YtdjahpigkbgobaaPFnExactReducedArcsx17
import Derived.Test.YtdjahpigkbgobaaPFnExactReducedArcsx22
import Derived.Test.YtdjahpigkbgobaaHeldSS
namespace Go.Proofs.Ytdjahpigkbgobaa.WalkFnExactReducedArcs
open Go.RowKit Go.Proofs.Ytdjahpigkbgobaa.PFnExactReducedArcs Go.Proofs.YtdjahpigkbgobaaW.PrintWords Go.Proofs.YtdjahpigkbgobaaW.PrintLast Go.Proofs.YtdjahpigkbgobaaW.PrintMore Go.Proofs.Ytdjahpigkbgobaa.B Go.Proofs.Ytdjahpigkbgobaa.Com
set_option linter.unusedVariables false
set_option linter.unusedSimpArgs false

/- redL -/
def orM (m c : List Bool) : List Bool := foldR (fun (m : List Bool) (j : Nat) => m.set j (m.getD j false || c.getD j false)) 0 c.length m
theorem orM_fold (m c : List Bool) (n : Nat) : (foldR (fun (m : List Bool) (j : Nat) => m.set j (m.getD j false || c.getD j false)) 0 n m).length = m.length ∧ ∀ j, (foldR (fun (m : List Bool) (j : Nat) => m.set j (m.getD j false || c.getD j false)) 0 n m).getD j false = true ↔ m.getD j false = true ∨ (j < n ∧ j < m.length ∧ c.getD j false = true) := by
  induction n with
  | zero => rw [foldR_end (Nat.le_refl _)]; exact ⟨rfl, fun j => by simp⟩
  | succ n ih =>
    obtain ⟨h1, h2⟩ := ih
    rw [foldR_last (Nat.zero_le _)]
    generalize foldR (fun (m : List Bool) (j : Nat) => m.set j (m.getD j false || c.getD j false)) 0 n m = t at h1 h2 ⊢
    refine ⟨by rw [List.length_set]; exact h1, fun j => ?_⟩
    rw [getD_set]
    by_cases e : n = j
    · subst e
      by_cases hn : n < t.length
      · rw [if_pos ⟨rfl, hn⟩, Bool.or_eq_true, h2]
        constructor
        · rintro ((h | ⟨h, _⟩) | h)
          · exact .inl h
          · omega
          · exact .inr ⟨by omega, by omega, h⟩
        · rintro (h | ⟨_, _, h⟩)
          · exact .inl (.inl h)
          · exact .inr h
      · rw [if_neg (by omega), h2]
        constructor
        · rintro (h | ⟨h, _⟩)
          · exact .inl h
          · omega
        · rintro (h | ⟨_, h, _⟩)
          · exact .inl h
          · omega
    · rw [if_neg (by omega), h2]
      constructor
      · rintro (h | ⟨h, h', h''⟩)
        · exact .inl h
        · exact .inr ⟨by omega, h', h''⟩
      · rintro (h | ⟨h, h', h''⟩)
        · exact .inl h
        · exact .inr ⟨by omega, h', h''⟩
theorem orM_len (m c : List Bool) : (orM m c).length = m.length := (orM_fold m c c.length).1
theorem orM_at (m c : List Bool) (h : c.length = m.length) (j : Nat) : (orM m c).getD j false = true ↔ m.getD j false = true ∨ c.getD j false = true := by
  unfold orM
  rw [(orM_fold m c c.length).2]
  constructor
  · rintro (h1 | ⟨_, _, h1⟩)
    · exact .inl h1
    · exact .inr h1
  · rintro (h1 | h1)
    · exact .inl h1
    · by_cases hj : j < c.length
      · exact .inr ⟨hj, by omega, h1⟩
      · rw [getD_none (by omega)] at h1; cases h1
/-- what lies behind the elements of a row -/
def behStep (a : List (List Int)) (l : List Int) (m : List Bool) (j : Nat) : List Bool := orM m (clo a (mk a.length (a.getD (l.getD j 0).toNat [])))
def behM (a : List (List Int)) (l : List Int) : List Bool := foldR (behStep a l) 0 l.length (List.replicate a.length false)
theorem behStep_at {a : List (List Int)} (ha : Arcs a) {l : List Int} (hl : ∀ x ∈ l, 0 ≤ x ∧ x < a.length) (n : Nat) (hn : n ≤ l.length) :
    (foldR (behStep a l) 0 n (List.replicate a.length false)).length = a.length ∧ ∀ j : Nat, (foldR (behStep a l) 0 n (List.replicate a.length false)).getD j false = true ↔ ∃ i, i < n ∧ ∃ s : Nat, (s : Int) ∈ a.getD (l.getD i 0).toNat [] ∧ Up a s j := by
  induction n with
  | zero =>
    rw [foldR_end (Nat.le_refl _)]
    refine ⟨by simp, fun j => ?_⟩
    constructor
    · intro h
      by_cases hj : j < a.length
      · rw [getD_replicate hj] at h; cases h
      · rw [getD_none (by simp; omega)] at h; cases h
    · rintro ⟨i, hi, _⟩; omega
  | succ n ih =>
    obtain ⟨h1, h2⟩ := ih (by omega)
    rw [foldR_last (Nat.zero_le _)]
    generalize foldR (behStep a l) 0 n (List.replicate a.length false) = t at h1 h2 ⊢
    unfold behStep
    have hx := hl _ (getD_mem (z := 0) (show n < l.length by omega))
    have hrow : ∀ x ∈ a.getD (l.getD n 0).toNat [], 0 ≤ x ∧ x < a.length := fun x hx' => by have := ha.down hx'; omega
    refine ⟨by rw [orM_len]; exact h1, fun j => ?_⟩
    rw [orM_at _ _ (by rw [clo_len, mk_len]; exact h1.symm), h2, clo_at ha mk_len]
    constructor
    · rintro (⟨i, hi, h⟩ | ⟨s, hs, hu⟩)
      · exact ⟨i, by omega, h⟩
      · exact ⟨n, by omega, s, (mk_at hrow s).1 hs, hu⟩
    · rintro ⟨i, hi, s, hs, hu⟩
      by_cases e : i = n
      · subst e; exact .inr ⟨s, (mk_at hrow s).2 hs, hu⟩
      · exact .inl ⟨i, by omega, s, hs, hu⟩
def redRow (a : List (List Int)) (l : List Int) : List Int := l.filter (fun x => !(at_ (behM a l) x))
def ndlAt (a : List (List Int)) (l : List Int) (k : Int) (j : Nat) : Bool := decide (l.getD j 0 > k) && decide (k ∈ listOf (clo a (mk a.length [l.getD j 0])))
def ndl (a : List (List Int)) (l : List Int) (k : Int) : Bool := anyR (ndlAt a l k) 0 l.length
theorem ndl_eq {a : List (List Int)} (ha : Arcs a) {l : List Int} (hl : ∀ x ∈ l, 0 ≤ x ∧ x < a.length) {k : Int} (hk : k ∈ l) : ndl a l k = at_ (behM a l) k := by
  have hk0 := hl k hk
  rw [Bool.eq_iff_iff]
  unfold ndl
  rw [anyR_iff]
  unfold at_ behM
  rw [(behStep_at ha hl l.length (Nat.le_refl _)).2]
  have hc : ∀ j, j < l.length → (k ∈ listOf (clo a (mk a.length [l.getD j 0])) ↔ Up a (l.getD j 0).toNat k.toNat) := by
    intro j hj
    have hx := hl _ (getD_mem (z := 0) hj)
    rw [listOf_mem]
    unfold at_
    rw [clo_at ha mk_len]
    constructor
    · rintro ⟨_, s, hs, hu⟩
      rw [mk_at (fun x hx' => by rw [List.mem_singleton] at hx'; subst hx'; exact hx), List.mem_singleton] at hs
      have e : s = (l.getD j 0).toNat := by omega
      rw [← e]; exact hu
    · intro hu
      refine ⟨hk0.1, _, ?_, hu⟩
      rw [mk_at (fun x hx' => by rw [List.mem_singleton] at hx'; subst hx'; exact hx), List.mem_singleton]
      omega
  constructor
  · rintro ⟨j, _, hj, h⟩
    unfold ndlAt at h
    rw [Bool.and_eq_true, decide_eq_true_eq, decide_eq_true_eq] at h
    have hu := (hc j hj).1 h.2
    have hx := hl _ (getD_mem (z := 0) hj)
    generalize hb : (l.getD j 0).toNat = b at hu
    generalize hq : k.toNat = q at hu
    cases hu with
    | refl => omega
    | step h3 h4 => exact ⟨j, hj, _, by rw [hb]; exact h3, h4⟩
  · rintro ⟨j, hj, s, hs, hu⟩
    have hx := hl _ (getD_mem (z := 0) hj)
    refine ⟨j, Nat.zero_le _, hj, ?_⟩
    unfold ndlAt
    rw [Bool.and_eq_true, decide_eq_true_eq, decide_eq_true_eq]
    have h1 := (ha.down hs).2
    have h2 := hu.le ha
    exact ⟨by omega, (hc j hj).2 (.step hs hu)⟩
theorem redRow_eq {a : List (List Int)} (ha : Arcs a) {l : List Int} (hl : ∀ x ∈ l, 0 ≤ x ∧ x < a.length) : l.filter (fun x => !(ndl a l x)) = redRow a l := by
  unfold redRow
  refine List.filter_congr (fun x hx => ?_)
  rw [ndl_eq ha hl hx]
def redL (a : List (List Int)) : List (List Int) := a.map (redRow a)
theorem redL_len (a : List (List Int)) : (redL a).length = a.length := by unfold redL; rw [List.length_map]
theorem redL_at (a : List (List Int)) (i : Nat) (h : i < a.length) : (redL a).getD i [] = redRow a (a.getD i []) := by
  unfold redL; simp [List.getD_eq_getElem?_getD, h]
theorem redRow_len (a : List (List Int)) (l : List Int) : (redRow a l).length ≤ l.length := List.length_filter_le _ _
theorem take_map_snoc {a : List (List Int)} (i : Nat) (h : i < a.length) : (redL a).take i ++ [redRow a (a.getD i [])] = (redL a).take (i + 1) := by
  rw [List.take_succ_eq_append_getElem (by rw [redL_len]; exact h)]
  have := redL_at a i h
  rw [List.getD_eq_getElem?_getD, List.getElem?_eq_getElem (by rw [redL_len]; exact h)] at this
  simp only [Option.getD_some] at this
  rw [this]

/- rdB -/
theorem rdB (m : List Bool) (x : Int) : rdOf false m x = at_ m x := rfl

/- rdL1 -/
theorem rdL1 (a : List (List Int)) (i : Nat) : rd_L1 a (i : Int) = a.getD i [] := by unfold rd_L1; rw [toNat_nat]
theorem rdL1' (a : List (List Int)) (x : Int) : rd_L1 a x = a.getD x.toNat [] := rfl

/- spec_l1In -/
theorem l1In_eq (a b c : Int) : spec_l1In.f a b c = some (decide (b ≤ a ∧ a ≤ c)) := by
  unfold spec_l1In.f
  by_cases h : a ≥ b
  · rw [if_pos h]; simp [show b ≤ a from h]
  · rw [if_neg h]; simp [show ¬ b ≤ a from h]

/- spec_l1Rising -/
theorem l1Rising_l0 (l : List Int) (hl : l.length ≤ maxLen) (n : Int) : ∀ (d i : Nat), i + d = l.length → Ev (fun k => spec_l1Rising.l0 k l 0 (n - 1) l (l.length : Int) (i : Int)) (allR (ascAt l n) i l.length) := by
  have hl := maxLen_le hl
  intro d
  induction d with
  | zero =>
    intro i hi
    exact Ev.step (fun k => spec_l1Rising.l0.eq_2 l 0 (n - 1) l l.length i k) (ev_neg (by omega) (ev_some (allR_end (by omega)).symm))
  | succ d ih =>
    intro i hi
    refine Ev.step (fun k => spec_l1Rising.l0.eq_2 l 0 (n - 1) l l.length i k) ?_
    rw [allR_step (by omega), w_succ (n := l.length) (by omega) (by omega), rd_nat]
    refine ev_pos (by omega) (ev_pos (by omega) (ev_pos (by omega) (ev_bindc (l1In_eq _ _ _) ?_)))
    refine ev_ite (fun h => ?_) (fun h => ?_)
    · simp only [decide_eq_true_eq] at h
      refine ev_ite (fun h0 => ?_) (fun h0 => ?_)
      · rw [w64 (x := (i : Int) - 1) (by omega) (by omega), show (i : Int) - 1 = ((i - 1 : Nat) : Int) by omega, rd_nat]
        refine ev_pos (by omega) (ev_pos (by omega) ?_)
        refine ev_ite (fun h1 => ?_) (fun h1 => ?_)
        · refine ev_some ?_
          have : ascAt l n i = false := by unfold ascAt; simp only [decide_eq_false_iff_not]; intro hc; have := hc.2.2 (by omega); omega
          rw [this]; rfl
        · have : ascAt l n i = true := by unfold ascAt; simp only [decide_eq_true_eq]; exact ⟨by omega, by omega, fun _ => by omega⟩
          rw [this]; exact ih (i + 1) (by omega)
      · have : ascAt l n i = true := by unfold ascAt; simp only [decide_eq_true_eq]; exact ⟨by omega, by omega, fun _ => by omega⟩
        rw [this]; exact ih (i + 1) (by omega)
    · refine ev_some ?_
      have : ascAt l n i = false := by
        unfold ascAt; simp only [decide_eq_true_eq] at h; simp only [decide_eq_false_iff_not]; intro hc; exact h ⟨hc.1, by omega⟩
      rw [this]; rfl
theorem l1Rising_ev (l : List Int) (hl : l.length ≤ maxLen) (n : Int) : Ev (fun k => spec_l1Rising.f k l 0 (n - 1)) (asc l n) := by
  unfold spec_l1Rising.f asc
  exact l1Rising_l0 l hl n l.length 0 (by omega)

/- spec_clArcs -/
theorem clArcs_l0 (a : List (List Int)) (hl : a.length ≤ maxLen) (hb : ∀ x ∈ a, x.length ≤ maxLen) : ∀ (d i : Nat), i + d = a.length →
    Ev (fun k => spec_clArcs.l0 k a a (a.length : Int) (i : Int)) (decide (1 ≤ a.length ∧ a.length ≤ 120) && allR (fun i => asc (a.getD i []) i) i a.length) := by
  have hl := maxLen_le hl
  intro d
  induction d with
  | zero =>
    intro i hi
    refine Ev.step (fun k => spec_clArcs.l0.eq_2 a a a.length i k) (ev_neg (by omega) (ev_bindc (l1In_eq _ _ _) (ev_some ?_)))
    rw [allR_end (by omega), Bool.and_true, decide_eq_decide]; omega
  | succ d ih =>
    intro i hi
    refine Ev.step (fun k => spec_clArcs.l0.eq_2 a a a.length i k) ?_
    have hx : rd_L1 a (i : Int) = a.getD i [] := by unfold rd_L1; rw [toNat_nat]
    have hmem : a.getD i [] ∈ a := by
      rw [List.getD_eq_getElem?_getD, List.getElem?_eq_getElem (by omega)]; exact List.getElem_mem _
    rw [allR_step (by omega), w_succ (n := a.length) (by omega) (by omega), hx, w64 (x := (i : Int) - 1) (by omega) (by omega)]
    refine ev_pos (by omega) (ev_pos (by omega) (ev_pos (by omega) (Ev.bind (l1Rising_ev _ (hb _ hmem) _) ?_)))
    refine ev_ite (fun h => ?_) (fun h => ?_)
    · rw [h, Bool.true_and]; exact ih (i + 1) (by omega)
    · rw [Bool.not_eq_true] at h; rw [h, Bool.false_and, Bool.and_false]; exact ev_some rfl
theorem clArcs_ev (a : List (List Int)) (hl : a.length ≤ maxLen) (hb : ∀ x ∈ a, x.length ≤ maxLen) : Ev (fun k => spec_clArcs.f k a) (arcsOk a) := by
  unfold spec_clArcs.f arcsOk
  exact clArcs_l0 a hl hb a.length 0 (by omega)

/- spec_clMarks -/
theorem clMarks_l0 (l : List Int) (hl : l.length ≤ maxLen) : ∀ (d i : Nat) (m : List Bool), i + d = l.length → (∀ x ∈ l, 0 ≤ x ∧ x < m.length) → Ev (fun k => spec_clMarks.l0 k m l (l.length : Int) (i : Int)) (foldR (setAt l) i l.length m) := by
  have hl := maxLen_le hl
  intro d
  induction d with
  | zero =>
    intro i m hi hm
    exact Ev.step (fun k => spec_clMarks.l0.eq_2 m l l.length i k) (ev_neg (by omega) (ev_some (foldR_end (by omega)).symm))
  | succ d ih =>
    intro i m hi hm
    refine Ev.step (fun k => spec_clMarks.l0.eq_2 m l l.length i k) ?_
    have hx := hm _ (getD_mem (z := 0) (show i < l.length by omega))
    rw [foldR_step (by omega), w_succ (n := l.length) (by omega) (by omega), rd_nat]
    refine ev_pos (by omega) (ev_pos (by omega) (ev_pos (by omega) (ev_pos (by omega) (ev_pos (by omega) ?_))))
    exact ih (i + 1) _ (by omega) (by intro x h; have := hm x h; simpa using this)
theorem clMarks_ev (n : Nat) (hn : n ≤ 1048576) (l : List Int) (hl : l.length ≤ maxLen) (h : ∀ x ∈ l, 0 ≤ x ∧ x < n) : Ev (fun k => spec_clMarks.f k (n : Int) l) (mk n l) := by
  unfold spec_clMarks.f mk setAll
  refine ev_pos (by omega) (ev_pos (by omega) ?_)
  rw [toNat_nat]
  exact clMarks_l0 l hl l.length 0 _ (by omega) (by simpa using h)

/- spec_clList -/
theorem clList_l0 (m : List Bool) (hm : m.length ≤ 1048576) : ∀ (d i : Nat), i + d = m.length → Ev (fun k => spec_clList.l0 k (foldR (putAt m) 0 i []) m (m.length : Int) (i : Int)) (listOf m) := by
  intro d
  induction d with
  | zero =>
    intro i hi
    obtain rfl : i = m.length := by omega
    exact Ev.step (fun k => spec_clList.l0.eq_2 _ m m.length m.length k) (ev_neg (by omega) (ev_some rfl))
  | succ d ih =>
    intro i hi
    have ih := ih (i + 1) (by omega)
    rw [foldR_last (Nat.zero_le _)] at ih
    have hlen := putAt_len (m := m) i
    refine Ev.step (fun k => spec_clList.l0.eq_2 _ m m.length i k) ?_
    rw [w_succ (n := m.length) (by omega) (by omega), rdB]
    unfold at_
    rw [toNat_nat]
    refine ev_pos (by omega) (ev_pos (by omega) (ev_pos (by omega) (ev_ite (fun h => ?_) (fun h => ?_))))
    · rw [show putAt m (foldR (putAt m) 0 i []) i = foldR (putAt m) 0 i [] ++ [(i : Int)] from if_pos h] at ih
      exact ev_pos (by omega) ih
    · rw [show putAt m (foldR (putAt m) 0 i []) i = foldR (putAt m) 0 i [] from if_neg h] at ih
      exact ih
theorem clList_ev (m : List Bool) (hm : m.length ≤ 1048576) : Ev (fun k => spec_clList.f k m) (listOf m) := by
  unfold spec_clList.f
  have := clList_l0 m hm m.length 0 (by omega)
  rwa [foldR_end (Nat.le_refl _)] at this

/- spec_clLeast -/
theorem clLeast_l1 (a : List (List Int)) (r : List Int) (hr : r.length ≤ 120) (i : Nat) (q : List Int) : ∀ (d j : Nat) (m : List Bool), j + d = r.length → (∀ x ∈ r, 0 ≤ x ∧ x < m.length) → Ev (fun k => spec_clLeast.l0 k a (foldR (setAt r) j r.length m) (wrap64 ((i : Int) - 1))) q →
    Ev (fun k => spec_clLeast.l1 k a m (i : Int) r (r.length : Int) (j : Int)) q := by
  intro d
  induction d with
  | zero =>
    intro j m hj hm hq
    rw [foldR_end (by omega)] at hq
    exact Ev.step (fun k => spec_clLeast.l1.eq_2 a m i r r.length j k) (ev_neg (by omega) hq)
  | succ d ih =>
    intro j m hj hm hq
    refine Ev.step (fun k => spec_clLeast.l1.eq_2 a m i r r.length j k) ?_
    have hx := hm _ (getD_mem (z := 0) (show j < r.length by omega))
    rw [foldR_step (by omega)] at hq
    rw [w_succ (n := r.length) (by omega) (by omega), rd_nat]
    refine ev_pos (by omega) (ev_pos (by omega) (ev_pos (by omega) (ev_pos (by omega) (ev_pos (by omega) ?_))))
    exact ih (j + 1) _ (by omega) (by intro x h; have := hm x h; simpa using this) hq
theorem clLeast_l0 (a : List (List Int)) (ha : Arcs a) : ∀ (i : Nat) (m : List Bool), i ≤ a.length → m.length = a.length → Ev (fun k => spec_clLeast.l0 k a m ((i : Int) - 1)) (listOf (cloD a i m)) := by
  have hle := ha.le
  intro i
  induction i with
  | zero =>
    intro m hi hm
    exact Ev.step (fun k => spec_clLeast.l0.eq_2 a m _ k) (ev_neg (by omega) (ev_id (clList_ev m (by omega))))
  | succ i ih =>
    intro m hi hm
    rw [show ((i + 1 : Nat) : Int) - 1 = (i : Int) by omega]
    have ihi := ih (cloStep a m i) (by omega) (by rw [cloStep_len]; exact hm)
    rw [cloD]
    refine Ev.step (fun k => spec_clLeast.l0.eq_2 a m i k) ?_
    rw [rdB, rdL1]
    unfold at_
    rw [toNat_nat]
    refine ev_pos (by omega) (ev_pos (by omega) (ev_pos (by omega) (ev_ite (fun h => ?_) (fun h => ?_))))
    · rw [show cloStep a m i = setAll m (a.getD i []) from if_pos h] at ihi ⊢
      refine ev_pos (by omega) (clLeast_l1 a _ (ha.len i) i _ (a.getD i []).length 0 m (by omega) (fun x hx => by have := ha.down hx; omega) ?_)
      rw [w64 (x := (i : Int) - 1) (by omega) (by omega)]
      exact ihi
    · rw [show cloStep a m i = m from if_neg h] at ihi ⊢
      rw [w64 (x := (i : Int) - 1) (by omega) (by omega)]
      exact ihi
theorem clLeast_ev (a : List (List Int)) (ha : Arcs a) (l : List Int) (hl : l.length ≤ 1048576) (h : ∀ x ∈ l, 0 ≤ x ∧ x < a.length) : Ev (fun k => spec_clLeast.f k a l) (listOf (clo a (mk a.length l))) := by
  have hle := ha.le
  unfold spec_clLeast.f clo
  refine Ev.bind (clMarks_ev a.length (by omega) l (maxLen_val (by omega)) h) ?_
  rw [w64 (by omega) (by omega)]
  exact clLeast_l0 a ha a.length _ (Nat.le_refl _) mk_len

/- spec_l1Has -/
theorem l1Has_l0 (l : List Int) (hl : l.length ≤ maxLen) (x : Int) : ∀ (d i : Nat), i + d = l.length → Ev (fun k => spec_l1Has.l0 k x l (l.length : Int) (i : Int)) (decide (x ∈ l.drop i)) := by
  have hl := maxLen_le hl
  intro d
  induction d with
  | zero =>
    intro i hi
    refine Ev.step (fun k => spec_l1Has.l0.eq_2 x l l.length i k) (ev_neg (by omega) (ev_some ?_))
    rw [List.drop_of_length_le (by omega)]; simp
  | succ d ih =>
    intro i hi
    refine Ev.step (fun k => spec_l1Has.l0.eq_2 x l l.length i k) ?_
    have hd : l.drop i = l.getD i 0 :: l.drop (i + 1) := by
      rw [List.drop_eq_getElem_cons (by omega)]; congr 1; simp [List.getD_eq_getElem?_getD, show i < l.length by omega]
    rw [w_succ (n := l.length) (by omega) (by omega), rd_nat, hd]
    refine ev_pos (by omega) (ev_pos (by omega) (ev_pos (by omega) (ev_ite (fun h => ev_some ?_) (fun h => ?_))))
    · symm; rw [decide_eq_true_eq]; rw [← h]; exact List.mem_cons_self
    · refine ev_eq ?_ (ih (i + 1) (by omega))
      rw [decide_eq_decide, List.mem_cons]
      exact ⟨.inr, fun h1 => h1.resolve_left (fun e => h e.symm)⟩
theorem l1Has_ev (l : List Int) (hl : l.length ≤ maxLen) (x : Int) : Ev (fun k => spec_l1Has.f k l x) (decide (x ∈ l)) := by
  unfold spec_l1Has.f
  have := l1Has_l0 l hl x l.length 0 (by omega)
  rwa [List.drop_zero] at this

/- spec_ReducedArcs -/
theorem sRed_l2 (a : List (List Int)) (ha : Arcs a) (o : List (List Int)) (l : List Int) (hl : ∀ x ∈ l, 0 ≤ x ∧ x < a.length) (hll : l.length ≤ 120) (p : List Int) (hp : p.length ≤ 1048576) (k : Int) (n i : Int) (c : Int) (q : List (List Int) × Bool) : ∀ (d j : Nat) (b : Bool), j + d = l.length →
    Ev (fun r => spec_ReducedArcs.l1 r a o l (if (!(b || anyR (ndlAt a l k) j l.length)) = true then p ++ [k] else p) a n i l (l.length : Int) (wrap64 (c + 1))) q →
    Ev (fun r => spec_ReducedArcs.l2 r a o l p k b a n i l (l.length : Int) c l (l.length : Int) (j : Int)) q := by
  have hle := ha.le
  intro d
  induction d with
  | zero =>
    intro j b hj hq
    rw [anyR_end (by omega), Bool.or_false] at hq
    refine Ev.step (fun r => spec_ReducedArcs.l2.eq_2 a o l p k b a n i l l.length c l l.length j r) (ev_neg (by omega) ?_)
    cases b with
    | true => rw [if_neg (by simp)] at hq; exact ev_pos rfl hq
    | false => rw [if_pos (by simp)] at hq; exact ev_neg (by simp) (ev_pos (by omega) hq)
  | succ d ih =>
    intro j b hj hq
    refine Ev.step (fun r => spec_ReducedArcs.l2.eq_2 a o l p k b a n i l l.length c l l.length j r) ?_
    have hx := hl _ (getD_mem (z := 0) (show j < l.length by omega))
    rw [anyR_step (by omega)] at hq
    rw [w_succ (n := l.length) (by omega) (by omega), rd_nat]
    refine ev_pos (by omega) (ev_pos (by omega) (ev_pos (by omega) ?_))
    cases b with
    | true =>
      rw [Bool.true_or] at hq
      refine ev_pos rfl (ih (j + 1) true (by omega) ?_)
      rw [Bool.true_or]; exact hq
    | false =>
      rw [Bool.false_or] at hq
      refine ev_neg (by simp) (ev_ite (fun h => ?_) (fun h => ?_))
      · have hs : ∀ x ∈ [l.getD j 0], 0 ≤ x ∧ x < (a.length : Int) := fun x hx' => by rw [List.mem_singleton] at hx'; subst hx'; exact hx
        have hlen := listOf_len (m := clo a (mk a.length [l.getD j 0]))
        rw [clo_len, mk_len] at hlen
        refine Ev.bind (g := fun r => spec_clUp.f r a (l.getD j 0)) (by unfold spec_clUp.f; exact ev_id (clLeast_ev a ha [l.getD j 0] (by simp) hs)) (Ev.bind (l1Has_ev _ (maxLen_val (by omega)) k) (ih (j + 1) _ (by omega) ?_))
        rw [show ndlAt a l k j = decide (k ∈ listOf (clo a (mk a.length [l.getD j 0]))) by unfold ndlAt; rw [decide_eq_true h, Bool.true_and]] at hq
        exact hq
      · refine ih (j + 1) false (by omega) ?_
        rw [show ndlAt a l k j = false by unfold ndlAt; rw [decide_eq_false h, Bool.false_and], Bool.false_or] at hq
        rw [Bool.false_or]; exact hq
theorem sRed_l1 (a : List (List Int)) (ha : Arcs a) (o : List (List Int)) (ho : o.length ≤ 1048576) (l : List Int) (hl : ∀ x ∈ l, 0 ≤ x ∧ x < a.length) (hll : l.length ≤ 120) (n i : Int) (q : List (List Int) × Bool)
    (hq : Ev (fun r => spec_ReducedArcs.l0 r a (o ++ [redRow a l]) a n (wrap64 (i + 1))) q) : ∀ (d j : Nat), j + d = l.length →
    Ev (fun r => spec_ReducedArcs.l1 r a o l (foldR (keepAt (fun x => !(ndl a l x)) l) 0 j []) a n i l (l.length : Int) (j : Int)) q := by
  intro d
  induction d with
  | zero =>
    intro j hj
    obtain rfl : j = l.length := by omega
    refine Ev.step (fun r => spec_ReducedArcs.l1.eq_2 a o l _ a n i l l.length l.length r) (ev_neg (by omega) (ev_pos (by omega) ?_))
    rw [keepAt_filter _ _ _ (Nat.le_refl _), List.take_length, redRow_eq ha hl]
    exact hq
  | succ d ih =>
    intro j hj
    have ih := ih (j + 1) (by omega)
    rw [foldR_last (Nat.zero_le _)] at ih
    have hlen := keepAt_len (fun x => !(ndl a l x)) l j (by omega)
    refine Ev.step (fun r => spec_ReducedArcs.l1.eq_2 a o l _ a n i l l.length j r) ?_
    rw [rd_nat]
    refine ev_pos (by omega) (ev_pos (by omega) (ev_pos (by omega) ?_))
    refine sRed_l2 a ha o l hl hll _ (by omega) (l.getD j 0) n i j q l.length 0 false (by omega) ?_
    rw [Bool.false_or, w_succ (n := l.length) (by omega) (by omega)]
    exact ih
theorem sRed_l0 (a : List (List Int)) (ha : Arcs a) : ∀ (d i : Nat), i + d = a.length → Ev (fun r => spec_ReducedArcs.l0 r a ((redL a).take i) a (a.length : Int) (i : Int)) (redL a, true) := by
  have hle := ha.le
  intro d
  induction d with
  | zero =>
    intro i hi
    refine Ev.step (fun r => spec_ReducedArcs.l0.eq_2 a _ a a.length i r) (ev_neg (by omega) (ev_some ?_))
    rw [List.take_of_length_le (by rw [redL_len]; omega)]
  | succ d ih =>
    intro i hi
    have ih := ih (i + 1) (by omega)
    refine Ev.step (fun r => spec_ReducedArcs.l0.eq_2 a _ a a.length i r) ?_
    rw [rdL1]
    refine ev_pos (by omega) (ev_pos (by omega) (ev_pos (by omega) ?_))
    have := sRed_l1 a ha ((redL a).take i) (by rw [List.length_take, redL_len]; omega) (a.getD i []) (fun x hx => by have := ha.down hx; omega) (ha.len i) a.length i (redL a, true) (by
      rw [take_map_snoc i (by omega), w_succ (n := a.length) (by omega) (by omega)]; exact ih) (a.getD i []).length 0 (by omega)
    rwa [foldR_end (Nat.le_refl _)] at this
theorem sRed_ev (a : List (List Int)) (ha : a.length ≤ maxLen) (hb : ∀ x ∈ a, x.length ≤ maxLen) : Ev (fun k => spec_ReducedArcs.f k a) (if arcsOk a then (redL a, true) else ([], false)) := by
  unfold spec_ReducedArcs.f
  refine Ev.bind (clArcs_ev a ha hb) (ev_ite (fun h => ?_) (fun h => ?_))
  · rw [if_pos h]
    have := sRed_l0 a (arcsOk_iff.1 h) a.length 0 (by omega)
    rwa [List.take_zero] at this
  · rw [if_neg h]; exact ev_some rfl

/- impl_areBlocks -/
theorem areBlocks_l0 (l : List Int) (hl : l.length ≤ maxLen) (n : Int) : ∀ (d i : Nat), i + d = l.length → Ev (fun k => impl_areBlocks.l0 k l n l (l.length : Int) (i : Int)) (allR (ascAt l n) i l.length) := by
  have hl := maxLen_le hl
  intro d
  induction d with
  | zero =>
    intro i hi
    exact Ev.step (fun k => impl_areBlocks.l0.eq_2 l n l l.length i k) (ev_neg (by omega) (ev_some (allR_end (by omega)).symm))
  | succ d ih =>
    intro i hi
    refine Ev.step (fun k => impl_areBlocks.l0.eq_2 l n l l.length i k) ?_
    rw [allR_step (by omega), w_succ (n := l.length) (by omega) (by omega), rd_nat]
    refine ev_pos (by omega) (ev_pos (by omega) (ev_pos (by omega) ?_))
    have no : ¬ (0 ≤ l.getD i 0 ∧ l.getD i 0 < n ∧ (0 < i → l.getD (i - 1) 0 < l.getD i 0)) → false = (ascAt l n i && allR (ascAt l n) (i + 1) l.length) := by
      intro h
      have : ascAt l n i = false := by unfold ascAt; simp only [decide_eq_false_iff_not]; exact h
      rw [this]; rfl
    have yes : (0 ≤ l.getD i 0 ∧ l.getD i 0 < n ∧ (0 < i → l.getD (i - 1) 0 < l.getD i 0)) → Ev (fun k => impl_areBlocks.l0 k l n l (l.length : Int) ((i + 1 : Nat) : Int)) (ascAt l n i && allR (ascAt l n) (i + 1) l.length) := by
      intro h
      have : ascAt l n i = true := by unfold ascAt; simp only [decide_eq_true_eq]; exact h
      rw [this]; exact ih (i + 1) (by omega)
    refine ev_ite (fun h => ev_some (no (by omega))) (fun h => ?_)
    refine ev_ite (fun h1 => ev_some (no (by omega))) (fun h1 => ?_)
    refine ev_ite (fun h0 => ?_) (fun h0 => yes ⟨by omega, by omega, fun _ => by omega⟩)
    rw [w64 (x := (i : Int) - 1) (by omega) (by omega), show (i : Int) - 1 = ((i - 1 : Nat) : Int) by omega, rd_nat]
    refine ev_pos (by omega) (ev_pos (by omega) ?_)
    refine ev_ite (fun h2 => ev_some (no (fun hc => by have := hc.2.2 (by omega); omega))) (fun h2 => yes ⟨by omega, by omega, fun _ => by omega⟩)
theorem areBlocks_ev (l : List Int) (hl : l.length ≤ maxLen) (n : Int) : Ev (fun k => impl_areBlocks.f k l n) (asc l n) := by
  unfold impl_areBlocks.f asc
  exact areBlocks_l0 l hl n l.length 0 (by omega)

/- impl_AreArcs -/
theorem AreArcs_l0 (a : List (List Int)) (hl : a.length ≤ maxLen) (hb : ∀ x ∈ a, x.length ≤ maxLen) : ∀ (d i : Nat), i + d = a.length →
    Ev (fun k => impl_AreArcs.l0 k a (a.length : Int) (i : Int)) (allR (fun i => asc (a.getD i []) i) i a.length) := by
  have hl := maxLen_le hl
  intro d
  induction d with
  | zero =>
    intro i hi
    exact Ev.step (fun k => impl_AreArcs.l0.eq_2 a a.length i k) (ev_neg (by omega) (ev_some (allR_end (by omega)).symm))
  | succ d ih =>
    intro i hi
    refine Ev.step (fun k => impl_AreArcs.l0.eq_2 a a.length i k) ?_
    have hx : rd_L1 a (i : Int) = a.getD i [] := by unfold rd_L1; rw [toNat_nat]
    have hmem : a.getD i [] ∈ a := by
      rw [List.getD_eq_getElem?_getD, List.getElem?_eq_getElem (by omega)]; exact List.getElem_mem _
    rw [allR_step (by omega), w_succ (n := a.length) (by omega) (by omega), hx]
    refine ev_pos (by omega) (ev_pos (by omega) (ev_pos (by omega) (Ev.bind (areBlocks_ev _ (hb _ hmem) _) ?_)))
    refine ev_ite (fun h => ?_) (fun h => ?_)
    · rw [h, Bool.true_and]; exact ih (i + 1) (by omega)
    · rw [Bool.not_eq_true] at h; rw [h, Bool.false_and]; exact ev_some rfl
theorem AreArcs_ev (a : List (List Int)) (hl : a.length ≤ maxLen) (hb : ∀ x ∈ a, x.length ≤ maxLen) : Ev (fun k => impl_AreArcs.f k a) (arcsOk a) := by
  unfold impl_AreArcs.f arcsOk
  refine ev_ite (fun h => ?_) (fun h => ?_)
  · refine Ev.step (fun k => impl_AreArcs.j0.eq_2 a true k) (ev_pos rfl (ev_some ?_))
    rw [decide_eq_false (by omega), Bool.false_and]
  · refine Ev.step (fun k => impl_AreArcs.j0.eq_2 a _ k) (ev_ite (fun h1 => ev_some ?_) (fun h1 => ?_))
    · simp only [decide_eq_true_eq] at h1
      rw [decide_eq_false (by omega), Bool.false_and]
    · simp only [decide_eq_true_eq] at h1
      rw [decide_eq_true (by omega), Bool.true_and]; exact AreArcs_l0 a hl hb a.length 0 (by omega)

/- impl_markOf -/
theorem markOf_l0 (l : List Int) (hl : l.length ≤ maxLen) : ∀ (d i : Nat) (m : List Bool), i + d = l.length → (∀ x ∈ l, 0 ≤ x ∧ x < m.length) → Ev (fun k => impl_markOf.l0 k m l (l.length : Int) (i : Int)) (foldR (setAt l) i l.length m) := by
  have hl := maxLen_le hl
  intro d
  induction d with
  | zero =>
    intro i m hi hm
    exact Ev.step (fun k => impl_markOf.l0.eq_2 m l l.length i k) (ev_neg (by omega) (ev_some (foldR_end (by omega)).symm))
  | succ d ih =>
    intro i m hi hm
    refine Ev.step (fun k => impl_markOf.l0.eq_2 m l l.length i k) ?_
    have hx := hm _ (getD_mem (z := 0) (show i < l.length by omega))
    rw [foldR_step (by omega), w_succ (n := l.length) (by omega) (by omega), rd_nat]
    refine ev_pos (by omega) (ev_pos (by omega) (ev_pos (by omega) (ev_pos (by omega) (ev_pos (by omega) ?_))))
    exact ih (i + 1) _ (by omega) (by intro x h; have := hm x h; simpa using this)
theorem markOf_ev (n : Nat) (hn : n ≤ 1048576) (l : List Int) (hl : l.length ≤ maxLen) (h : ∀ x ∈ l, 0 ≤ x ∧ x < n) : Ev (fun k => impl_markOf.f k (n : Int) l) (mk n l) := by
  unfold impl_markOf.f mk setAll
  refine ev_pos (by omega) (ev_pos (by omega) ?_)
  rw [toNat_nat]
  exact markOf_l0 l hl l.length 0 _ (by omega) (by simpa using h)

/- impl_closureOf -/
theorem closureOf_l1 (a : List (List Int)) (r : List Int) (hr : r.length ≤ 120) (i : Nat) (q : List Bool) : ∀ (d j : Nat) (m : List Bool), j + d = r.length → (∀ x ∈ r, 0 ≤ x ∧ x < m.length) → Ev (fun k => impl_closureOf.l0 k a (foldR (setAt r) j r.length m) (wrap64 ((i : Int) - 1))) q →
    Ev (fun k => impl_closureOf.l1 k a m (i : Int) r (r.length : Int) (j : Int)) q := by
  intro d
  induction d with
  | zero =>
    intro j m hj hm hq
    rw [foldR_end (by omega)] at hq
    exact Ev.step (fun k => impl_closureOf.l1.eq_2 a m i r r.length j k) (ev_neg (by omega) hq)
  | succ d ih =>
    intro j m hj hm hq
    refine Ev.step (fun k => impl_closureOf.l1.eq_2 a m i r r.length j k) ?_
    have hx := hm _ (getD_mem (z := 0) (show j < r.length by omega))
    rw [foldR_step (by omega)] at hq
    rw [w_succ (n := r.length) (by omega) (by omega), rd_nat]
    refine ev_pos (by omega) (ev_pos (by omega) (ev_pos (by omega) (ev_pos (by omega) (ev_pos (by omega) ?_))))
    exact ih (j + 1) _ (by omega) (by intro x h; have := hm x h; simpa using this) hq
theorem closureOf_l0 (a : List (List Int)) (ha : Arcs a) : ∀ (i : Nat) (m : List Bool), i ≤ a.length → m.length = a.length → Ev (fun k => impl_closureOf.l0 k a m ((i : Int) - 1)) (cloD a i m) := by
  have hle := ha.le
  intro i
  induction i with
  | zero =>
    intro m hi hm
    exact Ev.step (fun k => impl_closureOf.l0.eq_2 a m _ k) (ev_neg (by omega) (ev_some rfl))
  | succ i ih =>
    intro m hi hm
    rw [show ((i + 1 : Nat) : Int) - 1 = (i : Int) by omega]
    have ihi := ih (cloStep a m i) (by omega) (by rw [cloStep_len]; exact hm)
    rw [cloD]
    refine Ev.step (fun k => impl_closureOf.l0.eq_2 a m i k) ?_
    rw [rdB, rdL1]
    unfold at_
    rw [toNat_nat]
    refine ev_pos (by omega) (ev_pos (by omega) (ev_pos (by omega) (ev_ite (fun h => ?_) (fun h => ?_))))
    · rw [show cloStep a m i = setAll m (a.getD i []) from if_pos h] at ihi ⊢
      refine ev_pos (by omega) (closureOf_l1 a _ (ha.len i) i _ (a.getD i []).length 0 m (by omega) (fun x hx => by have := ha.down hx; omega) ?_)
      rw [w64 (x := (i : Int) - 1) (by omega) (by omega)]
      exact ihi
    · rw [show cloStep a m i = m from if_neg h] at ihi ⊢
      rw [w64 (x := (i : Int) - 1) (by omega) (by omega)]
      exact ihi
theorem closureOf_ev (a : List (List Int)) (ha : Arcs a) (l : List Int) (hl : l.length ≤ 1048576) (h : ∀ x ∈ l, 0 ≤ x ∧ x < a.length) : Ev (fun k => impl_closureOf.f k a l) (clo a (mk a.length l)) := by
  have hle := ha.le
  unfold impl_closureOf.f clo
  refine Ev.bind (markOf_ev a.length (by omega) l (maxLen_val (by omega)) h) ?_
  rw [w64 (by omega) (by omega)]
  exact closureOf_l0 a ha a.length _ (Nat.le_refl _) mk_len

/- hand.FnExactReducedArcs -/
def orAt (k : List Bool) (m : List Bool) (j : Nat) : List Bool := m.set j (m.getD j false || k.getD j false)
theorem iRed_l2 (a o : List (List Int)) (i : Int) (l : List Int) (n c : Int) (t : Int) (row : List Int) (s : Int) (q : List (List Int) × Bool) (k : List Bool) (hk : k.length ≤ 120) : ∀ (d j : Nat) (b : List Bool), j + d = k.length → b.length = k.length →
    Ev (fun r => impl_ReducedArcs.l1 r a o i l (foldR (orAt k) j k.length b) a n c row t (wrap64 (s + 1))) q →
    Ev (fun r => impl_ReducedArcs.l2 r a o i l b a n c row t s k (k.length : Int) (j : Int)) q := by
  intro d
  induction d with
  | zero =>
    intro j b hj hb hq
    rw [foldR_end (by omega)] at hq
    exact Ev.step (fun r => impl_ReducedArcs.l2.eq_2 a o i l b a n c row t s k k.length j r) (ev_neg (by omega) hq)
  | succ d ih =>
    intro j b hj hb hq
    refine Ev.step (fun r => impl_ReducedArcs.l2.eq_2 a o i l b a n c row t s k k.length j r) ?_
    rw [foldR_step (by omega)] at hq
    unfold orAt at hq
    have e : ∀ m : List Bool, at_ m (j : Int) = m.getD j false := by intro m; unfold at_; rw [toNat_nat]
    rw [w_succ (n := k.length) (by omega) (by omega), rdB, rdB, e, e, toNat_nat]
    refine ev_pos (by omega) (ev_pos (by omega) (ev_pos (by omega) (ev_pos (by omega) (ev_ite (fun h => ?_) (fun h => ?_)))))
    · rw [h, Bool.true_or] at hq
      exact ih (j + 1) _ (by omega) (by rw [List.length_set]; exact hb) hq
    · rw [Bool.not_eq_true] at h
      rw [h, Bool.false_or] at hq
      exact ih (j + 1) _ (by omega) (by rw [List.length_set]; exact hb) hq
theorem iRed_l1 (a : List (List Int)) (ha : Arcs a) (o : List (List Int)) (i : Int) (l : List Int) (hl : ∀ x ∈ l, 0 ≤ x ∧ x < a.length) (hll : l.length ≤ 120) (n c : Int) (q : List (List Int) × Bool) : ∀ (d j : Nat) (b : List Bool), j + d = l.length → b.length = a.length →
    Ev (fun r => impl_ReducedArcs.l3 r a o i (foldR (behStep a l) j l.length b) a n c l (l.length : Int) 0) q →
    Ev (fun r => impl_ReducedArcs.l1 r a o i l b a n c l (l.length : Int) (j : Int)) q := by
  have hle := ha.le
  intro d
  induction d with
  | zero =>
    intro j b hj hb hq
    rw [foldR_end (by omega)] at hq
    exact Ev.step (fun r => impl_ReducedArcs.l1.eq_2 a o i l b a n c l l.length j r) (ev_neg (by omega) hq)
  | succ d ih =>
    intro j b hj hb hq
    have hx := hl _ (getD_mem (z := 0) (show j < l.length by omega))
    rw [foldR_step (by omega)] at hq
    have ih := ih (j + 1) (behStep a l b j) (by omega) (by unfold behStep; rw [orM_len]; exact hb) hq
    refine Ev.step (fun r => impl_ReducedArcs.l1.eq_2 a o i l b a n c l l.length j r) ?_
    rw [rd_nat, rdL1']
    have hrow : ∀ x ∈ a.getD (l.getD j 0).toNat [], 0 ≤ x ∧ x < a.length := fun x hx' => by have := ha.down hx'; omega
    refine ev_pos (by omega) (ev_pos (by omega) (ev_pos (by omega) (ev_pos (by omega) (ev_pos (by omega) (Ev.bind (closureOf_ev a ha _ (by have := ha.len (l.getD j 0).toNat; omega) hrow) ?_)))))
    refine iRed_l2 a o i l n c l.length l j q (clo a (mk a.length (a.getD (l.getD j 0).toNat []))) (by rw [clo_len, mk_len]; omega) (clo a (mk a.length (a.getD (l.getD j 0).toNat []))).length 0 b (by omega) (by rw [clo_len, mk_len]; exact hb) ?_
    rw [w_succ (n := l.length) (by omega) (by omega)]
    exact ih
theorem iRed_l3 (a o : List (List Int)) (i : Nat) (hi : i < o.length) (m : List Bool) (n c : Int) (l : List Int) (hl : ∀ x ∈ l, 0 ≤ x ∧ x < m.length) (hll : l.length ≤ 120) (q : List (List Int) × Bool)
    (hq : Ev (fun r => impl_ReducedArcs.l0 r a (o.set i (l.filter (fun x => !(at_ m x)))) a n (wrap64 (c + 1))) q) : ∀ (d j : Nat), j + d = l.length →
    Ev (fun r => impl_ReducedArcs.l3 r a (o.set i (foldR (keepAt (fun x => !(at_ m x)) l) 0 j [])) (i : Int) m a n c l (l.length : Int) (j : Int)) q := by
  intro d
  induction d with
  | zero =>
    intro j hj
    obtain rfl : j = l.length := by omega
    refine Ev.step (fun r => impl_ReducedArcs.l3.eq_2 a _ i m a n c l l.length l.length r) (ev_neg (by omega) ?_)
    rw [keepAt_filter _ _ _ (Nat.le_refl _), List.take_length]
    exact hq
  | succ d ih =>
    intro j hj
    have ih := ih (j + 1) (by omega)
    rw [foldR_last (Nat.zero_le _)] at ih
    have hlen := keepAt_len (fun x => !(at_ m x)) l j (by omega)
    have hx := hl _ (getD_mem (z := 0) (show j < l.length by omega))
    refine Ev.step (fun r => impl_ReducedArcs.l3.eq_2 a _ i m a n c l l.length j r) ?_
    rw [w_succ (n := l.length) (by omega) (by omega), rd_nat, rdB, rdL1, getD_set, if_pos ⟨rfl, hi⟩, toNat_nat, List.set_set, List.length_set]
    unfold keepAt at ih hlen ⊢
    refine ev_pos (by omega) (ev_pos (by omega) (ev_pos (by omega) (ev_pos (by omega) (ev_pos (by omega) (ev_ite (fun h => ?_) (fun h => ?_))))))
    · rw [if_neg (by show ¬ ((!(at_ m (l.getD j 0))) = true); rw [h]; simp)] at ih; exact ih
    · rw [if_pos (by show (!(at_ m (l.getD j 0))) = true; rw [Bool.not_eq_true] at h; rw [h]; rfl)] at ih
      exact ev_pos (by omega) (ev_pos (by omega) (ev_pos (by omega) ih))
def redP (a : List (List Int)) (i : Nat) : List (List Int) := (redL a).take i ++ List.replicate (a.length - i) []
theorem redP_len (a : List (List Int)) (i : Nat) (h : i ≤ a.length) : (redP a i).length = a.length := by
  unfold redP; rw [List.length_append, List.length_take, List.length_replicate, redL_len]; omega
theorem redP_set (a : List (List Int)) (i : Nat) (h : i < a.length) : (redP a i).set i (redRow a (a.getD i [])) = redP a (i + 1) := by
  unfold redP
  rw [List.set_append_right _ _ (by rw [List.length_take, redL_len]; omega), List.length_take, redL_len, Nat.min_eq_left (by omega), Nat.sub_self, show a.length - i = (a.length - (i + 1)) + 1 by omega, List.replicate_succ, List.set_cons_zero, ← take_map_snoc i h, List.append_assoc]
  rfl
theorem redP_nil (a : List (List Int)) (i : Nat) (h : i < a.length) : (redP a i).set i [] = redP a i := by
  have e : (redP a i).getD i [] = [] := by
    unfold redP
    rw [List.getD_eq_getElem?_getD, List.getElem?_append_right (by rw [List.length_take, redL_len]; omega)]
    simp [List.getElem?_replicate]
    split <;> rfl
  refine getD_ext [] (by rw [List.length_set]) (fun j hj => ?_)
  rw [getD_set]
  split
  · rename_i hc; rw [← hc.1, e]
  · rfl
theorem iRed_l0 (a : List (List Int)) (ha : Arcs a) : ∀ (d i : Nat), i + d = a.length → Ev (fun r => impl_ReducedArcs.l0 r a (redP a i) a (a.length : Int) (i : Int)) (redL a, true) := by
  have hle := ha.le
  intro d
  induction d with
  | zero =>
    intro i hi
    obtain rfl : i = a.length := by omega
    refine Ev.step (fun r => impl_ReducedArcs.l0.eq_2 a _ a a.length a.length r) (ev_neg (by omega) (ev_some ?_))
    unfold redP
    rw [List.take_of_length_le (by rw [redL_len]; omega), Nat.sub_self]; simp
  | succ d ih =>
    intro i hi
    have ih := ih (i + 1) (by omega)
    refine Ev.step (fun r => impl_ReducedArcs.l0.eq_2 a _ a a.length i r) ?_
    rw [rdL1, toNat_nat]
    have hrow : ∀ x ∈ a.getD i [], 0 ≤ x ∧ x < (a.length : Int) := fun x hx => by have := ha.down hx; omega
    refine ev_pos (by omega) (ev_pos (by omega) (ev_pos (by omega) (ev_pos (by omega) (ev_pos (by omega) ?_))))
    refine iRed_l1 a ha _ i (a.getD i []) hrow (ha.len i) a.length i _ (a.getD i []).length 0 _ (by omega) (by simp) ?_
    have hb := (behStep_at ha hrow (a.getD i []).length (Nat.le_refl _)).1
    have := iRed_l3 a (redP a i) i (by rw [redP_len a i (by omega)]; omega) (behM a (a.getD i [])) a.length i (a.getD i []) (fun x hx => by rw [show (behM a (a.getD i [])).length = a.length from hb]; exact hrow x hx) (ha.len i) (redL a, true) (by
      rw [show (a.getD i []).filter (fun x => !(at_ (behM a (a.getD i [])) x)) = redRow a (a.getD i []) from rfl, redP_set a i (by omega), w_succ (n := a.length) (by omega) (by omega)]
      exact ih) (a.getD i []).length 0 (by omega)
    rw [foldR_end (Nat.le_refl _), redP_nil a i (by omega)] at this
    exact this
theorem iRed_ev (a : List (List Int)) (ha : a.length ≤ maxLen) (hb : ∀ x ∈ a, x.length ≤ maxLen) : Ev (fun k => impl_ReducedArcs.f k a) (if arcsOk a then (redL a, true) else ([], false)) := by
  unfold impl_ReducedArcs.f
  refine Ev.bind (AreArcs_ev a ha hb) (ev_ite (fun h => ?_) (fun h => ?_))
  · have hA := arcsOk_iff.1 h
    have hle := hA.le
    rw [if_pos h, toNat_nat]
    refine ev_pos (by omega) (ev_pos (by omega) ?_)
    have := iRed_l0 a hA a.length 0 (by omega)
    rw [show redP a 0 = List.replicate a.length [] by unfold redP; simp] at this
    exact this
  · rw [if_neg h]; exact ev_some rfl
theorem both (a : List (List Int)) (ha : a.length ≤ 1048576) (hb : ∀ x ∈ a, x.length ≤ 1048576) :
    ∃ r : List (List Int) × Bool, Ev (fun k => spec_ReducedArcs.f k a) r ∧ Ev (fun k => impl_ReducedArcs.f k a) r ∧ r.1.length ≤ 1048576 ∧ ∀ x ∈ r.1, x.length ≤ 1048576 := by
  refine ⟨if arcsOk a then (redL a, true) else ([], false), sRed_ev a (maxLen_val (by omega)) (fun x hx => maxLen_val (by have := hb x hx; omega)), iRed_ev a (maxLen_val (by omega)) (fun x hx => maxLen_val (by have := hb x hx; omega)), ?_⟩
  split
  · refine ⟨by show (redL a).length ≤ _; rw [redL_len]; exact ha, fun x hx => ?_⟩
    change x ∈ redL a at hx
    unfold redL at hx
    rw [List.mem_map] at hx
    obtain ⟨y, hy, rfl⟩ := hx
    have := redRow_len a y
    have := hb y hy
    omega
  · simp

set_option maxHeartbeats 4000000 in
set_option maxRecDepth 100000 in
theorem walk (a0 : List (List Int)) (Aa0 : Option Addr) (ca0 : Nat) (w : World) (hra0 : Kd.C kSS w Aa0 a0.length a0) (hca0 : a0.length ≤ ca0) (r : Int) (hsz : ∀ (A : Option Addr) (c : Nat) (w : World), Kd.C kSS w A a0.length a0 → a0.length ≤ c → Calls Try.prog 15 #[.slice A a0.length c, .int .i64 1048576] w fun e w' => e = .returned (.int .i64 r) ∧ Below w.heap.size w w') (hlt : ¬ r < 0) (g0 : List (List Int)) (g1 : Bool) (hla0 : a0.length ≤ 1048576) (hba0 : ∀ x ∈ a0, x.length ≤ 1048576) (hlg0 : g0.length ≤ 1048576) (hbg0 : ∀ x ∈ g0, x.length ≤ 1048576)  (hs : ∃ k, spec_ReducedArcs.f k a0 = some (g0, g1)) (hi : ∃ k, impl_ReducedArcs.f k a0 = some (g0, g1)) :
    Calls Try.prog 11 #[.slice Aa0 a0.length ca0] w fun e w' => e = .returned (.bool true) ∧ Below w.heap.size w w' := by
  obtain ⟨ks, hs⟩ := hs
  obtain ⟨ki, hi⟩ := hi
  have Hs := Aside0.mk hs
  have Hi := Aside0.mk hi
  have HRa0 := Aside0.mk hra0
  have HCa0 := Aside0.mk hca0
  have HLa0 := Aside0.mk hla0
  have HBa0 := Aside0.mk hba0
  have HLg0 := Aside0.mk hlg0
  have HBg0 := Aside0.mk hbg0
  have HSZ := Aside0.mk hsz
  have d1 : decide (r < 0) = false := decide_eq_false hlt
  clear hs hi hra0 hca0 hla0 hba0 hlg0 hbg0 hsz hlt
  go_enter Try.func11, Try.ntmps11
  go_wp2_with fail
  refine (HSZ.out Aa0 ca0 w HRa0.out HCa0.out).mono ?_
  rintro e w1 ⟨rfl, hb⟩
  have B1 := Aside0.mk hb
  have z1 := hb.size
  clear hb
  go_wp2_with fail
  refine (toIntSS_calls a0 HLa0.out HBa0.out Aa0 ca0 w1 (Kd.C_below HRa0.out B1.out) HCa0.out).mono ?_
  rintro e w2 ⟨v, rfl, ho, hb⟩
  have B2 := Aside0.mk (below_step B1.out hb)
  have z2 := hb.size
  obtain ⟨At0_2, ct0_2, rfl⟩ := Kd.S_slice ho
  have Ft0_2 := Aside0.mk (ivS (w := w) ho (by omega))
  clear ho
  clear hb
  go_wp2_with fail
  refine (spec_ReducedArcs.calls ks At0_2 ct0_2 a0 g0 g1 w2 (readsS Ft0_2.out).2.2 (readsS Ft0_2.out).2.1 Hs.out).mono ?_
  rintro e w3 ⟨v, rfl, ho, hb⟩
  have ho := Kd.S_mono ho (ok' := fun _ => True) (fun _ _ => trivial)
  have B3 := Aside0.mk (below_step B2.out hb)
  have z3 := hb.size
  obtain ⟨Aw0_3, cw0_3, rfl⟩ := Kd.S_slice ho
  have Fw0_3 := Aside0.mk (ivS (w := w) ho (by omega))
  clear ho
  have Ft0_3 := Aside0.mk (Kd.S_below Ft0_2.out hb)
  clear Ft0_2
  clear hb
  go_wp2_with fail
  refine (toIntSS_calls a0 HLa0.out HBa0.out Aa0 ca0 w3 (Kd.C_below HRa0.out B3.out) HCa0.out).mono ?_
  rintro e w4 ⟨v, rfl, ho, hb⟩
  have B4 := Aside0.mk (below_step B3.out hb)
  have z4 := hb.size
  obtain ⟨Ax0_4, cx0_4, rfl⟩ := Kd.S_slice ho
  have Fx0_4 := Aside0.mk (ivS (w := w) ho (by omega))
  clear ho
  have Fw0_4 := Aside0.mk (Kd.S_below Fw0_3.out hb)
  clear Fw0_3
  clear hb
  go_wp2_with fail
  refine (impl_ReducedArcs.calls ki Ax0_4 cx0_4 a0 g0 g1 w4 (readsS Fx0_4.out).2.2 (readsS Fx0_4.out).2.1 Hi.out).mono ?_
  rintro e w5 ⟨v, rfl, ho, hb⟩
  have ho := Kd.S_mono ho (ok' := fun _ => True) (fun _ _ => trivial)
  have B5 := Aside0.mk (below_step B4.out hb)
  have z5 := hb.size
  obtain ⟨Ag0_5, cg0_5, rfl⟩ := Kd.S_slice ho
  have Fg0_5 := Aside0.mk (ivS (w := w) ho (by omega))
  clear ho
  have Fw0_5 := Aside0.mk (Kd.S_below Fw0_4.out hb)
  clear Fw0_4
  have Fx0_5 := Aside0.mk (Kd.S_below Fx0_4.out hb)
  clear Fx0_4
  clear hb
  go_wp2_with fail
  refine (eqIntSS_calls g0 (maxLen_val (by have := HLg0.out; omega)) (fun x hx => maxLen_val (by have := HBg0.out x hx; omega)) Ag0_5 Aw0_3 cg0_5 cw0_3 w5 (readsS Fg0_5.out).2.2 (readsS Fg0_5.out).2.1 (readsS Fw0_5.out).2.2 (readsS Fw0_5.out).2.1).mono ?_
  rintro e w6 ⟨rfl, hb⟩
  have B6 := Aside0.mk (below_step B5.out hb)
  have z6 := hb.size
  have Fw0_6 := Aside0.mk (Kd.S_below Fw0_5.out hb)
  clear Fw0_5
  have Fx0_6 := Aside0.mk (Kd.S_below Fx0_5.out hb)
  clear Fx0_5
  have Fg0_6 := Aside0.mk (Kd.S_below Fg0_5.out hb)
  clear Fg0_5
  clear hb
  go_wp2_with fail
  refine (toIntSS_calls a0 HLa0.out HBa0.out Aa0 ca0 w6 (Kd.C_below HRa0.out B6.out) HCa0.out).mono ?_
  rintro e w7 ⟨v, rfl, ho, hb⟩
  have B7 := Aside0.mk (below_step B6.out hb)
  have z7 := hb.size
  obtain ⟨Au_7, cu_7, rfl⟩ := Kd.S_slice ho
  have Fu_7 := Aside0.mk (ivS (w := w) ho (by omega))
  clear ho
  have Fw0_7 := Aside0.mk (Kd.S_below Fw0_6.out hb)
  clear Fw0_6
  have Fx0_7 := Aside0.mk (Kd.S_below Fx0_6.out hb)
  clear Fx0_6
  have Fg0_7 := Aside0.mk (Kd.S_below Fg0_6.out hb)
  clear Fg0_6
  clear hb
  go_wp2_with fail
  refine (eqIntSS_calls a0 (maxLen_val (by have := HLa0.out; omega)) (fun x hx => maxLen_val (by have := HBa0.out x hx; omega)) Ax0_4 Au_7 cx0_4 cu_7 w7 (readsS Fx0_7.out).2.2 (readsS Fx0_7.out).2.1 (readsS Fu_7.out).2.2 (readsS Fu_7.out).2.1).mono ?_
  rintro e w8 ⟨rfl, hb⟩
  have B8 := Aside0.mk (below_step B7.out hb)
  have z8 := hb.size
  have Fw0_8 := Aside0.mk (Kd.S_below Fw0_7.out hb)
  clear Fw0_7
  have Fx0_8 := Aside0.mk (Kd.S_below Fx0_7.out hb)
  clear Fx0_7
  have Fg0_8 := Aside0.mk (Kd.S_below Fg0_7.out hb)
  clear Fg0_7
  have Fu_8 := Aside0.mk (Kd.S_below Fu_7.out hb)
  clear Fu_7
  clear hb
  go_wp2_with fail
  refine (markIntSS_calls a0 HLa0.out HBa0.out 1 (by omega) (by have := HLa0.out; omega) (Btw w3 w4) (.slice Ax0_4 a0.length cx0_4) w w8 B8.out Fx0_8.out).mono ?_
  rintro e w9 ⟨rfl, ho, hb, hk⟩
  have z9 := hk.1
  have B9 := Aside0.mk hb
  have Fw0_9 := Aside0.mk (Kd.S_kept Fw0_8.out hk (apart (by omega)))
  clear Fw0_8
  have Fg0_9 := Aside0.mk (Kd.S_kept Fg0_8.out hk (apart (by omega)))
  clear Fg0_8
  have hbd := markAll_bd 1 a0 HBa0.out a0.length
  have hll := HLa0.out
  obtain ⟨m9, em9⟩ : ∃ z : Int, z = (markAll 1 a0 a0.length).1 := ⟨_, rfl⟩
  rw [← em9] at hbd ⊢
  have lm9 : 0 ≤ m9 ∧ m9 ≤ 1099511627777 := by omega
  have dm9 : decide (m9 < 0) = false := decide_eq_false (by omega)
  have Em9 := Aside0.mk em9
  have Lm9 := Aside0.mk lm9
  clear Fx0_8
  clear hb hk ho hll em9 lm9 hbd
  go_wp2_with fail
  refine (eqIntSS_calls g0 (maxLen_val (by have := HLg0.out; omega)) (fun x hx => maxLen_val (by have := HBg0.out x hx; omega)) Ag0_5 Aw0_3 cg0_5 cw0_3 w9 (readsS Fg0_9.out).2.2 (readsS Fg0_9.out).2.1 (readsS Fw0_9.out).2.2 (readsS Fw0_9.out).2.1).mono ?_
  rintro e w10 ⟨rfl, hb⟩
  have B10 := Aside0.mk (below_step B9.out hb)
  have z10 := hb.size
  have Fw0_10 := Aside0.mk (Kd.S_below Fw0_9.out hb)
  clear Fw0_9
  have Fg0_10 := Aside0.mk (Kd.S_below Fg0_9.out hb)
  clear Fg0_9
  clear hb
  go_wp2_with fail
  refine (markIntSS_calls g0 HLg0.out HBg0.out 1 (by omega) (by have := HLg0.out; omega) (Btw w4 w5) (.slice Ag0_5 g0.length cg0_5) w w10 B10.out Fg0_10.out).mono ?_
  rintro e w11 ⟨rfl, ho, hb, hk⟩
  have z11 := hk.1
  have B11 := Aside0.mk hb
  have Fw0_11 := Aside0.mk (Kd.S_kept Fw0_10.out hk (apart (by omega)))
  clear Fw0_10
  have hbd := markAll_bd 1 g0 HBg0.out g0.length
  have hll := HLg0.out
  obtain ⟨m11, em11⟩ : ∃ z : Int, z = (markAll 1 g0 g0.length).1 := ⟨_, rfl⟩
  rw [← em11] at hbd ⊢
  have lm11 : 0 ≤ m11 ∧ m11 ≤ 1099511627777 := by omega
  have dm11 : decide (m11 < 0) = false := decide_eq_false (by omega)
  have Em11 := Aside0.mk em11
  have Lm11 := Aside0.mk lm11
  have Fg0_11 := Aside0.mk ho
  clear Fg0_10
  clear hb hk ho hll em11 lm11 hbd
  go_wp2_with fail
  refine (HeldSS.heldIntSS_calls g0 HLg0.out HBg0.out Ag0_5 cg0_5 w11 (by have h := (readsS Fg0_11.out).2.2; rwa [markAll_len] at h) (by have h := (readsS Fg0_11.out).2.1; rwa [markAll_len] at h)).mono ?_
  rintro e w12 ⟨rfl, hb⟩
  have B12 := Aside0.mk (below_step B11.out hb)
  have z12 := hb.size
  have Fw0_12 := Aside0.mk (Kd.S_below Fw0_11.out hb)
  clear Fw0_11
  have Fg0_12 := Aside0.mk (Kd.S_below Fg0_11.out hb)
  clear Fg0_11
  rw [← Em11.out]
  clear hb
  go_wp2_with fail
  refine (toIntSS_calls a0 HLa0.out HBa0.out Aa0 ca0 w12 (Kd.C_below HRa0.out B12.out) HCa0.out).mono ?_
  rintro e w13 ⟨v, rfl, ho, hb⟩
  have B13 := Aside0.mk (below_step B12.out hb)
  have z13 := hb.size
  obtain ⟨At0_13, ct0_13, rfl⟩ := Kd.S_slice ho
  have Ft0_13 := Aside0.mk (ivS (w := w) ho (by omega))
  clear ho
  have Fw0_13 := Aside0.mk (Kd.S_below Fw0_12.out hb)
  clear Fw0_12
  have Fg0_13 := Aside0.mk (Kd.S_below Fg0_12.out hb)
  clear Fg0_12
  clear hb
  go_wp2_with fail
  refine (impl_ReducedArcs.calls ki At0_13 ct0_13 a0 g0 g1 w13 (readsS Ft0_13.out).2.2 (readsS Ft0_13.out).2.1 Hi.out).mono ?_
  rintro e w14 ⟨v, rfl, ho, hb⟩
  have ho := Kd.S_mono ho (ok' := fun _ => True) (fun _ _ => trivial)
  have B14 := Aside0.mk (below_step B13.out hb)
  have z14 := hb.size
  obtain ⟨Ah0_14, ch0_14, rfl⟩ := Kd.S_slice ho
  have Fh0_14 := Aside0.mk (ivS (w := w) ho (by omega))
  clear ho
  have Fw0_14 := Aside0.mk (Kd.S_below Fw0_13.out hb)
  clear Fw0_13
  have Fg0_14 := Aside0.mk (Kd.S_below Fg0_13.out hb)
  clear Fg0_13
  have Ft0_14 := Aside0.mk (Kd.S_below Ft0_13.out hb)
  clear Ft0_13
  clear hb
  go_wp2_with fail
  refine (eqIntSS_calls g0 (maxLen_val (by have := HLg0.out; omega)) (fun x hx => maxLen_val (by have := HBg0.out x hx; omega)) Ah0_14 Aw0_3 ch0_14 cw0_3 w14 (readsS Fh0_14.out).2.2 (readsS Fh0_14.out).2.1 (readsS Fw0_14.out).2.2 (readsS Fw0_14.out).2.1).mono ?_
  rintro e w15 ⟨rfl, hb⟩
  have B15 := Aside0.mk (below_step B14.out hb)
  have z15 := hb.size
  have Fw0_15 := Aside0.mk (Kd.S_below Fw0_14.out hb)
  clear Fw0_14
  have Fg0_15 := Aside0.mk (Kd.S_below Fg0_14.out hb)
  clear Fg0_14
  have Fh0_15 := Aside0.mk (Kd.S_below Fh0_14.out hb)
  clear Fh0_14
  clear hb
  go_wp2_with fail
  refine (HeldSS.heldIntSS_calls g0 HLg0.out HBg0.out Ag0_5 cg0_5 w15 (by have h := (readsS Fg0_15.out).2.2; rwa [markAll_len] at h) (by have h := (readsS Fg0_15.out).2.1; rwa [markAll_len] at h)).mono ?_
  rintro e w16 ⟨rfl, hb⟩
  have B16 := Aside0.mk (below_step B15.out hb)
  have z16 := hb.size
  have Fw0_16 := Aside0.mk (Kd.S_below Fw0_15.out hb)
  clear Fw0_15
  have Fg0_16 := Aside0.mk (Kd.S_below Fg0_15.out hb)
  clear Fg0_15
  have Fh0_16 := Aside0.mk (Kd.S_below Fh0_15.out hb)
  clear Fh0_15
  rw [← Em11.out]
  clear hb
  go_wp2_with fail
  go_ret
  exact ⟨rfl, B16.out⟩
set_option maxRecDepth 100000 in
theorem walk_neg (a0 : List (List Int)) (Aa0 : Option Addr) (ca0 : Nat) (w : World) (hra0 : Kd.C kSS w Aa0 a0.length a0) (hca0 : a0.length ≤ ca0)  (r : Int) (hsz : ∀ (A : Option Addr) (c : Nat) (w : World), Kd.C kSS w A a0.length a0 → a0.length ≤ c → Calls Try.prog 15 #[.slice A a0.length c, .int .i64 1048576] w fun e w' => e = .returned (.int .i64 r) ∧ Below w.heap.size w w') (hlt : r < 0) : Calls Try.prog 11 #[.slice Aa0 a0.length ca0] w fun e w' => e = .returned (.bool true) ∧ Below w.heap.size w w' := by
  have HSZ := Aside0.mk hsz
  have HR := Aside0.mk hra0
  have HC := Aside0.mk hca0
  have d1 : decide (r < 0) = true := decide_eq_true hlt
  clear hsz hlt  hra0 hca0
  go_enter Try.func11, Try.ntmps11
  go_wp2_with fail
  refine (HSZ.out Aa0 ca0 w HR.out HC.out).mono ?_
  rintro e w1 ⟨rfl, hb⟩
  have B1 := Aside0.mk hb
  clear hb
  go_wp2_with fail
  go_ret
  exact ⟨rfl, B1.out⟩
theorem law (a0 : List (List Int)) (ha0 : a0.length ≤ maxLen) (ga0 : ∀ x ∈ a0, x.length ≤ maxLen ∧ ∀ y0 ∈ x, (Lit.int .i64 y0).wf = true) (Aa0 : Option Addr) (ca0 : Nat) (w : World) (hra0 : Kd.C kSS w Aa0 a0.length a0) (hca0 : a0.length ≤ ca0) : Calls Try.prog 11 #[.slice Aa0 a0.length ca0] w fun e w' => e = .returned (.bool true) ∧ Below w.heap.size w w' := by
  obtain ⟨r, hz, hsz⟩ := szIntSS_calls a0 ha0 (fun x hx => (ga0 x hx).1)
  by_cases hlt : r < 0
  · exact walk_neg a0 Aa0 ca0 w hra0 hca0  r hsz hlt
  obtain ⟨l1, l2⟩ := hz (by omega)
  obtain ⟨⟨g0, g1⟩, hs, hi, ng0⟩ := both a0 l1 l2
  exact walk a0 Aa0 ca0 w hra0 hca0 r hsz hlt g0 g1 l1 l2 ng0.1 ng0.2 hs.rounds hi.rounds
end Go.Proofs.Ytdjahpigkbgobaa.WalkFnExactReducedArcs
