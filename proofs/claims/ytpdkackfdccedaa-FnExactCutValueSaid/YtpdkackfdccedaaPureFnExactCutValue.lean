/- The pure side of the law FnExactCutValue: the printed functions, one by one, and what the law says of them. -/
import Derived.Test.YtpdkackfdccedaaStmtFnExactCutValue
import Derived.Test.YtpdkackfdccedaaBase
import Derived.Test.YtpdkackfdccedaaMarks
namespace Go.Proofs.Ytpdkackfdccedaa.PureFnExactCutValue
open Go.RowKit Go.Proofs.Ytpdkackfdccedaa.PFnExactCutValue Go.Proofs.YtpdkackfdccedaaW.PrintWords Go.Proofs.YtpdkackfdccedaaW.PrintLast Go.Proofs.YtpdkackfdccedaaW.PrintMore Go.Proofs.Ytpdkackfdccedaa.B
set_option linter.unusedVariables false
set_option linter.unusedSimpArgs false
/- laws_szEdgeS -/
theorem szEdgeS_tells (l : List S69) (hl : l.length ≤ maxLen) : ∃ r, laws_szEdgeS.f l 1048576 = some r ∧ (0 ≤ r → l.length ≤ 1048576) := by
  have hl := maxLen_le hl
  unfold laws_szEdgeS.f
  rw [w64 (by omega) (by omega)]
  by_cases h : 1048576 - (l.length : Int) < 0
  · exact ⟨-1, by rw [if_pos h], by omega⟩
  · exact ⟨_, by rw [if_neg h], by omega⟩

/- edges -/
def cE (e : S69) : S67 := ⟨e.f0, e.f1, e.f2⟩
def okE (n : Int) (e : S67) : Bool := decide (0 ≤ e.f0 ∧ e.f0 < n ∧ 0 ≤ e.f1 ∧ e.f1 < n ∧ 0 ≤ e.f2 ∧ e.f2 ≤ 1000000000)
def netOk (n : Int) (l : List S67) : Bool := decide (2 ≤ n ∧ n ≤ 130 ∧ l.length ≤ 2000) && allR (fun j => okE n (l.getD j z67)) 0 l.length

/- laws_toEdgeS -/
theorem toEdgeS_l0 (l : List S69) (hl : l.length ≤ 1048576) : ∀ (d i : Nat) (m : List S67), i + d = l.length → m.length = l.length → (∀ j, j < i → m[j]? = (l.map cE)[j]?) → Ev (fun k => laws_toEdgeS.l0 k l m (i : Int)) (l.map cE) := by
  intro d
  induction d with
  | zero =>
    intro i m hi hm he
    refine Ev.step (fun k => laws_toEdgeS.l0.eq_2 l m i k) ?_
    refine ev_neg (by omega) (ev_some ?_)
    refine List.ext_getElem? (fun j => ?_)
    by_cases hj : j < i
    · exact he j hj
    · rw [List.getElem?_eq_none (by omega), List.getElem?_eq_none (by simp; omega)]
  | succ d ih =>
    intro i m hi hm he
    refine Ev.step (fun k => laws_toEdgeS.l0.eq_2 l m i k) ?_
    refine ev_pos (by omega) (ev_pos (by omega) (ev_bindc rfl (ev_pos (by omega) ?_)))
    rw [w_succ (n := l.length) (by omega) (by omega), toNat_nat]
    refine ih (i + 1) _ (by omega) (by simpa using hm) (fun j hj => ?_)
    by_cases hji : j = i
    · subst hji
      have h1 : j < l.length := by omega
      simp [List.getElem?_set, show j < m.length by omega, rd_T69, h1, cE]
    · rw [← he j (by omega), List.getElem?_set_ne (Ne.symm hji)]
theorem toEdgeS_ev (l : List S69) (hl : l.length ≤ 1048576) : Ev (fun k => laws_toEdgeS.f k l) (l.map cE) := by
  unfold laws_toEdgeS.f
  refine ev_pos (by omega) (ev_pos (by omega) ?_)
  exact toEdgeS_l0 l hl l.length 0 _ (by omega) (by simp) (fun j hj => by omega)

/- laws_eqEdgeS -/
theorem eqEdgeS_l0 (l : List S67) (hl : l.length ≤ maxLen) : ∀ (d i : Nat), i + d = l.length → Ev (fun k => laws_eqEdgeS.l0 k l l (i : Int)) true := by
  have hl := maxLen_le hl
  intro d
  induction d with
  | zero =>
    intro i hi
    exact Ev.step (fun k => laws_eqEdgeS.l0.eq_2 l l i k) (ev_neg (by omega) (ev_some rfl))
  | succ d ih =>
    intro i hi
    refine Ev.step (fun k => laws_eqEdgeS.l0.eq_2 l l i k) ?_
    rw [w_succ (n := l.length) (by omega) (by omega)]
    exact ev_pos (by omega) (ev_pos (by omega) (ev_pos (by omega) (ev_bindc (by unfold laws_eqEdge.f; rw [if_pos rfl, if_pos rfl, if_pos rfl]) (ev_pos rfl (ih (i + 1) (by omega))))))
theorem eqEdgeS_ev (l : List S67) (hl : l.length ≤ maxLen) : Ev (fun k => laws_eqEdgeS.f k l l) true := by
  unfold laws_eqEdgeS.f
  exact ev_pos rfl (eqEdgeS_l0 l hl l.length 0 (by omega))

/- laws_toIntS -/
theorem toIntS_l0 (l : List Int) (hl : l.length ≤ 35184372088832) : ∀ (d i : Nat) (m : List Int), i + d = l.length → m.length = l.length → (∀ j, j < i → m.getD j 0 = l.getD j 0) → Ev (fun k => laws_toIntS.l0 k l m (i : Int)) l := by
  intro d
  induction d with
  | zero =>
    intro i m hi hm he
    refine Ev.step (fun k => laws_toIntS.l0.eq_2 l m i k) ?_
    refine ev_neg (by omega) (ev_some ?_)
    refine List.ext_getElem hm (fun j h1 h2 => ?_)
    have := he j (by omega)
    simpa [List.getD_eq_getElem?_getD, h1, h2] using this
  | succ d ih =>
    intro i m hi hm he
    refine Ev.step (fun k => laws_toIntS.l0.eq_2 l m i k) ?_
    refine ev_pos (by omega) (ev_pos (by omega) (ev_pos (by omega) ?_))
    rw [w_succ (n := l.length) (by omega) (by omega), toNat_nat, rd_nat]
    refine ih (i + 1) _ (by omega) (by simpa using hm) (fun j hj => ?_)
    by_cases hji : j = i
    · subst hji
      simp [List.getD_eq_getElem?_getD, show j < m.length by omega]
    · rw [← he j (by omega)]
      simp [List.getD_eq_getElem?_getD, List.getElem?_set_ne (Ne.symm hji)]
theorem toIntS_ev (l : List Int) (hl : l.length ≤ 35184372088832) : Ev (fun k => laws_toIntS.f k l) l := by
  unfold laws_toIntS.f
  refine ev_pos (by omega) (ev_pos (by omega) ?_)
  exact toIntS_l0 l hl l.length 0 _ (by omega) (by simp) (fun j hj => by omega)

/- laws_eqIntS -/
theorem eqIntS_l0 (l : List Int) (hl : l.length ≤ maxLen) : ∀ (d i : Nat), i + d = l.length → Ev (fun k => laws_eqIntS.l0 k l l (i : Int)) true := by
  have hl := maxLen_le hl
  intro d
  induction d with
  | zero =>
    intro i hi
    exact Ev.step (fun k => laws_eqIntS.l0.eq_2 l l i k) (ev_neg (by omega) (ev_some rfl))
  | succ d ih =>
    intro i hi
    refine Ev.step (fun k => laws_eqIntS.l0.eq_2 l l i k) ?_
    rw [w_succ (n := l.length) (by omega) (by omega)]
    exact ev_pos (by omega) (ev_pos (by omega) (ev_pos (by omega) (ev_pos rfl (ih (i + 1) (by omega)))))
theorem eqIntS_ev (l : List Int) (hl : l.length ≤ maxLen) : Ev (fun k => laws_eqIntS.f k l l) true := by
  unfold laws_eqIntS.f
  exact ev_pos rfl (eqIntS_l0 l hl l.length 0 (by omega))

/- cuts -/
theorem rdE (l : List S67) (i : Nat) : rd_T67 l (i : Int) = l.getD i z67 := by unfold rd_T67; rw [toNat_nat]
theorem netOk_iff {n : Int} {l : List S67} : netOk n l = true ↔ 2 ≤ n ∧ n ≤ 130 ∧ l.length ≤ 2000 ∧ ∀ j, j < l.length → okE n (l.getD j z67) = true := by
  unfold netOk
  rw [Bool.and_eq_true, decide_eq_true_eq, allR_iff]
  exact ⟨fun h => ⟨h.1.1, h.1.2.1, h.1.2.2, fun j hj => h.2 j (Nat.zero_le _) hj⟩, fun h => ⟨⟨h.1, h.2.1, h.2.2.1⟩, fun j _ hj => h.2.2.2 j hj⟩⟩
theorem okE_iff {n : Int} {e : S67} : okE n e = true ↔ 0 ≤ e.f0 ∧ e.f0 < n ∧ 0 ≤ e.f1 ∧ e.f1 < n ∧ 0 ≤ e.f2 ∧ e.f2 ≤ 1000000000 := by
  unfold okE; rw [decide_eq_true_eq]
def cutTerm (m : List Bool) (e : S67) : Int := if at_ m e.f0 = true then (if at_ m e.f1 = true then 0 else e.f2) else 0
def cutAt (m : List Bool) (l : List S67) (s : Int) (j : Nat) : Int := s + cutTerm m (l.getD j z67)
def cutSum (m : List Bool) (l : List S67) : Int := foldR (cutAt m l) 0 l.length 0
theorem cutTerm_bd {n : Int} {m : List Bool} {e : S67} (h : okE n e = true) : 0 ≤ cutTerm m e ∧ cutTerm m e ≤ 1000000000 := by
  rw [okE_iff] at h
  unfold cutTerm
  split
  · split <;> omega
  · omega
theorem cutAt_bd {n : Int} {m : List Bool} {l : List S67} (h : ∀ j, j < l.length → okE n (l.getD j z67) = true) (i : Nat) (hi : i ≤ l.length) : 0 ≤ foldR (cutAt m l) 0 i 0 ∧ foldR (cutAt m l) 0 i 0 ≤ 1000000000 * (i : Int) := by
  induction i with
  | zero => rw [foldR_end (Nat.le_refl _)]; omega
  | succ i ih =>
    have ih := ih (by omega)
    rw [foldR_last (Nat.zero_le _)]
    have := cutTerm_bd (m := m) (h i (by omega))
    unfold cutAt at *
    omega
def cutOk (n : Nat) (l : List Int) : Bool := asc l n && (at_ (mk n l) 0 && !(at_ (mk n l) ((n : Int) - 1)))
theorem cutOk_iff {n : Nat} {l : List Int} (hn : 2 ≤ n) : cutOk n l = true ↔ asc l ((n : Int) - 1) = true ∧ 0 < l.length ∧ l.getD 0 0 = 0 := by
  unfold cutOk
  rw [Bool.and_eq_true, Bool.and_eq_true, Bool.not_eq_true']
  have hm : asc l n = true → ∀ y : Int, 0 ≤ y → (at_ (mk n l) y = true ↔ y ∈ l) := by
    intro h y hy
    unfold at_
    rw [mk_at (fun x hx => asc_mem h hx), Int.toNat_of_nonneg hy]
  constructor
  · rintro ⟨h1, h2, h3⟩
    have hz := (hm h1 0 (by omega)).1 h2
    have hl : ¬ ((n : Int) - 1) ∈ l := by intro h; have := (hm h1 _ (by omega)).2 h; rw [this] at h3; cases h3
    obtain ⟨j, hj, he⟩ := mem_getD (z := 0) hz
    refine ⟨asc_of (asc_pairwise h1) (fun x hx => ?_), by omega, ?_⟩
    · have := asc_mem h1 hx
      refine ⟨this.1, ?_⟩
      by_cases e : x = (n : Int) - 1
      · exact absurd (e ▸ hx) hl
      · omega
    · by_cases e : j = 0
      · subst e; exact he
      · have := asc_mono h1 (show 0 < j by omega) hj
        have := (asc_at h1 (show 0 < l.length by omega)).1
        omega
  · rintro ⟨h1, h2, h3⟩
    have h4 : asc l n = true := asc_of (asc_pairwise h1) (fun x hx => by have := asc_mem h1 hx; omega)
    refine ⟨h4, (hm h4 0 (by omega)).2 (h3 ▸ getD_mem h2), ?_⟩
    rw [← Bool.not_eq_true]
    intro h
    have := asc_mem h1 ((hm h4 _ (by omega)).1 h)
    omega
theorem cutOk_mark {n : Nat} {l : List Int} (h : asc l n = true) {x : Int} (hx : 0 ≤ x) : at_ (mk n l) x = decide (x ∈ l) := by
  rw [Bool.eq_iff_iff, decide_eq_true_eq]
  unfold at_
  rw [mk_at (fun x hx => asc_mem h hx), Int.toNat_of_nonneg hx]

/- spec_l1In -/
theorem l1In_eq (a b c : Int) : spec_l1In.f a b c = some (decide (b ≤ a ∧ a ≤ c)) := by
  unfold spec_l1In.f
  by_cases h : a ≥ b
  · rw [if_pos h]; simp [show b ≤ a from h]
  · rw [if_neg h]; simp [show ¬ b ≤ a from h]

/- spec_mfGood -/
theorem mfGood_l0 (n : Int) (hn : -9223372036854775808 ≤ n ∧ n ≤ 9223372036854775807) (l : List S67) (hl : l.length ≤ maxLen) : ∀ (d i : Nat), i + d = l.length →
    Ev (fun k => spec_mfGood.l0 k n l l (l.length : Int) (i : Int)) (decide (2 ≤ n ∧ n ≤ 130 ∧ l.length ≤ 2000) && allR (fun j => okE n (l.getD j z67)) i l.length) := by
  have hl := maxLen_le hl
  intro d
  induction d with
  | zero =>
    intro i hi
    refine Ev.step (fun k => spec_mfGood.l0.eq_2 n l l l.length i k) (ev_neg (by omega) (ev_bindc (l1In_eq _ _ _) (ev_ite (fun h => ev_some ?_) (fun h => ev_some ?_))))
    · rw [allR_end (by omega), Bool.and_true, decide_eq_decide]; simp only [decide_eq_true_eq] at h; omega
    · simp only [decide_eq_true_eq] at h; rw [decide_eq_false (by omega), Bool.false_and]
  | succ d ih =>
    intro i hi
    refine Ev.step (fun k => spec_mfGood.l0.eq_2 n l l l.length i k) ?_
    have hx : rd_T67 l (i : Int) = l.getD i z67 := by unfold rd_T67; rw [toNat_nat]
    rw [allR_step (by omega), w_succ (n := l.length) (by omega) (by omega), hx]
    generalize l.getD i z67 = e
    have no : (¬ (2 ≤ n ∧ n ≤ 130) ∨ okE n e = false) → false = (decide (2 ≤ n ∧ n ≤ 130 ∧ l.length ≤ 2000) && (okE n e && allR (fun j => okE n (l.getD j z67)) (i + 1) l.length)) := by
      rintro (h | h)
      · rw [decide_eq_false (by omega), Bool.false_and]
      · rw [h, Bool.false_and, Bool.and_false]
    by_cases hn0 : n = -9223372036854775808
    · subst hn0
      have hw : wrap64 (-9223372036854775808 - 1) = 9223372036854775807 := by unfold wrap64; omega
      have fin : Ev (fun k => spec_mfGood.l0 k (-9223372036854775808) l l (l.length : Int) ((i + 1 : Nat) : Int)) false := by
        have := ih (i + 1) (by omega)
        rwa [decide_eq_false (by omega), Bool.false_and] at this
      rw [hw]
      refine ev_pos (by omega) (ev_pos (by omega) (ev_pos (by omega) (ev_bindc (l1In_eq _ _ _) (ev_eq (no (.inl (by omega))) ?_))))
      refine ev_ite (fun h => ?_) (fun _ => ev_some rfl)
      refine ev_bindc (l1In_eq _ _ _) (ev_ite (fun h => ?_) (fun _ => ev_some rfl))
      exact ev_bindc (l1In_eq _ _ _) (ev_ite (fun h => fin) (fun _ => ev_some rfl))
    · rw [w64 (x := n - 1) (by omega) (by omega)]
      refine ev_pos (by omega) (ev_pos (by omega) (ev_pos (by omega) (ev_bindc (l1In_eq _ _ _) ?_)))
      refine ev_ite (fun h => ?_) (fun h => ev_some (no (.inr (by unfold okE; simp only [decide_eq_true_eq] at h; simp only [decide_eq_false_iff_not]; omega))))
      refine ev_bindc (l1In_eq _ _ _) (ev_ite (fun h1 => ?_) (fun h1 => ev_some (no (.inr (by unfold okE; simp only [decide_eq_true_eq] at h1; simp only [decide_eq_false_iff_not]; omega)))))
      refine ev_bindc (l1In_eq _ _ _) (ev_ite (fun h2 => ?_) (fun h2 => ev_some (no (.inr (by unfold okE; simp only [decide_eq_true_eq] at h2; simp only [decide_eq_false_iff_not]; omega)))))
      simp only [decide_eq_true_eq] at h h1 h2
      have : okE n e = true := by unfold okE; simp only [decide_eq_true_eq]; omega
      rw [this, Bool.true_and]; exact ih (i + 1) (by omega)
theorem mfGood_ev (n : Int) (hn : -9223372036854775808 ≤ n ∧ n ≤ 9223372036854775807) (l : List S67) (hl : l.length ≤ maxLen) : Ev (fun k => spec_mfGood.f k n l) (netOk n l) := by
  unfold spec_mfGood.f netOk
  exact mfGood_l0 n hn l hl l.length 0 (by omega)

/- spec_l1Rising -/
theorem l1Rising_l0 (l : List Int) (hl : l.length ≤ maxLen) (n : Int) : ∀ (d i : Nat), i + d = l.length → Ev (fun k => spec_l1Rising.l0 k l 0 (n - 1) l (l.length : Int) (i : Int)) (allR (ascAt l n) i l.length) := by
  have hl := maxLen_le hl
  intro d
  induction d with
  | zero =>
    intro i hi
    exact Ev.step (fun k => spec_l1Rising.l0.eq_2 l 0 (n - 1) l l.length i k) (ev_neg (by omega) (ev_some (allR_end (by omega)).symm))
  | succ d ih =>
    intro i hi
    refine Ev.step (fun k => spec_l1Rising.l0.eq_2 l 0 (n - 1) l l.length i k) ?_
    rw [allR_step (by omega), w_succ (n := l.length) (by omega) (by omega), rd_nat]
    refine ev_pos (by omega) (ev_pos (by omega) (ev_pos (by omega) (ev_bindc (l1In_eq _ _ _) ?_)))
    refine ev_ite (fun h => ?_) (fun h => ?_)
    · simp only [decide_eq_true_eq] at h
      refine ev_ite (fun h0 => ?_) (fun h0 => ?_)
      · rw [w64 (x := (i : Int) - 1) (by omega) (by omega), show (i : Int) - 1 = ((i - 1 : Nat) : Int) by omega, rd_nat]
        refine ev_pos (by omega) (ev_pos (by omega) ?_)
        refine ev_ite (fun h1 => ?_) (fun h1 => ?_)
        · refine ev_some ?_
          have : ascAt l n i = false := by unfold ascAt; simp only [decide_eq_false_iff_not]; intro hc; have := hc.2.2 (by omega); omega
          rw [this]; rfl
        · have : ascAt l n i = true := by unfold ascAt; simp only [decide_eq_true_eq]; exact ⟨by omega, by omega, fun _ => by omega⟩
          rw [this]; exact ih (i + 1) (by omega)
      · have : ascAt l n i = true := by unfold ascAt; simp only [decide_eq_true_eq]; exact ⟨by omega, by omega, fun _ => by omega⟩
        rw [this]; exact ih (i + 1) (by omega)
    · refine ev_some ?_
      have : ascAt l n i = false := by
        unfold ascAt; simp only [decide_eq_true_eq] at h; simp only [decide_eq_false_iff_not]; intro hc; exact h ⟨hc.1, by omega⟩
      rw [this]; rfl
theorem l1Rising_ev (l : List Int) (hl : l.length ≤ maxLen) (n : Int) : Ev (fun k => spec_l1Rising.f k l 0 (n - 1)) (asc l n) := by
  unfold spec_l1Rising.f asc
  exact l1Rising_l0 l hl n l.length 0 (by omega)

/- spec_l1Has -/
theorem l1Has_l0 (l : List Int) (hl : l.length ≤ maxLen) (x : Int) : ∀ (d i : Nat), i + d = l.length → Ev (fun k => spec_l1Has.l0 k x l (l.length : Int) (i : Int)) (decide (x ∈ l.drop i)) := by
  have hl := maxLen_le hl
  intro d
  induction d with
  | zero =>
    intro i hi
    refine Ev.step (fun k => spec_l1Has.l0.eq_2 x l l.length i k) (ev_neg (by omega) (ev_some ?_))
    rw [List.drop_of_length_le (by omega)]; simp
  | succ d ih =>
    intro i hi
    refine Ev.step (fun k => spec_l1Has.l0.eq_2 x l l.length i k) ?_
    have hd : l.drop i = l.getD i 0 :: l.drop (i + 1) := by
      rw [List.drop_eq_getElem_cons (by omega)]; congr 1; simp [List.getD_eq_getElem?_getD, show i < l.length by omega]
    rw [w_succ (n := l.length) (by omega) (by omega), rd_nat, hd]
    refine ev_pos (by omega) (ev_pos (by omega) (ev_pos (by omega) (ev_ite (fun h => ev_some ?_) (fun h => ?_))))
    · symm; rw [decide_eq_true_eq]; rw [← h]; exact List.mem_cons_self
    · refine ev_eq ?_ (ih (i + 1) (by omega))
      rw [decide_eq_decide, List.mem_cons]
      exact ⟨.inr, fun h1 => h1.resolve_left (fun e => h e.symm)⟩
theorem l1Has_ev (l : List Int) (hl : l.length ≤ maxLen) (x : Int) : Ev (fun k => spec_l1Has.f k l x) (decide (x ∈ l)) := by
  unfold spec_l1Has.f
  have := l1Has_l0 l hl x l.length 0 (by omega)
  rwa [List.drop_zero] at this

/- spec_CutValue -/
theorem mfCut_ev (n : Nat) (hn : 2 ≤ n ∧ n ≤ 130) (l : List Int) (hl : l.length ≤ maxLen) : Ev (fun k => spec_mfCut.f k (n : Int) l) (cutOk n l) := by
  unfold spec_mfCut.f
  rw [w64 (by omega) (by omega), show (n : Int) - 2 = ((n : Int) - 1) - 1 by omega]
  have hc := cutOk_iff (l := l) hn.1
  refine Ev.bind (l1Rising_ev l hl _) (ev_ite (fun h => ?_) (fun h => ev_some ?_))
  · refine ev_ite (fun h1 => ev_pos (by omega) (ev_some ?_)) (fun h1 => ev_some ?_)
    · show (l.getD 0 0 == 0) = _
      rw [Bool.eq_iff_iff, beq_iff_eq, hc]
      exact ⟨fun h2 => ⟨h, by omega, h2⟩, fun h2 => h2.2.2⟩
    · symm; rw [← Bool.not_eq_true, hc]; rintro ⟨_, h2, _⟩; omega
  · symm; rw [← Bool.not_eq_true, hc]; rintro ⟨h1, _⟩; exact h h1
theorem mfCutValue_l0 (n : Nat) (l : List S67) (hl : l.length ≤ 2000) (hb : ∀ j, j < l.length → okE n (l.getD j z67) = true) (c : List Int) (hc : asc c n = true) (hcl : c.length ≤ maxLen) : ∀ (d i : Nat), i + d = l.length →
    Ev (fun k => spec_mfCutValue.l0 k c (foldR (cutAt (mk n c) l) 0 i 0) l (l.length : Int) (i : Int)) (cutSum (mk n c) l) := by
  intro d
  induction d with
  | zero =>
    intro i hi
    obtain rfl : i = l.length := by omega
    exact Ev.step (fun k => spec_mfCutValue.l0.eq_2 c _ l l.length l.length k) (ev_neg (by omega) (ev_some rfl))
  | succ d ih =>
    intro i hi
    have ih := ih (i + 1) (by omega)
    rw [foldR_last (Nat.zero_le _)] at ih
    have hok := hb i (by omega)
    have h1 := cutAt_bd (m := mk n c) hb i (by omega)
    have h2 := cutTerm_bd (m := mk n c) hok
    rw [okE_iff] at hok
    refine Ev.step (fun k => spec_mfCutValue.l0.eq_2 c _ l l.length i k) ?_
    rw [w_succ (n := l.length) (by omega) (by omega), rdE]
    have m0 := cutOk_mark hc hok.1
    have m1 := cutOk_mark hc hok.2.2.1
    unfold cutAt at ih
    unfold cutAt at h1
    unfold cutTerm at ih h2
    generalize l.getD i z67 = e at *
    refine ev_pos (by omega) (ev_pos (by omega) (ev_pos (by omega) (Ev.bind (l1Has_ev c hcl _) (ev_ite (fun h => ?_) (fun h => ?_)))))
    · refine Ev.bind (l1Has_ev c hcl _) (ev_ite (fun h3 => ?_) (fun h3 => ?_))
      · rw [if_pos (m0.trans h), if_pos (m1.trans h3), Int.add_zero] at ih; exact ih
      · rw [if_pos (m0.trans h), if_neg (by rw [m1]; exact h3)] at ih
        unfold cutAt cutTerm
        rw [w64 (by unfold cutTerm at h1; omega) (by unfold cutTerm at h1; omega)]
        exact ih
    · rw [if_neg (by rw [m0]; exact h), Int.add_zero] at ih; exact ih
theorem sCutValue_ev (n : Int) (hn : -9223372036854775808 ≤ n ∧ n ≤ 9223372036854775807) (l : List S67) (hl : l.length ≤ maxLen) (c : List Int) (hcl : c.length ≤ maxLen) :
    Ev (fun k => spec_CutValue.f k n l c) (if netOk n l && cutOk n.toNat c then (cutSum (mk n.toNat c) l, true) else (0, false)) := by
  unfold spec_CutValue.f
  refine Ev.bind (mfGood_ev n hn l hl) (ev_ite (fun h => ?_) (fun h => ev_some ?_))
  · rw [h, Bool.true_and]
    rw [netOk_iff] at h
    obtain ⟨n, rfl⟩ : ∃ m : Nat, n = m := ⟨n.toNat, by omega⟩
    rw [toNat_nat]
    refine Ev.bind (mfCut_ev n (by omega) c hcl) (ev_ite (fun h1 => ?_) (fun h1 => ev_some ?_))
    · rw [if_pos h1]
      have hc : asc c n = true := by unfold cutOk at h1; rw [Bool.and_eq_true] at h1; exact h1.1
      unfold spec_mfCutValue.f
      have := mfCutValue_l0 n l h.2.2.1 h.2.2.2 c hc hcl l.length 0 (by omega)
      rw [foldR_end (Nat.le_refl _)] at this
      exact Ev.bind this (ev_some rfl)
    · rw [if_neg h1]
  · rw [Bool.not_eq_true] at h; rw [h]; rfl

/- rdB -/
theorem rdB (m : List Bool) (x : Int) : rdOf false m x = at_ m x := rfl

/- impl_IsNetwork -/
theorem IsNetwork_l0 (n : Int) (l : List S67) (hl : l.length ≤ maxLen) : ∀ (d i : Nat), i + d = l.length →
    Ev (fun k => impl_IsNetwork.l0 k n l (l.length : Int) (i : Int)) (allR (fun j => okE n (l.getD j z67)) i l.length) := by
  have hl := maxLen_le hl
  intro d
  induction d with
  | zero =>
    intro i hi
    exact Ev.step (fun k => impl_IsNetwork.l0.eq_2 n l l.length i k) (ev_neg (by omega) (ev_some (allR_end (by omega)).symm))
  | succ d ih =>
    intro i hi
    refine Ev.step (fun k => impl_IsNetwork.l0.eq_2 n l l.length i k) ?_
    have hx : rd_T67 l (i : Int) = l.getD i z67 := by unfold rd_T67; rw [toNat_nat]
    rw [allR_step (by omega), w_succ (n := l.length) (by omega) (by omega), hx]
    generalize l.getD i z67 = e
    have no : ¬ (0 ≤ e.f0 ∧ e.f0 < n ∧ 0 ≤ e.f1 ∧ e.f1 < n ∧ 0 ≤ e.f2 ∧ e.f2 ≤ 1000000000) → false = (okE n e && allR (fun j => okE n (l.getD j z67)) (i + 1) l.length) := by
      intro h
      rw [show okE n e = false from decide_eq_false h, Bool.false_and]
    refine ev_pos (by omega) (ev_pos (by omega) (ev_pos (by omega) ?_))
    refine ev_ite (fun h => ev_some (no (by omega))) (fun h0 => ?_)
    refine ev_ite (fun h => ev_some (no (by omega))) (fun h1 => ?_)
    refine ev_ite (fun h => ev_some (no (by omega))) (fun h2 => ?_)
    refine ev_ite (fun h => ev_some (no (by omega))) (fun h3 => ?_)
    refine ev_ite (fun h => ev_some (no (by omega))) (fun h4 => ?_)
    refine ev_ite (fun h => ev_some (no (by omega))) (fun h5 => ?_)
    rw [show okE n e = true from decide_eq_true (by omega), Bool.true_and]
    exact ih (i + 1) (by omega)
theorem IsNetwork_ev (n : Int) (l : List S67) (hl : l.length ≤ maxLen) : Ev (fun k => impl_IsNetwork.f k n l) (netOk n l) := by
  unfold impl_IsNetwork.f netOk
  have no : ¬ (2 ≤ n ∧ n ≤ 130 ∧ l.length ≤ 2000) → false = (decide (2 ≤ n ∧ n ≤ 130 ∧ l.length ≤ 2000) && allR (fun j => okE n (l.getD j z67)) 0 l.length) := by
    intro h; rw [decide_eq_false h, Bool.false_and]
  refine ev_ite (fun h => Ev.step (fun k => impl_IsNetwork.j0.eq_2 n l true k) (ev_pos rfl (ev_some (no (by omega))))) (fun h => ?_)
  refine ev_ite (fun h => Ev.step (fun k => impl_IsNetwork.j0.eq_2 n l true k) (ev_pos rfl (ev_some (no (by omega))))) (fun h1 => ?_)
  refine Ev.step (fun k => impl_IsNetwork.j0.eq_2 n l _ k) (ev_ite (fun h2 => ev_some (no ?_)) (fun h2 => ?_))
  · simp only [decide_eq_true_eq] at h2; omega
  · simp only [decide_eq_true_eq] at h2
    rw [decide_eq_true (by omega), Bool.true_and]; exact IsNetwork_l0 n l hl l.length 0 (by omega)

/- impl_areBlocks -/
theorem areBlocks_l0 (l : List Int) (hl : l.length ≤ maxLen) (n : Int) : ∀ (d i : Nat), i + d = l.length → Ev (fun k => impl_areBlocks.l0 k l n l (l.length : Int) (i : Int)) (allR (ascAt l n) i l.length) := by
  have hl := maxLen_le hl
  intro d
  induction d with
  | zero =>
    intro i hi
    exact Ev.step (fun k => impl_areBlocks.l0.eq_2 l n l l.length i k) (ev_neg (by omega) (ev_some (allR_end (by omega)).symm))
  | succ d ih =>
    intro i hi
    refine Ev.step (fun k => impl_areBlocks.l0.eq_2 l n l l.length i k) ?_
    rw [allR_step (by omega), w_succ (n := l.length) (by omega) (by omega), rd_nat]
    refine ev_pos (by omega) (ev_pos (by omega) (ev_pos (by omega) ?_))
    have no : ¬ (0 ≤ l.getD i 0 ∧ l.getD i 0 < n ∧ (0 < i → l.getD (i - 1) 0 < l.getD i 0)) → false = (ascAt l n i && allR (ascAt l n) (i + 1) l.length) := by
      intro h
      have : ascAt l n i = false := by unfold ascAt; simp only [decide_eq_false_iff_not]; exact h
      rw [this]; rfl
    have yes : (0 ≤ l.getD i 0 ∧ l.getD i 0 < n ∧ (0 < i → l.getD (i - 1) 0 < l.getD i 0)) → Ev (fun k => impl_areBlocks.l0 k l n l (l.length : Int) ((i + 1 : Nat) : Int)) (ascAt l n i && allR (ascAt l n) (i + 1) l.length) := by
      intro h
      have : ascAt l n i = true := by unfold ascAt; simp only [decide_eq_true_eq]; exact h
      rw [this]; exact ih (i + 1) (by omega)
    refine ev_ite (fun h => ev_some (no (by omega))) (fun h => ?_)
    refine ev_ite (fun h1 => ev_some (no (by omega))) (fun h1 => ?_)
    refine ev_ite (fun h0 => ?_) (fun h0 => yes ⟨by omega, by omega, fun _ => by omega⟩)
    rw [w64 (x := (i : Int) - 1) (by omega) (by omega), show (i : Int) - 1 = ((i - 1 : Nat) : Int) by omega, rd_nat]
    refine ev_pos (by omega) (ev_pos (by omega) ?_)
    refine ev_ite (fun h2 => ev_some (no (fun hc => by have := hc.2.2 (by omega); omega))) (fun h2 => yes ⟨by omega, by omega, fun _ => by omega⟩)
theorem areBlocks_ev (l : List Int) (hl : l.length ≤ maxLen) (n : Int) : Ev (fun k => impl_areBlocks.f k l n) (asc l n) := by
  unfold impl_areBlocks.f asc
  exact areBlocks_l0 l hl n l.length 0 (by omega)

/- impl_markOf -/
theorem markOf_l0 (l : List Int) (hl : l.length ≤ maxLen) : ∀ (d i : Nat) (m : List Bool), i + d = l.length → (∀ x ∈ l, 0 ≤ x ∧ x < m.length) → Ev (fun k => impl_markOf.l0 k m l (l.length : Int) (i : Int)) (foldR (setAt l) i l.length m) := by
  have hl := maxLen_le hl
  intro d
  induction d with
  | zero =>
    intro i m hi hm
    exact Ev.step (fun k => impl_markOf.l0.eq_2 m l l.length i k) (ev_neg (by omega) (ev_some (foldR_end (by omega)).symm))
  | succ d ih =>
    intro i m hi hm
    refine Ev.step (fun k => impl_markOf.l0.eq_2 m l l.length i k) ?_
    have hx := hm _ (getD_mem (z := 0) (show i < l.length by omega))
    rw [foldR_step (by omega), w_succ (n := l.length) (by omega) (by omega), rd_nat]
    refine ev_pos (by omega) (ev_pos (by omega) (ev_pos (by omega) (ev_pos (by omega) (ev_pos (by omega) ?_))))
    exact ih (i + 1) _ (by omega) (by intro x h; have := hm x h; simpa using this)
theorem markOf_ev (n : Nat) (hn : n ≤ 1048576) (l : List Int) (hl : l.length ≤ maxLen) (h : ∀ x ∈ l, 0 ≤ x ∧ x < n) : Ev (fun k => impl_markOf.f k (n : Int) l) (mk n l) := by
  unfold impl_markOf.f mk setAll
  refine ev_pos (by omega) (ev_pos (by omega) ?_)
  rw [toNat_nat]
  exact markOf_l0 l hl l.length 0 _ (by omega) (by simpa using h)

/- impl_CutValue -/
theorem iCutValue_l0 (n : Nat) (l : List S67) (hl : l.length ≤ 2000) (hb : ∀ j, j < l.length → okE n (l.getD j z67) = true) (m : List Bool) (hm : m.length = n) : ∀ (d i : Nat), i + d = l.length →
    Ev (fun k => impl_CutValue.l0 k m (foldR (cutAt m l) 0 i 0) l (l.length : Int) (i : Int)) (cutSum m l, true) := by
  intro d
  induction d with
  | zero =>
    intro i hi
    obtain rfl : i = l.length := by omega
    exact Ev.step (fun k => impl_CutValue.l0.eq_2 m _ l l.length l.length k) (ev_neg (by omega) (ev_some rfl))
  | succ d ih =>
    intro i hi
    have ih := ih (i + 1) (by omega)
    rw [foldR_last (Nat.zero_le _)] at ih
    have hok := hb i (by omega)
    have h1 := cutAt_bd (m := m) hb i (by omega)
    have h2 := cutTerm_bd (m := m) hok
    rw [okE_iff] at hok
    refine Ev.step (fun k => impl_CutValue.l0.eq_2 m _ l l.length i k) ?_
    rw [w_succ (n := l.length) (by omega) (by omega), rdE]
    generalize hs : foldR (cutAt m l) 0 i 0 = s at *
    unfold cutAt cutTerm at ih
    generalize l.getD i z67 = e at *
    rw [rdB, rdB]
    refine ev_pos (by omega) (ev_pos (by omega) (ev_pos (by omega) (ev_pos (by omega) (ev_pos (by omega) (ev_ite (fun h => ?_) (fun h => ?_))))))
    · refine ev_pos (by omega) (ev_pos (by omega) (ev_ite (fun h3 => ?_) (fun h3 => ?_)))
      · rw [if_pos h, if_pos h3, Int.add_zero] at ih; exact ih
      · rw [if_pos h, if_neg h3] at ih
        rw [w64 (by omega) (by omega)]
        exact ih
    · rw [if_neg h, Int.add_zero] at ih; exact ih
theorem iCutValue_ev (n : Int) (l : List S67) (hl : l.length ≤ maxLen) (c : List Int) (hcl : c.length ≤ maxLen) :
    Ev (fun k => impl_CutValue.f k n l c) (if netOk n l && cutOk n.toNat c then (cutSum (mk n.toNat c) l, true) else (0, false)) := by
  unfold impl_CutValue.f
  refine Ev.bind (IsNetwork_ev n l hl) (ev_ite (fun h => ?_) (fun h => ?_))
  · rw [h, Bool.true_and]
    rw [netOk_iff] at h
    obtain ⟨n, rfl⟩ : ∃ m : Nat, n = m := ⟨n.toNat, by omega⟩
    rw [toNat_nat]
    refine Ev.bind (areBlocks_ev c hcl _) (Ev.step (fun k => impl_CutValue.j0.eq_2 n l c _ k) ?_)
    unfold cutOk
    cases h1 : asc c n with
    | false => exact ev_pos rfl (ev_some rfl)
    | true =>
      refine ev_neg (by simp) (Ev.bind (markOf_ev n (by omega) c hcl (fun x hx => asc_mem h1 hx)) ?_)
      rw [mk_len]
      refine ev_pos (by omega) ?_
      rw [rdB, rdB, w64 (by omega) (by omega), Bool.true_and]
      have fin : ∀ b : Bool, Ev (fun k => impl_CutValue.j1 k l (mk n c) b) (if (!b) = true then (cutSum (mk n c) l, true) else (0, false)) := by
        intro b
        refine Ev.step (fun k => impl_CutValue.j1.eq_2 l (mk n c) b k) ?_
        cases b with
        | true => exact ev_pos rfl (ev_some rfl)
        | false =>
          refine ev_neg (by simp) ?_
          have := iCutValue_l0 n l h.2.2.1 h.2.2.2 (mk n c) mk_len l.length 0 (by omega)
          rwa [foldR_end (Nat.le_refl _)] at this
      refine ev_ite (fun h2 => ?_) (fun h2 => ?_)
      · rw [h2, Bool.true_and]
        exact ev_pos (by omega) (ev_pos (by omega) (fin _))
      · rw [Bool.not_eq_true] at h2; rw [h2, Bool.false_and]
        exact fin true
  · rw [Bool.not_eq_true] at h; rw [h]
    exact Ev.step (fun k => impl_CutValue.j0.eq_2 n l c _ k) (ev_pos rfl (ev_some rfl))

/- law.FnExactCutValue -/
theorem FnExactCutValue : Pure := by
  intro n l c hn hl _ hc _ _
  have hn := wf64 hn
  refine Ev.rounds ?_
  unfold laws_FnExactCutValue.f
  refine ev_ite (fun _ => ev_some rfl) (fun h0 => ?_)
  obtain ⟨r, hr, hz⟩ := szEdgeS_tells l hl
  refine ev_bindc hr (ev_ite (fun h => ev_some rfl) (fun h => ?_))
  have h1 := hz (by omega)
  have tv := toEdgeS_ev l h1
  have hv : (l.map cE).length ≤ maxLen := by rw [List.length_map]; exact hl
  generalize l.map cE = v at tv hv
  have tc := toIntS_ev c (by omega)
  refine Ev.bind tv (Ev.bind tc (Ev.bind (sCutValue_ev n hn v hv c hc) (Ev.bind tv (Ev.bind tc (Ev.bind (iCutValue_ev n v hv c hc) (ev_pos rfl ?_))))))
  refine Ev.step (fun k => laws_FnExactCutValue.j0.eq_2 _ _ _ _ _ k) (ev_neg (by simp) ?_)
  exact Ev.bind tv (Ev.bind (eqEdgeS_ev v hv) (ev_pos rfl (Ev.bind tc (Ev.bind (eqIntS_ev c hc) (ev_pos rfl (ev_some rfl))))))

end Go.Proofs.Ytpdkackfdccedaa.PureFnExactCutValue
