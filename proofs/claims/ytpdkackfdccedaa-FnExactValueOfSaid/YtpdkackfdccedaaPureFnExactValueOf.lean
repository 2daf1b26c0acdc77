/- The pure side of the law FnExactValueOf: the printed functions, one by one, and what the law says of them. -/
import Derived.Test.YtpdkackfdccedaaStmtFnExactValueOf
import Derived.Test.YtpdkackfdccedaaBase
import Derived.Test.YtpdkackfdccedaaMarks
namespace Go.Proofs.Ytpdkackfdccedaa.PureFnExactValueOf
open Go.RowKit Go.Proofs.Ytpdkackfdccedaa.PFnExactValueOf Go.Proofs.YtpdkackfdccedaaW.PrintWords Go.Proofs.YtpdkackfdccedaaW.PrintLast Go.Proofs.YtpdkackfdccedaaW.PrintMore Go.Proofs.Ytpdkackfdccedaa.B
set_option linter.unusedVariables false
set_option linter.unusedSimpArgs false
/- laws_toIntS -/
theorem toIntS_l0 (l : List Int) (hl : l.length ≤ 35184372088832) : ∀ (d i : Nat) (m : List Int), i + d = l.length → m.length = l.length → (∀ j, j < i → m.getD j 0 = l.getD j 0) → Ev (fun k => laws_toIntS.l0 k l m (i : Int)) l := by
  intro d
  induction d with
  | zero =>
    intro i m hi hm he
    refine Ev.step (fun k => laws_toIntS.l0.eq_2 l m i k) ?_
    refine ev_neg (by omega) (ev_some ?_)
    refine List.ext_getElem hm (fun j h1 h2 => ?_)
    have := he j (by omega)
    simpa [List.getD_eq_getElem?_getD, h1, h2] using this
  | succ d ih =>
    intro i m hi hm he
    refine Ev.step (fun k => laws_toIntS.l0.eq_2 l m i k) ?_
    refine ev_pos (by omega) (ev_pos (by omega) (ev_pos (by omega) ?_))
    rw [w_succ (n := l.length) (by omega) (by omega), toNat_nat, rd_nat]
    refine ih (i + 1) _ (by omega) (by simpa using hm) (fun j hj => ?_)
    by_cases hji : j = i
    · subst hji
      simp [List.getD_eq_getElem?_getD, show j < m.length by omega]
    · rw [← he j (by omega)]
      simp [List.getD_eq_getElem?_getD, List.getElem?_set_ne (Ne.symm hji)]
theorem toIntS_ev (l : List Int) (hl : l.length ≤ 35184372088832) : Ev (fun k => laws_toIntS.f k l) l := by
  unfold laws_toIntS.f
  refine ev_pos (by omega) (ev_pos (by omega) ?_)
  exact toIntS_l0 l hl l.length 0 _ (by omega) (by simp) (fun j hj => by omega)

/- laws_eqIntS -/
theorem eqIntS_l0 (l : List Int) (hl : l.length ≤ maxLen) : ∀ (d i : Nat), i + d = l.length → Ev (fun k => laws_eqIntS.l0 k l l (i : Int)) true := by
  have hl := maxLen_le hl
  intro d
  induction d with
  | zero =>
    intro i hi
    exact Ev.step (fun k => laws_eqIntS.l0.eq_2 l l i k) (ev_neg (by omega) (ev_some rfl))
  | succ d ih =>
    intro i hi
    refine Ev.step (fun k => laws_eqIntS.l0.eq_2 l l i k) ?_
    rw [w_succ (n := l.length) (by omega) (by omega)]
    exact ev_pos (by omega) (ev_pos (by omega) (ev_pos (by omega) (ev_pos rfl (ih (i + 1) (by omega)))))
theorem eqIntS_ev (l : List Int) (hl : l.length ≤ maxLen) : Ev (fun k => laws_eqIntS.f k l l) true := by
  unfold laws_eqIntS.f
  exact ev_pos rfl (eqIntS_l0 l hl l.length 0 (by omega))

/- vals -/
def valAt (l : List Int) (j : Nat) : Bool := decide (-1000000 ≤ l.getD j 0 ∧ l.getD j 0 ≤ 1000000)
def valsOk (l : List Int) : Bool := decide (1 ≤ l.length ∧ l.length ≤ 120) && allR (valAt l) 0 l.length
theorem valsOk_iff {l : List Int} : valsOk l = true ↔ 1 ≤ l.length ∧ l.length ≤ 120 ∧ ∀ j, j < l.length → -1000000 ≤ l.getD j 0 ∧ l.getD j 0 ≤ 1000000 := by
  unfold valsOk valAt
  rw [Bool.and_eq_true, decide_eq_true_eq, allR_iff]
  constructor
  · rintro ⟨⟨h1, h2⟩, h3⟩; exact ⟨h1, h2, fun j hj => by have := h3 j (Nat.zero_le _) hj; simpa using this⟩
  · rintro ⟨h1, h2, h3⟩; exact ⟨⟨h1, h2⟩, fun j _ hj => by simpa using h3 j hj⟩
def sumAt (v l : List Int) (s : Int) (j : Nat) : Int := s + v.getD (l.getD j 0).toNat 0
def valSum (v l : List Int) : Int := foldR (sumAt v l) 0 l.length 0
theorem valSum_bound {v l : List Int} (hv : ∀ j, j < v.length → -1000000 ≤ v.getD j 0 ∧ v.getD j 0 ≤ 1000000) (hl : ∀ j, j < l.length → 0 ≤ l.getD j 0 ∧ l.getD j 0 < v.length) (m : Nat) (hm : m ≤ l.length) : -1000000 * (m : Int) ≤ foldR (sumAt v l) 0 m 0 ∧ foldR (sumAt v l) 0 m 0 ≤ 1000000 * (m : Int) := by
  induction m with
  | zero => rw [foldR_end (Nat.le_refl _)]; omega
  | succ m ih =>
    have ih := ih (by omega)
    rw [foldR_last (by omega)]
    have h1 := hl m (by omega)
    have h2 := hv (l.getD m 0).toNat (by omega)
    unfold sumAt at *
    omega

/- spec_l1In -/
theorem l1In_eq (a b c : Int) : spec_l1In.f a b c = some (decide (b ≤ a ∧ a ≤ c)) := by
  unfold spec_l1In.f
  by_cases h : a ≥ b
  · rw [if_pos h]; simp [show b ≤ a from h]
  · rw [if_neg h]; simp [show ¬ b ≤ a from h]

/- spec_l1All -/
theorem l1All_l0 (l : List Int) (hl : l.length ≤ maxLen) (lo hi : Int) : ∀ (d i : Nat), i + d = l.length → Ev (fun k => spec_l1All.l0 k lo hi l (l.length : Int) (i : Int)) (allR (fun j => decide (lo ≤ l.getD j 0 ∧ l.getD j 0 ≤ hi)) i l.length) := by
  have hl := maxLen_le hl
  intro d
  induction d with
  | zero =>
    intro i hi'
    exact Ev.step (fun k => spec_l1All.l0.eq_2 lo hi l l.length i k) (ev_neg (by omega) (ev_some (allR_end (by omega)).symm))
  | succ d ih =>
    intro i hi'
    refine Ev.step (fun k => spec_l1All.l0.eq_2 lo hi l l.length i k) ?_
    rw [allR_step (by omega), w_succ (n := l.length) (by omega) (by omega), rd_nat]
    refine ev_pos (by omega) (ev_pos (by omega) (ev_pos (by omega) (ev_bindc (l1In_eq _ _ _) ?_)))
    refine ev_ite (fun h => ?_) (fun h => ?_)
    · rw [h, Bool.true_and]; exact ih (i + 1) (by omega)
    · rw [Bool.not_eq_true] at h; rw [h, Bool.false_and]; exact ev_some rfl
theorem l1All_ev (l : List Int) (hl : l.length ≤ maxLen) (lo hi : Int) : Ev (fun k => spec_l1All.f k l lo hi) (allR (fun j => decide (lo ≤ l.getD j 0 ∧ l.getD j 0 ≤ hi)) 0 l.length) := by
  unfold spec_l1All.f
  exact l1All_l0 l hl lo hi l.length 0 (by omega)

/- spec_l1Rising -/
theorem l1Rising_l0 (l : List Int) (hl : l.length ≤ maxLen) (n : Int) : ∀ (d i : Nat), i + d = l.length → Ev (fun k => spec_l1Rising.l0 k l 0 (n - 1) l (l.length : Int) (i : Int)) (allR (ascAt l n) i l.length) := by
  have hl := maxLen_le hl
  intro d
  induction d with
  | zero =>
    intro i hi
    exact Ev.step (fun k => spec_l1Rising.l0.eq_2 l 0 (n - 1) l l.length i k) (ev_neg (by omega) (ev_some (allR_end (by omega)).symm))
  | succ d ih =>
    intro i hi
    refine Ev.step (fun k => spec_l1Rising.l0.eq_2 l 0 (n - 1) l l.length i k) ?_
    rw [allR_step (by omega), w_succ (n := l.length) (by omega) (by omega), rd_nat]
    refine ev_pos (by omega) (ev_pos (by omega) (ev_pos (by omega) (ev_bindc (l1In_eq _ _ _) ?_)))
    refine ev_ite (fun h => ?_) (fun h => ?_)
    · simp only [decide_eq_true_eq] at h
      refine ev_ite (fun h0 => ?_) (fun h0 => ?_)
      · rw [w64 (x := (i : Int) - 1) (by omega) (by omega), show (i : Int) - 1 = ((i - 1 : Nat) : Int) by omega, rd_nat]
        refine ev_pos (by omega) (ev_pos (by omega) ?_)
        refine ev_ite (fun h1 => ?_) (fun h1 => ?_)
        · refine ev_some ?_
          have : ascAt l n i = false := by unfold ascAt; simp only [decide_eq_false_iff_not]; intro hc; have := hc.2.2 (by omega); omega
          rw [this]; rfl
        · have : ascAt l n i = true := by unfold ascAt; simp only [decide_eq_true_eq]; exact ⟨by omega, by omega, fun _ => by omega⟩
          rw [this]; exact ih (i + 1) (by omega)
      · have : ascAt l n i = true := by unfold ascAt; simp only [decide_eq_true_eq]; exact ⟨by omega, by omega, fun _ => by omega⟩
        rw [this]; exact ih (i + 1) (by omega)
    · refine ev_some ?_
      have : ascAt l n i = false := by
        unfold ascAt; simp only [decide_eq_true_eq] at h; simp only [decide_eq_false_iff_not]; intro hc; exact h ⟨hc.1, by omega⟩
      rw [this]; rfl
theorem l1Rising_ev (l : List Int) (hl : l.length ≤ maxLen) (n : Int) : Ev (fun k => spec_l1Rising.f k l 0 (n - 1)) (asc l n) := by
  unfold spec_l1Rising.f asc
  exact l1Rising_l0 l hl n l.length 0 (by omega)

/- spec_ValueOf -/
theorem sValueOf_l0 (v l : List Int) (hv : valsOk v = true) (hl : asc l v.length = true) : ∀ (d i : Nat), i + d = l.length → Ev (fun k => spec_ValueOf.l0 k v (foldR (sumAt v l) 0 i 0) l (l.length : Int) (i : Int)) (valSum v l, true) := by
  have hlen := asc_len hl
  rw [asc_iff] at hl
  rw [valsOk_iff] at hv
  intro d
  induction d with
  | zero =>
    intro i hi
    obtain rfl : i = l.length := by omega
    exact Ev.step (fun k => spec_ValueOf.l0.eq_2 v _ l l.length l.length k) (ev_neg (by omega) (ev_some rfl))
  | succ d ih =>
    intro i hi
    refine Ev.step (fun k => spec_ValueOf.l0.eq_2 v _ l l.length i k) ?_
    have h1 := hl i (by omega)
    have h2 := valSum_bound hv.2.2 (fun j hj => ⟨(hl j hj).1, (hl j hj).2.1⟩) i (by omega)
    have h3 := hv.2.2 (l.getD i 0).toNat (by omega)
    rw [w_succ (n := l.length) (by omega) (by omega), rd_nat]
    refine ev_pos (by omega) (ev_pos (by omega) (ev_pos (by omega) (ev_pos (by omega) (ev_pos (by omega) ?_))))
    have e : wrap64 (foldR (sumAt v l) 0 i 0 + rd v (l.getD i 0)) = foldR (sumAt v l) 0 (i + 1) 0 := by
      rw [foldR_last (Nat.zero_le _)]
      unfold rd sumAt
      unfold sumAt at h2
      rw [w64 (by omega) (by omega)]
    rw [e]
    exact ih (i + 1) (by omega)
theorem sValueOf_ev (v l : List Int) (hv : v.length ≤ maxLen) (hl : l.length ≤ maxLen) : Ev (fun k => spec_ValueOf.f k v l) (if valsOk v && asc l v.length then (valSum v l, true) else (0, false)) := by
  have hv' := maxLen_le hv
  unfold spec_ValueOf.f
  refine ev_bindc (l1In_eq _ _ _) (ev_ite (fun h => ?_) (fun h => ?_))
  · refine Ev.bind (l1All_ev v hv _ _) (ev_ite (fun h1 => ?_) (fun h1 => ?_))
    · rw [w64 (x := (v.length : Int) - 1) (by omega) (by omega)]
      refine Ev.bind (l1Rising_ev l hl _) ?_
      simp only [decide_eq_true_eq] at h
      have hvo : valsOk v = true := by unfold valsOk; rw [decide_eq_true (by omega), Bool.true_and]; exact h1
      rw [hvo, Bool.true_and]
      refine Ev.step (fun k => spec_ValueOf.j0.eq_2 v l _ k) ?_
      cases h2 : asc l v.length with
      | false => exact ev_pos rfl (ev_some rfl)
      | true =>
        refine ev_neg (by simp) ?_
        have := sValueOf_l0 v l hvo h2 l.length 0 (by omega)
        rwa [foldR_end (Nat.le_refl _)] at this
    · have hvo : valsOk v = false := by
        unfold valsOk; rw [Bool.not_eq_true] at h1; rw [show allR (valAt v) 0 v.length = false from h1, Bool.and_false]
      rw [hvo]
      exact Ev.step (fun k => spec_ValueOf.j0.eq_2 v l true k) (ev_pos rfl (ev_some rfl))
  · have hvo : valsOk v = false := by
      simp only [decide_eq_true_eq] at h
      unfold valsOk; rw [decide_eq_false (by omega), Bool.false_and]
    rw [hvo]
    exact Ev.step (fun k => spec_ValueOf.j0.eq_2 v l true k) (ev_pos rfl (ev_some rfl))

/- impl_goodValues -/
theorem goodValues_l0 (l : List Int) (hl : l.length ≤ maxLen) : ∀ (d i : Nat), i + d = l.length → Ev (fun k => impl_goodValues.l0 k l (l.length : Int) (i : Int)) (allR (valAt l) i l.length) := by
  have hl := maxLen_le hl
  intro d
  induction d with
  | zero =>
    intro i hi
    exact Ev.step (fun k => impl_goodValues.l0.eq_2 l l.length i k) (ev_neg (by omega) (ev_some (allR_end (by omega)).symm))
  | succ d ih =>
    intro i hi
    refine Ev.step (fun k => impl_goodValues.l0.eq_2 l l.length i k) ?_
    rw [allR_step (by omega), w_succ (n := l.length) (by omega) (by omega), rd_nat]
    have no : ¬ (-1000000 ≤ l.getD i 0 ∧ l.getD i 0 ≤ 1000000) → false = (valAt l i && allR (valAt l) (i + 1) l.length) := by
      intro h; rw [show valAt l i = false from decide_eq_false h, Bool.false_and]
    refine ev_pos (by omega) (ev_pos (by omega) (ev_pos (by omega) ?_))
    refine ev_ite (fun h => ev_some (no (by omega))) (fun h => ?_)
    refine ev_ite (fun h1 => ev_some (no (by omega))) (fun h1 => ?_)
    rw [show valAt l i = true from decide_eq_true (by omega), Bool.true_and]; exact ih (i + 1) (by omega)
theorem goodValues_ev (l : List Int) (hl : l.length ≤ maxLen) : Ev (fun k => impl_goodValues.f k l) (valsOk l) := by
  unfold impl_goodValues.f valsOk
  refine ev_ite (fun h => ?_) (fun h => ?_)
  · refine Ev.step (fun k => impl_goodValues.j0.eq_2 l true k) (ev_pos rfl (ev_some ?_))
    rw [decide_eq_false (by omega), Bool.false_and]
  · refine Ev.step (fun k => impl_goodValues.j0.eq_2 l _ k) (ev_ite (fun h1 => ev_some ?_) (fun h1 => ?_))
    · simp only [decide_eq_true_eq] at h1
      rw [decide_eq_false (by omega), Bool.false_and]
    · simp only [decide_eq_true_eq] at h1
      rw [decide_eq_true (by omega), Bool.true_and]; exact goodValues_l0 l hl l.length 0 (by omega)

/- impl_areBlocks -/
theorem areBlocks_l0 (l : List Int) (hl : l.length ≤ maxLen) (n : Int) : ∀ (d i : Nat), i + d = l.length → Ev (fun k => impl_areBlocks.l0 k l n l (l.length : Int) (i : Int)) (allR (ascAt l n) i l.length) := by
  have hl := maxLen_le hl
  intro d
  induction d with
  | zero =>
    intro i hi
    exact Ev.step (fun k => impl_areBlocks.l0.eq_2 l n l l.length i k) (ev_neg (by omega) (ev_some (allR_end (by omega)).symm))
  | succ d ih =>
    intro i hi
    refine Ev.step (fun k => impl_areBlocks.l0.eq_2 l n l l.length i k) ?_
    rw [allR_step (by omega), w_succ (n := l.length) (by omega) (by omega), rd_nat]
    refine ev_pos (by omega) (ev_pos (by omega) (ev_pos (by omega) ?_))
    have no : ¬ (0 ≤ l.getD i 0 ∧ l.getD i 0 < n ∧ (0 < i → l.getD (i - 1) 0 < l.getD i 0)) → false = (ascAt l n i && allR (ascAt l n) (i + 1) l.length) := by
      intro h
      have : ascAt l n i = false := by unfold ascAt; simp only [decide_eq_false_iff_not]; exact h
      rw [this]; rfl
    have yes : (0 ≤ l.getD i 0 ∧ l.getD i 0 < n ∧ (0 < i → l.getD (i - 1) 0 < l.getD i 0)) → Ev (fun k => impl_areBlocks.l0 k l n l (l.length : Int) ((i + 1 : Nat) : Int)) (ascAt l n i && allR (ascAt l n) (i + 1) l.length) := by
      intro h
      have : ascAt l n i = true := by unfold ascAt; simp only [decide_eq_true_eq]; exact h
      rw [this]; exact ih (i + 1) (by omega)
    refine ev_ite (fun h => ev_some (no (by omega))) (fun h => ?_)
    refine ev_ite (fun h1 => ev_some (no (by omega))) (fun h1 => ?_)
    refine ev_ite (fun h0 => ?_) (fun h0 => yes ⟨by omega, by omega, fun _ => by omega⟩)
    rw [w64 (x := (i : Int) - 1) (by omega) (by omega), show (i : Int) - 1 = ((i - 1 : Nat) : Int) by omega, rd_nat]
    refine ev_pos (by omega) (ev_pos (by omega) ?_)
    refine ev_ite (fun h2 => ev_some (no (fun hc => by have := hc.2.2 (by omega); omega))) (fun h2 => yes ⟨by omega, by omega, fun _ => by omega⟩)
theorem areBlocks_ev (l : List Int) (hl : l.length ≤ maxLen) (n : Int) : Ev (fun k => impl_areBlocks.f k l n) (asc l n) := by
  unfold impl_areBlocks.f asc
  exact areBlocks_l0 l hl n l.length 0 (by omega)

/- impl_valueSum -/
theorem valueSum_l0 (v l : List Int) (hv : valsOk v = true) (hl : asc l v.length = true) : ∀ (d i : Nat), i + d = l.length → Ev (fun k => impl_valueSum.l0 k v (foldR (sumAt v l) 0 i 0) l (l.length : Int) (i : Int)) (valSum v l) := by
  have hlen := asc_len hl
  rw [asc_iff] at hl
  rw [valsOk_iff] at hv
  intro d
  induction d with
  | zero =>
    intro i hi
    obtain rfl : i = l.length := by omega
    exact Ev.step (fun k => impl_valueSum.l0.eq_2 v _ l l.length l.length k) (ev_neg (by omega) (ev_some rfl))
  | succ d ih =>
    intro i hi
    refine Ev.step (fun k => impl_valueSum.l0.eq_2 v _ l l.length i k) ?_
    have h1 := hl i (by omega)
    have h2 := valSum_bound hv.2.2 (fun j hj => ⟨(hl j hj).1, (hl j hj).2.1⟩) i (by omega)
    have h3 := hv.2.2 (l.getD i 0).toNat (by omega)
    rw [w_succ (n := l.length) (by omega) (by omega), rd_nat]
    refine ev_pos (by omega) (ev_pos (by omega) (ev_pos (by omega) (ev_pos (by omega) (ev_pos (by omega) ?_))))
    have e : wrap64 (foldR (sumAt v l) 0 i 0 + rd v (l.getD i 0)) = foldR (sumAt v l) 0 (i + 1) 0 := by
      rw [foldR_last (Nat.zero_le _)]
      unfold rd sumAt
      unfold sumAt at h2
      rw [w64 (by omega) (by omega)]
    rw [e]
    exact ih (i + 1) (by omega)
theorem valueSum_ev (v l : List Int) (hv : valsOk v = true) (hl : asc l v.length = true) : Ev (fun k => impl_valueSum.f k v l) (valSum v l) := by
  unfold impl_valueSum.f
  have := valueSum_l0 v l hv hl l.length 0 (by omega)
  rwa [foldR_end (Nat.le_refl _)] at this

/- impl_ValueOf -/
theorem iValueOf_ev (v l : List Int) (hv : v.length ≤ maxLen) (hl : l.length ≤ maxLen) : Ev (fun k => impl_ValueOf.f k v l) (if valsOk v && asc l v.length then (valSum v l, true) else (0, false)) := by
  unfold impl_ValueOf.f
  refine Ev.bind (goodValues_ev v hv) (ev_ite (fun h => ?_) (fun h => ev_some ?_))
  · refine Ev.bind (areBlocks_ev l hl _) (ev_ite (fun h1 => ?_) (fun h1 => ev_some ?_))
    · rw [h, h1]; exact Ev.bind (valueSum_ev v l h h1) (ev_some rfl)
    · rw [Bool.not_eq_true] at h1; rw [h, h1]; rfl
  · rw [Bool.not_eq_true] at h; rw [h]; rfl

/- law.FnExactValueOf -/
theorem FnExactValueOf : Pure := by
  intro v l hv _ _ hl _ _
  refine Ev.rounds ?_
  unfold laws_FnExactValueOf.f
  refine ev_ite (fun _ => ev_some rfl) (fun h1 => ev_ite (fun _ => ev_some rfl) (fun h2 => ?_))
  have tv := toIntS_ev v (by omega)
  have tl := toIntS_ev l (by omega)
  refine Ev.bind tv (Ev.bind tl (Ev.bind (sValueOf_ev v l hv hl) (Ev.bind tv (Ev.bind tl (Ev.bind (iValueOf_ev v l hv hl) (ev_pos rfl ?_))))))
  refine Ev.step (fun k => laws_FnExactValueOf.j0.eq_2 v l v l _ k) (ev_neg (by simp) ?_)
  exact Ev.bind tv (Ev.bind (eqIntS_ev v hv) (ev_pos rfl (Ev.bind tl (Ev.bind (eqIntS_ev l hl) (ev_pos rfl (ev_some rfl))))))

end Go.Proofs.Ytpdkackfdccedaa.PureFnExactValueOf
