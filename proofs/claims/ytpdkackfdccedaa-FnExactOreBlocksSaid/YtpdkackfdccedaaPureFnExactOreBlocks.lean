/- The pure side of the law FnExactOreBlocks: the printed functions, one by one, and what the law says of them. -/
import Derived.Test.YtpdkackfdccedaaStmtFnExactOreBlocks
import Derived.Test.YtpdkackfdccedaaBase
import Derived.Test.YtpdkackfdccedaaMarks
namespace Go.Proofs.Ytpdkackfdccedaa.PureFnExactOreBlocks
open Go.RowKit Go.Proofs.Ytpdkackfdccedaa.PFnExactOreBlocks Go.Proofs.YtpdkackfdccedaaW.PrintWords Go.Proofs.YtpdkackfdccedaaW.PrintLast Go.Proofs.YtpdkackfdccedaaW.PrintMore Go.Proofs.Ytpdkackfdccedaa.B
set_option linter.unusedVariables false
set_option linter.unusedSimpArgs false
/- laws_toIntS -/
theorem toIntS_l0 (l : List Int) (hl : l.length ≤ 35184372088832) : ∀ (d i : Nat) (m : List Int), i + d = l.length → m.length = l.length → (∀ j, j < i → m.getD j 0 = l.getD j 0) → Ev (fun k => laws_toIntS.l0 k l m (i : Int)) l := by
  intro d
  induction d with
  | zero =>
    intro i m hi hm he
    refine Ev.step (fun k => laws_toIntS.l0.eq_2 l m i k) ?_
    refine ev_neg (by omega) (ev_some ?_)
    refine List.ext_getElem hm (fun j h1 h2 => ?_)
    have := he j (by omega)
    simpa [List.getD_eq_getElem?_getD, h1, h2] using this
  | succ d ih =>
    intro i m hi hm he
    refine Ev.step (fun k => laws_toIntS.l0.eq_2 l m i k) ?_
    refine ev_pos (by omega) (ev_pos (by omega) (ev_pos (by omega) ?_))
    rw [w_succ (n := l.length) (by omega) (by omega), toNat_nat, rd_nat]
    refine ih (i + 1) _ (by omega) (by simpa using hm) (fun j hj => ?_)
    by_cases hji : j = i
    · subst hji
      simp [List.getD_eq_getElem?_getD, show j < m.length by omega]
    · rw [← he j (by omega)]
      simp [List.getD_eq_getElem?_getD, List.getElem?_set_ne (Ne.symm hji)]
theorem toIntS_ev (l : List Int) (hl : l.length ≤ 35184372088832) : Ev (fun k => laws_toIntS.f k l) l := by
  unfold laws_toIntS.f
  refine ev_pos (by omega) (ev_pos (by omega) ?_)
  exact toIntS_l0 l hl l.length 0 _ (by omega) (by simp) (fun j hj => by omega)

/- laws_eqIntS -/
theorem eqIntS_l0 (l : List Int) (hl : l.length ≤ maxLen) : ∀ (d i : Nat), i + d = l.length → Ev (fun k => laws_eqIntS.l0 k l l (i : Int)) true := by
  have hl := maxLen_le hl
  intro d
  induction d with
  | zero =>
    intro i hi
    exact Ev.step (fun k => laws_eqIntS.l0.eq_2 l l i k) (ev_neg (by omega) (ev_some rfl))
  | succ d ih =>
    intro i hi
    refine Ev.step (fun k => laws_eqIntS.l0.eq_2 l l i k) ?_
    rw [w_succ (n := l.length) (by omega) (by omega)]
    exact ev_pos (by omega) (ev_pos (by omega) (ev_pos (by omega) (ev_pos rfl (ih (i + 1) (by omega)))))
theorem eqIntS_ev (l : List Int) (hl : l.length ≤ maxLen) : Ev (fun k => laws_eqIntS.f k l l) true := by
  unfold laws_eqIntS.f
  exact ev_pos rfl (eqIntS_l0 l hl l.length 0 (by omega))

/- laws_markIntS -/
theorem markIntS_l0 (l : List Int) (hl : l.length ≤ 1048576) (a : Int) (ha : 0 ≤ a ∧ a ≤ 1099511627776) : ∀ (d i : Nat) (m : List Int), i + d = l.length → m.length = l.length → (∀ j, j < i → m.getD j 0 = a + j) →
    ∃ r, Ev (fun k => laws_markIntS.l0 k m (a + i) (i : Int)) (a + l.length, r) ∧ r.length = l.length ∧ ∀ j, j < l.length → r.getD j 0 = a + j := by
  intro d
  induction d with
  | zero =>
    intro i m hi hm he
    obtain rfl : i = l.length := by omega
    exact ⟨m, Ev.step (fun k => laws_markIntS.l0.eq_2 m (a + l.length) l.length k) (ev_neg (by omega) (ev_some rfl)), hm, he⟩
  | succ d ih =>
    intro i m hi hm he
    obtain ⟨r, hr, hz⟩ := ih (i + 1) (m.set i (a + i)) (by omega) (by simpa using hm) (fun j hj => by
      by_cases hji : j = i
      · subst hji; simp [List.getD_eq_getElem?_getD, show j < m.length by omega]
      · rw [← he j (by omega)]; simp [List.getD_eq_getElem?_getD, List.getElem?_set_ne (Ne.symm hji)])
    refine ⟨r, Ev.step (fun k => laws_markIntS.l0.eq_2 m (a + i) i k) ?_, hz⟩
    rw [w_succ (n := l.length) (by omega) (by omega), toNat_nat, w64 (x := a + i + 1) (by omega) (by omega), show a + (i : Int) + 1 = a + ((i + 1 : Nat) : Int) by omega]
    exact ev_pos (by omega) (ev_pos (by omega) hr)
theorem heldIntS_l0 (l : List Int) (hl : l.length ≤ 1048576) (a : Int) (ha : 0 ≤ a ∧ a ≤ 1099511627776) (he : ∀ j, j < l.length → l.getD j 0 = a + j) : ∀ (d i : Nat), i + d = l.length →
    Ev (fun k => laws_heldIntS.l0 k l (a + i) (i : Int)) (a + l.length) := by
  intro d
  induction d with
  | zero =>
    intro i hi
    obtain rfl : i = l.length := by omega
    exact Ev.step (fun k => laws_heldIntS.l0.eq_2 l (a + l.length) l.length k) (ev_neg (by omega) (ev_some rfl))
  | succ d ih =>
    intro i hi
    refine Ev.step (fun k => laws_heldIntS.l0.eq_2 l (a + i) i k) ?_
    rw [w_succ (n := l.length) (by omega) (by omega), rd_nat, w64 (x := a + i + 1) (by omega) (by omega), show a + (i : Int) + 1 = a + ((i + 1 : Nat) : Int) by omega]
    exact ev_pos (by omega) (ev_pos (by omega) (ev_pos (he i (by omega)) (ih (i + 1) (by omega))))
theorem markIntS_ev (l : List Int) (hl : l.length ≤ 1048576) (a : Int) (ha : 0 ≤ a ∧ a ≤ 1099511627776) :
    ∃ r, Ev (fun k => laws_markIntS.f k l a) (a + l.length, r) ∧ Ev (fun k => laws_heldIntS.f k r a) (a + l.length) ∧ r.length = l.length := by
  obtain ⟨r, h1, h2, h3⟩ := markIntS_l0 l hl a ha l.length 0 l (by omega) rfl (fun j hj => by omega)
  have h4 := heldIntS_l0 r (by omega) a ha (fun j hj => h3 j (by omega)) r.length 0 (by omega)
  rw [show a + ((0 : Nat) : Int) = a by omega] at h1 h4
  rw [h2] at h4
  exact ⟨r, h1, h4, h2⟩

/- vals -/
def valAt (l : List Int) (j : Nat) : Bool := decide (-1000000 ≤ l.getD j 0 ∧ l.getD j 0 ≤ 1000000)
def valsOk (l : List Int) : Bool := decide (1 ≤ l.length ∧ l.length ≤ 120) && allR (valAt l) 0 l.length
theorem valsOk_iff {l : List Int} : valsOk l = true ↔ 1 ≤ l.length ∧ l.length ≤ 120 ∧ ∀ j, j < l.length → -1000000 ≤ l.getD j 0 ∧ l.getD j 0 ≤ 1000000 := by
  unfold valsOk valAt
  rw [Bool.and_eq_true, decide_eq_true_eq, allR_iff]
  constructor
  · rintro ⟨⟨h1, h2⟩, h3⟩; exact ⟨h1, h2, fun j hj => by have := h3 j (Nat.zero_le _) hj; simpa using this⟩
  · rintro ⟨h1, h2, h3⟩; exact ⟨⟨h1, h2⟩, fun j _ hj => by simpa using h3 j hj⟩
def sumAt (v l : List Int) (s : Int) (j : Nat) : Int := s + v.getD (l.getD j 0).toNat 0
def valSum (v l : List Int) : Int := foldR (sumAt v l) 0 l.length 0
theorem valSum_bound {v l : List Int} (hv : ∀ j, j < v.length → -1000000 ≤ v.getD j 0 ∧ v.getD j 0 ≤ 1000000) (hl : ∀ j, j < l.length → 0 ≤ l.getD j 0 ∧ l.getD j 0 < v.length) (m : Nat) (hm : m ≤ l.length) : -1000000 * (m : Int) ≤ foldR (sumAt v l) 0 m 0 ∧ foldR (sumAt v l) 0 m 0 ≤ 1000000 * (m : Int) := by
  induction m with
  | zero => rw [foldR_end (Nat.le_refl _)]; omega
  | succ m ih =>
    have ih := ih (by omega)
    rw [foldR_last (by omega)]
    have h1 := hl m (by omega)
    have h2 := hv (l.getD m 0).toNat (by omega)
    unfold sumAt at *
    omega

/- spec_vaOre -/
def oreAt (v : List Int) (o : List Int) (j : Nat) : List Int := if v.getD j 0 > 0 then o ++ [(j : Int)] else o
def oreL (v : List Int) : List Int := foldR (oreAt v) 0 v.length []
theorem oreL_len (v : List Int) (m : Nat) : (foldR (oreAt v) 0 m []).length ≤ m := by
  induction m with
  | zero => rw [foldR_end (Nat.le_refl _)]; exact Nat.le_refl _
  | succ m ih =>
    rw [foldR_last (Nat.zero_le _)]
    unfold oreAt at *
    split
    · rw [List.length_append]; simp; exact ih
    · omega
theorem vaOre_l0 (v : List Int) (hv : v.length ≤ 1048576) : ∀ (d i : Nat), i + d = v.length → Ev (fun k => spec_vaOre.l0 k (foldR (oreAt v) 0 i []) v (v.length : Int) (i : Int)) (oreL v) := by
  intro d
  induction d with
  | zero =>
    intro i hi
    obtain rfl : i = v.length := by omega
    exact Ev.step (fun k => spec_vaOre.l0.eq_2 _ v v.length v.length k) (ev_neg (by omega) (ev_some rfl))
  | succ d ih =>
    intro i hi
    have ih := ih (i + 1) (by omega)
    rw [foldR_last (Nat.zero_le _)] at ih
    have hlen := oreL_len v i
    refine Ev.step (fun k => spec_vaOre.l0.eq_2 _ v v.length i k) ?_
    rw [w_succ (n := v.length) (by omega) (by omega), rd_nat]
    refine ev_pos (by omega) (ev_pos (by omega) (ev_pos (by omega) (ev_ite (fun h => ?_) (fun h => ?_))))
    · rw [show oreAt v (foldR (oreAt v) 0 i []) i = foldR (oreAt v) 0 i [] ++ [(i : Int)] from if_pos h] at ih
      exact ev_pos (by omega) ih
    · rw [show oreAt v (foldR (oreAt v) 0 i []) i = foldR (oreAt v) 0 i [] from if_neg h] at ih
      exact ih
theorem vaOre_ev (v : List Int) (hv : v.length ≤ 1048576) : Ev (fun k => spec_vaOre.f k v) (oreL v) := by
  unfold spec_vaOre.f
  have := vaOre_l0 v hv v.length 0 (by omega)
  rwa [foldR_end (Nat.le_refl _)] at this

/- spec_l1In -/
theorem l1In_eq (a b c : Int) : spec_l1In.f a b c = some (decide (b ≤ a ∧ a ≤ c)) := by
  unfold spec_l1In.f
  by_cases h : a ≥ b
  · rw [if_pos h]; simp [show b ≤ a from h]
  · rw [if_neg h]; simp [show ¬ b ≤ a from h]

/- spec_l1All -/
theorem l1All_l0 (l : List Int) (hl : l.length ≤ maxLen) (lo hi : Int) : ∀ (d i : Nat), i + d = l.length → Ev (fun k => spec_l1All.l0 k lo hi l (l.length : Int) (i : Int)) (allR (fun j => decide (lo ≤ l.getD j 0 ∧ l.getD j 0 ≤ hi)) i l.length) := by
  have hl := maxLen_le hl
  intro d
  induction d with
  | zero =>
    intro i hi'
    exact Ev.step (fun k => spec_l1All.l0.eq_2 lo hi l l.length i k) (ev_neg (by omega) (ev_some (allR_end (by omega)).symm))
  | succ d ih =>
    intro i hi'
    refine Ev.step (fun k => spec_l1All.l0.eq_2 lo hi l l.length i k) ?_
    rw [allR_step (by omega), w_succ (n := l.length) (by omega) (by omega), rd_nat]
    refine ev_pos (by omega) (ev_pos (by omega) (ev_pos (by omega) (ev_bindc (l1In_eq _ _ _) ?_)))
    refine ev_ite (fun h => ?_) (fun h => ?_)
    · rw [h, Bool.true_and]; exact ih (i + 1) (by omega)
    · rw [Bool.not_eq_true] at h; rw [h, Bool.false_and]; exact ev_some rfl
theorem l1All_ev (l : List Int) (hl : l.length ≤ maxLen) (lo hi : Int) : Ev (fun k => spec_l1All.f k l lo hi) (allR (fun j => decide (lo ≤ l.getD j 0 ∧ l.getD j 0 ≤ hi)) 0 l.length) := by
  unfold spec_l1All.f
  exact l1All_l0 l hl lo hi l.length 0 (by omega)

/- spec_vaGood -/
theorem vaGood_ev (l : List Int) (hl : l.length ≤ maxLen) (n : Int) : Ev (fun k => spec_vaGood.f k l n) (decide ((l.length : Int) = n) && valsOk l) := by
  unfold spec_vaGood.f
  refine ev_ite (fun h => ?_) (fun h => ev_some (by rw [decide_eq_false h, Bool.false_and]))
  subst h
  rw [decide_eq_true rfl, Bool.true_and]
  unfold valsOk
  refine ev_bindc (l1In_eq _ _ _) (ev_ite (fun h => ?_) (fun h => ev_some ?_))
  · simp only [decide_eq_true_eq] at h
    rw [decide_eq_true (by omega), Bool.true_and]
    exact ev_id (l1All_ev l hl _ _)
  · simp only [decide_eq_true_eq] at h
    rw [decide_eq_false (by omega), Bool.false_and]

/- spec_OreBlocks -/
theorem sOre_ev (v : List Int) (hv : v.length ≤ 1048576) : Ev (fun k => spec_OreBlocks.f k v) (if valsOk v then (oreL v, true) else ([], false)) := by
  unfold spec_OreBlocks.f
  refine Ev.bind (vaGood_ev v (by unfold maxLen; omega) _) ?_
  rw [decide_eq_true rfl, Bool.true_and]
  refine ev_ite (fun h => ?_) (fun h => ev_some ?_)
  · rw [h]; exact Ev.bind (vaOre_ev v hv) (ev_some rfl)
  · rw [Bool.not_eq_true] at h; rw [h]; rfl

/- impl_goodValues -/
theorem goodValues_l0 (l : List Int) (hl : l.length ≤ maxLen) : ∀ (d i : Nat), i + d = l.length → Ev (fun k => impl_goodValues.l0 k l (l.length : Int) (i : Int)) (allR (valAt l) i l.length) := by
  have hl := maxLen_le hl
  intro d
  induction d with
  | zero =>
    intro i hi
    exact Ev.step (fun k => impl_goodValues.l0.eq_2 l l.length i k) (ev_neg (by omega) (ev_some (allR_end (by omega)).symm))
  | succ d ih =>
    intro i hi
    refine Ev.step (fun k => impl_goodValues.l0.eq_2 l l.length i k) ?_
    rw [allR_step (by omega), w_succ (n := l.length) (by omega) (by omega), rd_nat]
    have no : ¬ (-1000000 ≤ l.getD i 0 ∧ l.getD i 0 ≤ 1000000) → false = (valAt l i && allR (valAt l) (i + 1) l.length) := by
      intro h; rw [show valAt l i = false from decide_eq_false h, Bool.false_and]
    refine ev_pos (by omega) (ev_pos (by omega) (ev_pos (by omega) ?_))
    refine ev_ite (fun h => ev_some (no (by omega))) (fun h => ?_)
    refine ev_ite (fun h1 => ev_some (no (by omega))) (fun h1 => ?_)
    rw [show valAt l i = true from decide_eq_true (by omega), Bool.true_and]; exact ih (i + 1) (by omega)
theorem goodValues_ev (l : List Int) (hl : l.length ≤ maxLen) : Ev (fun k => impl_goodValues.f k l) (valsOk l) := by
  unfold impl_goodValues.f valsOk
  refine ev_ite (fun h => ?_) (fun h => ?_)
  · refine Ev.step (fun k => impl_goodValues.j0.eq_2 l true k) (ev_pos rfl (ev_some ?_))
    rw [decide_eq_false (by omega), Bool.false_and]
  · refine Ev.step (fun k => impl_goodValues.j0.eq_2 l _ k) (ev_ite (fun h1 => ev_some ?_) (fun h1 => ?_))
    · simp only [decide_eq_true_eq] at h1
      rw [decide_eq_false (by omega), Bool.false_and]
    · simp only [decide_eq_true_eq] at h1
      rw [decide_eq_true (by omega), Bool.true_and]; exact goodValues_l0 l hl l.length 0 (by omega)

/- impl_OreBlocks -/
theorem iOre_l0 (v : List Int) (hv : v.length ≤ 1048576) : ∀ (d i : Nat), i + d = v.length → Ev (fun k => impl_OreBlocks.l0 k (foldR (oreAt v) 0 i []) v (v.length : Int) (i : Int)) (oreL v, true) := by
  intro d
  induction d with
  | zero =>
    intro i hi
    obtain rfl : i = v.length := by omega
    exact Ev.step (fun k => impl_OreBlocks.l0.eq_2 _ v v.length v.length k) (ev_neg (by omega) (ev_some rfl))
  | succ d ih =>
    intro i hi
    have ih := ih (i + 1) (by omega)
    rw [foldR_last (Nat.zero_le _)] at ih
    have hlen := oreL_len v i
    refine Ev.step (fun k => impl_OreBlocks.l0.eq_2 _ v v.length i k) ?_
    rw [w_succ (n := v.length) (by omega) (by omega), rd_nat]
    refine ev_pos (by omega) (ev_pos (by omega) (ev_pos (by omega) (ev_ite (fun h => ?_) (fun h => ?_))))
    · rw [show oreAt v (foldR (oreAt v) 0 i []) i = foldR (oreAt v) 0 i [] ++ [(i : Int)] from if_pos h] at ih
      exact ev_pos (by omega) ih
    · rw [show oreAt v (foldR (oreAt v) 0 i []) i = foldR (oreAt v) 0 i [] from if_neg h] at ih
      exact ih
theorem iOre_ev (v : List Int) (hv : v.length ≤ 1048576) : Ev (fun k => impl_OreBlocks.f k v) (if valsOk v then (oreL v, true) else ([], false)) := by
  unfold impl_OreBlocks.f
  refine Ev.bind (goodValues_ev v (by unfold maxLen; omega)) (ev_ite (fun h => ?_) (fun h => ev_some ?_))
  · rw [h]
    have := iOre_l0 v hv v.length 0 (by omega)
    rwa [foldR_end (Nat.le_refl _)] at this
  · rw [Bool.not_eq_true] at h; rw [h]; rfl

/- law.FnExactOreBlocks -/
theorem FnExactOreBlocks : Pure := by
  intro v hv _ _
  refine Ev.rounds ?_
  unfold laws_FnExactOreBlocks.f
  refine ev_ite (fun _ => ev_some rfl) (fun h1 => ?_)
  have tv := toIntS_ev v (by omega)
  have hs := sOre_ev v (by omega)
  have hi := iOre_ev v (by omega)
  have hr : (if valsOk v then (oreL v, true) else ([], false)).1.length ≤ 1048576 := by
    split
    · have := oreL_len v v.length; show (oreL v).length ≤ _; unfold oreL; omega
    · simp
  generalize (if valsOk v then (oreL v, true) else ([], false)) = g at hs hi hr
  have hg := eqIntS_ev g.1 (by unfold maxLen; omega)
  obtain ⟨m0, hm0, _, _⟩ := markIntS_ev v (by omega) 1 (by omega)
  obtain ⟨m1, hm1, hh1, _⟩ := markIntS_ev g.1 hr 1 (by omega)
  refine Ev.bind tv (Ev.bind hs (Ev.bind tv (Ev.bind hi (Ev.bind hg (ev_pos rfl ?_)))))
  refine Ev.step (fun k => laws_FnExactOreBlocks.j0.eq_2 _ _ _ _ _ _ _ k) (ev_neg (by simp) ?_)
  refine Ev.bind tv (Ev.bind (eqIntS_ev v hv) (ev_pos rfl (Ev.bind hm0 (ev_neg (by simp; omega) (Ev.bind hg (ev_pos rfl ?_))))))
  refine Ev.step (fun k => laws_FnExactOreBlocks.j1.eq_2 _ _ _ _ _ k) (ev_neg (by simp) ?_)
  refine Ev.bind hm1 (Ev.bind hh1 (ev_neg (by omega) (ev_pos rfl (Ev.bind tv (Ev.bind hi (Ev.bind hg (ev_pos rfl ?_)))))))
  refine Ev.step (fun k => laws_FnExactOreBlocks.j2.eq_2 _ _ _ k) (ev_neg (by simp) ?_)
  exact Ev.bind hh1 (ev_neg (by omega) (ev_pos rfl (ev_some rfl)))

end Go.Proofs.Ytpdkackfdccedaa.PureFnExactOreBlocks
