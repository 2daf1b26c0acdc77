/- The law FnExactCutOfPit, walked by hand over its callees' contracts: for every input it returns true. -/
import Derived.Test.YtdjahpigkbgobaaCom
import Derived.Test.YtdjahpigkbgobaaMFnExactCutOfPitx0
import Derived.Test.YtdjahpigkbgobaaOwnCutOfPit
namespace Go.Proofs.Ytdjahpigkbgobaa.WalkFnExactCutOfPit
open Go.RowKit Go.Proofs.Ytdjahpigkbgobaa.PFnExactCutOfPit Go.Proofs.YtdjahpigkbgobaaW.PrintWords Go.Proofs.YtdjahpigkbgobaaW.PrintLast Go.Proofs.YtdjahpigkbgobaaW.PrintMore Go.Proofs.Ytdjahpigkbgobaa.B Go.Proofs.Ytdjahpigkbgobaa.Com Go.Proofs.Ytdjahpigkbgobaa.OwnCutOfPit
set_option linter.unusedVariables false
set_option linter.unusedSimpArgs false
/- spec_l1In -/
theorem l1In_eq (a b c : Int) : spec_l1In.f a b c = some (decide (b ≤ a ∧ a ≤ c)) := by
  unfold spec_l1In.f
  by_cases h : a ≥ b
  · rw [if_pos h]; simp [show b ≤ a from h]
  · rw [if_neg h]; simp [show ¬ b ≤ a from h]

/- spec_l1Rising -/
theorem l1Rising_l0 (l : List Int) (hl : l.length ≤ maxLen) (n : Int) : ∀ (d i : Nat), i + d = l.length → Ev (fun k => spec_l1Rising.l0 k l 0 (n - 1) l (l.length : Int) (i : Int)) (allR (ascAt l n) i l.length) := by
  have hl := maxLen_le hl
  intro d
  induction d with
  | zero =>
    intro i hi
    exact Ev.step (fun k => spec_l1Rising.l0.eq_2 l 0 (n - 1) l l.length i k) (ev_neg (by omega) (ev_some (allR_end (by omega)).symm))
  | succ d ih =>
    intro i hi
    refine Ev.step (fun k => spec_l1Rising.l0.eq_2 l 0 (n - 1) l l.length i k) ?_
    rw [allR_step (by omega), w_succ (n := l.length) (by omega) (by omega), rd_nat]
    refine ev_pos (by omega) (ev_pos (by omega) (ev_pos (by omega) (ev_bindc (l1In_eq _ _ _) ?_)))
    refine ev_ite (fun h => ?_) (fun h => ?_)
    · simp only [decide_eq_true_eq] at h
      refine ev_ite (fun h0 => ?_) (fun h0 => ?_)
      · rw [w64 (x := (i : Int) - 1) (by omega) (by omega), show (i : Int) - 1 = ((i - 1 : Nat) : Int) by omega, rd_nat]
        refine ev_pos (by omega) (ev_pos (by omega) ?_)
        refine ev_ite (fun h1 => ?_) (fun h1 => ?_)
        · refine ev_some ?_
          have : ascAt l n i = false := by unfold ascAt; simp only [decide_eq_false_iff_not]; intro hc; have := hc.2.2 (by omega); omega
          rw [this]; rfl
        · have : ascAt l n i = true := by unfold ascAt; simp only [decide_eq_true_eq]; exact ⟨by omega, by omega, fun _ => by omega⟩
          rw [this]; exact ih (i + 1) (by omega)
      · have : ascAt l n i = true := by unfold ascAt; simp only [decide_eq_true_eq]; exact ⟨by omega, by omega, fun _ => by omega⟩
        rw [this]; exact ih (i + 1) (by omega)
    · refine ev_some ?_
      have : ascAt l n i = false := by
        unfold ascAt; simp only [decide_eq_true_eq] at h; simp only [decide_eq_false_iff_not]; intro hc; exact h ⟨hc.1, by omega⟩
      rw [this]; rfl
theorem l1Rising_ev (l : List Int) (hl : l.length ≤ maxLen) (n : Int) : Ev (fun k => spec_l1Rising.f k l 0 (n - 1)) (asc l n) := by
  unfold spec_l1Rising.f asc
  exact l1Rising_l0 l hl n l.length 0 (by omega)

/- spec_clArcs -/
theorem clArcs_l0 (a : List (List Int)) (hl : a.length ≤ maxLen) (hb : ∀ x ∈ a, x.length ≤ maxLen) : ∀ (d i : Nat), i + d = a.length →
    Ev (fun k => spec_clArcs.l0 k a a (a.length : Int) (i : Int)) (decide (1 ≤ a.length ∧ a.length ≤ 120) && allR (fun i => asc (a.getD i []) i) i a.length) := by
  have hl := maxLen_le hl
  intro d
  induction d with
  | zero =>
    intro i hi
    refine Ev.step (fun k => spec_clArcs.l0.eq_2 a a a.length i k) (ev_neg (by omega) (ev_bindc (l1In_eq _ _ _) (ev_some ?_)))
    rw [allR_end (by omega), Bool.and_true, decide_eq_decide]; omega
  | succ d ih =>
    intro i hi
    refine Ev.step (fun k => spec_clArcs.l0.eq_2 a a a.length i k) ?_
    have hx : rd_L1 a (i : Int) = a.getD i [] := by unfold rd_L1; rw [toNat_nat]
    have hmem : a.getD i [] ∈ a := by
      rw [List.getD_eq_getElem?_getD, List.getElem?_eq_getElem (by omega)]; exact List.getElem_mem _
    rw [allR_step (by omega), w_succ (n := a.length) (by omega) (by omega), hx, w64 (x := (i : Int) - 1) (by omega) (by omega)]
    refine ev_pos (by omega) (ev_pos (by omega) (ev_pos (by omega) (Ev.bind (l1Rising_ev _ (hb _ hmem) _) ?_)))
    refine ev_ite (fun h => ?_) (fun h => ?_)
    · rw [h, Bool.true_and]; exact ih (i + 1) (by omega)
    · rw [Bool.not_eq_true] at h; rw [h, Bool.false_and, Bool.and_false]; exact ev_some rfl
theorem clArcs_ev (a : List (List Int)) (hl : a.length ≤ maxLen) (hb : ∀ x ∈ a, x.length ≤ maxLen) : Ev (fun k => spec_clArcs.f k a) (arcsOk a) := by
  unfold spec_clArcs.f arcsOk
  exact clArcs_l0 a hl hb a.length 0 (by omega)

/- spec_l1All -/
theorem l1All_l0 (l : List Int) (hl : l.length ≤ maxLen) (lo hi : Int) : ∀ (d i : Nat), i + d = l.length → Ev (fun k => spec_l1All.l0 k lo hi l (l.length : Int) (i : Int)) (allR (fun j => decide (lo ≤ l.getD j 0 ∧ l.getD j 0 ≤ hi)) i l.length) := by
  have hl := maxLen_le hl
  intro d
  induction d with
  | zero =>
    intro i hi'
    exact Ev.step (fun k => spec_l1All.l0.eq_2 lo hi l l.length i k) (ev_neg (by omega) (ev_some (allR_end (by omega)).symm))
  | succ d ih =>
    intro i hi'
    refine Ev.step (fun k => spec_l1All.l0.eq_2 lo hi l l.length i k) ?_
    rw [allR_step (by omega), w_succ (n := l.length) (by omega) (by omega), rd_nat]
    refine ev_pos (by omega) (ev_pos (by omega) (ev_pos (by omega) (ev_bindc (l1In_eq _ _ _) ?_)))
    refine ev_ite (fun h => ?_) (fun h => ?_)
    · rw [h, Bool.true_and]; exact ih (i + 1) (by omega)
    · rw [Bool.not_eq_true] at h; rw [h, Bool.false_and]; exact ev_some rfl
theorem l1All_ev (l : List Int) (hl : l.length ≤ maxLen) (lo hi : Int) : Ev (fun k => spec_l1All.f k l lo hi) (allR (fun j => decide (lo ≤ l.getD j 0 ∧ l.getD j 0 ≤ hi)) 0 l.length) := by
  unfold spec_l1All.f
  exact l1All_l0 l hl lo hi l.length 0 (by omega)

/- spec_vaGood -/
theorem vaGood_ev (l : List Int) (hl : l.length ≤ maxLen) (n : Int) : Ev (fun k => spec_vaGood.f k l n) (decide ((l.length : Int) = n) && valsOk l) := by
  unfold spec_vaGood.f
  refine ev_ite (fun h => ?_) (fun h => ev_some (by rw [decide_eq_false h, Bool.false_and]))
  subst h
  rw [decide_eq_true rfl, Bool.true_and]
  unfold valsOk
  refine ev_bindc (l1In_eq _ _ _) (ev_ite (fun h => ?_) (fun h => ev_some ?_))
  · simp only [decide_eq_true_eq] at h
    rw [decide_eq_true (by omega), Bool.true_and]
    exact ev_id (l1All_ev l hl _ _)
  · simp only [decide_eq_true_eq] at h
    rw [decide_eq_false (by omega), Bool.false_and]

/- spec_paGood -/
theorem paGood_ev (a : List (List Int)) (ha : a.length ≤ maxLen) (hb : ∀ x ∈ a, x.length ≤ maxLen) (v : List Int) (hv : v.length ≤ maxLen) : Ev (fun k => spec_paGood.f k a v) (valuedB a v) := by
  unfold spec_paGood.f valuedB
  refine Ev.bind (clArcs_ev a ha hb) (ev_ite (fun h => ?_) (fun h => ?_))
  · rw [h, Bool.true_and, Bool.and_comm]
    exact ev_id (vaGood_ev v hv _)
  · rw [Bool.not_eq_true] at h; rw [h, Bool.false_and]; exact ev_some rfl

/- spec_clMarks -/
theorem clMarks_l0 (l : List Int) (hl : l.length ≤ maxLen) : ∀ (d i : Nat) (m : List Bool), i + d = l.length → (∀ x ∈ l, 0 ≤ x ∧ x < m.length) → Ev (fun k => spec_clMarks.l0 k m l (l.length : Int) (i : Int)) (foldR (setAt l) i l.length m) := by
  have hl := maxLen_le hl
  intro d
  induction d with
  | zero =>
    intro i m hi hm
    exact Ev.step (fun k => spec_clMarks.l0.eq_2 m l l.length i k) (ev_neg (by omega) (ev_some (foldR_end (by omega)).symm))
  | succ d ih =>
    intro i m hi hm
    refine Ev.step (fun k => spec_clMarks.l0.eq_2 m l l.length i k) ?_
    have hx := hm _ (getD_mem (z := 0) (show i < l.length by omega))
    rw [foldR_step (by omega), w_succ (n := l.length) (by omega) (by omega), rd_nat]
    refine ev_pos (by omega) (ev_pos (by omega) (ev_pos (by omega) (ev_pos (by omega) (ev_pos (by omega) ?_))))
    exact ih (i + 1) _ (by omega) (by intro x h; have := hm x h; simpa using this)
theorem clMarks_ev (n : Nat) (hn : n ≤ 1048576) (l : List Int) (hl : l.length ≤ maxLen) (h : ∀ x ∈ l, 0 ≤ x ∧ x < n) : Ev (fun k => spec_clMarks.f k (n : Int) l) (mk n l) := by
  unfold spec_clMarks.f mk setAll
  refine ev_pos (by omega) (ev_pos (by omega) ?_)
  rw [toNat_nat]
  exact clMarks_l0 l hl l.length 0 _ (by omega) (by simpa using h)

/- spec_clIs -/
theorem clIs_l1 (a : List (List Int)) (m : List Bool) (l : List Int) (n i : Int) (r : List Int) (hr : r.length ≤ 120) (hm : ∀ x ∈ r, 0 ≤ x ∧ x < m.length) (q : Bool) (hq : Ev (fun k => spec_clIs.l0 k a m l n (wrap64 (i + 1))) q) : ∀ (d j : Nat), j + d = r.length →
    Ev (fun k => spec_clIs.l1 k a m l n i r (r.length : Int) (j : Int)) (allR (inAt m r) j r.length && q) := by
  intro d
  induction d with
  | zero =>
    intro j hj
    refine Ev.step (fun k => spec_clIs.l1.eq_2 a m l n i r r.length j k) (ev_neg (by omega) ?_)
    rw [allR_end (by omega), Bool.true_and]; exact hq
  | succ d ih =>
    intro j hj
    refine Ev.step (fun k => spec_clIs.l1.eq_2 a m l n i r r.length j k) ?_
    have hx := hm _ (getD_mem (z := 0) (show j < r.length by omega))
    rw [allR_step (by omega), w_succ (n := r.length) (by omega) (by omega), rd_nat, rdB]
    refine ev_pos (by omega) (ev_pos (by omega) (ev_pos (by omega) (ev_pos (by omega) (ev_pos (by omega) ?_))))
    refine ev_ite (fun h => ?_) (fun h => ?_)
    · rw [show inAt m r j = true from h, Bool.true_and]; exact ih (j + 1) (by omega)
    · rw [Bool.not_eq_true] at h; rw [show inAt m r j = false from h, Bool.false_and, Bool.false_and]; exact ev_some rfl
theorem clIs_l0 (a : List (List Int)) (ha : Arcs a) (m : List Bool) (hm : m.length = a.length) (l : List Int) (hl : asc l a.length = true) : ∀ (d i : Nat), i + d = l.length → Ev (fun k => spec_clIs.l0 k a m l (l.length : Int) (i : Int)) (allR (cloAt a m l) i l.length) := by
  have h1 := asc_len hl
  have h2 := ha.le
  intro d
  induction d with
  | zero =>
    intro i hi
    exact Ev.step (fun k => spec_clIs.l0.eq_2 a m l l.length i k) (ev_neg (by omega) (ev_some (allR_end (by omega)).symm))
  | succ d ih =>
    intro i hi
    refine Ev.step (fun k => spec_clIs.l0.eq_2 a m l l.length i k) ?_
    have hx := asc_at hl (show i < l.length by omega)
    have ih := ih (i + 1) (by omega)
    rw [← w_succ (n := l.length) (i := i) (by omega) (by omega)] at ih
    rw [allR_step (by omega), rd_nat, rdL1']
    refine ev_pos (by omega) (ev_pos (by omega) (ev_pos (by omega) (ev_pos (by omega) (ev_pos (by omega) ?_))))
    exact clIs_l1 a m l l.length i (a.getD (l.getD i 0).toNat []) (ha.len _) (fun x hx => by have := ha.down hx; omega) _ ih (a.getD (l.getD i 0).toNat []).length 0 (by omega)
theorem clIs_ev (a : List (List Int)) (ha : Arcs a) (l : List Int) (hl : asc l a.length = true) : Ev (fun k => spec_clIs.f k a l) (isClo a l) := by
  have h1 := asc_len hl
  have h2 := ha.le
  unfold spec_clIs.f isClo
  exact Ev.bind (clMarks_ev a.length (by omega) l (maxLen_val (by omega)) (fun x hx => asc_mem hl hx)) (clIs_l0 a ha _ mk_len l hl l.length 0 (by omega))

/- spec_paPit -/
theorem valued_arcs {a : List (List Int)} {v : List Int} (h : valuedB a v = true) : Arcs a ∧ valsOk v = true ∧ v.length = a.length := by
  unfold valuedB at h
  rw [Bool.and_eq_true, Bool.and_eq_true, decide_eq_true_eq, arcsOk_iff] at h
  exact ⟨h.1, h.2.1, by omega⟩
theorem paPit_ev (a : List (List Int)) (ha : a.length ≤ maxLen) (hb : ∀ x ∈ a, x.length ≤ maxLen) (v : List Int) (hv : v.length ≤ maxLen) (p : List Int) (hp : p.length ≤ maxLen) : Ev (fun k => spec_paPit.f k a v p) (valuedB a v && (asc p a.length && isClo a p)) := by
  have ha' := maxLen_le ha
  unfold spec_paPit.f
  refine Ev.bind (paGood_ev a ha hb v hv) (ev_ite (fun h => ?_) (fun h => ?_))
  · rw [h, Bool.true_and, w64 (x := (a.length : Int) - 1) (by omega) (by omega)]
    refine Ev.bind (l1Rising_ev p hp _) (ev_ite (fun h1 => ?_) (fun h1 => ?_))
    · rw [h1, Bool.true_and]; exact ev_id (clIs_ev a (valued_arcs h).1 p h1)
    · rw [Bool.not_eq_true] at h1; rw [h1, Bool.false_and]; exact ev_some rfl
  · rw [Bool.not_eq_true] at h; rw [h, Bool.false_and]; exact ev_some rfl

/- spec_vaSum -/
theorem vaSum_l0 (v l : List Int) (hv : valsOk v = true) (hl : ∀ x ∈ l, 0 ≤ x ∧ x < v.length) (hlen : l.length ≤ 120) : ∀ (d i : Nat), i + d = l.length → Ev (fun k => spec_vaSum.l0 k v (foldR (sumAt v l) 0 i 0) l (l.length : Int) (i : Int)) (valSum v l) := by
  have hl' : ∀ j, j < l.length → 0 ≤ l.getD j 0 ∧ l.getD j 0 < v.length := fun j hj => hl _ (getD_mem hj)
  rw [valsOk_iff] at hv
  intro d
  induction d with
  | zero =>
    intro i hi
    obtain rfl : i = l.length := by omega
    exact Ev.step (fun k => spec_vaSum.l0.eq_2 v _ l l.length l.length k) (ev_neg (by omega) (ev_some rfl))
  | succ d ih =>
    intro i hi
    refine Ev.step (fun k => spec_vaSum.l0.eq_2 v _ l l.length i k) ?_
    have h1 := hl' i (by omega)
    have h2 := valSum_bound hv.2.2 hl' i (by omega)
    have h3 := hv.2.2 (l.getD i 0).toNat (by omega)
    rw [w_succ (n := l.length) (by omega) (by omega), rd_nat]
    refine ev_pos (by omega) (ev_pos (by omega) (ev_pos (by omega) (ev_pos (by omega) (ev_pos (by omega) ?_))))
    have e : wrap64 (foldR (sumAt v l) 0 i 0 + rd v (l.getD i 0)) = foldR (sumAt v l) 0 (i + 1) 0 := by
      rw [foldR_last (Nat.zero_le _)]
      unfold rd sumAt
      unfold sumAt at h2
      rw [w64 (by omega) (by omega)]
    rw [e]
    exact ih (i + 1) (by omega)
theorem vaSum_ev (v l : List Int) (hv : valsOk v = true) (hl : ∀ x ∈ l, 0 ≤ x ∧ x < v.length) (hlen : l.length ≤ 120) : Ev (fun k => spec_vaSum.f k v l) (valSum v l) := by
  unfold spec_vaSum.f
  have := vaSum_l0 v l hv hl hlen l.length 0 (by omega)
  rwa [foldR_end (Nat.le_refl _)] at this
theorem valSum_snoc (v l : List Int) (x : Int) : valSum v (l ++ [x]) = valSum v l + v.getD x.toNat 0 := by
  unfold valSum
  rw [List.length_append, show l.length + [x].length = l.length + 1 from rfl, foldR_last (Nat.zero_le _)]
  rw [foldR_congr (g := sumAt v l) (fun t j _ hj => by unfold sumAt; rw [List.getD_eq_getElem?_getD (l := l ++ [x]), List.getElem?_append_left hj, ← List.getD_eq_getElem?_getD])]
  unfold sumAt
  rw [List.getD_eq_getElem?_getD (l := l ++ [x]), List.getElem?_append_right (Nat.le_refl _), Nat.sub_self]
  rfl

/- spec_vaOre -/
def oreAt (v : List Int) (o : List Int) (j : Nat) : List Int := if v.getD j 0 > 0 then o ++ [(j : Int)] else o
def oreL (v : List Int) : List Int := foldR (oreAt v) 0 v.length []
theorem oreL_len (v : List Int) (m : Nat) : (foldR (oreAt v) 0 m []).length ≤ m := by
  induction m with
  | zero => rw [foldR_end (Nat.le_refl _)]; exact Nat.le_refl _
  | succ m ih =>
    rw [foldR_last (Nat.zero_le _)]
    unfold oreAt at *
    split
    · rw [List.length_append]; simp; exact ih
    · omega
theorem vaOre_l0 (v : List Int) (hv : v.length ≤ 1048576) : ∀ (d i : Nat), i + d = v.length → Ev (fun k => spec_vaOre.l0 k (foldR (oreAt v) 0 i []) v (v.length : Int) (i : Int)) (oreL v) := by
  intro d
  induction d with
  | zero =>
    intro i hi
    obtain rfl : i = v.length := by omega
    exact Ev.step (fun k => spec_vaOre.l0.eq_2 _ v v.length v.length k) (ev_neg (by omega) (ev_some rfl))
  | succ d ih =>
    intro i hi
    have ih := ih (i + 1) (by omega)
    rw [foldR_last (Nat.zero_le _)] at ih
    have hlen := oreL_len v i
    refine Ev.step (fun k => spec_vaOre.l0.eq_2 _ v v.length i k) ?_
    rw [w_succ (n := v.length) (by omega) (by omega), rd_nat]
    refine ev_pos (by omega) (ev_pos (by omega) (ev_pos (by omega) (ev_ite (fun h => ?_) (fun h => ?_))))
    · rw [show oreAt v (foldR (oreAt v) 0 i []) i = foldR (oreAt v) 0 i [] ++ [(i : Int)] from if_pos h] at ih
      exact ev_pos (by omega) ih
    · rw [show oreAt v (foldR (oreAt v) 0 i []) i = foldR (oreAt v) 0 i [] from if_neg h] at ih
      exact ih
theorem vaOre_ev (v : List Int) (hv : v.length ≤ 1048576) : Ev (fun k => spec_vaOre.f k v) (oreL v) := by
  unfold spec_vaOre.f
  have := vaOre_l0 v hv v.length 0 (by omega)
  rwa [foldR_end (Nat.le_refl _)] at this

/- hand.FnExactCutOfPit -/
theorem ore_mem (v : List Int) (m : Nat) (x : Int) (hx : x ∈ foldR (oreAt v) 0 m []) : 0 ≤ x ∧ x < m := by
  induction m with
  | zero => rw [foldR_end (Nat.le_refl _)] at hx; simp at hx
  | succ m ih =>
    rw [foldR_last (Nat.zero_le _)] at hx
    unfold oreAt at hx ih
    split at hx
    · rw [List.mem_append, List.mem_singleton] at hx
      rcases hx with hx | hx
      · have := ih hx; omega
      · omega
    · have := ih hx; omega
theorem ore_sum (v : List Int) (m : Nat) : valSum v (foldR (oreAt v) 0 m []) = foldR (posAt v) 0 m 0 := by
  induction m with
  | zero => rw [foldR_end (Nat.le_refl _), foldR_end (Nat.le_refl _)]; rfl
  | succ m ih =>
    rw [foldR_last (Nat.zero_le _), foldR_last (Nat.zero_le _), ← ih]
    unfold oreAt posAt
    split
    · rw [valSum_snoc, toNat_nat]; omega
    · omega
theorem sCut_ev (a : List (List Int)) (ha : a.length ≤ maxLen) (hb : ∀ x ∈ a, x.length ≤ maxLen) (v : List Int) (hv : v.length ≤ maxLen) (p : List Int) (hp : p.length ≤ maxLen) : Ev (fun k => spec_CutOfPit.f k a v p) (cutP a v p) := by
  unfold spec_CutOfPit.f cutP
  refine Ev.bind (paPit_ev a ha hb v hv p hp) (ev_ite (fun h => ?_) (fun h => ?_))
  · rw [if_pos h]
    rw [Bool.and_eq_true, Bool.and_eq_true] at h
    obtain ⟨hA, hV, hN⟩ := valued_arcs h.1
    have hV' := valsOk_iff.1 hV
    have hO := oreL_len v v.length
    have hP := asc_len h.2.1
    refine Ev.bind (vaOre_ev v (by omega)) (Ev.bind (vaSum_ev v (oreL v) hV (fun x hx => ore_mem v v.length x hx) (by unfold oreL; omega)) (Ev.bind (vaSum_ev v p hV (fun x hx => by have := asc_mem h.2.1 hx; omega) (by omega)) (ev_some ?_)))
    have e1 : valSum v (oreL v) = posSum v := ore_sum v v.length
    have h1 := posAt_bd hV v.length (Nat.le_refl _)
    have h2 := valSum_bound hV'.2.2 (fun j hj => by have := asc_at h.2.1 hj; omega) p.length (Nat.le_refl _)
    rw [e1]
    unfold posSum valSum
    rw [w64 (by omega) (by omega)]
  · rw [if_neg h]; exact ev_some rfl
theorem both (a : List (List Int)) (v p : List Int) (ha : a.length ≤ 1048576) (hb : ∀ x ∈ a, x.length ≤ 1048576) (hv : v.length ≤ 1048576) (hp : p.length ≤ 1048576) : ∃ r : Int × Bool, Ev (fun k => spec_CutOfPit.f k a v p) r ∧ cutP a v p = r :=
  ⟨_, sCut_ev a (maxLen_val (by omega)) (fun x hx => maxLen_val (by have := hb x hx; omega)) v (maxLen_val (by omega)) p (maxLen_val (by omega)), rfl⟩

set_option maxHeartbeats 4000000 in
set_option maxRecDepth 100000 in
theorem walk (a0 : List (List Int)) (a1 : List Int) (a2 : List Int) (Aa0 : Option Addr) (ca0 : Nat) (Aa1 : Option Addr) (ca1 : Nat) (Aa2 : Option Addr) (ca2 : Nat) (w : World) (hra0 : Kd.C kSS w Aa0 a0.length a0) (hca0 : a0.length ≤ ca0) (hra1 : Kd.C (Kd.int .i64) w Aa1 a1.length a1) (hca1 : a1.length ≤ ca1) (hra2 : Kd.C (Kd.int .i64) w Aa2 a2.length a2) (hca2 : a2.length ≤ ca2) (r : Int) (hsz : ∀ (A : Option Addr) (c : Nat) (w : World), Kd.C kSS w A a0.length a0 → a0.length ≤ c → Calls Try.prog 15 #[.slice A a0.length c, .int .i64 1048576] w fun e w' => e = .returned (.int .i64 r) ∧ Below w.heap.size w w') (hlt : ¬ r < 0) (g0 : Int) (g1 : Bool) (hla0 : a0.length ≤ 1048576) (hba0 : ∀ x ∈ a0, x.length ≤ 1048576) (hla1 : a1.length ≤ 1048576) (hla2 : a2.length ≤ 1048576)   (hs : ∃ k, spec_CutOfPit.f k a0 a1 a2 = some (g0, g1)) (hi : cutP a0 a1 a2 = (g0, g1)) :
    Calls Try.prog 12 #[.slice Aa0 a0.length ca0, .slice Aa1 a1.length ca1, .slice Aa2 a2.length ca2] w fun e w' => e = .returned (.bool true) ∧ Below w.heap.size w w' := by
  obtain ⟨ks, hs⟩ := hs
  have Hs := Aside0.mk hs
  have Hi := Aside0.mk hi
  have HRa0 := Aside0.mk hra0
  have HCa0 := Aside0.mk hca0
  have HLa0 := Aside0.mk hla0
  have HBa0 := Aside0.mk hba0
  have HRa1 := Aside0.mk hra1
  have HCa1 := Aside0.mk hca1
  have HLa1 := Aside0.mk hla1
  have xa1 : decide (1048576 < (a1.length : Int)) = false := decide_eq_false (by omega)
  have ya1 : decide (1048576 < a1.length) = false := decide_eq_false (by omega)
  have HRa2 := Aside0.mk hra2
  have HCa2 := Aside0.mk hca2
  have HLa2 := Aside0.mk hla2
  have xa2 : decide (1048576 < (a2.length : Int)) = false := decide_eq_false (by omega)
  have ya2 : decide (1048576 < a2.length) = false := decide_eq_false (by omega)
  have HSZ := Aside0.mk hsz
  have d1 : decide (r < 0) = false := decide_eq_false hlt
  clear hs hi hra0 hca0 hla0 hba0 hra1 hca1 hla1 hra2 hca2 hla2 hsz hlt
  go_enter Try.func12, Try.ntmps12
  go_wp2_with fail
  refine (HSZ.out Aa0 ca0 w HRa0.out HCa0.out).mono ?_
  rintro e w1 ⟨rfl, hb⟩
  have B1 := Aside0.mk hb
  have z1 := hb.size
  clear hb
  go_wp2_with fail
  refine (toIntSS_calls a0 HLa0.out HBa0.out Aa0 ca0 w1 (Kd.C_below HRa0.out B1.out) HCa0.out).mono ?_
  rintro e w2 ⟨v, rfl, ho, hb⟩
  have B2 := Aside0.mk (below_step B1.out hb)
  have z2 := hb.size
  obtain ⟨At0_2, ct0_2, rfl⟩ := Kd.S_slice ho
  have Ft0_2 := Aside0.mk (ivS (w := w) ho (by omega))
  clear ho
  clear hb
  go_wp2_with fail
  refine (toIntS_calls a1 (by have := HLa1.out; omega) Aa1 ca1 w2 (Kd.C_below HRa1.out B2.out) HCa1.out).mono ?_
  rintro e w3 ⟨v, rfl, ho, hb⟩
  have B3 := Aside0.mk (below_step B2.out hb)
  have z3 := hb.size
  obtain ⟨At1_3, ct1_3, rfl⟩ := Kd.R_slice ho
  have Ft1_3 := Aside0.mk (ivR (w := w) ho (by omega))
  clear ho
  have Ft0_3 := Aside0.mk (Kd.S_below Ft0_2.out hb)
  clear Ft0_2
  clear hb
  go_wp2_with fail
  refine (toIntS_calls a2 (by have := HLa2.out; omega) Aa2 ca2 w3 (Kd.C_below HRa2.out B3.out) HCa2.out).mono ?_
  rintro e w4 ⟨v, rfl, ho, hb⟩
  have B4 := Aside0.mk (below_step B3.out hb)
  have z4 := hb.size
  obtain ⟨At2_4, ct2_4, rfl⟩ := Kd.R_slice ho
  have Ft2_4 := Aside0.mk (ivR (w := w) ho (by omega))
  clear ho
  have Ft0_4 := Aside0.mk (Kd.S_below Ft0_3.out hb)
  clear Ft0_3
  have Ft1_4 := Aside0.mk (Kd.R_below Ft1_3.out hb)
  clear Ft1_3
  clear hb
  go_wp2_with fail
  refine (spec_CutOfPit.calls ks At0_2 ct0_2 a0 At1_3 ct1_3 a1 At2_4 ct2_4 a2 g0 g1 w4 (readsS Ft0_4.out).2.2 (readsS Ft0_4.out).2.1 (readsR Ft1_4.out).2.2 (readsR Ft1_4.out).2.1 (readsR Ft2_4.out).2.2 (readsR Ft2_4.out).2.1 Hs.out).mono ?_
  rintro e w5 ⟨rfl, hb⟩
  have B5 := Aside0.mk (below_step B4.out hb)
  have z5 := hb.size
  have Ft0_5 := Aside0.mk (Kd.S_below Ft0_4.out hb)
  clear Ft0_4
  have Ft1_5 := Aside0.mk (Kd.R_below Ft1_4.out hb)
  clear Ft1_4
  have Ft2_5 := Aside0.mk (Kd.R_below Ft2_4.out hb)
  clear Ft2_4
  clear hb
  go_wp2_with fail
  refine (toIntSS_calls a0 HLa0.out HBa0.out Aa0 ca0 w5 (Kd.C_below HRa0.out B5.out) HCa0.out).mono ?_
  rintro e w6 ⟨v, rfl, ho, hb⟩
  have B6 := Aside0.mk (below_step B5.out hb)
  have z6 := hb.size
  obtain ⟨Ax0_6, cx0_6, rfl⟩ := Kd.S_slice ho
  have Fx0_6 := Aside0.mk (ivS (w := w) ho (by omega))
  clear ho
  clear hb
  go_wp2_with fail
  refine (toIntS_calls a1 (by have := HLa1.out; omega) Aa1 ca1 w6 (Kd.C_below HRa1.out B6.out) HCa1.out).mono ?_
  rintro e w7 ⟨v, rfl, ho, hb⟩
  have B7 := Aside0.mk (below_step B6.out hb)
  have z7 := hb.size
  obtain ⟨Ax1_7, cx1_7, rfl⟩ := Kd.R_slice ho
  have Fx1_7 := Aside0.mk (ivR (w := w) ho (by omega))
  clear ho
  have Fx0_7 := Aside0.mk (Kd.S_below Fx0_6.out hb)
  clear Fx0_6
  clear hb
  go_wp2_with fail
  refine (toIntS_calls a2 (by have := HLa2.out; omega) Aa2 ca2 w7 (Kd.C_below HRa2.out B7.out) HCa2.out).mono ?_
  rintro e w8 ⟨v, rfl, ho, hb⟩
  have B8 := Aside0.mk (below_step B7.out hb)
  have z8 := hb.size
  obtain ⟨Ax2_8, cx2_8, rfl⟩ := Kd.R_slice ho
  have Fx2_8 := Aside0.mk (ivR (w := w) ho (by omega))
  clear ho
  have Fx0_8 := Aside0.mk (Kd.S_below Fx0_7.out hb)
  clear Fx0_7
  have Fx1_8 := Aside0.mk (Kd.R_below Fx1_7.out hb)
  clear Fx1_7
  clear hb
  go_wp2_with fail
  refine (OwnCutOfPit.own_impl Ax0_6 cx0_6 a0 Ax1_7 cx1_7 a1 Ax2_8 cx2_8 a2 g0 g1 w8 (readsS Fx0_8.out).2.2 (readsS Fx0_8.out).2.1 (readsR Fx1_8.out).2.2 (readsR Fx1_8.out).2.1 (readsR Fx2_8.out).2.2 (readsR Fx2_8.out).2.1 HLa0.out HBa0.out HLa1.out HLa2.out Hi.out).mono ?_
  rintro e w9 ⟨rfl, hb⟩
  have B9 := Aside0.mk (below_step B8.out hb)
  have z9 := hb.size
  have Fx0_9 := Aside0.mk (Kd.S_below Fx0_8.out hb)
  clear Fx0_8
  have Fx1_9 := Aside0.mk (Kd.R_below Fx1_8.out hb)
  clear Fx1_8
  have Fx2_9 := Aside0.mk (Kd.R_below Fx2_8.out hb)
  clear Fx2_8
  clear hb
  go_wp2_with fail
  refine (toIntSS_calls a0 HLa0.out HBa0.out Aa0 ca0 w9 (Kd.C_below HRa0.out B9.out) HCa0.out).mono ?_
  rintro e w10 ⟨v, rfl, ho, hb⟩
  have B10 := Aside0.mk (below_step B9.out hb)
  have z10 := hb.size
  obtain ⟨Au_10, cu_10, rfl⟩ := Kd.S_slice ho
  have Fu_10 := Aside0.mk (ivS (w := w) ho (by omega))
  clear ho
  have Fx0_10 := Aside0.mk (Kd.S_below Fx0_9.out hb)
  clear Fx0_9
  have Fx1_10 := Aside0.mk (Kd.R_below Fx1_9.out hb)
  clear Fx1_9
  have Fx2_10 := Aside0.mk (Kd.R_below Fx2_9.out hb)
  clear Fx2_9
  clear hb
  go_wp2_with fail
  refine (eqIntSS_calls a0 (maxLen_val (by have := HLa0.out; omega)) (fun x hx => maxLen_val (by have := HBa0.out x hx; omega)) Ax0_6 Au_10 cx0_6 cu_10 w10 (readsS Fx0_10.out).2.2 (readsS Fx0_10.out).2.1 (readsS Fu_10.out).2.2 (readsS Fu_10.out).2.1).mono ?_
  rintro e w11 ⟨rfl, hb⟩
  have B11 := Aside0.mk (below_step B10.out hb)
  have z11 := hb.size
  have Fx0_11 := Aside0.mk (Kd.S_below Fx0_10.out hb)
  clear Fx0_10
  have Fx1_11 := Aside0.mk (Kd.R_below Fx1_10.out hb)
  clear Fx1_10
  have Fx2_11 := Aside0.mk (Kd.R_below Fx2_10.out hb)
  clear Fx2_10
  have Fu_11 := Aside0.mk (Kd.S_below Fu_10.out hb)
  clear Fu_10
  clear hb
  go_wp2_with fail
  refine (toIntS_calls a1 (by have := HLa1.out; omega) Aa1 ca1 w11 (Kd.C_below HRa1.out B11.out) HCa1.out).mono ?_
  rintro e w12 ⟨v, rfl, ho, hb⟩
  have B12 := Aside0.mk (below_step B11.out hb)
  have z12 := hb.size
  obtain ⟨Au_12, cu_12, rfl⟩ := Kd.R_slice ho
  have Fu_12 := Aside0.mk (ivR (w := w) ho (by omega))
  clear ho
  have Fx0_12 := Aside0.mk (Kd.S_below Fx0_11.out hb)
  clear Fx0_11
  have Fx1_12 := Aside0.mk (Kd.R_below Fx1_11.out hb)
  clear Fx1_11
  have Fx2_12 := Aside0.mk (Kd.R_below Fx2_11.out hb)
  clear Fx2_11
  clear hb
  go_wp2_with fail
  refine (eqIntS_calls a1 (maxLen_val (by have := HLa1.out; omega)) Ax1_7 Au_12 cx1_7 cu_12 w12 (readsR Fx1_12.out).2.2 (readsR Fx1_12.out).2.1 (readsR Fu_12.out).2.2 (readsR Fu_12.out).2.1).mono ?_
  rintro e w13 ⟨rfl, hb⟩
  have B13 := Aside0.mk (below_step B12.out hb)
  have z13 := hb.size
  have Fx0_13 := Aside0.mk (Kd.S_below Fx0_12.out hb)
  clear Fx0_12
  have Fx1_13 := Aside0.mk (Kd.R_below Fx1_12.out hb)
  clear Fx1_12
  have Fx2_13 := Aside0.mk (Kd.R_below Fx2_12.out hb)
  clear Fx2_12
  have Fu_13 := Aside0.mk (Kd.R_below Fu_12.out hb)
  clear Fu_12
  clear hb
  go_wp2_with fail
  refine (toIntS_calls a2 (by have := HLa2.out; omega) Aa2 ca2 w13 (Kd.C_below HRa2.out B13.out) HCa2.out).mono ?_
  rintro e w14 ⟨v, rfl, ho, hb⟩
  have B14 := Aside0.mk (below_step B13.out hb)
  have z14 := hb.size
  obtain ⟨Au_14, cu_14, rfl⟩ := Kd.R_slice ho
  have Fu_14 := Aside0.mk (ivR (w := w) ho (by omega))
  clear ho
  have Fx0_14 := Aside0.mk (Kd.S_below Fx0_13.out hb)
  clear Fx0_13
  have Fx1_14 := Aside0.mk (Kd.R_below Fx1_13.out hb)
  clear Fx1_13
  have Fx2_14 := Aside0.mk (Kd.R_below Fx2_13.out hb)
  clear Fx2_13
  clear hb
  go_wp2_with fail
  refine (eqIntS_calls a2 (maxLen_val (by have := HLa2.out; omega)) Ax2_8 Au_14 cx2_8 cu_14 w14 (readsR Fx2_14.out).2.2 (readsR Fx2_14.out).2.1 (readsR Fu_14.out).2.2 (readsR Fu_14.out).2.1).mono ?_
  rintro e w15 ⟨rfl, hb⟩
  have B15 := Aside0.mk (below_step B14.out hb)
  have z15 := hb.size
  have Fx0_15 := Aside0.mk (Kd.S_below Fx0_14.out hb)
  clear Fx0_14
  have Fx1_15 := Aside0.mk (Kd.R_below Fx1_14.out hb)
  clear Fx1_14
  have Fx2_15 := Aside0.mk (Kd.R_below Fx2_14.out hb)
  clear Fx2_14
  have Fu_15 := Aside0.mk (Kd.R_below Fu_14.out hb)
  clear Fu_14
  clear hb
  go_wp2_with fail
  go_ret
  exact ⟨rfl, B15.out⟩
set_option maxRecDepth 100000 in
theorem walk_len0 (a0 : List (List Int)) (a1 : List Int) (a2 : List Int) (Aa0 : Option Addr) (ca0 : Nat) (Aa1 : Option Addr) (ca1 : Nat) (Aa2 : Option Addr) (ca2 : Nat) (w : World) (hra0 : Kd.C kSS w Aa0 a0.length a0) (hca0 : a0.length ≤ ca0) (hra1 : Kd.C (Kd.int .i64) w Aa1 a1.length a1) (hca1 : a1.length ≤ ca1) (hra2 : Kd.C (Kd.int .i64) w Aa2 a2.length a2) (hca2 : a2.length ≤ ca2)  (h : ¬ a1.length ≤ 1048576) : Calls Try.prog 12 #[.slice Aa0 a0.length ca0, .slice Aa1 a1.length ca1, .slice Aa2 a2.length ca2] w fun e w' => e = .returned (.bool true) ∧ Below w.heap.size w w' := by
  have xx : decide (1048576 < (a1.length : Int)) = true := decide_eq_true (by omega)
  have yy : decide (1048576 < a1.length) = true := decide_eq_true (by omega)
  clear h  hra0 hca0 hra1 hca1 hra2 hca2
  go_enter Try.func12, Try.ntmps12
  go_wp2
  go_ret
  exact ⟨rfl, Below.refl _ _⟩
set_option maxRecDepth 100000 in
theorem walk_len1 (a0 : List (List Int)) (a1 : List Int) (a2 : List Int) (Aa0 : Option Addr) (ca0 : Nat) (Aa1 : Option Addr) (ca1 : Nat) (Aa2 : Option Addr) (ca2 : Nat) (w : World) (hra0 : Kd.C kSS w Aa0 a0.length a0) (hca0 : a0.length ≤ ca0) (hra1 : Kd.C (Kd.int .i64) w Aa1 a1.length a1) (hca1 : a1.length ≤ ca1) (hra2 : Kd.C (Kd.int .i64) w Aa2 a2.length a2) (hca2 : a2.length ≤ ca2) (h0 : a1.length ≤ 1048576) (h : ¬ a2.length ≤ 1048576) : Calls Try.prog 12 #[.slice Aa0 a0.length ca0, .slice Aa1 a1.length ca1, .slice Aa2 a2.length ca2] w fun e w' => e = .returned (.bool true) ∧ Below w.heap.size w w' := by
  have x0 : decide (1048576 < (a1.length : Int)) = false := decide_eq_false (by omega)
  have y0 : decide (1048576 < a1.length) = false := decide_eq_false (by omega)
  have xx : decide (1048576 < (a2.length : Int)) = true := decide_eq_true (by omega)
  have yy : decide (1048576 < a2.length) = true := decide_eq_true (by omega)
  clear h h0 hra0 hca0 hra1 hca1 hra2 hca2
  go_enter Try.func12, Try.ntmps12
  go_wp2
  go_ret
  exact ⟨rfl, Below.refl _ _⟩
set_option maxRecDepth 100000 in
theorem walk_neg (a0 : List (List Int)) (a1 : List Int) (a2 : List Int) (Aa0 : Option Addr) (ca0 : Nat) (Aa1 : Option Addr) (ca1 : Nat) (Aa2 : Option Addr) (ca2 : Nat) (w : World) (hra0 : Kd.C kSS w Aa0 a0.length a0) (hca0 : a0.length ≤ ca0) (hra1 : Kd.C (Kd.int .i64) w Aa1 a1.length a1) (hca1 : a1.length ≤ ca1) (hra2 : Kd.C (Kd.int .i64) w Aa2 a2.length a2) (hca2 : a2.length ≤ ca2) (h0 : a1.length ≤ 1048576) (h1 : a2.length ≤ 1048576) (r : Int) (hsz : ∀ (A : Option Addr) (c : Nat) (w : World), Kd.C kSS w A a0.length a0 → a0.length ≤ c → Calls Try.prog 15 #[.slice A a0.length c, .int .i64 1048576] w fun e w' => e = .returned (.int .i64 r) ∧ Below w.heap.size w w') (hlt : r < 0) : Calls Try.prog 12 #[.slice Aa0 a0.length ca0, .slice Aa1 a1.length ca1, .slice Aa2 a2.length ca2] w fun e w' => e = .returned (.bool true) ∧ Below w.heap.size w w' := by
  have x0 : decide (1048576 < (a1.length : Int)) = false := decide_eq_false (by omega)
  have y0 : decide (1048576 < a1.length) = false := decide_eq_false (by omega)
  have x1 : decide (1048576 < (a2.length : Int)) = false := decide_eq_false (by omega)
  have y1 : decide (1048576 < a2.length) = false := decide_eq_false (by omega)
  have HSZ := Aside0.mk hsz
  have HR := Aside0.mk hra0
  have HC := Aside0.mk hca0
  have d1 : decide (r < 0) = true := decide_eq_true hlt
  clear hsz hlt h0 h1 hra0 hca0 hra1 hca1 hra2 hca2
  go_enter Try.func12, Try.ntmps12
  go_wp2_with fail
  refine (HSZ.out Aa0 ca0 w HR.out HC.out).mono ?_
  rintro e w1 ⟨rfl, hb⟩
  have B1 := Aside0.mk hb
  clear hb
  go_wp2_with fail
  go_ret
  exact ⟨rfl, B1.out⟩
theorem law (a0 : List (List Int)) (a1 : List Int) (a2 : List Int) (ha0 : a0.length ≤ maxLen) (ga0 : ∀ x ∈ a0, x.length ≤ maxLen ∧ ∀ y0 ∈ x, (Lit.int .i64 y0).wf = true) (ha1 : a1.length ≤ maxLen) (sa1 : a1.length * 8 ≤ 140737488351232) (ga1 : ∀ x ∈ a1, (Lit.int .i64 x).wf = true) (ha2 : a2.length ≤ maxLen) (sa2 : a2.length * 8 ≤ 140737488351232) (ga2 : ∀ x ∈ a2, (Lit.int .i64 x).wf = true) (Aa0 : Option Addr) (ca0 : Nat) (Aa1 : Option Addr) (ca1 : Nat) (Aa2 : Option Addr) (ca2 : Nat) (w : World) (hra0 : Kd.C kSS w Aa0 a0.length a0) (hca0 : a0.length ≤ ca0) (hra1 : Kd.C (Kd.int .i64) w Aa1 a1.length a1) (hca1 : a1.length ≤ ca1) (hra2 : Kd.C (Kd.int .i64) w Aa2 a2.length a2) (hca2 : a2.length ≤ ca2) : Calls Try.prog 12 #[.slice Aa0 a0.length ca0, .slice Aa1 a1.length ca1, .slice Aa2 a2.length ca2] w fun e w' => e = .returned (.bool true) ∧ Below w.heap.size w w' := by
  by_cases q0 : a1.length ≤ 1048576
  rotate_left
  · exact walk_len0 a0 a1 a2 Aa0 ca0 Aa1 ca1 Aa2 ca2 w hra0 hca0 hra1 hca1 hra2 hca2  q0
  by_cases q1 : a2.length ≤ 1048576
  rotate_left
  · exact walk_len1 a0 a1 a2 Aa0 ca0 Aa1 ca1 Aa2 ca2 w hra0 hca0 hra1 hca1 hra2 hca2 q0 q1
  obtain ⟨r, hz, hsz⟩ := szIntSS_calls a0 ha0 (fun x hx => (ga0 x hx).1)
  by_cases hlt : r < 0
  · exact walk_neg a0 a1 a2 Aa0 ca0 Aa1 ca1 Aa2 ca2 w hra0 hca0 hra1 hca1 hra2 hca2 q0 q1 r hsz hlt
  obtain ⟨l1, l2⟩ := hz (by omega)
  obtain ⟨⟨g0, g1⟩, hs, hi⟩ := both a0 a1 a2 l1 l2 q0 q1
  exact walk a0 a1 a2 Aa0 ca0 Aa1 ca1 Aa2 ca2 w hra0 hca0 hra1 hca1 hra2 hca2 r hsz hlt g0 g1 l1 l2 q0 q1  hs.rounds hi
end Go.Proofs.Ytdjahpigkbgobaa.WalkFnExactCutOfPit
