/- The contracts of impl.TurnTemplate and spec.TurnTemplate, by hand: the turned offsets, rising. -/
import Derived.Test.YtpndghkfbojokaaSortG
import Derived.Test.YtpndghkfbojokaaOpen
import Derived.Test.YtpndghkfbojokaaWTab
import Derived.Test.YtpndghkfbojokaaWKept
import Derived.Test.YtpndghkfbojokaaMFnTemplatesx3
import Derived.Test.YtpndghkfbojokaaMFnTemplatesx2
import Derived.Test.YtpndghkfbojokaaMFnTemplatesx1
namespace Go.Proofs.Ytpndghkfbojokaa.OwnTurnSort
open Go.RowKit Go.Proofs.Ytpndghkfbojokaa.PFnTemplates Go.Proofs.YtpndghkfbojokaaW.PrintWords Go.Proofs.YtpndghkfbojokaaW.PrintLast Go.Proofs.YtpndghkfbojokaaW.PrintMore Go.Proofs.Ytpndghkfbojokaa.B Go.Proofs.Ytpndghkfbojokaa.SortG
set_option linter.unusedVariables false
set_option linter.unusedSimpArgs false
def befO (a b : S86) : Bool := if a.f2 = b.f2 then (if a.f1 = b.f1 then decide (a.f0 < b.f0) else decide (a.f1 < b.f1)) else decide (a.f2 < b.f2)
def okO (o : S86) : Bool := decide (-2 ≤ o.f0 ∧ o.f0 ≤ 2 ∧ -2 ≤ o.f1 ∧ o.f1 ≤ 2 ∧ 1 ≤ o.f2 ∧ o.f2 ≤ 2)
def offAt (l : List S86) (j : Nat) : Bool := okO (l.getD j z86) && (decide (j = 0) || befO (l.getD (j - 1) z86) (l.getD j z86))
def tmplOk (l : List S86) : Bool := decide (1 ≤ l.length ∧ l.length ≤ 12) && allR (offAt l) 0 l.length
theorem rdO (l : List S86) (i : Nat) : rd_T86 l (i : Int) = l.getD i z86 := by unfold rd_T86; rw [toNat_nat]

theorem l1In_eq (a b c : Int) : spec_l1In.f a b c = some (decide (b ≤ a ∧ a ≤ c)) := by
  unfold spec_l1In.f
  by_cases h : a ≥ b
  · rw [if_pos h]; simp [show b ≤ a from h]
  · rw [if_neg h]; simp [show ¬ b ≤ a from h]

theorem slBefore_eq (a b : S86) : spec_slBefore.f a.f0 a.f1 a.f2 b.f0 b.f1 b.f2 = some (befO a b) := by
  unfold spec_slBefore.f befO
  split <;> (try split) <;> rfl
theorem slTemplate_l0 (l : List S86) (hl : l.length ≤ maxLen) : ∀ (d i : Nat), i + d = l.length →
    Ev (fun k => spec_slTemplate.l0 k l l (l.length : Int) (i : Int)) (decide (1 ≤ l.length ∧ l.length ≤ 12) && allR (offAt l) i l.length) := by
  have hl := maxLen_le hl
  intro d
  induction d with
  | zero =>
    intro i hi
    refine Ev.step (fun k => spec_slTemplate.l0.eq_2 l l l.length i k) (ev_neg (by omega) (ev_bindc (l1In_eq _ _ _) (ev_some ?_)))
    rw [allR_end (by omega), Bool.and_true, decide_eq_decide]; omega
  | succ d ih =>
    intro i hi
    refine Ev.step (fun k => spec_slTemplate.l0.eq_2 l l l.length i k) ?_
    have ih := ih (i + 1) (by omega)
    rw [allR_step (by omega), w_succ (n := l.length) (by omega) (by omega), rdO]
    have no : offAt l i = false → false = (decide (1 ≤ l.length ∧ l.length ≤ 12) && (offAt l i && allR (offAt l) (i + 1) l.length)) := by
      intro h; rw [h, Bool.false_and, Bool.and_false]
    have yes : offAt l i = true → Ev (fun k => spec_slTemplate.l0 k l l (l.length : Int) ((i + 1 : Nat) : Int)) (decide (1 ≤ l.length ∧ l.length ≤ 12) && (offAt l i && allR (offAt l) (i + 1) l.length)) := by
      intro h; rw [h, Bool.true_and]; exact ih
    have bad : okO (l.getD i z86) = false → offAt l i = false := by intro h; unfold offAt; rw [h, Bool.false_and]
    refine ev_pos (by omega) (ev_pos (by omega) (ev_pos (by omega) (ev_bindc (l1In_eq _ _ _) ?_)))
    refine ev_ite (fun h => ?_) (fun h => ev_some (no (bad (by unfold okO; simp only [decide_eq_true_eq] at h; simp only [decide_eq_false_iff_not]; omega))))
    refine ev_bindc (l1In_eq _ _ _) (ev_ite (fun h1 => ?_) (fun h1 => ev_some (no (bad (by unfold okO; simp only [decide_eq_true_eq] at h1; simp only [decide_eq_false_iff_not]; omega)))))
    refine ev_bindc (l1In_eq _ _ _) (ev_ite (fun h2 => ?_) (fun h2 => ev_some (no (bad (by unfold okO; simp only [decide_eq_true_eq] at h2; simp only [decide_eq_false_iff_not]; omega)))))
    simp only [decide_eq_true_eq] at h h1 h2
    have hok : okO (l.getD i z86) = true := decide_eq_true (by omega)
    refine ev_ite (fun h0 => ?_) (fun h0 => yes (by unfold offAt; rw [hok, decide_eq_true (show i = 0 by omega)]; rfl))
    rw [w64 (x := (i : Int) - 1) (by omega) (by omega), show (i : Int) - 1 = ((i - 1 : Nat) : Int) by omega, rdO]
    refine ev_pos (by omega) (ev_pos (by omega) (ev_bindc (slBefore_eq _ _) (ev_ite (fun h3 => yes ?_) (fun h3 => ev_some (no ?_)))))
    · unfold offAt; rw [hok, h3, Bool.or_true]; rfl
    · rw [Bool.not_eq_true] at h3; unfold offAt; rw [h3, decide_eq_false (show ¬ i = 0 by omega)]; simp
theorem slTemplate_ev (l : List S86) (hl : l.length ≤ maxLen) : Ev (fun k => spec_slTemplate.f k l) (tmplOk l) := by
  unfold spec_slTemplate.f tmplOk
  exact slTemplate_l0 l hl l.length 0 (by omega)

def cmpI (a b : Int) : Int := if a < b then -1 else if a > b then 1 else 0
theorem cmpI_eq (a b : Int) : cmp_Compare_int.f a b = some (cmpI a b) := by
  unfold cmp_Compare_int.f cmp_isNaN_int.f cmpI
  simp only [Option.bind_some, bne_self_eq_false]
  rw [if_neg (by simp), if_neg (by simp)]
  split
  · rfl
  · split <;> rfl
theorem cmpOr3 (x y z : Int) : Ev (fun k => cmp_Or_int.f k [x, y, z]) (if x = 0 then (if y = 0 then z else y) else x) := by
  unfold cmp_Or_int.f
  have e3 : (([x, y, z] : List Int).length : Int) = 3 := rfl
  have w1 : wrap64 (0 + 1) = 1 := by unfold wrap64; omega
  have w2 : wrap64 (1 + 1) = 2 := by unfold wrap64; omega
  have w3 : wrap64 (2 + 1) = 3 := by unfold wrap64; omega
  have r0 : rd [x, y, z] 0 = x := rfl
  have r1 : rd [x, y, z] 1 = y := rfl
  have r2 : rd [x, y, z] 2 = z := rfl
  rw [e3]
  refine Ev.step (fun k => cmp_Or_int.l0.eq_2 0 [x, y, z] 3 0 k) ?_
  rw [e3, w1, r0]
  refine ev_pos (by omega) (ev_pos (by omega) (ev_pos (by omega) (ev_ite (fun h => ?_) (fun h => ev_some (by rw [if_neg h])))))
  rw [if_pos h]
  refine Ev.step (fun k => cmp_Or_int.l0.eq_2 0 [x, y, z] 3 1 k) ?_
  rw [e3, w2, r1]
  refine ev_pos (by omega) (ev_pos (by omega) (ev_pos (by omega) (ev_ite (fun h1 => ?_) (fun h1 => ev_some (by rw [if_neg h1])))))
  rw [if_pos h1]
  refine Ev.step (fun k => cmp_Or_int.l0.eq_2 0 [x, y, z] 3 2 k) ?_
  rw [e3, w3, r2]
  refine ev_pos (by omega) (ev_pos (by omega) (ev_pos (by omega) (ev_ite (fun h2 => ?_) (fun h2 => ev_some rfl))))
  rw [h2]
  exact Ev.step (fun k => cmp_Or_int.l0.eq_2 0 [x, y, 0] 3 3 k) (ev_neg (by omega) (ev_some rfl))
def cmpO (a b : S86) : Int := if cmpI a.f2 b.f2 = 0 then (if cmpI a.f1 b.f1 = 0 then cmpI a.f0 b.f0 else cmpI a.f1 b.f1) else cmpI a.f2 b.f2
theorem cmpO_ev (a b : S86) : Ev (fun k => impl_compareOffsets.f k a.f0 a.f1 a.f2 b.f0 b.f1 b.f2) (cmpO a b) := by
  unfold impl_compareOffsets.f cmpO
  exact ev_bindc (cmpI_eq _ _) (ev_bindc (cmpI_eq _ _) (ev_bindc (cmpI_eq _ _) (ev_id (cmpOr3 _ _ _))))
theorem cmpO_neg (a b : S86) : cmpO a b < 0 ↔ befO a b = true := by
  unfold cmpO befO cmpI
  by_cases h2 : a.f2 = b.f2
  · by_cases h1 : a.f1 = b.f1
    · simp only [h2, h1, Int.lt_irrefl, gt_iff_lt, if_false, if_true, decide_eq_true_eq]
      split
      · omega
      · split <;> omega
    · simp only [h2, h1, Int.lt_irrefl, gt_iff_lt, if_false, if_true, decide_eq_true_eq]
      by_cases h : a.f1 < b.f1
      · simp [h]
      · simp [h, show b.f1 < a.f1 by omega]
  · simp only [h2, if_false, decide_eq_true_eq]
    by_cases h : a.f2 < b.f2
    · simp [h]
    · simp [h, show b.f2 < a.f2 by omega]

theorem IsTemplate_l0 (l : List S86) (hl : l.length ≤ maxLen) : ∀ (d i : Nat), i + d = l.length → Ev (fun k => impl_IsTemplate.l0 k l l (l.length : Int) (i : Int)) (allR (offAt l) i l.length) := by
  have hl := maxLen_le hl
  intro d
  induction d with
  | zero =>
    intro i hi
    exact Ev.step (fun k => impl_IsTemplate.l0.eq_2 l l l.length i k) (ev_neg (by omega) (ev_some (allR_end (by omega)).symm))
  | succ d ih =>
    intro i hi
    refine Ev.step (fun k => impl_IsTemplate.l0.eq_2 l l l.length i k) ?_
    have ih := ih (i + 1) (by omega)
    rw [allR_step (by omega), rdO]
    have bad : okO (l.getD i z86) = false → ∀ u v x, Ev (fun k => impl_IsTemplate.j2 k l i l l.length i true u v x) (offAt l i && allR (offAt l) (i + 1) l.length) := by
      intro h u v x
      refine Ev.step (fun k => impl_IsTemplate.j2.eq_2 l i l l.length i true u v x k) (ev_pos rfl (ev_some ?_))
      unfold offAt; rw [h, Bool.false_and, Bool.false_and]
    refine ev_pos (by omega) (ev_pos (by omega) (ev_pos (by omega) ?_))
    refine ev_ite (fun h => bad (decide_eq_false (by omega)) _ _ _) (fun h0 => ?_)
    refine ev_ite (fun h => bad (decide_eq_false (by omega)) _ _ _) (fun h1 => ?_)
    refine ev_ite (fun h => bad (decide_eq_false (by omega)) _ _ _) (fun h2 => ?_)
    refine ev_ite (fun h => bad (decide_eq_false (by omega)) _ _ _) (fun h3 => ?_)
    refine ev_ite (fun h => bad (decide_eq_false (by omega)) _ _ _) (fun h4 => ?_)
    by_cases h5 : (l.getD i z86).f2 > 2
    · rw [decide_eq_true h5]; exact bad (decide_eq_false (by omega)) _ _ _
    · rw [decide_eq_false h5]
      have hok : okO (l.getD i z86) = true := decide_eq_true (by omega)
      refine Ev.step (fun k => impl_IsTemplate.j2.eq_2 l i l l.length i false _ _ _ k) (ev_neg (by simp) ?_)
      rw [w_succ (n := l.length) (by omega) (by omega)]
      have yes : offAt l i = true → Ev (fun k => impl_IsTemplate.l0 k l l (l.length : Int) ((i + 1 : Nat) : Int)) (offAt l i && allR (offAt l) (i + 1) l.length) := by
        intro h; rw [h, Bool.true_and]; exact ih
      refine ev_ite (fun h6 => ?_) (fun h6 => yes (by unfold offAt; rw [hok, decide_eq_true (show i = 0 by omega)]; rfl))
      rw [w64 (x := (i : Int) - 1) (by omega) (by omega), show (i : Int) - 1 = ((i - 1 : Nat) : Int) by omega, rdO]
      refine ev_pos (by omega) (ev_pos (by omega) (Ev.bind (cmpO_ev _ _) ?_))
      have hc := cmpO_neg (l.getD (i - 1) z86) (l.getD i z86)
      refine ev_ite (fun h7 => ev_some ?_) (fun h7 => yes ?_)
      · have : befO (l.getD (i - 1) z86) (l.getD i z86) = false := by
          rw [← Bool.not_eq_true, ← hc]; omega
        unfold offAt; rw [this, decide_eq_false (show ¬ i = 0 by omega)]; simp
      · unfold offAt; rw [hok, hc.1 (by omega), Bool.or_true]; rfl
theorem IsTemplate_ev (l : List S86) (hl : l.length ≤ maxLen) : Ev (fun k => impl_IsTemplate.f k l) (tmplOk l) := by
  unfold impl_IsTemplate.f tmplOk
  refine ev_ite (fun h => ?_) (fun h => ?_)
  · refine Ev.step (fun k => impl_IsTemplate.j0.eq_2 l true k) (ev_pos rfl (ev_some ?_))
    rw [decide_eq_false (by omega), Bool.false_and]
  · refine Ev.step (fun k => impl_IsTemplate.j0.eq_2 l _ k) (ev_ite (fun h1 => ev_some ?_) (fun h1 => ?_))
    · simp only [decide_eq_true_eq] at h1
      rw [decide_eq_false (by omega), Bool.false_and]
    · simp only [decide_eq_true_eq] at h1
      rw [decide_eq_true (by omega), Bool.true_and]; exact IsTemplate_l0 l hl l.length 0 (by omega)

theorem befO_trans {a b c : S86} (h1 : befO a b = true) (h2 : befO b c = true) : befO a c = true := by
  unfold befO at *
  repeat' split at h1
  all_goals repeat' split at h2
  all_goals simp only [decide_eq_true_eq] at h1 h2
  all_goals repeat' split
  all_goals simp only [decide_eq_true_eq]
  all_goals omega
theorem tmpl_pairwise {t : List S86} (h : tmplOk t = true) : t.length ≤ 12 ∧ (∀ o ∈ t, okO o = true) ∧ t.Pairwise (fun a b => befO a b = true) := by
  unfold tmplOk at h
  rw [Bool.and_eq_true, decide_eq_true_eq, allR_iff] at h
  refine ⟨h.1.2, fun o ho => ?_, ?_⟩
  · obtain ⟨j, hj, rfl⟩ := mem_getD (z := z86) ho
    have := h.2 j (Nat.zero_le _) hj
    unfold offAt at this
    rw [Bool.and_eq_true] at this
    exact this.1
  · have key : ∀ (d a : Nat), a + d + 1 < t.length → befO (t.getD a z86) (t.getD (a + d + 1) z86) = true := by
      intro d
      induction d with
      | zero =>
        intro a ha
        have := h.2 (a + 0 + 1) (Nat.zero_le _) ha
        unfold offAt at this
        rw [Bool.and_eq_true, Bool.or_eq_true, decide_eq_true_eq] at this
        exact this.2.resolve_left (by omega)
      | succ d ih =>
        intro a ha
        have := h.2 (a + (d + 1) + 1) (Nat.zero_le _) ha
        unfold offAt at this
        rw [Bool.and_eq_true, Bool.or_eq_true, decide_eq_true_eq] at this
        exact befO_trans (ih a (by omega)) (this.2.resolve_left (by omega))
    rw [List.pairwise_iff_getElem]
    intro a b ha hb hab
    have := key (b - a - 1) a (by omega)
    rw [show a + (b - a - 1) + 1 = b by omega, List.getD_eq_getElem?_getD, List.getD_eq_getElem?_getD, List.getElem?_eq_getElem ha, List.getElem?_eq_getElem hb] at this
    exact this
theorem okO_iff {o : S86} (h : okO o = true) : -2 ≤ o.f0 ∧ o.f0 ≤ 2 ∧ -2 ≤ o.f1 ∧ o.f1 ≤ 2 ∧ 1 ≤ o.f2 ∧ o.f2 ≤ 2 := by unfold okO at h; rwa [decide_eq_true_eq] at h
abbrev zO : S86 := z86
theorem befO_asym (a b : S86) (h : befO a b = true) : befO b a = false := by
  unfold befO at *
  repeat' split at h
  all_goals simp only [decide_eq_true_eq] at h
  all_goals repeat' split
  all_goals simp only [decide_eq_false_iff_not]
  all_goals omega
theorem befO_ntr (a b c : S86) (h1 : befO b a = false) (h2 : befO c b = false) : befO c a = false := by
  unfold befO at *
  repeat' split at h1
  all_goals repeat' split at h2
  all_goals simp only [decide_eq_false_iff_not] at h1 h2
  all_goals repeat' split
  all_goals simp only [decide_eq_false_iff_not]
  all_goals omega
theorem befO_tot (a b : S86) (hne : a ≠ b) (h : befO a b = false) : befO b a = true := by
  have : ¬ (a.f0 = b.f0 ∧ a.f1 = b.f1 ∧ a.f2 = b.f2) := by
    intro he
    cases a
    cases b
    simp only at he
    exact hne (by rw [he.1, he.2.1, he.2.2])
  unfold befO at *
  repeat' split at h
  all_goals simp only [decide_eq_false_iff_not] at h
  all_goals repeat' split
  all_goals simp only [decide_eq_true_eq]
  all_goals omega
def turnO (o : S86) : S86 := ⟨-o.f1, o.f0, o.f2⟩
theorem turnO_inj {a b : S86} (h : turnO a = turnO b) : a = b := by
  cases a
  cases b
  unfold turnO at h
  injection h with h0 h1 h2
  simp only at h0 h1 h2
  obtain rfl := h1
  obtain rfl := h2
  congr 1
  omega
def turnL (t : List S86) : List S86 := t.map turnO
def srtL (t : List S86) : List S86 := isort befO zO t.length (turnL t)
def ttR (t : List S86) : List S86 × Bool := if tmplOk t = true then (srtL t, true) else ([], false)
theorem turnL_ne {t : List S86} (h : tmplOk t = true) : ∀ a b, a < b → b < (turnL t).length → (turnL t).getD a zO ≠ (turnL t).getD b zO := by
  intro a b hab hb e
  have hp := (tmpl_pairwise h).2.2
  unfold turnL at hb e
  rw [List.length_map] at hb
  rw [List.getD_eq_getElem?_getD, List.getD_eq_getElem?_getD, List.getElem?_map, List.getElem?_map, List.getElem?_eq_getElem (show a < t.length by omega), List.getElem?_eq_getElem hb] at e
  have e2 : t[a] = t[b] := turnO_inj e
  have q := List.pairwise_iff_getElem.1 hp a b (by omega) hb hab
  rw [e2] at q
  have := befO_asym _ _ q
  rw [q] at this
  cases this
theorem srtL_ok {t : List S86} (h : tmplOk t = true) : (srtL t).length = t.length ∧ (srtL t).Pairwise (fun a b => befO a b = true) ∧ ∀ v, v ∈ srtL t ↔ v ∈ turnL t := by
  have hl : (turnL t).length = t.length := by unfold turnL; rw [List.length_map]
  obtain ⟨h1, h2⟩ := isort_ok (z := zO) befO_asym befO_ntr (turnL_ne h) t.length (by omega)
  refine ⟨by unfold srtL; rw [h1.1, hl], ?_, h1.2.1⟩
  rw [List.pairwise_iff_getElem]
  intro a b ha hb hab
  have h1l := h1.1
  have q := h2 a b hab (by unfold srtL at hb; omega)
  have d := h1.2.2 a b hab (by unfold srtL at hb; omega)
  unfold srtL at ha hb
  rw [List.getD_eq_getElem?_getD, List.getD_eq_getElem?_getD, List.getElem?_eq_getElem ha, List.getElem?_eq_getElem hb] at q d
  exact befO_tot _ _ (fun e => d e.symm) q
/-! spec's way: each offset is put behind the last one that it does not come before -/
def posT (o : S86) (out : List S86) : Nat → Nat
  | 0 => 0
  | k + 1 => if befO o (out.getD k zO) = true then posT o out k else k + 1
theorem posT_ok (o : S86) (out : List S86) : ∀ k, posT o out k ≤ k ∧ (∀ j, posT o out k ≤ j → j < k → befO o (out.getD j zO) = true) ∧ (∀ p, posT o out k = p + 1 → befO o (out.getD p zO) = false) := by
  intro k
  induction k with
  | zero => exact ⟨Nat.le_refl _, fun j _ h => by omega, fun p h => by unfold posT at h; omega⟩
  | succ k ih =>
    unfold posT
    split
    · rename_i h
      refine ⟨by omega, fun j h1 h2 => ?_, ih.2.2⟩
      by_cases e : j = k
      · subst e; exact h
      · exact ih.2.1 j h1 (by omega)
    · rename_i h
      rw [Bool.not_eq_true] at h
      refine ⟨Nat.le_refl _, fun j h1 h2 => by omega, fun p hp => ?_⟩
      obtain rfl : k = p := by omega
      exact h
def insT (out : List S86) (o : S86) : List S86 := out.take (posT o out out.length) ++ o :: out.drop (posT o out out.length)
theorem insT_ok {out : List S86} {o : S86} (hp : out.Pairwise (fun a b => befO a b = true)) (hn : o ∉ out) : (insT out o).Pairwise (fun a b => befO a b = true) ∧ (∀ v, v ∈ insT out o ↔ v ∈ out ∨ v = o) ∧ (insT out o).length = out.length + 1 := by
  obtain ⟨h1, h2, h3⟩ := posT_ok o out out.length
  unfold insT
  generalize posT o out out.length = p at h1 h2 h3 ⊢
  have hsplit := List.take_append_drop p out
  refine ⟨?_, fun v => ?_, by rw [List.length_append, List.length_cons, List.length_take, List.length_drop]; omega⟩
  · rw [← hsplit, List.pairwise_append] at hp
    have hlow : ∀ x ∈ out.take p, befO x o = true := by
      intro x hx
      obtain ⟨j, hj, rfl⟩ := mem_getD (z := zO) hx
      rw [List.length_take] at hj
      have e1 : (out.take p).getD j zO = out.getD j zO := by rw [List.getD_eq_getElem?_getD, List.getD_eq_getElem?_getD, List.getElem?_take_of_lt (by omega)]
      have hm : ∀ q, q < out.length → o ≠ out.getD q zO := fun q hq e => hn (by rw [e]; exact getD_mem hq)
      cases p with
      | zero => omega
      | succ p =>
        have hb := befO_tot o (out.getD p zO) (hm p (by omega)) (h3 p rfl)
        rw [e1]
        by_cases e : j = p
        · subst e; exact hb
        · refine befO_trans ?_ hb
          have := List.pairwise_iff_getElem.1 hp.1 j p (by rw [List.length_take]; omega) (by rw [List.length_take]; omega) (by omega)
          rw [List.getElem_take, List.getElem_take] at this
          rw [List.getD_eq_getElem?_getD, List.getD_eq_getElem?_getD, List.getElem?_eq_getElem (show j < out.length by omega), List.getElem?_eq_getElem (show p < out.length by omega)]
          exact this
    rw [List.pairwise_append]
    refine ⟨hp.1, ?_, fun x hx y hy => ?_⟩
    · rw [List.pairwise_cons]
      refine ⟨fun y hy => ?_, hp.2.1⟩
      obtain ⟨j, hj, rfl⟩ := mem_getD (z := zO) hy
      rw [List.length_drop] at hj
      have := h2 (p + j) (by omega) (by omega)
      rw [List.getD_eq_getElem?_getD, List.getElem?_drop, ← List.getD_eq_getElem?_getD]
      exact this
    · rcases List.mem_cons.1 hy with rfl | hy
      · exact hlow x hx
      · exact hp.2.2 x hx y hy
  · rw [List.mem_append, List.mem_cons]
    have : v ∈ out ↔ v ∈ out.take p ∨ v ∈ out.drop p := by rw [← List.mem_append, hsplit]
    rw [this]
    constructor
    · rintro (h | h | h)
      · exact .inl (.inl h)
      · exact .inr h
      · exact .inl (.inr h)
    · rintro ((h | h) | h)
      · exact .inl h
      · exact .inr (.inr h)
      · exact .inr (.inl h)
def specP (t : List S86) (i : Nat) : List S86 := foldR (fun out j => insT out (turnO (t.getD j zO))) 0 i []
theorem specP_ok {t : List S86} (h : tmplOk t = true) : ∀ i, i ≤ t.length → (specP t i).length = i ∧ (specP t i).Pairwise (fun a b => befO a b = true) ∧ ∀ v, v ∈ specP t i ↔ v ∈ turnL (t.take i) := by
  intro i
  induction i with
  | zero => intro _; unfold specP; rw [foldR_end (Nat.le_refl _)]; exact ⟨rfl, List.Pairwise.nil, fun v => by simp [turnL]⟩
  | succ i ih =>
    intro hi
    obtain ⟨h1, h2, h3⟩ := ih (by omega)
    have e : specP t (i + 1) = insT (specP t i) (turnO (t.getD i zO)) := by unfold specP; rw [foldR_last (Nat.zero_le _)]
    have hg : t.getD i zO = t[i] := by rw [List.getD_eq_getElem?_getD, List.getElem?_eq_getElem hi]; rfl
    have hn : turnO (t.getD i zO) ∉ specP t i := by
      rw [h3]
      intro hm
      unfold turnL at hm
      obtain ⟨x, hx, hxe⟩ := List.mem_map.1 hm
      have hxe := turnO_inj hxe
      obtain ⟨j, hj, rfl⟩ := mem_getD (z := zO) hx
      rw [List.length_take] at hj
      have d := turnL_ne h j i (by omega) (by unfold turnL; rw [List.length_map]; omega)
      apply d
      unfold turnL
      rw [List.getD_eq_getElem?_getD, List.getElem?_take_of_lt (by omega), ← List.getD_eq_getElem?_getD] at hxe
      rw [List.getD_eq_getElem?_getD, List.getD_eq_getElem?_getD, List.getElem?_map, List.getElem?_map, List.getElem?_eq_getElem (show j < t.length by omega), List.getElem?_eq_getElem hi]
      rw [List.getD_eq_getElem?_getD, List.getD_eq_getElem?_getD, List.getElem?_eq_getElem (show j < t.length by omega), List.getElem?_eq_getElem hi] at hxe
      exact congrArg turnO hxe
    obtain ⟨i1, i2, i3⟩ := insT_ok h2 hn
    rw [e]
    refine ⟨by rw [i3, h1], i1, fun v => ?_⟩
    rw [i2, h3, List.take_succ_eq_append_getElem hi]
    unfold turnL
    rw [List.map_append, List.mem_append, hg]
    simp
theorem spec_srt {t : List S86} (h : tmplOk t = true) : specP t t.length = srtL t := by
  obtain ⟨_, h1, h2⟩ := specP_ok h t.length (Nat.le_refl _)
  obtain ⟨_, h3, h4⟩ := srtL_ok h
  refine rising_ext befO_asym h1 h3 (fun v => ?_)
  rw [h2, h4, List.take_length]
theorem elem3 {W : World} {b g n cap : Nat} {ok : Nat → Prop} {xs : List S86} (h : Kd.R k86 86 W b ok (.slice (some ⟨g, 0, none⟩) n cap) xs) (i : Int) (h0 : 0 ≤ i) (h1 : i < n) :
    (W.cell? ⟨g, i.toNat * 3, none⟩ = some (.int .i64 (xs.getD i.toNat zO).f0) ∧ W.cell? ⟨g, i.toNat * 3 + 1, none⟩ = some (.int .i64 (xs.getD i.toNat zO).f1) ∧ W.cell? ⟨g, i.toNat * 3 + 2, none⟩ = some (.int .i64 (xs.getD i.toNat zO).f2)) ∧
      W.frozen? ⟨g, i.toNat * 3, none⟩ = false ∧ W.frozen? ⟨g, i.toNat * 3 + 1, none⟩ = false ∧ W.frozen? ⟨g, i.toNat * 3 + 2, none⟩ = false := by
  obtain ⟨c, hcl, hM, hcc, hfr⟩ := Kd.R_elem h zO i h0 h1
  obtain rfl := k86_openM hM
  exact ⟨⟨hcc 0 _ rfl, hcc 1 _ rfl, hcc 2 _ rfl⟩, hfr 0, hfr 1, hfr 2⟩
theorem put3 {W : World} {b g n cap : Nat} {ok : Nat → Prop} {xs : List S86} (h : Kd.R k86 86 W b ok (.slice (some ⟨g, 0, none⟩) n cap) xs) (i : Int) (h0 : 0 ≤ i) (h1 : i < n) (x : S86) :
    Kd.R k86 86 (W.setCells g (i.toNat * 3 + 0) [.int .i64 x.f0, .int .i64 x.f1, .int .i64 x.f2]) b ok (.slice (some ⟨g, 0, none⟩) n cap) (xs.set i.toNat x) ∧ W.grownBy (W.setCells g (i.toNat * 3 + 0) [.int .i64 x.f0, .int .i64 x.f1, .int .i64 x.f2]) (some g) := by
  obtain ⟨c, hcl, hM, hcc, hfr⟩ := Kd.R_elem h zO i h0 h1
  obtain rfl := k86_openM hM
  exact Kd.R_seg h i h0 h1 (okp := fun _ => False) (j := 0) rfl hcc (Nat.le_refl _) (k86_mkM _ _ _ x) (fun _ hk => hk.elim)
theorem put3' {W : World} {g i : Nat} {a b c : Value} : W.setCells g (i * 3 + 0) [a, b, c] = ((W.setCell ⟨g, i * 3, none⟩ a).setCell ⟨g, i * 3 + 1, none⟩ b).setCell ⟨g, i * 3 + 2, none⟩ c := rfl
def slices_insertionSortCmpFunc_loop_example_g00914_impl_Offset_T4 : Bool × List (List Nat × List Nat) := (true, [([], []), ([], []), ([0, 1], [0, 1]), ([2], [2]), ([3], [3]), ([3], [3]), ([3], [3]), ([5, 6, 3], [3, 5, 6]), ([7, 3], [3, 7]), ([3], [3]), ([3], [3]), ([10, 3], [3, 10]), ([9, 11, 3], [3, 9, 11]), ([12, 3], [3, 12]), ([4, 8, 13, 3, 3], [3, 4, 8, 13]), ([14, 3], [3, 14]), ([3, 15], [3, 15])])
def slices_insertionSortCmpFunc_loop_example_g00914_impl_Offset_B4 : List Nat := [0, 0, 3, 7, 15, 15, 15, 111, 239, 15, 15, 1039, 3599, 7695, 16383, 32767, 65535]
theorem slices_insertionSortCmpFunc_loop_example_g00914_impl_Offset_tab4 : rtab .any (opsOf Try.f100 4) = slices_insertionSortCmpFunc_loop_example_g00914_impl_Offset_T4 := by kernel_rfl
theorem slices_insertionSortCmpFunc_loop_example_g00914_impl_Offset_bits4 : waitsOk slices_insertionSortCmpFunc_loop_example_g00914_impl_Offset_T4.2 slices_insertionSortCmpFunc_loop_example_g00914_impl_Offset_B4 = true := by kernel_rfl
def slices_insertionSortCmpFunc_loop_example_g00914_impl_Offset_T6 : Bool × List (List Nat × List Nat) := (true, [([], []), ([], []), ([], []), ([], []), ([3], [3]), ([], []), ([], []), ([6], [6]), ([5, 7], [5, 7]), ([8], [8]), ([], []), ([], []), ([10, 11], [10, 11]), ([12], [12]), ([0, 1, 0, 1, 5, 6, 7, 8, 9, 13], [0, 1]), ([14, 9, 0, 1, 5, 6, 7, 8, 9, 13], [9, 14]), ([2, 4, 0, 1, 2, 3, 4, 5, 6, 7, 8, 9, 10, 11, 12, 13, 14, 15], [2, 4]), ([16, 13, 15, 0, 1, 2, 3, 4, 5, 6, 7, 8, 9, 10, 11, 12, 13, 14, 15], [13, 16])])
def slices_insertionSortCmpFunc_loop_example_g00914_impl_Offset_B6 : List Nat := [0, 0, 0, 0, 8, 0, 0, 64, 224, 480, 0, 0, 3072, 7168, 16355, 32739, 65535, 131071]
theorem slices_insertionSortCmpFunc_loop_example_g00914_impl_Offset_tab6 : rtab .any (opsOf Try.f100 6) = slices_insertionSortCmpFunc_loop_example_g00914_impl_Offset_T6 := by kernel_rfl
theorem slices_insertionSortCmpFunc_loop_example_g00914_impl_Offset_bits6 : waitsOk slices_insertionSortCmpFunc_loop_example_g00914_impl_Offset_T6.2 slices_insertionSortCmpFunc_loop_example_g00914_impl_Offset_B6 = true := by kernel_rfl
theorem goesV_ {P : Program} {ops : Array Oper} {Q : Exit → Act → World → Prop} {oi : Oper} {N : Option Tmp} {a : Act} {w : World} {K : Act → World → Prop} {f : FuncId} {fn : Func} {ags : Array Operand} {ts : Array TypeId} {x : Operand} (hf : P.funcs[f]? = some fn) (hname : (fn.name == "runtime.NumGoroutine") = false) (hb : fn.body.isSome = true) (args : Array Value)
    (hw : Region.wanted oi (yielded ops a.tmps) = true) (hN : oi.dst = N) (hop : oi.op = .call { callee := .value x, args := ags, argTypes := ts }) (hx : a.eval x = .func (.func f) #[] #[]) (hargs : ags.map a.eval = args)
    (h : Calls P f args w fun e w' => ∃ v, e = .returned v ∧ K (a.put N v) w') : if Region.wanted oi (yielded ops a.tmps) = true then Oper.wp P oi a w K Q else K (a.put N undef) w := by
  refine call_ f args hw hN ?_ h
  have he := enters_ hf hname hb args w
  unfold execOp
  simp [hop, resolve, Deferred.ofValue, invoke, hx, hargs, he]
set_option maxHeartbeats 8000000 in
set_option maxRecDepth 100000 in
theorem sortC_calls (n : Nat) (l : List S86) (hl : l.length = n) (hn : 1 ≤ n ∧ n ≤ 12) (P0 : Nat → Prop) (v : Value) (w0 w : World) (hB : Below w0.heap.size w0 w) (ho : Kd.R k86 86 w w0.heap.size P0 v l) :
    Calls Try.prog 100 #[v, .int .i64 0, .int .i64 n, .func (.func 70) #[] #[]] w fun e w' => e = .returned (.tuple #[]) ∧ Kd.R k86 86 w' w0.heap.size P0 v (isort befO zO n l) ∧ Below w0.heap.size w0 w' ∧ Kept w w' P0 := by
  have hu := Try.underlying86
  obtain ⟨g, c, ev, _, _, _⟩ := Kd.R_form ho (by omega)
  rw [hl] at ev
  subst ev
  have HN := Aside0.mk hn
  have HL := Aside0.mk hl
  have HB := Aside0.mk hB
  have HR := Aside0.mk ho
  have HK := Aside0.mk (Kept.refl w P0)
  have w1 : wrap64 (0 + 1) = 1 := by unfold wrap64; omega
  clear hl hn hB ho
  go_enter Try.func100, Try.ntmps100
  go_wp2_with fail
  go_loopg [8] (n - 1) (fun d v8 wr => ∃ i : Nat, v8 = .int .i64 (i : Int) ∧ Aside0 (1 ≤ i ∧ i + d = n) ∧ Aside0 (Kd.R k86 86 wr w0.heap.size P0 (.slice (some ⟨g, 0, none⟩) n c) (isort befO zO i l)) ∧ Aside0 (Below w0.heap.size w0 wr) ∧ Aside0 (Kept w wr P0))
  case atStart => exact ⟨1, rfl, ⟨by have := HN.out; omega⟩, HR, HB, HK⟩
  case round =>
    clear HR HB HK
    obtain ⟨i, rfl, HI, HR, HB, HK⟩ := hrel
    cases gk with
    | zero =>
      have t1 : decide ((i : Int) < (n : Int)) = false := decide_eq_false (by have := HI.out; omega)
      have t1' : decide (i < n) = false := decide_eq_false (by have := HI.out; omega)
      have ei : i = n := by have := HI.out; omega
      rw [ei] at HR
      clear ei
      go_wp2_with fail
      first | go_end0 | ((try simp only [Exit.inBlock, Exit.then]); refine bodyPost_ret (results_none rfl _ _ _) rfl ?_)
      exact ⟨rfl, HR.out, HB.out, HK.out⟩
    | succ d =>
      have t1 : decide ((i : Int) < (n : Int)) = true := decide_eq_true (by have := HI.out; omega)
      have t1' : decide (i < n) = true := decide_eq_true (by have := HI.out; omega)
      go_wp2_with fail
      go_loopg [9] i (fun q v9 wr' => ∃ x : List S86, v9 = .int .i64 (q : Int) ∧ Aside0 (sink befO zO q x = sink befO zO i (isort befO zO i l) ∧ x.length = n ∧ q ≤ i) ∧ Aside0 (Kd.R k86 86 wr' w0.heap.size P0 (.slice (some ⟨g, 0, none⟩) n c) x) ∧ Aside0 (Below w0.heap.size w0 wr') ∧ Aside0 (Kept w wr' P0))
      case atStart => exact ⟨_, rfl, ⟨rfl, by rw [isort_len]; exact HL.out, Nat.le_refl _⟩, HR, HB, HK⟩
      case round =>
        clear HR HB HK
        obtain ⟨x, rfl, HX, HR, HB, HK⟩ := hrel
        go_wp2_with fail
        have HR := Aside0.mk (Kd.R_drew HR.out)
        have HB := Aside0.mk (below_drew1 HB.out)
        have HK := Aside0.mk (Kept.drew HK.out)
        cases gk with
        | zero =>
          have z1 : decide ((0 : Int) < ((0 : Nat) : Int)) = false := by decide
          have hx := HX.out.1
          have HXE : Aside0 (x = isort befO zO (i + 1) l) := ⟨hx⟩
          clear hx
          refine start_ (n := 17) (S := fun w' => True) (ds := []) #[false, false, false, false, false, false, false, false, false, false, false, false, false, false, false, false, false] (by kernel_rfl) rfl rfl (trivial) (fun hHeld => ?_)
          refine with_tabW slices_insertionSortCmpFunc_loop_example_g00914_impl_Offset_tab4 slices_insertionSortCmpFunc_loop_example_g00914_impl_Offset_bits4 (fun HT_ HW_ => ?_)
          generalize wr.drew = wa at HR HB HK hHeld ⊢
          refine pure_ (i := 0) (N := some 18) (v := ?_) (a' := ?_) #[true, false, false, false, false, false, false, false, false, false, false, false, false, false, false, false, false] rfl rfl (any_of HT_.out (by kernel_rfl)) (fun _ _ _ h => h) (Or.inl ⟨by rfl, ?_⟩) ?_ ?_
          rotate_left
          · intro w'
            go_simp
            with_reducible rfl
          rotate_left
          · simp only [Act.put, List.setIfInBounds_toArray, List.set_cons_zero, List.set_cons_succ, i64_w, i32_w]
            rfl
          refine pure_ (i := 1) (N := some 19) (v := ?_) (a' := ?_) #[true, true, false, false, false, false, false, false, false, false, false, false, false, false, false, false, false] rfl rfl (any_of HT_.out (by kernel_rfl)) (fun _ _ _ h => h) (Or.inl ⟨by rfl, ?_⟩) ?_ ?_
          rotate_left
          · intro w'
            go_simp
            with_reducible rfl
          rotate_left
          · simp only [Act.put, List.setIfInBounds_toArray, List.set_cons_zero, List.set_cons_succ, i64_w, i32_w]
            rfl
          refine pure_ (i := 2) (N := some 20) (v := ?_) (a' := ?_) #[true, true, true, false, false, false, false, false, false, false, false, false, false, false, false, false, false] rfl rfl (any_of HT_.out (by kernel_rfl)) (fun _ _ _ h => h) (Or.inl ⟨by rfl, ?_⟩) ?_ ?_
          rotate_left
          · intro w'
            go_simp
            with_reducible rfl
          rotate_left
          · simp only [Act.put, List.setIfInBounds_toArray, List.set_cons_zero, List.set_cons_succ, i64_w, i32_w]
            rfl
          refine pure_ (i := 3) (N := some 21) (v := ?_) (a' := ?_) #[true, true, true, true, false, false, false, false, false, false, false, false, false, false, false, false, false] rfl rfl (any_of HT_.out (by kernel_rfl)) (fun _ _ _ h => h) (Or.inl ⟨by rfl, ?_⟩) ?_ ?_
          rotate_left
          · intro w'
            go_simp
            with_reducible rfl
          rotate_left
          · simp only [Act.put, List.setIfInBounds_toArray, List.set_cons_zero, List.set_cons_succ, i64_w, i32_w]
            rfl
          refine pure_ (i := 4) (N := some 22) (v := undef) (a' := ?_) #[true, true, true, true, true, false, false, false, false, false, false, false, false, false, false, false, false] rfl rfl (any_of HT_.out (by kernel_rfl)) (fun _ _ _ h => h) (Or.inr ⟨by rfl, rfl⟩) ?_ ?_
          rotate_left
          · simp only [Act.put, List.setIfInBounds_toArray, List.set_cons_zero, List.set_cons_succ, i64_w, i32_w]
            rfl
          refine pure_ (i := 5) (N := some 23) (v := undef) (a' := ?_) #[true, true, true, true, true, true, false, false, false, false, false, false, false, false, false, false, false] rfl rfl (any_of HT_.out (by kernel_rfl)) (fun _ _ _ h => h) (Or.inr ⟨by rfl, rfl⟩) ?_ ?_
          rotate_left
          · simp only [Act.put, List.setIfInBounds_toArray, List.set_cons_zero, List.set_cons_succ, i64_w, i32_w]
            rfl
          refine pure_ (i := 6) (N := some 24) (v := undef) (a' := ?_) #[true, true, true, true, true, true, true, false, false, false, false, false, false, false, false, false, false] rfl rfl (any_of HT_.out (by kernel_rfl)) (fun _ _ _ h => h) (Or.inr ⟨by rfl, rfl⟩) ?_ ?_
          rotate_left
          · simp only [Act.put, List.setIfInBounds_toArray, List.set_cons_zero, List.set_cons_succ, i64_w, i32_w]
            rfl
          refine pure_ (i := 7) (N := some 25) (v := undef) (a' := ?_) #[true, true, true, true, true, true, true, true, false, false, false, false, false, false, false, false, false] rfl rfl (any_of HT_.out (by kernel_rfl)) (fun _ _ _ h => h) (Or.inr ⟨by rfl, rfl⟩) ?_ ?_
          rotate_left
          · simp only [Act.put, List.setIfInBounds_toArray, List.set_cons_zero, List.set_cons_succ, i64_w, i32_w]
            rfl
          refine pure_ (i := 9) (N := some 27) (v := undef) (a' := ?_) #[true, true, true, true, true, true, true, true, false, true, false, false, false, false, false, false, false] rfl rfl (any_of HT_.out (by kernel_rfl)) (fun _ _ _ h => h) (Or.inr ⟨by rfl, rfl⟩) ?_ ?_
          rotate_left
          · simp only [Act.put, List.setIfInBounds_toArray, List.set_cons_zero, List.set_cons_succ, i64_w, i32_w]
            rfl
          refine pure_ (i := 10) (N := some 28) (v := undef) (a' := ?_) #[true, true, true, true, true, true, true, true, false, true, true, false, false, false, false, false, false] rfl rfl (any_of HT_.out (by kernel_rfl)) (fun _ _ _ h => h) (Or.inr ⟨by rfl, rfl⟩) ?_ ?_
          rotate_left
          · simp only [Act.put, List.setIfInBounds_toArray, List.set_cons_zero, List.set_cons_succ, i64_w, i32_w]
            rfl
          refine pure_ (i := 11) (N := some 29) (v := undef) (a' := ?_) #[true, true, true, true, true, true, true, true, false, true, true, true, false, false, false, false, false] rfl rfl (any_of HT_.out (by kernel_rfl)) (fun _ _ _ h => h) (Or.inr ⟨by rfl, rfl⟩) ?_ ?_
          rotate_left
          · simp only [Act.put, List.setIfInBounds_toArray, List.set_cons_zero, List.set_cons_succ, i64_w, i32_w]
            rfl
          refine pure_ (i := 12) (N := some 30) (v := undef) (a' := ?_) #[true, true, true, true, true, true, true, true, false, true, true, true, true, false, false, false, false] rfl rfl (any_of HT_.out (by kernel_rfl)) (fun _ _ _ h => h) (Or.inr ⟨by rfl, rfl⟩) ?_ ?_
          rotate_left
          · simp only [Act.put, List.setIfInBounds_toArray, List.set_cons_zero, List.set_cons_succ, i64_w, i32_w]
            rfl
          refine pure_ (i := 8) (N := some 26) (v := undef) (a' := ?_) #[true, true, true, true, true, true, true, true, true, true, true, true, true, false, false, false, false] rfl rfl (any_of HT_.out (by kernel_rfl)) (fun _ _ _ h => h) (Or.inr ⟨by rfl, rfl⟩) ?_ ?_
          rotate_left
          · simp only [Act.put, List.setIfInBounds_toArray, List.set_cons_zero, List.set_cons_succ, i64_w, i32_w]
            rfl
          refine pure_ (i := 13) (N := some 31) (v := undef) (a' := ?_) #[true, true, true, true, true, true, true, true, true, true, true, true, true, true, false, false, false] rfl rfl (any_of HT_.out (by kernel_rfl)) (fun _ _ _ h => h) (Or.inr ⟨by rfl, rfl⟩) ?_ ?_
          rotate_left
          · simp only [Act.put, List.setIfInBounds_toArray, List.set_cons_zero, List.set_cons_succ, i64_w, i32_w]
            rfl
          refine pure_ (i := 14) (N := some 32) (v := undef) (a' := ?_) #[true, true, true, true, true, true, true, true, true, true, true, true, true, true, true, false, false] rfl rfl (any_of HT_.out (by kernel_rfl)) (fun _ _ _ h => h) (Or.inr ⟨by rfl, rfl⟩) ?_ ?_
          rotate_left
          · simp only [Act.put, List.setIfInBounds_toArray, List.set_cons_zero, List.set_cons_succ, i64_w, i32_w]
            rfl
          refine pure_ (i := 15) (N := some 33) (v := undef) (a' := ?_) #[true, true, true, true, true, true, true, true, true, true, true, true, true, true, true, true, false] rfl rfl (any_of HT_.out (by kernel_rfl)) (fun _ _ _ h => h) (Or.inr ⟨by rfl, rfl⟩) ?_ ?_
          rotate_left
          · simp only [Act.put, List.setIfInBounds_toArray, List.set_cons_zero, List.set_cons_succ, i64_w, i32_w]
            rfl
          refine pure_ (i := 16) (N := some 34) (v := ?_) (a' := ?_) #[true, true, true, true, true, true, true, true, true, true, true, true, true, true, true, true, true] rfl rfl (any_of HT_.out (by kernel_rfl)) (fun _ _ _ h => h) (Or.inl ⟨by rfl, ?_⟩) ?_ ?_
          rotate_left
          · intro w'
            go_simp
            with_reducible rfl
          rotate_left
          · simp only [Act.put, List.setIfInBounds_toArray, List.set_cons_zero, List.set_cons_succ, i64_w, i32_w]
            rfl
          refine done_ (done_of HT_.out (by kernel_rfl)) ?_
          try go_wp2
          go_roundg d
          case measure => omega
          case rel =>
            exact ⟨i + 1, by rw [w64 (by omega) (by have := HI.out; have := HN.out; omega)]; rfl, ⟨by have := HI.out; omega⟩, ⟨by rw [← HXE.out]; exact HR.out⟩, HB, HK⟩
        | succ q =>
          obtain ⟨j, ej⟩ : ∃ z : Int, z = ((q + 1 : Nat) : Int) := ⟨_, rfl⟩
          obtain ⟨k, ek⟩ : ∃ z : Int, z = (q : Int) := ⟨_, rfl⟩
          rw [← ej]
          have hx := HX.out
          have hi := HI.out
          have hn := HN.out
          have hw : wrap64 (j - 1) = k := by rw [w64 (by omega) (by omega)]; omega
          have hw' : IntKind.i64.wrap (j - 1) = k := (i64_w _).trans hw
          have z1 : decide ((0 : Int) < j) = true := decide_eq_true (by omega)
          have b0 := eq_true (show (0 : Int) ≤ j by omega)
          have b1 := eq_true (show j < (n : Int) by omega)
          have b2 := eq_true (show (0 : Int) ≤ k by omega)
          have b3 := eq_true (show k < (n : Int) by omega)
          obtain ⟨⟨e0, e1, e2⟩, f0, f1, f2⟩ := elem3 HR.out j (by omega) (by omega)
          obtain ⟨⟨e3, e4, e5⟩, f3, f4, f5⟩ := elem3 HR.out k (by omega) (by omega)
          obtain ⟨u, eu⟩ : ∃ z, z = x.getD j.toNat zO := ⟨_, rfl⟩
          obtain ⟨y, ey⟩ : ∃ z, z = x.getD k.toNat zO := ⟨_, rfl⟩
          rw [← eu] at e0 e1 e2
          rw [← ey] at e3 e4 e5
          have EU : Aside0 (u = x.getD (q + 1) zO) := ⟨by rw [eu, ej, toNat_nat]⟩
          have EY : Aside0 (y = x.getD q zO) := ⟨by rw [ey, ek, toNat_nat]⟩
          have HJ := Aside0.mk (And.intro ej ek)
          obtain ⟨kc, hkc⟩ := (cmpO_ev u y).rounds
          have HKC := Aside0.mk hkc
          clear hx eu ey hkc ej ek hi hn
          refine start_ (n := 17) (S := fun w' => w'.cell? ⟨g, j.toNat * 3, none⟩ = some (.int .i64 u.f0) ∧ w'.cell? ⟨g, j.toNat * 3 + 1, none⟩ = some (.int .i64 u.f1) ∧ w'.cell? ⟨g, j.toNat * 3 + 2, none⟩ = some (.int .i64 u.f2) ∧ w'.cell? ⟨g, k.toNat * 3, none⟩ = some (.int .i64 y.f0) ∧ w'.cell? ⟨g, k.toNat * 3 + 1, none⟩ = some (.int .i64 y.f1) ∧ w'.cell? ⟨g, k.toNat * 3 + 2, none⟩ = some (.int .i64 y.f2)) (ds := []) #[false, false, false, false, false, false, false, false, false, false, false, false, false, false, false, false, false] (by kernel_rfl) rfl rfl ⟨e0, e1, e2, e3, e4, e5⟩ (fun hHeld => ?_)
          refine with_tabW slices_insertionSortCmpFunc_loop_example_g00914_impl_Offset_tab4 slices_insertionSortCmpFunc_loop_example_g00914_impl_Offset_bits4 (fun HT_ HW_ => ?_)
          generalize wr.drew = wa at HR HB HK e0 e1 e2 e3 e4 e5 f0 f1 f2 f3 f4 f5 hHeld ⊢
          refine pure_ (i := 0) (N := some 18) (v := ?_) (a' := ?_) #[true, false, false, false, false, false, false, false, false, false, false, false, false, false, false, false, false] rfl rfl (any_of HT_.out (by kernel_rfl)) (fun _ _ _ h => h) (Or.inl ⟨by rfl, ?_⟩) ?_ ?_
          rotate_left
          · intro w'
            go_simp
            with_reducible rfl
          rotate_left
          · simp only [Act.put, List.setIfInBounds_toArray, List.set_cons_zero, List.set_cons_succ, i64_w, i32_w]
            rfl
          refine pure_ (i := 1) (N := some 19) (v := ?_) (a' := ?_) #[true, true, false, false, false, false, false, false, false, false, false, false, false, false, false, false, false] rfl rfl (any_of HT_.out (by kernel_rfl)) (fun _ _ _ h => h) (Or.inl ⟨by rfl, ?_⟩) ?_ ?_
          rotate_left
          · intro w'
            go_simp
            with_reducible rfl
          rotate_left
          · simp only [Act.put, List.setIfInBounds_toArray, List.set_cons_zero, List.set_cons_succ, i64_w, i32_w]
            rfl
          refine pure_ (i := 2) (N := some 20) (v := ?_) (a' := ?_) #[true, true, true, false, false, false, false, false, false, false, false, false, false, false, false, false, false] rfl rfl (any_of HT_.out (by kernel_rfl)) (fun _ _ _ h => h) (Or.inl ⟨by rfl, ?_⟩) ?_ ?_
          rotate_left
          · intro w'
            go_simp
            with_reducible rfl
          rotate_left
          · simp only [Act.put, List.setIfInBounds_toArray, List.set_cons_zero, List.set_cons_succ, i64_w, i32_w]
            rfl
          refine pure_ (i := 3) (N := some 21) (v := ?_) (a' := ?_) #[true, true, true, true, false, false, false, false, false, false, false, false, false, false, false, false, false] rfl rfl (any_of HT_.out (by kernel_rfl)) (fun _ _ _ h => h) (Or.inl ⟨by rfl, ?_⟩) ?_ ?_
          rotate_left
          · intro w'
            go_simp
            with_reducible rfl
          rotate_left
          · simp only [Act.put, List.setIfInBounds_toArray, List.set_cons_zero, List.set_cons_succ, i64_w, i32_w]
            rfl
          refine pure_ (i := 4) (N := some 22) (v := ?_) (a' := ?_) #[true, true, true, true, true, false, false, false, false, false, false, false, false, false, false, false, false] rfl rfl (any_of HT_.out (by kernel_rfl)) (fun _ _ _ h => h) (Or.inl ⟨by rfl, ?_⟩) ?_ ?_
          rotate_left
          · intro w'
            go_simp
            with_reducible rfl
          rotate_left
          · simp only [Act.put, List.setIfInBounds_toArray, List.set_cons_zero, List.set_cons_succ, i64_w, i32_w]
            rfl
          refine pure_ (i := 5) (N := some 23) (v := ?_) (a' := ?_) #[true, true, true, true, true, true, false, false, false, false, false, false, false, false, false, false, false] rfl rfl (any_of HT_.out (by kernel_rfl)) (fun _ _ _ h => h) (Or.inl ⟨by rfl, ?_⟩) ?_ ?_
          rotate_left
          · intro w'
            go_simp
            with_reducible rfl
          rotate_left
          · simp only [Act.put, List.setIfInBounds_toArray, List.set_cons_zero, List.set_cons_succ, i64_w, i32_w]
            rfl
          refine pure_ (i := 6) (N := some 24) (v := ?_) (a' := ?_) #[true, true, true, true, true, true, true, false, false, false, false, false, false, false, false, false, false] rfl rfl (any_of HT_.out (by kernel_rfl)) (fun _ _ _ h => h) (Or.inl ⟨by rfl, ?_⟩) ?_ ?_
          rotate_left
          · intro w'
            go_simp
            with_reducible rfl
          rotate_left
          · simp only [Act.put, List.setIfInBounds_toArray, List.set_cons_zero, List.set_cons_succ, i64_w, i32_w]
            rfl
          refine pure_ (i := 7) (N := some 25) (v := ?_) (a' := ?_) #[true, true, true, true, true, true, true, true, false, false, false, false, false, false, false, false, false] rfl rfl (any_of HT_.out (by kernel_rfl)) (fun _ _ _ h => h) (Or.inl ⟨by rfl, ?_⟩) ?_ ?_
          rotate_left
          · intro w'
            go_simp
            with_reducible rfl
          rotate_left
          · simp only [Act.put, List.setIfInBounds_toArray, List.set_cons_zero, List.set_cons_succ, i64_w, i32_w]
            rfl
          refine pure_ (i := 9) (N := some 27) (v := ?_) (a' := ?_) #[true, true, true, true, true, true, true, true, false, true, false, false, false, false, false, false, false] rfl rfl (any_of HT_.out (by kernel_rfl)) (fun _ _ _ h => h) (Or.inl ⟨by rfl, ?_⟩) ?_ ?_
          rotate_left
          · intro w'
            go_simp
            with_reducible rfl
          rotate_left
          · simp only [Act.put, List.setIfInBounds_toArray, List.set_cons_zero, List.set_cons_succ, i64_w, i32_w]
            rfl
          refine pure_ (i := 10) (N := some 28) (v := ?_) (a' := ?_) #[true, true, true, true, true, true, true, true, false, true, true, false, false, false, false, false, false] rfl rfl (any_of HT_.out (by kernel_rfl)) (fun _ _ _ h => h) (Or.inl ⟨by rfl, ?_⟩) ?_ ?_
          rotate_left
          · intro w'
            go_simp
            with_reducible rfl
          rotate_left
          · simp only [Act.put, List.setIfInBounds_toArray, List.set_cons_zero, List.set_cons_succ, i64_w, i32_w]
            rfl
          refine pure_ (i := 11) (N := some 29) (v := ?_) (a' := ?_) #[true, true, true, true, true, true, true, true, false, true, true, true, false, false, false, false, false] rfl rfl (any_of HT_.out (by kernel_rfl)) (fun _ _ _ h => h) (Or.inl ⟨by rfl, ?_⟩) ?_ ?_
          rotate_left
          · intro w'
            go_simp
            with_reducible rfl
          rotate_left
          · simp only [Act.put, List.setIfInBounds_toArray, List.set_cons_zero, List.set_cons_succ, i64_w, i32_w]
            rfl
          refine pure_ (i := 12) (N := some 30) (v := ?_) (a' := ?_) #[true, true, true, true, true, true, true, true, false, true, true, true, true, false, false, false, false] rfl rfl (any_of HT_.out (by kernel_rfl)) (fun _ _ _ h => h) (Or.inl ⟨by rfl, ?_⟩) ?_ ?_
          rotate_left
          · intro w'
            go_simp
            with_reducible rfl
          rotate_left
          · simp only [Act.put, List.setIfInBounds_toArray, List.set_cons_zero, List.set_cons_succ, i64_w, i32_w]
            rfl
          refine take_ (i := 8) (N := some 26) (v := ?_) (a' := ?_) #[true, true, true, true, true, true, true, true, true, true, true, true, true, false, false, false, false] rfl rfl (take_ofW HT_.out HW_.out (by kernel_rfl)) (fun _ _ _ h => h) (Or.inl ⟨by rfl, ?_⟩) hHeld ?_ ?_
          rotate_left
          · rintro w' ⟨s0, s1, s2, s3, s4, s5⟩
            go_simp
            with_reducible rfl
          rotate_left
          · simp only [Act.put, List.setIfInBounds_toArray, List.set_cons_zero, List.set_cons_succ, i64_w, i32_w]
            rfl
          refine take_ (i := 13) (N := some 31) (v := ?_) (a' := ?_) #[true, true, true, true, true, true, true, true, true, true, true, true, true, true, false, false, false] rfl rfl (take_ofW HT_.out HW_.out (by kernel_rfl)) (fun _ _ _ h => h) (Or.inl ⟨by rfl, ?_⟩) hHeld ?_ ?_
          rotate_left
          · rintro w' ⟨s0, s1, s2, s3, s4, s5⟩
            go_simp
            with_reducible rfl
          rotate_left
          · simp only [Act.put, List.setIfInBounds_toArray, List.set_cons_zero, List.set_cons_succ, i64_w, i32_w]
            rfl
          refine one_ (i := 14) (N := some 32) #[true, true, true, true, true, true, true, true, true, true, true, true, true, true, true, false, false] rfl rfl (one_of HT_.out (by kernel_rfl)) (by decide) (fun K hK => ?_)
          refine goesV_ (f := 70) Try.func70 (by kernel_rfl) rfl #[.agg #[.int .i64 u.f0, .int .i64 u.f1, .int .i64 u.f2], .agg #[.int .i64 y.f0, .int .i64 y.f1, .int .i64 y.f2]] (by rfl) rfl rfl (by rfl) (by (try simp only [List.map_toArray, List.map_cons, List.map_nil]); first | done | rfl) ?_
          refine (impl_compareOffsets.calls kc u.f0 u.f1 u.f2 y.f0 y.f1 y.f2 _ wa HKC.out).mono ?_
          rintro e wb ⟨rfl, hb⟩
          refine ⟨_, rfl, ?_⟩
          have n0_ := Aside0.mk (Kd.R_below HR.out hb)
          have n1_ := Aside0.mk (below_step HB.out hb)
          have n2_ := Aside0.mk (HK.out.below hb)
          replace e0 := (hb.cell (World.block_lt_of_cell? _ _ e0)).trans e0
          replace e1 := (hb.cell (World.block_lt_of_cell? _ _ e1)).trans e1
          replace e2 := (hb.cell (World.block_lt_of_cell? _ _ e2)).trans e2
          replace e3 := (hb.cell (World.block_lt_of_cell? _ _ e3)).trans e3
          replace e4 := (hb.cell (World.block_lt_of_cell? _ _ e4)).trans e4
          replace e5 := (hb.cell (World.block_lt_of_cell? _ _ e5)).trans e5
          clear HR HB HK hb f0 f1 f2 f3 f4 f5
          have HR := n0_
          have HB := n1_
          have HK := n2_
          clear n0_ n1_ n2_
          refine hK.out _ _ ⟨e0, e1, e2, e3, e4, e5⟩ (fun hHeld => ?_)
          clear hK K
          refine norm_ (a' := ?_) ?_ ?_
          rotate_left
          · show Act.put _ (some 32) _ = _
            simp only [Act.put, List.setIfInBounds_toArray, List.set_cons_zero, List.set_cons_succ, i64_w, i32_w]
            rfl
          refine pure_ (i := 15) (N := some 33) (v := ?_) (a' := ?_) #[true, true, true, true, true, true, true, true, true, true, true, true, true, true, true, true, false] rfl rfl (any_of HT_.out (by kernel_rfl)) (fun _ _ _ h => h) (Or.inl ⟨by rfl, ?_⟩) ?_ ?_
          rotate_left
          · intro w'
            go_simp
            with_reducible rfl
          rotate_left
          · simp only [Act.put, List.setIfInBounds_toArray, List.set_cons_zero, List.set_cons_succ, i64_w, i32_w]
            rfl
          refine pure_ (i := 16) (N := some 34) (v := ?_) (a' := ?_) #[true, true, true, true, true, true, true, true, true, true, true, true, true, true, true, true, true] rfl rfl (any_of HT_.out (by kernel_rfl)) (fun _ _ _ h => h) (Or.inl ⟨by rfl, ?_⟩) ?_ ?_
          rotate_left
          · intro w'
            go_simp
            with_reducible rfl
          rotate_left
          · simp only [Act.put, List.setIfInBounds_toArray, List.set_cons_zero, List.set_cons_succ, i64_w, i32_w]
            rfl
          refine done_ (done_of HT_.out (by kernel_rfl)) ?_
          cases hbf : befO u y with
          | false =>
            have dc : decide (cmpO u y < 0) = false := decide_eq_false (fun h => by rw [(cmpO_neg u y).1 h] at hbf; cases hbf)
            have HXE : Aside0 (x = isort befO zO (i + 1) l) := ⟨by
              have h := HX.out.1
              rw [show sink befO zO (q + 1) x = if befO (x.getD (q + 1) zO) (x.getD q zO) = true then sink befO zO q (swp zO x q) else x from rfl] at h
              rw [← EU.out, ← EY.out, hbf, if_neg (by simp)] at h
              exact h⟩
            clear hbf e0 e1 e2 e3 e4 e5
            rw [dc]
            try go_wp2
            go_roundg d
            case measure => omega
            case rel =>
              exact ⟨i + 1, by rw [w64 (by omega) (by have := HI.out; have := HN.out; omega)]; rfl, ⟨by have := HI.out; omega⟩, ⟨by rw [← HXE.out]; exact HR.out⟩, HB, HK⟩
          | true =>
            have dc : decide (cmpO u y < 0) = true := decide_eq_true ((cmpO_neg u y).2 hbf)
            have HXS : Aside0 (sink befO zO q (swp zO x q) = sink befO zO i (isort befO zO i l)) := ⟨by
              have h := HX.out.1
              rw [show sink befO zO (q + 1) x = if befO (x.getD (q + 1) zO) (x.getD q zO) = true then sink befO zO q (swp zO x q) else x from rfl] at h
              rw [← EU.out, ← EY.out, hbf, if_pos rfl] at h
              exact h⟩
            clear hbf e0 e1 e2 e3 e4 e5
            rw [dc]
            go_wp2_with fail
            have HR := Aside0.mk (Kd.R_drew HR.out)
            have HB := Aside0.mk (below_drew1 HB.out)
            have HK := Aside0.mk (Kept.drew HK.out)
            obtain ⟨⟨e0, e1, e2⟩, f0, f1, f2⟩ := elem3 HR.out j (by have := HJ.out; omega) (by have := HJ.out; have := HI.out; have := HX.out; omega)
            obtain ⟨⟨e3, e4, e5⟩, f3, f4, f5⟩ := elem3 HR.out k (by have := HJ.out; omega) (by have := HJ.out; have := HI.out; have := HX.out; omega)
            rw [show x.getD j.toNat zO = u by rw [EU.out, HJ.out.1, toNat_nat]] at e0 e1 e2
            rw [show x.getD k.toNat zO = y by rw [EY.out, HJ.out.2, toNat_nat]] at e3 e4 e5
            have d00 : ¬ k.toNat * 3 = j.toNat * 3 := by have := HJ.out; omega
            have c00 : ¬ j.toNat * 3 = k.toNat * 3 := by have := HJ.out; omega
            have d01 : ¬ k.toNat * 3 = j.toNat * 3 + 1 := by have := HJ.out; omega
            have c01 : ¬ j.toNat * 3 = k.toNat * 3 + 1 := by have := HJ.out; omega
            have d02 : ¬ k.toNat * 3 = j.toNat * 3 + 2 := by have := HJ.out; omega
            have c02 : ¬ j.toNat * 3 = k.toNat * 3 + 2 := by have := HJ.out; omega
            have d10 : ¬ k.toNat * 3 + 1 = j.toNat * 3 := by have := HJ.out; omega
            have c10 : ¬ j.toNat * 3 + 1 = k.toNat * 3 := by have := HJ.out; omega
            have d11 : ¬ k.toNat * 3 + 1 = j.toNat * 3 + 1 := by have := HJ.out; omega
            have c11 : ¬ j.toNat * 3 + 1 = k.toNat * 3 + 1 := by have := HJ.out; omega
            have d12 : ¬ k.toNat * 3 + 1 = j.toNat * 3 + 2 := by have := HJ.out; omega
            have c12 : ¬ j.toNat * 3 + 1 = k.toNat * 3 + 2 := by have := HJ.out; omega
            have d20 : ¬ k.toNat * 3 + 2 = j.toNat * 3 := by have := HJ.out; omega
            have c20 : ¬ j.toNat * 3 + 2 = k.toNat * 3 := by have := HJ.out; omega
            have d21 : ¬ k.toNat * 3 + 2 = j.toNat * 3 + 1 := by have := HJ.out; omega
            have c21 : ¬ j.toNat * 3 + 2 = k.toNat * 3 + 1 := by have := HJ.out; omega
            have d22 : ¬ k.toNat * 3 + 2 = j.toNat * 3 + 2 := by have := HJ.out; omega
            have c22 : ¬ j.toNat * 3 + 2 = k.toNat * 3 + 2 := by have := HJ.out; omega
            refine start_ (n := 18) (S := fun w' => w'.cell? ⟨g, j.toNat * 3, none⟩ = some (.int .i64 u.f0) ∧ w'.cell? ⟨g, j.toNat * 3 + 1, none⟩ = some (.int .i64 u.f1) ∧ w'.cell? ⟨g, j.toNat * 3 + 2, none⟩ = some (.int .i64 u.f2) ∧ w'.cell? ⟨g, k.toNat * 3, none⟩ = some (.int .i64 y.f0) ∧ w'.cell? ⟨g, k.toNat * 3 + 1, none⟩ = some (.int .i64 y.f1) ∧ w'.cell? ⟨g, k.toNat * 3 + 2, none⟩ = some (.int .i64 y.f2)) (ds := [15, 17]) #[false, false, false, false, false, false, false, false, false, false, false, false, false, false, false, false, false, false] (by kernel_rfl) rfl rfl ⟨e0, e1, e2, e3, e4, e5⟩ (fun hHeld => ?_)
            refine with_tabW slices_insertionSortCmpFunc_loop_example_g00914_impl_Offset_tab6 slices_insertionSortCmpFunc_loop_example_g00914_impl_Offset_bits6 (fun HT_ HW_ => ?_)
            generalize wb.drew = wc at HR HB HK e0 e1 e2 e3 e4 e5 f0 f1 f2 f3 f4 f5 hHeld ⊢
            refine pure_ (i := 0) (N := some 37) (v := ?_) (a' := ?_) #[true, false, false, false, false, false, false, false, false, false, false, false, false, false, false, false, false, false] rfl rfl (any_of HT_.out (by kernel_rfl)) (fun _ _ _ h => h) (Or.inl ⟨by rfl, ?_⟩) ?_ ?_
            rotate_left
            · intro w'
              go_simp
              with_reducible rfl
            rotate_left
            · simp only [Act.put, List.setIfInBounds_toArray, List.set_cons_zero, List.set_cons_succ, i64_w, i32_w]
              rfl
            refine pure_ (i := 1) (N := some 38) (v := ?_) (a' := ?_) #[true, true, false, false, false, false, false, false, false, false, false, false, false, false, false, false, false, false] rfl rfl (any_of HT_.out (by kernel_rfl)) (fun _ _ _ h => h) (Or.inl ⟨by rfl, ?_⟩) ?_ ?_
            rotate_left
            · intro w'
              go_simp
              with_reducible rfl
            rotate_left
            · simp only [Act.put, List.setIfInBounds_toArray, List.set_cons_zero, List.set_cons_succ, i64_w, i32_w]
              rfl
            refine pure_ (i := 2) (N := some 39) (v := ?_) (a' := ?_) #[true, true, true, false, false, false, false, false, false, false, false, false, false, false, false, false, false, false] rfl rfl (any_of HT_.out (by kernel_rfl)) (fun _ _ _ h => h) (Or.inl ⟨by rfl, ?_⟩) ?_ ?_
            rotate_left
            · intro w'
              go_simp
              with_reducible rfl
            rotate_left
            · simp only [Act.put, List.setIfInBounds_toArray, List.set_cons_zero, List.set_cons_succ, i64_w, i32_w]
              rfl
            refine pure_ (i := 3) (N := some 40) (v := ?_) (a' := ?_) #[true, true, true, true, false, false, false, false, false, false, false, false, false, false, false, false, false, false] rfl rfl (any_of HT_.out (by kernel_rfl)) (fun _ _ _ h => h) (Or.inl ⟨by rfl, ?_⟩) ?_ ?_
            rotate_left
            · intro w'
              go_simp
              with_reducible rfl
            rotate_left
            · simp only [Act.put, List.setIfInBounds_toArray, List.set_cons_zero, List.set_cons_succ, i64_w, i32_w]
              rfl
            refine pure_ (i := 4) (N := some 41) (v := ?_) (a' := ?_) #[true, true, true, true, true, false, false, false, false, false, false, false, false, false, false, false, false, false] rfl rfl (any_of HT_.out (by kernel_rfl)) (fun _ _ _ h => h) (Or.inl ⟨by rfl, ?_⟩) ?_ ?_
            rotate_left
            · intro w'
              go_simp
              with_reducible rfl
            rotate_left
            · simp only [Act.put, List.setIfInBounds_toArray, List.set_cons_zero, List.set_cons_succ, i64_w, i32_w]
              rfl
            refine pure_ (i := 5) (N := some 42) (v := ?_) (a' := ?_) #[true, true, true, true, true, true, false, false, false, false, false, false, false, false, false, false, false, false] rfl rfl (any_of HT_.out (by kernel_rfl)) (fun _ _ _ h => h) (Or.inl ⟨by rfl, ?_⟩) ?_ ?_
            rotate_left
            · intro w'
              go_simp
              with_reducible rfl
            rotate_left
            · simp only [Act.put, List.setIfInBounds_toArray, List.set_cons_zero, List.set_cons_succ, i64_w, i32_w]
              rfl
            refine pure_ (i := 6) (N := some 43) (v := ?_) (a' := ?_) #[true, true, true, true, true, true, true, false, false, false, false, false, false, false, false, false, false, false] rfl rfl (any_of HT_.out (by kernel_rfl)) (fun _ _ _ h => h) (Or.inl ⟨by rfl, ?_⟩) ?_ ?_
            rotate_left
            · intro w'
              go_simp
              with_reducible rfl
            rotate_left
            · simp only [Act.put, List.setIfInBounds_toArray, List.set_cons_zero, List.set_cons_succ, i64_w, i32_w]
              rfl
            refine pure_ (i := 7) (N := some 44) (v := ?_) (a' := ?_) #[true, true, true, true, true, true, true, true, false, false, false, false, false, false, false, false, false, false] rfl rfl (any_of HT_.out (by kernel_rfl)) (fun _ _ _ h => h) (Or.inl ⟨by rfl, ?_⟩) ?_ ?_
            rotate_left
            · intro w'
              go_simp
              with_reducible rfl
            rotate_left
            · simp only [Act.put, List.setIfInBounds_toArray, List.set_cons_zero, List.set_cons_succ, i64_w, i32_w]
              rfl
            refine pure_ (i := 8) (N := some 45) (v := ?_) (a' := ?_) #[true, true, true, true, true, true, true, true, true, false, false, false, false, false, false, false, false, false] rfl rfl (any_of HT_.out (by kernel_rfl)) (fun _ _ _ h => h) (Or.inl ⟨by rfl, ?_⟩) ?_ ?_
            rotate_left
            · intro w'
              go_simp
              with_reducible rfl
            rotate_left
            · simp only [Act.put, List.setIfInBounds_toArray, List.set_cons_zero, List.set_cons_succ, i64_w, i32_w]
              rfl
            refine pure_ (i := 10) (N := some 47) (v := ?_) (a' := ?_) #[true, true, true, true, true, true, true, true, true, false, true, false, false, false, false, false, false, false] rfl rfl (any_of HT_.out (by kernel_rfl)) (fun _ _ _ h => h) (Or.inl ⟨by rfl, ?_⟩) ?_ ?_
            rotate_left
            · intro w'
              go_simp
              with_reducible rfl
            rotate_left
            · simp only [Act.put, List.setIfInBounds_toArray, List.set_cons_zero, List.set_cons_succ, i64_w, i32_w]
              rfl
            refine pure_ (i := 11) (N := some 48) (v := ?_) (a' := ?_) #[true, true, true, true, true, true, true, true, true, false, true, true, false, false, false, false, false, false] rfl rfl (any_of HT_.out (by kernel_rfl)) (fun _ _ _ h => h) (Or.inl ⟨by rfl, ?_⟩) ?_ ?_
            rotate_left
            · intro w'
              go_simp
              with_reducible rfl
            rotate_left
            · simp only [Act.put, List.setIfInBounds_toArray, List.set_cons_zero, List.set_cons_succ, i64_w, i32_w]
              rfl
            refine pure_ (i := 12) (N := some 49) (v := ?_) (a' := ?_) #[true, true, true, true, true, true, true, true, true, false, true, true, true, false, false, false, false, false] rfl rfl (any_of HT_.out (by kernel_rfl)) (fun _ _ _ h => h) (Or.inl ⟨by rfl, ?_⟩) ?_ ?_
            rotate_left
            · intro w'
              go_simp
              with_reducible rfl
            rotate_left
            · simp only [Act.put, List.setIfInBounds_toArray, List.set_cons_zero, List.set_cons_succ, i64_w, i32_w]
              rfl
            refine take_ (i := 9) (N := some 46) (v := ?_) (a' := ?_) #[true, true, true, true, true, true, true, true, true, true, true, true, true, false, false, false, false, false] rfl rfl (take_ofW HT_.out HW_.out (by kernel_rfl)) (fun _ _ _ h => h) (Or.inl ⟨by rfl, ?_⟩) hHeld ?_ ?_
            rotate_left
            · rintro w' ⟨s0, s1, s2, s3, s4, s5⟩
              go_simp
              with_reducible rfl
            rotate_left
            · simp only [Act.put, List.setIfInBounds_toArray, List.set_cons_zero, List.set_cons_succ, i64_w, i32_w]
              rfl
            refine take_ (i := 13) (N := some 50) (v := ?_) (a' := ?_) #[true, true, true, true, true, true, true, true, true, true, true, true, true, true, false, false, false, false] rfl rfl (take_ofW HT_.out HW_.out (by kernel_rfl)) (fun _ _ _ h => h) (Or.inl ⟨by rfl, ?_⟩) hHeld ?_ ?_
            rotate_left
            · rintro w' ⟨s0, s1, s2, s3, s4, s5⟩
              go_simp
              with_reducible rfl
            rotate_left
            · simp only [Act.put, List.setIfInBounds_toArray, List.set_cons_zero, List.set_cons_succ, i64_w, i32_w]
              rfl
            refine pure_ (i := 14) (N := some 51) (v := ?_) (a' := ?_) #[true, true, true, true, true, true, true, true, true, true, true, true, true, true, true, false, false, false] rfl rfl (any_of HT_.out (by kernel_rfl)) (fun _ _ _ h => h) (Or.inl ⟨by rfl, ?_⟩) ?_ ?_
            rotate_left
            · intro w'
              go_simp
              with_reducible rfl
            rotate_left
            · simp only [Act.put, List.setIfInBounds_toArray, List.set_cons_zero, List.set_cons_succ, i64_w, i32_w]
              rfl
            refine last_ (i := 15) (N := none) #[true, true, true, true, true, true, true, true, true, true, true, true, true, true, true, true, false, false] rfl rfl (one_of HT_.out (by kernel_rfl)) (by decide) (fun K hK => ?_)
            refine skip_ (w1 := ?_) (by rfl) rfl ?_ ?_
            rotate_left
            · go_simp
              rfl
            refine hK.out _ _ ?_
            clear hK K
            refine pure_ (i := 16) (N := some 52) (v := ?_) (a' := ?_) #[true, true, true, true, true, true, true, true, true, true, true, true, true, true, true, true, true, false] rfl rfl (any_of HT_.out (by kernel_rfl)) (fun _ _ _ h => h) (Or.inl ⟨by rfl, ?_⟩) ?_ ?_
            rotate_left
            · intro w'
              go_simp
              with_reducible rfl
            rotate_left
            · simp only [Act.put, List.setIfInBounds_toArray, List.set_cons_zero, List.set_cons_succ, i64_w, i32_w]
              rfl
            refine last_ (i := 17) (N := none) #[true, true, true, true, true, true, true, true, true, true, true, true, true, true, true, true, true, true] rfl rfl (one_of HT_.out (by kernel_rfl)) (by decide) (fun K hK => ?_)
            refine skip_ (w1 := ?_) (by rfl) rfl ?_ ?_
            rotate_left
            · go_simp
              rfl
            refine hK.out _ _ ?_
            clear hK K
            refine done_ (done_of HT_.out (by kernel_rfl)) ?_
            try go_wp2
            have h1 := put3 HR.out j (by have := HJ.out; omega) (by have := HJ.out; have := HI.out; have := HX.out; omega) y
            rw [put3'] at h1
            have h2 := put3 h1.1 k (by have := HJ.out; omega) (by have := HJ.out; have := HI.out; have := HX.out; omega) u
            rw [put3'] at h2
            have hgb := Kd.R_base HR.out g rfl
            have hgp := HR.out.1 g rfl
            have m0_ := Aside0.mk h2.1
            have m2_ := Aside0.mk (Kept.of_grown (S := P0) h2.2 (Kept.of_grown (S := P0) h1.2 HK.out (fun k_ e_ => by injection e_ with e_; rw [← e_]; exact Or.inl hgp)) (fun k_ e_ => by injection e_ with e_; rw [← e_]; exact Or.inl hgp))
            clear h1 h2
            go_roundg q
            case measure => omega
            case rel =>
              refine ⟨swp zO x q, by rw [HJ.out.2], ⟨HXS.out, by rw [swp_len]; exact HX.out.2.1, by have := HX.out; omega⟩, ⟨?_⟩, ⟨below_set (below_set (below_set (below_set (below_set (below_set HB.out hgb) hgb) hgb) hgb) hgb) hgb⟩, m2_⟩
              have h := m0_.out
              rw [show y = x.getD q zO from EY.out, show u = x.getD (q + 1) zO from EU.out, HJ.out.1, HJ.out.2, toNat_nat, toNat_nat] at h
              rw [show y = x.getD q zO from EY.out, show u = x.getD (q + 1) zO from EU.out, HJ.out.1, HJ.out.2, toNat_nat, toNat_nat]
              exact h
set_option maxHeartbeats 4000000 in
set_option maxRecDepth 100000 in
theorem len64_calls (a : Int) (h0 : 0 ≤ a) (h1 : a ≤ 12) (w : World) :
    Calls Try.prog 109 #[.int .u64 a] w fun e w' => ∃ r : Int, e = .returned (.int .i64 r) ∧ w' = w := by
  have c1 : decide (4294967296 ≤ a) = false := decide_eq_false (by omega)
  have c2 : decide (65536 ≤ a) = false := decide_eq_false (by omega)
  have c3 : decide (256 ≤ a) = false := decide_eq_false (by omega)
  go_enter Try.func109, Try.ntmps109
  go_wp2_with fail
  go_ret
  exact ⟨_, rfl, rfl⟩
set_option maxHeartbeats 4000000 in
set_option maxRecDepth 100000 in
theorem len_calls (a : Int) (h0 : 0 ≤ a) (h1 : a ≤ 12) (w : World) :
    Calls Try.prog 89 #[.int .u64 a] w fun e w' => ∃ r : Int, e = .returned (.int .i64 r) ∧ w' = w := by
  go_enter Try.func89, Try.ntmps89
  go_wp2_with fail
  refine (len64_calls a h0 h1 _).mono ?_
  rintro e w1 ⟨r, rfl, rfl⟩
  go_wp2_with fail
  go_ret
  exact ⟨_, rfl, rfl⟩
set_option maxHeartbeats 4000000 in
set_option maxRecDepth 100000 in
theorem pdqC_calls (n : Nat) (l : List S86) (lim : Int) (hl : l.length = n) (hn : 1 ≤ n ∧ n ≤ 12) (P0 : Nat → Prop) (v : Value) (w0 w : World) (hB : Below w0.heap.size w0 w) (ho : Kd.R k86 86 w w0.heap.size P0 v l) :
    Calls Try.prog 88 #[v, .int .i64 0, .int .i64 n, .int .i64 lim, .func (.func 70) #[] #[]] w fun e w' => e = .returned (.tuple #[]) ∧ Kd.R k86 86 w' w0.heap.size P0 v (isort befO zO n l) ∧ Below w0.heap.size w0 w' ∧ Kept w w' P0 := by
  have w1 : wrap64 ((n : Int) - 0) = (n : Int) := by rw [w64 (by omega) (by omega)]; omega
  have w2 : wrap64 (n : Int) = (n : Int) := w64 (by omega) (by omega)
  have c1 : decide ((n : Int) ≤ 12) = true := decide_eq_true (by omega)
  have c2 : decide (n ≤ 12) = true := decide_eq_true (by omega)
  have HN := Aside0.mk hn
  clear hn
  go_enter Try.func88, Try.ntmps88
  go_wp2_with fail
  go_loopg [1, 2, 3, 10, 11] 1 (fun d v1 v2 v3 v8 v9 wr => v1 = .int .i64 0 ∧ v2 = .int .i64 (n : Int) ∧ v3 = .int .i64 lim ∧ wr = w ∧ d = 1)
  case atStart => exact ⟨rfl, rfl, rfl, rfl, rfl⟩
  case round =>
    obtain ⟨rfl, rfl, rfl, rfl, rfl⟩ := hrel
    go_wp2_with fail
    refine (sortC_calls n l hl HN.out P0 v w0 wr hB ho).mono ?_
    rintro e w2 ⟨rfl, h1, h2, h3⟩
    go_wp2_with fail
    first | go_end0 | ((try simp only [Exit.inBlock, Exit.then]); refine bodyPost_ret (results_none rfl _ _ _) rfl ?_)
    exact ⟨rfl, h1, h2, h3⟩
set_option maxHeartbeats 4000000 in
set_option maxRecDepth 100000 in
/-- slices.SortFunc over one to twelve offsets by compareOffsets. -/
theorem sortF_calls (n : Nat) (l : List S86) (hl : l.length = n) (hn : 1 ≤ n ∧ n ≤ 12) (P0 : Nat → Prop) (v : Value) (w0 w : World) (hB : Below w0.heap.size w0 w) (ho : Kd.R k86 86 w w0.heap.size P0 v l) :
    Calls Try.prog 69 #[v, .func (.func 70) #[] #[]] w fun e w' => e = .returned (.tuple #[]) ∧ Kd.R k86 86 w' w0.heap.size P0 v (isort befO zO n l) ∧ Below w0.heap.size w0 w' ∧ Kept w w' P0 := by
  obtain ⟨A, c, rfl⟩ := Kd.R_slice ho
  rw [hl] at ho ⊢
  have HL := Aside0.mk hl
  have HN := Aside0.mk hn
  have hw : ((n : Int) % 18446744073709551616) = (n : Int) := Int.emod_eq_of_lt (by omega) (Int.lt_of_le_of_lt (show (n : Int) ≤ 12 by omega) (by decide))
  clear hl hn
  go_enter Try.func69, Try.ntmps69
  go_wp2_with fail
  refine (len_calls n (by omega) (by have := HN.out; omega) _).mono ?_
  rintro e w1 ⟨q, rfl, rfl⟩
  go_wp2_with fail
  refine (pdqC_calls n l q HL.out HN.out P0 _ w0 w1 hB ho).mono ?_
  rintro e w2 ⟨rfl, h1, h2, h3⟩
  go_wp2_with fail
  first | go_end0 | ((try simp only [Exit.inBlock, Exit.then]); refine bodyPost_ret (results_none rfl _ _ _) rfl ?_)
  exact ⟨rfl, h1, h2, h3⟩
end Go.Proofs.Ytpndghkfbojokaa.OwnTurnSort
