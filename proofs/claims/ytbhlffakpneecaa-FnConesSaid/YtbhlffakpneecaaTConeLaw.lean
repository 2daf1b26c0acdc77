/- What the law FnCones asks, of the lists that its callees tell. -/
import Derived.Test.YtbhlffakpneecaaTBase
import Derived.Test.YtbhlffakpneecaaTMarks
import Derived.Test.YtbhlffakpneecaaTFold
import Derived.Test.YtbhlffakpneecaaTMFnConesx6
import Derived.Test.YtbhlffakpneecaaTMFnConesx6
import Derived.Test.YtbhlffakpneecaaTMFnConesx6
import Derived.Test.YtbhlffakpneecaaTMFnConesx6
import Derived.Test.YtbhlffakpneecaaTMFnConesx5
import Derived.Test.YtbhlffakpneecaaTMFnConesx6
import Derived.Test.YtbhlffakpneecaaTMFnConesx6
import Derived.Test.YtbhlffakpneecaaTMFnConesx7
import Derived.Test.YtbhlffakpneecaaTMFnConesx7
import Derived.Test.YtbhlffakpneecaaTMFnConesx7
import Derived.Test.YtbhlffakpneecaaTMFnConesx7
import Derived.Test.YtbhlffakpneecaaTMFnConesx7
import Derived.Test.YtbhlffakpneecaaTMFnConesx5
import Derived.Test.YtbhlffakpneecaaTMFnConesx5
import Derived.Test.YtbhlffakpneecaaTMFnConesx5
namespace Go.Proofs.Ytbhlffakpneecaa.ConeLaw
open Go.RowKit Go.Proofs.Ytbhlffakpneecaa.PFnCones Go.Proofs.YtbhlffakpneecaaW.PrintWords Go.Proofs.YtbhlffakpneecaaW.PrintLast Go.Proofs.YtbhlffakpneecaaW.PrintMore Go.Proofs.Ytbhlffakpneecaa.B
set_option linter.unusedVariables false
set_option linter.unusedSimpArgs false
theorem dTw:type_of% @decide_eq_true:=@decide_eq_true
theorem zLaw_0 {P:Prop} (h:P:=by rw [decide_eq_true_eq]; omega):P:=h
theorem l1In_eq (a b c : Int) : spec_l1In.f a b c = some (decide (b ≤ a ∧ a ≤ c)) := by
 unfold spec_l1In.f
 by_cases h : a ≥ b
 ·rw [if_pos h]; simp [show b ≤ a from h]
 ·rw [if_neg h]; simp [show ¬ b ≤ a from h]
theorem l1Rising_l0 (l : List Int) (hl : l.length ≤ maxLen) (n : Int) : ∀ (d i : Nat), i + d = l.length → Ev (fun k => spec_l1Rising.l0 k l 0 (n - 1) l (l.length : Int) (i : Int)) (allR (ascAt l n) i l.length) := by
 have hl := maxLen_le hl
 intro d
 induction d with
 | zero =>
  intro i hi
  exact Ev.step (fun k => spec_l1Rising.l0.eq_2 l 0 (n - 1) l l.length i k) (ev_neg (by omega) (ev_some (allR_end (by omega)).symm))
 | succ d ih =>
  intro i hi
  refine Ev.step (fun k => spec_l1Rising.l0.eq_2 l 0 (n - 1) l l.length i k) ?_
  rw [allR_step (by omega), w_succ (n := l.length) (by omega) (by omega), rd_nat]
  refine ev_pos (by omega) (ev_pos (by omega) (ev_pos (by omega) (ev_bindc (l1In_eq _ _ _) ?_)))
  refine ev_ite (fun h => ?_) (fun h => ?_)
  ·simp only [decide_eq_true_eq] at h
   refine ev_ite (fun h0 => ?_) (fun h0 => ?_)
   ·rw [w64 (x := (i : Int) - 1) (by omega) (by omega), show (i : Int) - 1 = ((i - 1 : Nat) : Int) by omega, rd_nat]
    refine ev_pos (by omega) (ev_pos (by omega) ?_)
    refine ev_ite (fun h1 => ?_) (fun h1 => ?_)
    ·refine ev_some ?_
     have : ascAt l n i = false := by unfold ascAt; simp only [decide_eq_false_iff_not]; intro hc; have := hc.2.2 (by omega); omega
     rw [this]; rfl
    ·have : ascAt l n i = true := by unfold ascAt; simp only [decide_eq_true_eq]; exact ⟨by omega, by omega, fun _ => by omega⟩
     rw [this]; exact ih (i + 1) (by omega)
   ·have : ascAt l n i = true := by unfold ascAt; simp only [decide_eq_true_eq]; exact ⟨by omega, by omega, fun _ => by omega⟩
    rw [this]; exact ih (i + 1) (by omega)
  ·refine ev_some ?_
   have : ascAt l n i = false := by
    unfold ascAt; simp only [decide_eq_true_eq] at h; simp only [decide_eq_false_iff_not]; intro hc; exact h ⟨hc.1, by omega⟩
   rw [this]; rfl
theorem l1Rising_ev (l : List Int) (hl : l.length ≤ maxLen) (n : Int) : Ev (fun k => spec_l1Rising.f k l 0 (n - 1)) (asc l n) := by
 unfold spec_l1Rising.f asc
 exact l1Rising_l0 l hl n l.length 0 (by omega)
theorem clArcs_l0 (a : List (List Int)) (hl : a.length ≤ maxLen) (hb : ∀ x ∈ a, x.length ≤ maxLen) : ∀ (d i : Nat), i + d = a.length →
  Ev (fun k => spec_clArcs.l0 k a a (a.length : Int) (i : Int)) (decide (1 ≤ a.length ∧ a.length ≤ 120) && allR (fun i => asc (a.getD i []) i) i a.length) := by
 have hl := maxLen_le hl
 intro d
 induction d with
 | zero =>
  intro i hi
  refine Ev.step (fun k => spec_clArcs.l0.eq_2 a a a.length i k) (ev_neg (by omega) (ev_bindc (l1In_eq _ _ _) (ev_some ?_)))
  rw [allR_end (by omega), Bool.and_true, decide_eq_decide]; omega
 | succ d ih =>
  intro i hi
  refine Ev.step (fun k => spec_clArcs.l0.eq_2 a a a.length i k) ?_
  have hx : rd_L5 a (i : Int) = a.getD i [] := by unfold rd_L5; rw [toNat_nat]
  have hmem : a.getD i [] ∈ a := by
   rw [List.getD_eq_getElem?_getD, List.getElem?_eq_getElem (by omega)]; exact List.getElem_mem _
  rw [allR_step (by omega), w_succ (n := a.length) (by omega) (by omega), hx, w64 (x := (i : Int) - 1) (by omega) (by omega)]
  refine ev_pos (by omega) (ev_pos (by omega) (ev_pos (by omega) (Ev.bind (l1Rising_ev _ (hb _ hmem) _) ?_)))
  refine ev_ite (fun h => ?_) (fun h => ?_)
  ·rw [h, Bool.true_and]; exact ih (i + 1) (by omega)
  ·rw [Bool.not_eq_true] at h; rw [h, Bool.false_and, Bool.and_false]; exact ev_some rfl
theorem clArcs_ev (a : List (List Int)) (hl : a.length ≤ maxLen) (hb : ∀ x ∈ a, x.length ≤ maxLen) : Ev (fun k => spec_clArcs.f k a) (arcsOk a) := by
 unfold spec_clArcs.f arcsOk
 exact clArcs_l0 a hl hb a.length 0 (by omega)
theorem clHas_ev (a : List (List Int)) (ha : a.length ≤ maxLen) (hb : ∀ x ∈ a, x.length ≤ maxLen) (i : Int) : Ev (fun k => spec_clHas.f k a i) (arcsOk a && decide (0 ≤ i ∧ i < a.length)) := by
 have ha' := maxLen_le ha
 unfold spec_clHas.f
 refine Ev.bind (clArcs_ev a ha hb) (ev_ite (fun h => ?_) (fun h => ?_))
 ·rw [h, Bool.true_and, w64 (x := (a.length : Int) - 1) (by omega) (by omega)]
  refine ev_bindc (l1In_eq _ _ _) (ev_some ?_)
  rw [decide_eq_decide]; omega
 ·rw [Bool.not_eq_true] at h; rw [h, Bool.false_and]; exact ev_some rfl
theorem rdB (m : List Bool) (x : Int) : rdOf false m x = at_ m x := rfl
theorem rdL1 (a : List (List Int)) (i : Nat) : rd_L5 a (i : Int) = a.getD i [] := by unfold rd_L5; rw [toNat_nat]
theorem rdL1' (a : List (List Int)) (x : Int) : rd_L5 a x = a.getD x.toNat [] := rfl
theorem clMarks_l0 (l : List Int) (hl : l.length ≤ maxLen) : ∀ (d i : Nat) (m : List Bool), i + d = l.length → (∀ x ∈ l, 0 ≤ x ∧ x < m.length) → Ev (fun k => spec_clMarks.l0 k m l (l.length : Int) (i : Int)) (foldR (setAt l) i l.length m) := by
 have hl := maxLen_le hl
 intro d
 induction d with
 | zero =>
  intro i m hi hm
  exact Ev.step (fun k => spec_clMarks.l0.eq_2 m l l.length i k) (ev_neg (by omega) (ev_some (foldR_end (by omega)).symm))
 | succ d ih =>
  intro i m hi hm
  refine Ev.step (fun k => spec_clMarks.l0.eq_2 m l l.length i k) ?_
  have hx := hm _ (getD_mem (z := 0) (show i < l.length by omega))
  rw [foldR_step (by omega), w_succ (n := l.length) (by omega) (by omega), rd_nat]
  refine ev_pos (by omega) (ev_pos (by omega) (ev_pos (by omega) (ev_pos (by omega) (ev_pos (by omega) ?_))))
  exact ih (i + 1) _ (by omega) (by intro x h; have := hm x h; simpa using this)
theorem clMarks_ev (n : Nat) (hn : n ≤ 1048576) (l : List Int) (hl : l.length ≤ maxLen) (h : ∀ x ∈ l, 0 ≤ x ∧ x < n) : Ev (fun k => spec_clMarks.f k (n : Int) l) (mk n l) := by
 unfold spec_clMarks.f mk setAll
 refine ev_pos (by omega) (ev_pos (by omega) ?_)
 rw [toNat_nat]
 exact clMarks_l0 l hl l.length 0 _ (by omega) (by simpa using h)
theorem clList_l0 (m : List Bool) (hm : m.length ≤ 1048576) : ∀ (d i : Nat), i + d = m.length → Ev (fun k => spec_clList.l0 k (foldR (putAt m) 0 i []) m (m.length : Int) (i : Int)) (listOf m) := by
 intro d
 induction d with
 | zero =>
  intro i hi
  obtain rfl : i = m.length := by omega
  exact Ev.step (fun k => spec_clList.l0.eq_2 _ m m.length m.length k) (ev_neg (by omega) (ev_some rfl))
 | succ d ih =>
  intro i hi
  have ih := ih (i + 1) (by omega)
  rw [foldR_last (Nat.zero_le _)] at ih
  have hlen := putAt_len (m := m) i
  refine Ev.step (fun k => spec_clList.l0.eq_2 _ m m.length i k) ?_
  rw [w_succ (n := m.length) (by omega) (by omega), rdB]
  unfold at_
  rw [toNat_nat]
  refine ev_pos (by omega) (ev_pos (by omega) (ev_pos (by omega) (ev_ite (fun h => ?_) (fun h => ?_))))
  ·rw [show putAt m (foldR (putAt m) 0 i []) i = foldR (putAt m) 0 i [] ++ [(i : Int)] from if_pos h] at ih
   exact ev_pos (by omega) ih
  ·rw [show putAt m (foldR (putAt m) 0 i []) i = foldR (putAt m) 0 i [] from if_neg h] at ih
   exact ih
theorem clList_ev (m : List Bool) (hm : m.length ≤ 1048576) : Ev (fun k => spec_clList.f k m) (listOf m) := by
 unfold spec_clList.f
 have := clList_l0 m hm m.length 0 (by omega)
 rwa [foldR_end (Nat.le_refl _)] at this
theorem clLeast_l1 (a : List (List Int)) (r : List Int) (hr : r.length ≤ 120) (i : Nat) (q : List Int) : ∀ (d j : Nat) (m : List Bool), j + d = r.length → (∀ x ∈ r, 0 ≤ x ∧ x < m.length) → Ev (fun k => spec_clLeast.l0 k a (foldR (setAt r) j r.length m) (wrap64 ((i : Int) - 1))) q →
  Ev (fun k => spec_clLeast.l1 k a m (i : Int) r (r.length : Int) (j : Int)) q := by
 intro d
 induction d with
 | zero =>
  intro j m hj hm hq
  rw [foldR_end (by omega)] at hq
  exact Ev.step (fun k => spec_clLeast.l1.eq_2 a m i r r.length j k) (ev_neg (by omega) hq)
 | succ d ih =>
  intro j m hj hm hq
  refine Ev.step (fun k => spec_clLeast.l1.eq_2 a m i r r.length j k) ?_
  have hx := hm _ (getD_mem (z := 0) (show j < r.length by omega))
  rw [foldR_step (by omega)] at hq
  rw [w_succ (n := r.length) (by omega) (by omega), rd_nat]
  refine ev_pos (by omega) (ev_pos (by omega) (ev_pos (by omega) (ev_pos (by omega) (ev_pos (by omega) ?_))))
  exact ih (j + 1) _ (by omega) (by intro x h; have := hm x h; simpa using this) hq
theorem clLeast_l0 (a : List (List Int)) (ha : Arcs a) : ∀ (i : Nat) (m : List Bool), i ≤ a.length → m.length = a.length → Ev (fun k => spec_clLeast.l0 k a m ((i : Int) - 1)) (listOf (cloD a i m)) := by
 have hle := ha.le
 intro i
 induction i with
 | zero =>
  intro m hi hm
  exact Ev.step (fun k => spec_clLeast.l0.eq_2 a m _ k) (ev_neg (by omega) (ev_id (clList_ev m (by omega))))
 | succ i ih =>
  intro m hi hm
  rw [show ((i + 1 : Nat) : Int) - 1 = (i : Int) by omega]
  have ihi := ih (cloStep a m i) (by omega) (by rw [cloStep_len]; exact hm)
  rw [cloD]
  refine Ev.step (fun k => spec_clLeast.l0.eq_2 a m i k) ?_
  rw [rdB, rdL1]
  unfold at_
  rw [toNat_nat]
  refine ev_pos (by omega) (ev_pos (by omega) (ev_pos (by omega) (ev_ite (fun h => ?_) (fun h => ?_))))
  ·rw [show cloStep a m i = setAll m (a.getD i []) from if_pos h] at ihi ⊢
   refine ev_pos (by omega) (clLeast_l1 a _ (ha.len i) i _ (a.getD i []).length 0 m (by omega) (fun x hx => by have := ha.down hx; omega) ?_)
   rw [w64 (x := (i : Int) - 1) (by omega) (by omega)]
   exact ihi
  ·rw [show cloStep a m i = m from if_neg h] at ihi ⊢
   rw [w64 (x := (i : Int) - 1) (by omega) (by omega)]
   exact ihi
theorem clLeast_ev (a : List (List Int)) (ha : Arcs a) (l : List Int) (hl : l.length ≤ 1048576) (h : ∀ x ∈ l, 0 ≤ x ∧ x < a.length) : Ev (fun k => spec_clLeast.f k a l) (listOf (clo a (mk a.length l))) := by
 have hle := ha.le
 unfold spec_clLeast.f clo
 refine Ev.bind (clMarks_ev a.length (by omega) l (maxLen_val (by omega)) h) ?_
 rw [w64 (by omega) (by omega)]
 exact clLeast_l0 a ha a.length _ (Nat.le_refl _) mk_len
theorem areBlocks_l0 (l : List Int) (hl : l.length ≤ maxLen) (n : Int) : ∀ (d i : Nat), i + d = l.length → Ev (fun k => impl_areBlocks.l0 k l n l (l.length : Int) (i : Int)) (allR (ascAt l n) i l.length) := by
 have hl := maxLen_le hl
 intro d
 induction d with
 | zero =>
  intro i hi
  exact Ev.step (fun k => impl_areBlocks.l0.eq_2 l n l l.length i k) (ev_neg (by omega) (ev_some (allR_end (by omega)).symm))
 | succ d ih =>
  intro i hi
  refine Ev.step (fun k => impl_areBlocks.l0.eq_2 l n l l.length i k) ?_
  rw [allR_step (by omega), w_succ (n := l.length) (by omega) (by omega), rd_nat]
  refine ev_pos (by omega) (ev_pos (by omega) (ev_pos (by omega) ?_))
  have no : ¬ (0 ≤ l.getD i 0 ∧ l.getD i 0 < n ∧ (0 < i → l.getD (i - 1) 0 < l.getD i 0)) → false = (ascAt l n i && allR (ascAt l n) (i + 1) l.length) := by
   intro h
   have : ascAt l n i = false := by unfold ascAt; simp only [decide_eq_false_iff_not]; exact h
   rw [this]; rfl
  have yes : (0 ≤ l.getD i 0 ∧ l.getD i 0 < n ∧ (0 < i → l.getD (i - 1) 0 < l.getD i 0)) → Ev (fun k => impl_areBlocks.l0 k l n l (l.length : Int) ((i + 1 : Nat) : Int)) (ascAt l n i && allR (ascAt l n) (i + 1) l.length) := by
   intro h
   have : ascAt l n i = true := by unfold ascAt; simp only [decide_eq_true_eq]; exact h
   rw [this]; exact ih (i + 1) (by omega)
  refine ev_ite (fun h => ev_some (no (by omega))) (fun h => ?_)
  refine ev_ite (fun h1 => ev_some (no (by omega))) (fun h1 => ?_)
  refine ev_ite (fun h0 => ?_) (fun h0 => yes ⟨by omega, by omega, fun _ => by omega⟩)
  rw [w64 (x := (i : Int) - 1) (by omega) (by omega), show (i : Int) - 1 = ((i - 1 : Nat) : Int) by omega, rd_nat]
  refine ev_pos (by omega) (ev_pos (by omega) ?_)
  refine ev_ite (fun h2 => ev_some (no (fun hc => by have := hc.2.2 (by omega); omega))) (fun h2 => yes ⟨by omega, by omega, fun _ => by omega⟩)
theorem areBlocks_ev (l : List Int) (hl : l.length ≤ maxLen) (n : Int) : Ev (fun k => impl_areBlocks.f k l n) (asc l n) := by
 unfold impl_areBlocks.f asc
 exact areBlocks_l0 l hl n l.length 0 (by omega)
theorem AreArcs_l0 (a : List (List Int)) (hl : a.length ≤ maxLen) (hb : ∀ x ∈ a, x.length ≤ maxLen) : ∀ (d i : Nat), i + d = a.length →
  Ev (fun k => impl_AreArcs.l0 k a (a.length : Int) (i : Int)) (allR (fun i => asc (a.getD i []) i) i a.length) := by
 have hl := maxLen_le hl
 intro d
 induction d with
 | zero =>
  intro i hi
  exact Ev.step (fun k => impl_AreArcs.l0.eq_2 a a.length i k) (ev_neg (by omega) (ev_some (allR_end (by omega)).symm))
 | succ d ih =>
  intro i hi
  refine Ev.step (fun k => impl_AreArcs.l0.eq_2 a a.length i k) ?_
  have hx : rd_L5 a (i : Int) = a.getD i [] := by unfold rd_L5; rw [toNat_nat]
  have hmem : a.getD i [] ∈ a := by
   rw [List.getD_eq_getElem?_getD, List.getElem?_eq_getElem (by omega)]; exact List.getElem_mem _
  rw [allR_step (by omega), w_succ (n := a.length) (by omega) (by omega), hx]
  refine ev_pos (by omega) (ev_pos (by omega) (ev_pos (by omega) (Ev.bind (areBlocks_ev _ (hb _ hmem) _) ?_)))
  refine ev_ite (fun h => ?_) (fun h => ?_)
  ·rw [h, Bool.true_and]; exact ih (i + 1) (by omega)
  ·rw [Bool.not_eq_true] at h; rw [h, Bool.false_and]; exact ev_some rfl
theorem AreArcs_ev (a : List (List Int)) (hl : a.length ≤ maxLen) (hb : ∀ x ∈ a, x.length ≤ maxLen) : Ev (fun k => impl_AreArcs.f k a) (arcsOk a) := by
 unfold impl_AreArcs.f arcsOk
 refine ev_ite (fun h => ?_) (fun h => ?_)
 ·refine Ev.step (fun k => impl_AreArcs.j0.eq_2 a true k) (ev_pos rfl (ev_some ?_))
  rw [decide_eq_false (by omega), Bool.false_and]
 ·refine Ev.step (fun k => impl_AreArcs.j0.eq_2 a _ k) (ev_ite (fun h1 => ev_some ?_) (fun h1 => ?_))
  ·simp only [decide_eq_true_eq] at h1
   rw [decide_eq_false (by omega), Bool.false_and]
  ·simp only [decide_eq_true_eq] at h1
   rw [dTw (by omega), Bool.true_and]; exact AreArcs_l0 a hl hb a.length 0 (by omega)
theorem markOf_l0 (l : List Int) (hl : l.length ≤ maxLen) : ∀ (d i : Nat) (m : List Bool), i + d = l.length → (∀ x ∈ l, 0 ≤ x ∧ x < m.length) → Ev (fun k => impl_markOf.l0 k m l (l.length : Int) (i : Int)) (foldR (setAt l) i l.length m) := by
 have hl := maxLen_le hl
 intro d
 induction d with
 | zero =>
  intro i m hi hm
  exact Ev.step (fun k => impl_markOf.l0.eq_2 m l l.length i k) (ev_neg (by omega) (ev_some (foldR_end (by omega)).symm))
 | succ d ih =>
  intro i m hi hm
  refine Ev.step (fun k => impl_markOf.l0.eq_2 m l l.length i k) ?_
  have hx := hm _ (getD_mem (z := 0) (show i < l.length by omega))
  rw [foldR_step (by omega), w_succ (n := l.length) (by omega) (by omega), rd_nat]
  refine ev_pos (by omega) (ev_pos (by omega) (ev_pos (by omega) (ev_pos (by omega) (ev_pos (by omega) ?_))))
  exact ih (i + 1) _ (by omega) (by intro x h; have := hm x h; simpa using this)
theorem markOf_ev (n : Nat) (hn : n ≤ 1048576) (l : List Int) (hl : l.length ≤ maxLen) (h : ∀ x ∈ l, 0 ≤ x ∧ x < n) : Ev (fun k => impl_markOf.f k (n : Int) l) (mk n l) := by
 unfold impl_markOf.f mk setAll
 refine ev_pos (by omega) (ev_pos (by omega) ?_)
 rw [toNat_nat]
 exact markOf_l0 l hl l.length 0 _ (by omega) (by simpa using h)
theorem closureOf_l1 (a : List (List Int)) (r : List Int) (hr : r.length ≤ 120) (i : Nat) (q : List Bool) : ∀ (d j : Nat) (m : List Bool), j + d = r.length → (∀ x ∈ r, 0 ≤ x ∧ x < m.length) → Ev (fun k => impl_closureOf.l0 k a (foldR (setAt r) j r.length m) (wrap64 ((i : Int) - 1))) q →
  Ev (fun k => impl_closureOf.l1 k a m (i : Int) r (r.length : Int) (j : Int)) q := by
 intro d
 induction d with
 | zero =>
  intro j m hj hm hq
  rw [foldR_end (by omega)] at hq
  exact Ev.step (fun k => impl_closureOf.l1.eq_2 a m i r r.length j k) (ev_neg (by omega) hq)
 | succ d ih =>
  intro j m hj hm hq
  refine Ev.step (fun k => impl_closureOf.l1.eq_2 a m i r r.length j k) ?_
  have hx := hm _ (getD_mem (z := 0) (show j < r.length by omega))
  rw [foldR_step (by omega)] at hq
  rw [w_succ (n := r.length) (by omega) (by omega), rd_nat]
  refine ev_pos (by omega) (ev_pos (by omega) (ev_pos (by omega) (ev_pos (by omega) (ev_pos (by omega) ?_))))
  exact ih (j + 1) _ (by omega) (by intro x h; have := hm x h; simpa using this) hq
theorem closureOf_l0 (a : List (List Int)) (ha : Arcs a) : ∀ (i : Nat) (m : List Bool), i ≤ a.length → m.length = a.length → Ev (fun k => impl_closureOf.l0 k a m ((i : Int) - 1)) (cloD a i m) := by
 have hle := ha.le
 intro i
 induction i with
 | zero =>
  intro m hi hm
  exact Ev.step (fun k => impl_closureOf.l0.eq_2 a m _ k) (ev_neg (by omega) (ev_some rfl))
 | succ i ih =>
  intro m hi hm
  rw [show ((i + 1 : Nat) : Int) - 1 = (i : Int) by omega]
  have ihi := ih (cloStep a m i) (by omega) (by rw [cloStep_len]; exact hm)
  rw [cloD]
  refine Ev.step (fun k => impl_closureOf.l0.eq_2 a m i k) ?_
  rw [rdB, rdL1]
  unfold at_
  rw [toNat_nat]
  refine ev_pos (by omega) (ev_pos (by omega) (ev_pos (by omega) (ev_ite (fun h => ?_) (fun h => ?_))))
  ·rw [show cloStep a m i = setAll m (a.getD i []) from if_pos h] at ihi ⊢
   refine ev_pos (by omega) (closureOf_l1 a _ (ha.len i) i _ (a.getD i []).length 0 m (by omega) (fun x hx => by have := ha.down hx; omega) ?_)
   rw [w64 (x := (i : Int) - 1) (by omega) (by omega)]
   exact ihi
  ·rw [show cloStep a m i = m from if_neg h] at ihi ⊢
   rw [w64 (x := (i : Int) - 1) (by omega) (by omega)]
   exact ihi
theorem closureOf_ev (a : List (List Int)) (ha : Arcs a) (l : List Int) (hl : l.length ≤ 1048576) (h : ∀ x ∈ l, 0 ≤ x ∧ x < a.length) : Ev (fun k => impl_closureOf.f k a l) (clo a (mk a.length l)) := by
 have hle := ha.le
 unfold impl_closureOf.f clo
 refine Ev.bind (markOf_ev a.length (by omega) l (maxLen_val (by omega)) h) ?_
 rw [w64 (by omega) (by omega)]
 exact closureOf_l0 a ha a.length _ (Nat.le_refl _) mk_len
theorem listOf_l0 (m : List Bool) (hm : m.length ≤ 1048576) : ∀ (d i : Nat), i + d = m.length → Ev (fun k => impl_listOf.l0 k (foldR (putAt m) 0 i []) m (m.length : Int) (i : Int)) (listOf m) := by
 intro d
 induction d with
 | zero =>
  intro i hi
  obtain rfl : i = m.length := by omega
  exact Ev.step (fun k => impl_listOf.l0.eq_2 _ m m.length m.length k) (ev_neg (by omega) (ev_some rfl))
 | succ d ih =>
  intro i hi
  have ih := ih (i + 1) (by omega)
  rw [foldR_last (Nat.zero_le _)] at ih
  have hlen := putAt_len (m := m) i
  refine Ev.step (fun k => impl_listOf.l0.eq_2 _ m m.length i k) ?_
  rw [w_succ (n := m.length) (by omega) (by omega), rdB]
  unfold at_
  rw [toNat_nat]
  refine ev_pos (by omega) (ev_pos (by omega) (ev_pos (by omega) (ev_ite (fun h => ?_) (fun h => ?_))))
  ·rw [show putAt m (foldR (putAt m) 0 i []) i = foldR (putAt m) 0 i [] ++ [(i : Int)] from if_pos h] at ih
   exact ev_pos (by omega) ih
  ·rw [show putAt m (foldR (putAt m) 0 i []) i = foldR (putAt m) 0 i [] from if_neg h] at ih
   exact ih
theorem listOf_ev (m : List Bool) (hm : m.length ≤ 1048576) : Ev (fun k => impl_listOf.f k m) (listOf m) := by
 unfold impl_listOf.f
 have := listOf_l0 m hm m.length 0 (by omega)
 rwa [foldR_end (Nat.le_refl _)] at this
theorem allIn_l0 (m : List Bool) (l : List Int) (hl : l.length ≤ maxLen) (hm : ∀ x ∈ l, 0 ≤ x ∧ x < m.length) : ∀ (d i : Nat), i + d = l.length → Ev (fun k => impl_allIn.l0 k m l (l.length : Int) (i : Int)) (allR (inAt m l) i l.length) := by
 have hl := maxLen_le hl
 intro d
 induction d with
 | zero =>
  intro i hi
  exact Ev.step (fun k => impl_allIn.l0.eq_2 m l l.length i k) (ev_neg (by omega) (ev_some (allR_end (by omega)).symm))
 | succ d ih =>
  intro i hi
  refine Ev.step (fun k => impl_allIn.l0.eq_2 m l l.length i k) ?_
  have hx := hm _ (getD_mem (z := 0) (show i < l.length by omega))
  rw [allR_step (by omega), w_succ (n := l.length) (by omega) (by omega), rd_nat, rdB]
  refine ev_pos (by omega) (ev_pos (by omega) (ev_pos (by omega) (ev_pos (by omega) (ev_pos (by omega) ?_))))
  refine ev_ite (fun h => ?_) (fun h => ?_)
  ·rw [show inAt m l i = true from h, Bool.true_and]; exact ih (i + 1) (by omega)
  ·rw [Bool.not_eq_true] at h; rw [show inAt m l i = false from h, Bool.false_and]; exact ev_some rfl
theorem allIn_ev (m : List Bool) (l : List Int) (hl : l.length ≤ maxLen) (hm : ∀ x ∈ l, 0 ≤ x ∧ x < m.length) : Ev (fun k => impl_allIn.f k m l) (allIn m l) := by
 unfold impl_allIn.f allIn
 exact allIn_l0 m l hl hm l.length 0 (by omega)
theorem isClosure_l0 (a : List (List Int)) (ha : Arcs a) (m : List Bool) (hm : m.length = a.length) (l : List Int) (hl : asc l a.length = true) : ∀ (d i : Nat), i + d = l.length → Ev (fun k => impl_isClosure.l0 k a m l (l.length : Int) (i : Int)) (allR (cloAt a m l) i l.length) := by
 have h1 := asc_len hl
 have h2 := ha.le
 intro d
 induction d with
 | zero =>
  intro i hi
  exact Ev.step (fun k => impl_isClosure.l0.eq_2 a m l l.length i k) (ev_neg (by omega) (ev_some (allR_end (by omega)).symm))
 | succ d ih =>
  intro i hi
  refine Ev.step (fun k => impl_isClosure.l0.eq_2 a m l l.length i k) ?_
  have hx := asc_at hl (show i < l.length by omega)
  rw [allR_step (by omega), w_succ (n := l.length) (by omega) (by omega), rd_nat, rdL1']
  refine ev_pos (by omega) (ev_pos (by omega) (ev_pos (by omega) (ev_pos (by omega) (ev_pos (by omega) ?_))))
  have hlen := ha.len (l.getD i 0).toNat
  refine Ev.bind (allIn_ev m _ (maxLen_val (by omega)) (fun x hx => by have := ha.down hx; omega)) ?_
  refine ev_ite (fun h => ?_) (fun h => ?_)
  ·rw [show cloAt a m l i = true from h, Bool.true_and]; exact ih (i + 1) (by omega)
  ·rw [Bool.not_eq_true] at h; rw [show cloAt a m l i = false from h, Bool.false_and]; exact ev_some rfl
theorem isClosure_ev (a : List (List Int)) (ha : Arcs a) (l : List Int) (hl : asc l a.length = true) : Ev (fun k => impl_isClosure.f k a l) (isClo a l) := by
 have h1 := asc_len hl
 have h2 := ha.le
 unfold impl_isClosure.f isClo
 exact Ev.bind (markOf_ev a.length (by omega) l (maxLen_val (by omega)) (fun x hx => asc_mem hl hx)) (isClosure_l0 a ha _ mk_len l hl l.length 0 (by omega))
theorem sBelow_l1 (a : List (List Int)) (n : Int) (m : List Bool) (i : Nat) (hi : i < m.length) (r : List Int) (hr : r.length ≤ 120) (hm : ∀ x ∈ r, 0 ≤ x ∧ x < i) (q : List Int × Bool) : ∀ (d j : Nat) (b : Bool), j + d = r.length → Ev (fun k => spec_BelowOf.l0 k (m.set i (b || anyR (inAt m r) j r.length)) a n (wrap64 ((i : Int) + 1))) q →
  Ev (fun k => spec_BelowOf.l1 k (m.set i b) (i : Int) a n (i : Int) r (r.length : Int) (j : Int)) q := by
 intro d
 induction d with
 | zero =>
  intro j b hj hq
  rw [anyR_end (by omega), Bool.or_false] at hq
  exact Ev.step (fun k => spec_BelowOf.l1.eq_2 (m.set i b) i a n i r r.length j k) (ev_neg (by omega) hq)
 | succ d ih =>
  intro j b hj hq
  refine Ev.step (fun k => spec_BelowOf.l1.eq_2 (m.set i b) i a n i r r.length j k) ?_
  have hx := hm _ (getD_mem (z := 0) (show j < r.length by omega))
  rw [anyR_step (by omega)] at hq
  rw [w_succ (n := r.length) (by omega) (by omega), rd_nat, rdB, rdB, at_set_eq hi, toNat_nat, List.set_set, List.set_set, List.length_set, at_set_ne (by omega)]
  refine ev_pos (by omega) (ev_pos (by omega) (ev_pos (by omega) (ev_pos (by omega) (ev_pos (by omega) ?_))))
  cases b with
  | true =>
   refine ev_pos rfl (ih (j + 1) true (by omega) ?_)
   rw [Bool.true_or] at hq ⊢; exact hq
  | false =>
   refine ev_neg (by simp) (ev_pos (by omega) (ev_pos (by omega) (ih (j + 1) _ (by omega) ?_)))
   rw [Bool.false_or] at hq; exact hq
theorem sBelow_l0 (a : List (List Int)) (ha : Arcs a) : ∀ (d i : Nat) (m : List Bool), i + d = a.length → m.length = a.length → Ev (fun k => spec_BelowOf.l0 k m a (a.length : Int) (i : Int)) (listOf (foldR (belStep a) i a.length m), true) := by
 have hle := ha.le
 intro d
 induction d with
 | zero =>
  intro i m hi hm
  refine Ev.step (fun k => spec_BelowOf.l0.eq_2 m a a.length i k) (ev_neg (by omega) ?_)
  rw [foldR_end (by omega)]
  exact Ev.bind (clList_ev m (by omega)) (ev_some rfl)
 | succ d ih =>
  intro i m hi hm
  have ihi := ih (i + 1) (belStep a m i) (by omega) (by unfold belStep; rw [List.length_set]; exact hm)
  rw [← foldR_step (by omega)] at ihi
  refine Ev.step (fun k => spec_BelowOf.l0.eq_2 m a a.length i k) ?_
  rw [rdL1]
  refine ev_pos (by omega) (ev_pos (by omega) (ev_pos (by omega) ?_))
  have := sBelow_l1 a a.length m i (by omega) (a.getD i []) (ha.len i) (fun x hx => ha.down hx) (listOf (foldR (belStep a) i a.length m), true) (a.getD i []).length 0 (m.getD i false) (by omega) (by
   rw [w_succ (n := a.length) (by omega) (by omega)]; exact ihi)
  rw [set_self] at this
  exact this
theorem belowOf_l1 (a : List (List Int)) (m : List Bool) (i : Nat) (hi : i < m.length) (r : List Int) (hr : r.length ≤ 120) (hm : ∀ x ∈ r, 0 ≤ x ∧ x < i) (q : List Bool) : ∀ (d j : Nat) (b : Bool), j + d = r.length → Ev (fun k => impl_belowOf.l0 k a (m.set i (b || anyR (inAt m r) j r.length)) (wrap64 ((i : Int) + 1))) q →
  Ev (fun k => impl_belowOf.l1 k a (m.set i b) (i : Int) r (r.length : Int) (j : Int)) q := by
 intro d
 induction d with
 | zero =>
  intro j b hj hq
  rw [anyR_end (by omega), Bool.or_false] at hq
  exact Ev.step (fun k => impl_belowOf.l1.eq_2 a (m.set i b) i r r.length j k) (ev_neg (by omega) hq)
 | succ d ih =>
  intro j b hj hq
  refine Ev.step (fun k => impl_belowOf.l1.eq_2 a (m.set i b) i r r.length j k) ?_
  have hx := hm _ (getD_mem (z := 0) (show j < r.length by omega))
  rw [anyR_step (by omega)] at hq
  rw [w_succ (n := r.length) (by omega) (by omega), rd_nat, rdB, rdB, at_set_eq hi, toNat_nat, List.set_set, List.set_set, List.length_set, at_set_ne (by omega)]
  refine ev_pos (by omega) (ev_pos (by omega) (ev_pos (by omega) (ev_pos (by omega) (ev_pos (by omega) ?_))))
  cases b with
  | true =>
   refine ev_pos rfl (ih (j + 1) true (by omega) ?_)
   rw [Bool.true_or] at hq ⊢; exact hq
  | false =>
   refine ev_neg (by simp) (ev_pos (by omega) (ev_pos (by omega) (ih (j + 1) _ (by omega) ?_)))
   rw [Bool.false_or] at hq; exact hq
theorem belowOf_l0 (a : List (List Int)) (ha : Arcs a) : ∀ (d i : Nat) (m : List Bool), i + d = a.length → m.length = a.length → Ev (fun k => impl_belowOf.l0 k a m (i : Int)) (foldR (belStep a) i a.length m) := by
 have hle := ha.le
 intro d
 induction d with
 | zero =>
  intro i m hi hm
  exact Ev.step (fun k => impl_belowOf.l0.eq_2 a m i k) (ev_neg (by omega) (ev_some (foldR_end (by omega)).symm))
 | succ d ih =>
  intro i m hi hm
  have ihi := ih (i + 1) (belStep a m i) (by omega) (by unfold belStep; rw [List.length_set]; exact hm)
  rw [← foldR_step (by omega)] at ihi
  refine Ev.step (fun k => impl_belowOf.l0.eq_2 a m i k) ?_
  rw [rdL1]
  refine ev_pos (by omega) (ev_pos (by omega) ?_)
  have := belowOf_l1 a m i (by omega) (a.getD i []) (ha.len i) (fun x hx => ha.down hx) (foldR (belStep a) i a.length m) (a.getD i []).length 0 (m.getD i false) (by omega) (by
   rw [w_succ (n := a.length) (by omega) (by omega)]; exact ihi)
  rw [set_self] at this
  exact this
theorem belowOf_ev (a : List (List Int)) (ha : Arcs a) (i : Nat) (hi : i < a.length) : Ev (fun k => impl_belowOf.f k a (i : Int)) (foldR (belStep a) 0 a.length (mk a.length [(i : Int)])) := by
 have hle := ha.le
 unfold impl_belowOf.f
 refine Ev.bind (markOf_ev a.length (by omega) [(i : Int)] (maxLen_val (by simp)) (fun x hx => by rw [List.mem_singleton] at hx; omega)) ?_
 rw [w_succ (n := a.length) (by omega) (by omega), foldR_split (j := i + 1) (by omega) (by omega), bel_skip ha i hi]
 exact belowOf_l0 a ha (a.length - (i + 1)) (i + 1) _ (by omega) mk_len
def orM (m c : List Bool) : List Bool := foldR (fun (m : List Bool) (j : Nat) => m.set j (m.getD j false || c.getD j false)) 0 c.length m
theorem orM_fold (m c : List Bool) (n : Nat) : (foldR (fun (m : List Bool) (j : Nat) => m.set j (m.getD j false || c.getD j false)) 0 n m).length = m.length ∧ ∀ j, (foldR (fun (m : List Bool) (j : Nat) => m.set j (m.getD j false || c.getD j false)) 0 n m).getD j false = true ↔ m.getD j false = true ∨ (j < n ∧ j < m.length ∧ c.getD j false = true) := by
 induction n with
 | zero => rw [foldR_end (Nat.le_refl _)]; exact ⟨rfl, fun j => by simp⟩
 | succ n ih =>
  obtain ⟨h1, h2⟩ := ih
  rw [foldR_last (Nat.zero_le _)]
  generalize foldR (fun (m : List Bool) (j : Nat) => m.set j (m.getD j false || c.getD j false)) 0 n m = t at h1 h2 ⊢
  refine ⟨by rw [List.length_set]; exact h1, fun j => ?_⟩
  rw [getD_set]
  by_cases e : n = j
  ·subst e
   by_cases hn : n < t.length
   ·rw [if_pos ⟨rfl, hn⟩, Bool.or_eq_true, h2]
    constructor
    ·rintro ((h | ⟨h, _⟩) | h)
     ·exact .inl h
     ·omega
     ·exact .inr ⟨by omega, by omega, h⟩
    ·rintro (h | ⟨_, _, h⟩)
     ·exact .inl (.inl h)
     ·exact .inr h
   ·rw [if_neg (by omega), h2]
    constructor
    ·rintro (h | ⟨h, _⟩)
     ·exact .inl h
     ·omega
    ·rintro (h | ⟨_, h, _⟩)
     ·exact .inl h
     ·omega
  ·rw [if_neg (by omega), h2]
   constructor
   ·rintro (h | ⟨h, h', h''⟩)
    ·exact .inl h
    ·exact .inr ⟨by omega, h', h''⟩
   ·rintro (h | ⟨h, h', h''⟩)
    ·exact .inl h
    ·exact .inr ⟨by omega, h', h''⟩
theorem orM_len (m c : List Bool) : (orM m c).length = m.length := (orM_fold m c c.length).1
theorem orM_at (m c : List Bool) (h : c.length = m.length) (j : Nat) : (orM m c).getD j false = true ↔ m.getD j false = true ∨ c.getD j false = true := by
 unfold orM
 rw [(orM_fold m c c.length).2]
 constructor
 ·rintro (h1 | ⟨_, _, h1⟩)
  ·exact .inl h1
  ·exact .inr h1
 ·rintro (h1 | h1)
  ·exact .inl h1
  ·by_cases hj : j < c.length
   ·exact .inr ⟨hj, by omega, h1⟩
   ·rw [getD_none (by omega)] at h1; cases h1
/-- what lies behind the elements of a row -/
def behStep (a : List (List Int)) (l : List Int) (m : List Bool) (j : Nat) : List Bool := orM m (clo a (mk a.length (a.getD (l.getD j 0).toNat [])))
def behM (a : List (List Int)) (l : List Int) : List Bool := foldR (behStep a l) 0 l.length (List.replicate a.length false)
theorem behStep_at {a : List (List Int)} (ha : Arcs a) {l : List Int} (hl : ∀ x ∈ l, 0 ≤ x ∧ x < a.length) (n : Nat) (hn : n ≤ l.length) :
  (foldR (behStep a l) 0 n (List.replicate a.length false)).length = a.length ∧ ∀ j : Nat, (foldR (behStep a l) 0 n (List.replicate a.length false)).getD j false = true ↔ ∃ i, i < n ∧ ∃ s : Nat, (s : Int) ∈ a.getD (l.getD i 0).toNat [] ∧ Up a s j := by
 induction n with
 | zero =>
  rw [foldR_end (Nat.le_refl _)]
  refine ⟨by simp, fun j => ?_⟩
  constructor
  ·intro h
   by_cases hj : j < a.length
   ·rw [getD_replicate hj] at h; cases h
   ·rw [getD_none (by simp; omega)] at h; cases h
  ·rintro ⟨i, hi, _⟩; omega
 | succ n ih =>
  obtain ⟨h1, h2⟩ := ih (by omega)
  rw [foldR_last (Nat.zero_le _)]
  generalize foldR (behStep a l) 0 n (List.replicate a.length false) = t at h1 h2 ⊢
  unfold behStep
  have hx := hl _ (getD_mem (z := 0) (show n < l.length by omega))
  have hrow : ∀ x ∈ a.getD (l.getD n 0).toNat [], 0 ≤ x ∧ x < a.length := fun x hx' => by have := ha.down hx'; omega
  refine ⟨by rw [orM_len]; exact h1, fun j => ?_⟩
  rw [orM_at _ _ (by rw [clo_len, mk_len]; exact h1.symm), h2, clo_at ha mk_len]
  constructor
  ·rintro (⟨i, hi, h⟩ | ⟨s, hs, hu⟩)
   ·exact ⟨i, by omega, h⟩
   ·exact ⟨n, by omega, s, (mk_at hrow s).1 hs, hu⟩
  ·rintro ⟨i, hi, s, hs, hu⟩
   by_cases e : i = n
   ·subst e; exact .inr ⟨s, (mk_at hrow s).2 hs, hu⟩
   ·exact .inl ⟨i, by omega, s, hs, hu⟩
def redRow (a : List (List Int)) (l : List Int) : List Int := l.filter (fun x => !(at_ (behM a l) x))
def ndlAt (a : List (List Int)) (l : List Int) (k : Int) (j : Nat) : Bool := decide (l.getD j 0 > k) && decide (k ∈ listOf (clo a (mk a.length [l.getD j 0])))
def ndl (a : List (List Int)) (l : List Int) (k : Int) : Bool := anyR (ndlAt a l k) 0 l.length
theorem ndl_eq {a : List (List Int)} (ha : Arcs a) {l : List Int} (hl : ∀ x ∈ l, 0 ≤ x ∧ x < a.length) {k : Int} (hk : k ∈ l) : ndl a l k = at_ (behM a l) k := by
 have hk0 := hl k hk
 rw [Bool.eq_iff_iff]
 unfold ndl
 rw [anyR_iff]
 unfold at_ behM
 rw [(behStep_at ha hl l.length (Nat.le_refl _)).2]
 have hc : ∀ j, j < l.length → (k ∈ listOf (clo a (mk a.length [l.getD j 0])) ↔ Up a (l.getD j 0).toNat k.toNat) := by
  intro j hj
  have hx := hl _ (getD_mem (z := 0) hj)
  rw [listOf_mem]
  unfold at_
  rw [clo_at ha mk_len]
  constructor
  ·rintro ⟨_, s, hs, hu⟩
   rw [mk_at (fun x hx' => by rw [List.mem_singleton] at hx'; subst hx'; exact hx), List.mem_singleton] at hs
   have e : s = (l.getD j 0).toNat := by omega
   rw [← e]; exact hu
  ·intro hu
   refine ⟨hk0.1, _, ?_, hu⟩
   rw [mk_at (fun x hx' => by rw [List.mem_singleton] at hx'; subst hx'; exact hx), List.mem_singleton]
   omega
 constructor
 ·rintro ⟨j, _, hj, h⟩
  unfold ndlAt at h
  rw [Bool.and_eq_true, decide_eq_true_eq, decide_eq_true_eq] at h
  have hu := (hc j hj).1 h.2
  have hx := hl _ (getD_mem (z := 0) hj)
  generalize hb : (l.getD j 0).toNat = b at hu
  generalize hq : k.toNat = q at hu
  cases hu with
  | refl => omega
  | step h3 h4 => exact ⟨j, hj, _, by rw [hb]; exact h3, h4⟩
 ·rintro ⟨j, hj, s, hs, hu⟩
  have hx := hl _ (getD_mem (z := 0) hj)
  refine ⟨j, Nat.zero_le _, hj, ?_⟩
  unfold ndlAt
  rw [Bool.and_eq_true, decide_eq_true_eq, decide_eq_true_eq]
  have h1 := (ha.down hs).2
  have h2 := hu.le ha
  exact ⟨by omega, (hc j hj).2 (.step hs hu)⟩
theorem redRow_eq {a : List (List Int)} (ha : Arcs a) {l : List Int} (hl : ∀ x ∈ l, 0 ≤ x ∧ x < a.length) : l.filter (fun x => !(ndl a l x)) = redRow a l := by
 unfold redRow
 refine List.filter_congr (fun x hx => ?_)
 rw [ndl_eq ha hl hx]
def redL (a : List (List Int)) : List (List Int) := a.map (redRow a)
theorem redL_len (a : List (List Int)) : (redL a).length = a.length := by unfold redL; rw [List.length_map]
theorem redL_at (a : List (List Int)) (i : Nat) (h : i < a.length) : (redL a).getD i [] = redRow a (a.getD i []) := by
 unfold redL; simp [List.getD_eq_getElem?_getD, h]
theorem redRow_len (a : List (List Int)) (l : List Int) : (redRow a l).length ≤ l.length := List.length_filter_le _ _
theorem take_map_snoc {a : List (List Int)} (i : Nat) (h : i < a.length) : (redL a).take i ++ [redRow a (a.getD i [])] = (redL a).take (i + 1) := by
 rw [List.take_succ_eq_append_getElem (by rw [redL_len]; exact h)]
 have := redL_at a i h
 rw [List.getD_eq_getElem?_getD, List.getElem?_eq_getElem (by rw [redL_len]; exact h)] at this
 simp only [Option.getD_some] at this
 rw [this]
theorem redRow_mem {a : List (List Int)} {l : List Int} {x : Int} : x ∈ redRow a l ↔ x ∈ l ∧ at_ (behM a l) x = false := by
 unfold redRow
 rw [List.mem_filter, Bool.not_eq_true']
theorem row_kept {a : List (List Int)} (ha : Arcs a) (i : Nat) : ∀ (d k : Nat), k + d = i → (k : Int) ∈ a.getD i [] → ∃ q : Nat, (q : Int) ∈ redRow a (a.getD i []) ∧ Up a q k := by
 intro d
 induction d using Nat.strongRecOn with
 | _ d ih =>
  intro k hk hm
  by_cases hi : i < a.length
  ·have hrow : ∀ x ∈ a.getD i [], 0 ≤ x ∧ x < (a.length : Int) := fun x hx => by have := ha.down hx; omega
   cases hb : at_ (behM a (a.getD i [])) (k : Int) with
   | false => exact ⟨k, redRow_mem.2 ⟨hm, hb⟩, .refl _⟩
   | true =>
    unfold at_ behM at hb
    rw [toNat_nat] at hb
    obtain ⟨j, hj, s, hs, hu⟩ := ((behStep_at ha hrow _ (Nat.le_refl _)).2 k).1 hb
    have hx := getD_mem (z := 0) hj
    have h0 := ha.down hx
    have h1 := (ha.down hs).2
    have h2 := hu.le ha
    obtain ⟨q, hq, hu2⟩ := ih (i - ((a.getD i []).getD j 0).toNat) (by omega) ((a.getD i []).getD j 0).toNat (by omega) (by rw [Int.toNat_of_nonneg h0.1]; exact hx)
    exact ⟨q, hq, hu2.trans (.step hs hu)⟩
  ·rw [getD_none (by omega)] at hm; simp at hm
theorem up_red {a : List (List Int)} (ha : Arcs a) : ∀ (i j : Nat), Up a i j → Up (redL a) i j := by
 intro i
 induction i using Nat.strongRecOn with
 | _ i ih =>
  intro j h
  cases h with
  | refl => exact .refl _
  | step h1 h2 =>
   rename_i m
   have hd := ha.down h1
   obtain ⟨q, hq, hu⟩ := row_kept ha i (i - m) m (by omega) h1
   have hqr := ha.down (redRow_mem.1 hq).1
   have hi : i < a.length := by
    by_cases hi : i < a.length
    ·exact hi
    ·rw [getD_none (by omega)] at h1; simp at h1
   exact .step (by rw [redL_at a i hi]; exact hq) (ih q (by omega) j (hu.trans h2))
theorem redL_row {a : List (List Int)} {i : Nat} {x : Int} (h : x ∈ (redL a).getD i []) : x ∈ a.getD i [] := by
 by_cases hi : i < a.length
 ·rw [redL_at a i hi] at h; exact (redRow_mem.1 h).1
 ·rw [getD_none (by rw [redL_len]; omega)] at h; simp at h
theorem red_up {a : List (List Int)} {i j : Nat} (h : Up (redL a) i j) : Up a i j := by
 induction h with
 | refl => exact .refl _
 | step h1 _ ih => exact .step (redL_row h1) ih
theorem redL_arcs {a : List (List Int)} (ha : Arcs a) : Arcs (redL a) := by
 refine ⟨by rw [redL_len]; exact ha.pos, by rw [redL_len]; exact ha.le, fun i hi => ?_⟩
 rw [redL_len] at hi
 rw [redL_at a i hi]
 exact filter_asc _ (ha.row i hi)
theorem redL_clo {a : List (List Int)} (ha : Arcs a) (m : List Bool) (hm : m.length = a.length) : listOf (clo (redL a) m) = listOf (clo a m) := by
 have hr := redL_arcs ha
 refine asc_ext listOf_asc listOf_asc (fun x => ?_)
 rw [listOf_mem, listOf_mem]
 unfold at_
 rw [clo_at hr (by rw [redL_len]; exact hm), clo_at ha hm]
 constructor
 ·rintro ⟨h0, s, h1, h2⟩; exact ⟨h0, s, h1, red_up h2⟩
 ·rintro ⟨h0, s, h1, h2⟩; exact ⟨h0, s, h1, up_red ha _ _ h2⟩
theorem clo_mem {a : List (List Int)} (ha : Arcs a) {l : List Int} (hl : ∀ x ∈ l, 0 ≤ x ∧ x < (a.length : Int)) (x : Int) : x ∈ listOf (clo a (mk a.length l)) ↔ 0 ≤ x ∧ ∃ s : Nat, (s : Int) ∈ l ∧ Up a s x.toNat := by
 rw [listOf_mem]
 unfold at_
 rw [clo_at ha mk_len]
 constructor
 ·rintro ⟨h0, s, h1, h2⟩; exact ⟨h0, s, (mk_at hl s).1 h1, h2⟩
 ·rintro ⟨h0, s, h1, h2⟩; exact ⟨h0, s, (mk_at hl s).2 h1, h2⟩
theorem clo_asc {a : List (List Int)} {m : List Bool} (hm : m.length = a.length) : asc (listOf (clo a m)) a.length = true := by
 have := listOf_asc (m := clo a m)
 rwa [clo_len, hm] at this
theorem clo_isClo {a : List (List Int)} (ha : Arcs a) {l : List Int} (hl : ∀ x ∈ l, 0 ≤ x ∧ x < (a.length : Int)) : isClo a (listOf (clo a (mk a.length l))) = true := by
 rw [isClo_iff ha (clo_asc mk_len)]
 intro x hx y hy
 rw [clo_mem ha hl] at hx ⊢
 obtain ⟨h0, s, h1, h2⟩ := hx
 have hd := ha.down hy
 exact ⟨hd.1, s, h1, h2.trans (.step (by rw [Int.toNat_of_nonneg hd.1]; exact hy) (.refl _))⟩
/-- below a block -/
theorem bel_mem {a : List (List Int)} (ha : Arcs a) {i : Int} (hi : 0 ≤ i ∧ i < (a.length : Int)) {k : Int} (h : k ∈ listOf (foldR (belStep a) 0 a.length (mk a.length [i]))) : (0 ≤ k ∧ k < (a.length : Int)) ∧ i ∈ listOf (clo a (mk a.length [k])) := by
 have hs : ∀ x ∈ [i], 0 ≤ x ∧ x < (a.length : Int) := by intro x hx; rw [List.mem_singleton] at hx; subst hx; exact hi
 have hlt : 0 ≤ k ∧ k < (a.length : Int) := by
  have h1 := asc_mem (listOf_asc (m := foldR (belStep a) 0 a.length (mk a.length [i]))) h
  rw [bel_len, mk_len] at h1; exact h1
 refine ⟨hlt, ?_⟩
 rw [listOf_mem] at h
 unfold at_ at h
 rw [bel_at ha mk_len _ (Nat.le_refl _)] at h
 rw [clo_mem ha (by intro x hx; rw [List.mem_singleton] at hx; subst hx; exact hlt)]
 refine ⟨hi.1, k.toNat, by rw [List.mem_singleton]; omega, ?_⟩
 rcases h.2 with h1 | ⟨_, s, h1, h2⟩
 ·have := (mk_at hs _).1 h1
  rw [List.mem_singleton] at this
  rw [show k.toNat = i.toNat by omega]; exact .refl _
 ·have := (mk_at hs _).1 h1
  rw [List.mem_singleton] at this
  rw [show i.toNat = s by omega]; exact h2
theorem l1Has_l0 (l : List Int) (hl : l.length ≤ maxLen) (x : Int) : ∀ (d i : Nat), i + d = l.length → Ev (fun k => spec_l1Has.l0 k x l (l.length : Int) (i : Int)) (decide (x ∈ l.drop i)) := by
 have hl := maxLen_le hl
 intro d
 induction d with
 | zero =>
  intro i hi
  refine Ev.step (fun k => spec_l1Has.l0.eq_2 x l l.length i k) (ev_neg (by omega) (ev_some ?_))
  rw [List.drop_of_length_le (by omega)]; simp
 | succ d ih =>
  intro i hi
  refine Ev.step (fun k => spec_l1Has.l0.eq_2 x l l.length i k) ?_
  have hd : l.drop i = l.getD i 0 :: l.drop (i + 1) := by
   rw [List.drop_eq_getElem_cons (by omega)]; congr 1; simp [List.getD_eq_getElem?_getD, show i < l.length by omega]
  rw [w_succ (n := l.length) (by omega) (by omega), rd_nat, hd]
  refine ev_pos (by omega) (ev_pos (by omega) (ev_pos (by omega) (ev_ite (fun h => ev_some ?_) (fun h => ?_))))
  ·symm; rw [decide_eq_true_eq]; rw [← h]; exact List.mem_cons_self
  ·refine ev_eq ?_ (ih (i + 1) (by omega))
   rw [decide_eq_decide, List.mem_cons]
   exact ⟨.inr, fun h1 => h1.resolve_left (fun e => h e.symm)⟩
theorem l1Has_ev (l : List Int) (hl : l.length ≤ maxLen) (x : Int) : Ev (fun k => spec_l1Has.f k l x) (decide (x ∈ l)) := by
 unfold spec_l1Has.f
 have := l1Has_l0 l hl x l.length 0 (by omega)
 rwa [List.drop_zero] at this
theorem sRed_l2 (a : List (List Int)) (ha : Arcs a) (o : List (List Int)) (l : List Int) (hl : ∀ x ∈ l, 0 ≤ x ∧ x < a.length) (hll : l.length ≤ 120) (p : List Int) (hp : p.length ≤ 1048576) (k : Int) (n i : Int) (c : Int) (q : List (List Int) × Bool) : ∀ (d j : Nat) (b : Bool), j + d = l.length →
  Ev (fun r => spec_ReducedArcs.l1 r a o l (if (!(b || anyR (ndlAt a l k) j l.length)) = true then p ++ [k] else p) a n i l (l.length : Int) (wrap64 (c + 1))) q →
  Ev (fun r => spec_ReducedArcs.l2 r a o l p k b a n i l (l.length : Int) c l (l.length : Int) (j : Int)) q := by
 have hle := ha.le
 intro d
 induction d with
 | zero =>
  intro j b hj hq
  rw [anyR_end (by omega), Bool.or_false] at hq
  refine Ev.step (fun r => spec_ReducedArcs.l2.eq_2 a o l p k b a n i l l.length c l l.length j r) (ev_neg (by omega) ?_)
  cases b with
  | true => rw [if_neg (by simp)] at hq; exact ev_pos rfl hq
  | false => rw [if_pos (by simp)] at hq; exact ev_neg (by simp) (ev_pos (by omega) hq)
 | succ d ih =>
  intro j b hj hq
  refine Ev.step (fun r => spec_ReducedArcs.l2.eq_2 a o l p k b a n i l l.length c l l.length j r) ?_
  have hx := hl _ (getD_mem (z := 0) (show j < l.length by omega))
  rw [anyR_step (by omega)] at hq
  rw [w_succ (n := l.length) (by omega) (by omega), rd_nat]
  refine ev_pos (by omega) (ev_pos (by omega) (ev_pos (by omega) ?_))
  cases b with
  | true =>
   rw [Bool.true_or] at hq
   refine ev_pos rfl (ih (j + 1) true (by omega) ?_)
   rw [Bool.true_or]; exact hq
  | false =>
   rw [Bool.false_or] at hq
   refine ev_neg (by simp) (ev_ite (fun h => ?_) (fun h => ?_))
   ·have hs : ∀ x ∈ [l.getD j 0], 0 ≤ x ∧ x < (a.length : Int) := fun x hx' => by rw [List.mem_singleton] at hx'; subst hx'; exact hx
    have hlen := listOf_len (m := clo a (mk a.length [l.getD j 0]))
    rw [clo_len, mk_len] at hlen
    refine Ev.bind (g := fun r => spec_clUp.f r a (l.getD j 0)) (by unfold spec_clUp.f; exact ev_id (clLeast_ev a ha [l.getD j 0] (by simp) hs)) (Ev.bind (l1Has_ev _ (maxLen_val (by omega)) k) (ih (j + 1) _ (by omega) ?_))
    rw [show ndlAt a l k j = decide (k ∈ listOf (clo a (mk a.length [l.getD j 0]))) by unfold ndlAt; rw [dTw h, Bool.true_and]] at hq
    exact hq
   ·refine ih (j + 1) false (by omega) ?_
    rw [show ndlAt a l k j = false by unfold ndlAt; rw [decide_eq_false h, Bool.false_and], Bool.false_or] at hq
    rw [Bool.false_or]; exact hq
theorem sRed_l1 (a : List (List Int)) (ha : Arcs a) (o : List (List Int)) (ho : o.length ≤ 1048576) (l : List Int) (hl : ∀ x ∈ l, 0 ≤ x ∧ x < a.length) (hll : l.length ≤ 120) (n i : Int) (q : List (List Int) × Bool)
  (hq : Ev (fun r => spec_ReducedArcs.l0 r a (o ++ [redRow a l]) a n (wrap64 (i + 1))) q) : ∀ (d j : Nat), j + d = l.length →
  Ev (fun r => spec_ReducedArcs.l1 r a o l (foldR (keepAt (fun x => !(ndl a l x)) l) 0 j []) a n i l (l.length : Int) (j : Int)) q := by
 intro d
 induction d with
 | zero =>
  intro j hj
  obtain rfl : j = l.length := by omega
  refine Ev.step (fun r => spec_ReducedArcs.l1.eq_2 a o l _ a n i l l.length l.length r) (ev_neg (by omega) (ev_pos (by omega) ?_))
  rw [keepAt_filter _ _ _ (Nat.le_refl _), List.take_length, redRow_eq ha hl]
  exact hq
 | succ d ih =>
  intro j hj
  have ih := ih (j + 1) (by omega)
  rw [foldR_last (Nat.zero_le _)] at ih
  have hlen := keepAt_len (fun x => !(ndl a l x)) l j (by omega)
  refine Ev.step (fun r => spec_ReducedArcs.l1.eq_2 a o l _ a n i l l.length j r) ?_
  rw [rd_nat]
  refine ev_pos (by omega) (ev_pos (by omega) (ev_pos (by omega) ?_))
  refine sRed_l2 a ha o l hl hll _ (by omega) (l.getD j 0) n i j q l.length 0 false (by omega) ?_
  rw [Bool.false_or, w_succ (n := l.length) (by omega) (by omega)]
  exact ih
theorem sRed_l0 (a : List (List Int)) (ha : Arcs a) : ∀ (d i : Nat), i + d = a.length → Ev (fun r => spec_ReducedArcs.l0 r a ((redL a).take i) a (a.length : Int) (i : Int)) (redL a, true) := by
 have hle := ha.le
 intro d
 induction d with
 | zero =>
  intro i hi
  refine Ev.step (fun r => spec_ReducedArcs.l0.eq_2 a _ a a.length i r) (ev_neg (by omega) (ev_some ?_))
  rw [List.take_of_length_le (by rw [redL_len]; omega)]
 | succ d ih =>
  intro i hi
  have ih := ih (i + 1) (by omega)
  refine Ev.step (fun r => spec_ReducedArcs.l0.eq_2 a _ a a.length i r) ?_
  rw [rdL1]
  refine ev_pos (by omega) (ev_pos (by omega) (ev_pos (by omega) ?_))
  have := sRed_l1 a ha ((redL a).take i) (by rw [List.length_take, redL_len]; omega) (a.getD i []) (fun x hx => by have := ha.down hx; omega) (ha.len i) a.length i (redL a, true) (by
   rw [take_map_snoc i (by omega), w_succ (n := a.length) (by omega) (by omega)]; exact ih) (a.getD i []).length 0 (by omega)
  rwa [foldR_end (Nat.le_refl _)] at this
theorem sRed_ev (a : List (List Int)) (ha : a.length ≤ maxLen) (hb : ∀ x ∈ a, x.length ≤ maxLen) : Ev (fun k => spec_ReducedArcs.f k a) (if arcsOk a then (redL a, true) else ([], false)) := by
 unfold spec_ReducedArcs.f
 refine Ev.bind (clArcs_ev a ha hb) (ev_ite (fun h => ?_) (fun h => ?_))
 ·rw [if_pos h]
  have := sRed_l0 a (arcsOk_iff.1 h) a.length 0 (by omega)
  rwa [List.take_zero] at this
 ·rw [if_neg h]; exact ev_some rfl
def valAt (l : List Int) (j : Nat) : Bool := decide (-1000000 ≤ l.getD j 0 ∧ l.getD j 0 ≤ 1000000)
def valsOk (l : List Int) : Bool := decide (1 ≤ l.length ∧ l.length ≤ 120) && allR (valAt l) 0 l.length
theorem valsOk_iff {l : List Int} : valsOk l = true ↔ 1 ≤ l.length ∧ l.length ≤ 120 ∧ ∀ j, j < l.length → -1000000 ≤ l.getD j 0 ∧ l.getD j 0 ≤ 1000000 := by
 unfold valsOk valAt
 rw [Bool.and_eq_true, decide_eq_true_eq, allR_iff]
 constructor
 ·rintro ⟨⟨h1, h2⟩, h3⟩; exact ⟨h1, h2, fun j hj => by have := h3 j (Nat.zero_le _) hj; simpa using this⟩
 ·rintro ⟨h1, h2, h3⟩; exact ⟨⟨h1, h2⟩, fun j _ hj => by simpa using h3 j hj⟩
def sumAt (v l : List Int) (s : Int) (j : Nat) : Int := s + v.getD (l.getD j 0).toNat 0
def valSum (v l : List Int) : Int := foldR (sumAt v l) 0 l.length 0
theorem valSum_bound {v l : List Int} (hv : ∀ j, j < v.length → -1000000 ≤ v.getD j 0 ∧ v.getD j 0 ≤ 1000000) (hl : ∀ j, j < l.length → 0 ≤ l.getD j 0 ∧ l.getD j 0 < v.length) (m : Nat) (hm : m ≤ l.length) : -1000000 * (m : Int) ≤ foldR (sumAt v l) 0 m 0 ∧ foldR (sumAt v l) 0 m 0 ≤ 1000000 * (m : Int) := by
 induction m with
 | zero => rw [foldR_end (Nat.le_refl _)]; omega
 | succ m ih =>
  have ih := ih (by omega)
  rw [foldR_last (by omega)]
  have h1 := hl m (by omega)
  have h2 := hv (l.getD m 0).toNat (by omega)
  unfold sumAt at *
  omega
theorem goodValues_l0 (l : List Int) (hl : l.length ≤ maxLen) : ∀ (d i : Nat), i + d = l.length → Ev (fun k => impl_goodValues.l0 k l (l.length : Int) (i : Int)) (allR (valAt l) i l.length) := by
 have hl := maxLen_le hl
 intro d
 induction d with
 | zero =>
  intro i hi
  exact Ev.step (fun k => impl_goodValues.l0.eq_2 l l.length i k) (ev_neg (by omega) (ev_some (allR_end (by omega)).symm))
 | succ d ih =>
  intro i hi
  refine Ev.step (fun k => impl_goodValues.l0.eq_2 l l.length i k) ?_
  rw [allR_step (by omega), w_succ (n := l.length) (by omega) (by omega), rd_nat]
  have no : ¬ (-1000000 ≤ l.getD i 0 ∧ l.getD i 0 ≤ 1000000) → false = (valAt l i && allR (valAt l) (i + 1) l.length) := by
   intro h; rw [show valAt l i = false from decide_eq_false h, Bool.false_and]
  refine ev_pos (by omega) (ev_pos (by omega) (ev_pos (by omega) ?_))
  refine ev_ite (fun h => ev_some (no (by omega))) (fun h => ?_)
  refine ev_ite (fun h1 => ev_some (no (by omega))) (fun h1 => ?_)
  rw [show valAt l i = true from dTw (by omega), Bool.true_and]; exact ih (i + 1) (by omega)
theorem goodValues_ev (l : List Int) (hl : l.length ≤ maxLen) : Ev (fun k => impl_goodValues.f k l) (valsOk l) := by
 unfold impl_goodValues.f valsOk
 refine ev_ite (fun h => ?_) (fun h => ?_)
 ·refine Ev.step (fun k => impl_goodValues.j0.eq_2 l true k) (ev_pos rfl (ev_some ?_))
  rw [decide_eq_false (by omega), Bool.false_and]
 ·refine Ev.step (fun k => impl_goodValues.j0.eq_2 l _ k) (ev_ite (fun h1 => ev_some ?_) (fun h1 => ?_))
  ·simp only [decide_eq_true_eq] at h1
   rw [decide_eq_false (by omega), Bool.false_and]
  ·simp only [decide_eq_true_eq] at h1
   rw [dTw (by omega), Bool.true_and]; exact goodValues_l0 l hl l.length 0 (by omega)
theorem valueSum_l0 (v l : List Int) (hv : valsOk v = true) (hl : asc l v.length = true) : ∀ (d i : Nat), i + d = l.length → Ev (fun k => impl_valueSum.l0 k v (foldR (sumAt v l) 0 i 0) l (l.length : Int) (i : Int)) (valSum v l) := by
 have hlen := asc_len hl
 rw [asc_iff] at hl
 rw [valsOk_iff] at hv
 intro d
 induction d with
 | zero =>
  intro i hi
  obtain rfl : i = l.length := by omega
  exact Ev.step (fun k => impl_valueSum.l0.eq_2 v _ l l.length l.length k) (ev_neg (by omega) (ev_some rfl))
 | succ d ih =>
  intro i hi
  refine Ev.step (fun k => impl_valueSum.l0.eq_2 v _ l l.length i k) ?_
  have h1 := hl i (by omega)
  have h2 := valSum_bound hv.2.2 (fun j hj => ⟨(hl j hj).1, (hl j hj).2.1⟩) i (by omega)
  have h3 := hv.2.2 (l.getD i 0).toNat (by omega)
  rw [w_succ (n := l.length) (by omega) (by omega), rd_nat]
  refine ev_pos (by omega) (ev_pos (by omega) (ev_pos (by omega) (ev_pos (by omega) (ev_pos (by omega) ?_))))
  have e : wrap64 (foldR (sumAt v l) 0 i 0 + rd v (l.getD i 0)) = foldR (sumAt v l) 0 (i + 1) 0 := by
   rw [foldR_last (Nat.zero_le _)]
   unfold rd sumAt
   unfold sumAt at h2
   rw [w64 (by omega) (by omega)]
  rw [e]
  exact ih (i + 1) (by omega)
theorem valueSum_ev (v l : List Int) (hv : valsOk v = true) (hl : asc l v.length = true) : Ev (fun k => impl_valueSum.f k v l) (valSum v l) := by
 unfold impl_valueSum.f
 have := valueSum_l0 v l hv hl l.length 0 (by omega)
 rwa [foldR_end (Nat.le_refl _)] at this
theorem iValueOf_ev (v l : List Int) (hv : v.length ≤ maxLen) (hl : l.length ≤ maxLen) : Ev (fun k => impl_ValueOf.f k v l) (if valsOk v && asc l v.length then (valSum v l, true) else (0, false)) := by
 unfold impl_ValueOf.f
 refine Ev.bind (goodValues_ev v hv) (ev_ite (fun h => ?_) (fun h => ev_some ?_))
 ·refine Ev.bind (areBlocks_ev l hl _) (ev_ite (fun h1 => ?_) (fun h1 => ev_some ?_))
  ·rw [h, h1]; exact Ev.bind (valueSum_ev v l h h1) (ev_some rfl)
  ·rw [Bool.not_eq_true] at h1; rw [h, h1]; rfl
 ·rw [Bool.not_eq_true] at h; rw [h]; rfl
theorem l1All_l0 (l : List Int) (hl : l.length ≤ maxLen) (lo hi : Int) : ∀ (d i : Nat), i + d = l.length → Ev (fun k => spec_l1All.l0 k lo hi l (l.length : Int) (i : Int)) (allR (fun j => decide (lo ≤ l.getD j 0 ∧ l.getD j 0 ≤ hi)) i l.length) := by
 have hl := maxLen_le hl
 intro d
 induction d with
 | zero =>
  intro i hi'
  exact Ev.step (fun k => spec_l1All.l0.eq_2 lo hi l l.length i k) (ev_neg (by omega) (ev_some (allR_end (by omega)).symm))
 | succ d ih =>
  intro i hi'
  refine Ev.step (fun k => spec_l1All.l0.eq_2 lo hi l l.length i k) ?_
  rw [allR_step (by omega), w_succ (n := l.length) (by omega) (by omega), rd_nat]
  refine ev_pos (by omega) (ev_pos (by omega) (ev_pos (by omega) (ev_bindc (l1In_eq _ _ _) ?_)))
  refine ev_ite (fun h => ?_) (fun h => ?_)
  ·rw [h, Bool.true_and]; exact ih (i + 1) (by omega)
  ·rw [Bool.not_eq_true] at h; rw [h, Bool.false_and]; exact ev_some rfl
theorem l1All_ev (l : List Int) (hl : l.length ≤ maxLen) (lo hi : Int) : Ev (fun k => spec_l1All.f k l lo hi) (allR (fun j => decide (lo ≤ l.getD j 0 ∧ l.getD j 0 ≤ hi)) 0 l.length) := by
 unfold spec_l1All.f
 exact l1All_l0 l hl lo hi l.length 0 (by omega)
theorem sValueOf_l0 (v l : List Int) (hv : valsOk v = true) (hl : asc l v.length = true) : ∀ (d i : Nat), i + d = l.length → Ev (fun k => spec_ValueOf.l0 k v (foldR (sumAt v l) 0 i 0) l (l.length : Int) (i : Int)) (valSum v l, true) := by
 have hlen := asc_len hl
 rw [asc_iff] at hl
 rw [valsOk_iff] at hv
 intro d
 induction d with
 | zero =>
  intro i hi
  obtain rfl : i = l.length := by omega
  exact Ev.step (fun k => spec_ValueOf.l0.eq_2 v _ l l.length l.length k) (ev_neg (by omega) (ev_some rfl))
 | succ d ih =>
  intro i hi
  refine Ev.step (fun k => spec_ValueOf.l0.eq_2 v _ l l.length i k) ?_
  have h1 := hl i (by omega)
  have h2 := valSum_bound hv.2.2 (fun j hj => ⟨(hl j hj).1, (hl j hj).2.1⟩) i (by omega)
  have h3 := hv.2.2 (l.getD i 0).toNat (by omega)
  rw [w_succ (n := l.length) (by omega) (by omega), rd_nat]
  refine ev_pos (by omega) (ev_pos (by omega) (ev_pos (by omega) (ev_pos (by omega) (ev_pos (by omega) ?_))))
  have e : wrap64 (foldR (sumAt v l) 0 i 0 + rd v (l.getD i 0)) = foldR (sumAt v l) 0 (i + 1) 0 := by
   rw [foldR_last (Nat.zero_le _)]
   unfold rd sumAt
   unfold sumAt at h2
   rw [w64 (by omega) (by omega)]
  rw [e]
  exact ih (i + 1) (by omega)
theorem sValueOf_ev (v l : List Int) (hv : v.length ≤ maxLen) (hl : l.length ≤ maxLen) : Ev (fun k => spec_ValueOf.f k v l) (if valsOk v && asc l v.length then (valSum v l, true) else (0, false)) := by
 have hv' := maxLen_le hv
 unfold spec_ValueOf.f
 refine ev_bindc (l1In_eq _ _ _) (ev_ite (fun h => ?_) (fun h => ?_))
 ·refine Ev.bind (l1All_ev v hv _ _) (ev_ite (fun h1 => ?_) (fun h1 => ?_))
  ·rw [w64 (x := (v.length : Int) - 1) (by omega) (by omega)]
   refine Ev.bind (l1Rising_ev l hl _) ?_
   simp only [decide_eq_true_eq] at h
   have hvo : valsOk v = true := by unfold valsOk; rw [dTw (by omega), Bool.true_and]; exact h1
   rw [hvo, Bool.true_and]
   refine Ev.step (fun k => spec_ValueOf.j0.eq_2 v l _ k) ?_
   cases h2 : asc l v.length with
   | false => exact ev_pos rfl (ev_some rfl)
   | true =>
    refine ev_neg (by simp) ?_
    have := sValueOf_l0 v l hvo h2 l.length 0 (by omega)
    rwa [foldR_end (Nat.le_refl _)] at this
  ·have hvo : valsOk v = false := by
    unfold valsOk; rw [Bool.not_eq_true] at h1; rw [show allR (valAt v) 0 v.length = false from h1, Bool.and_false]
   rw [hvo]
   exact Ev.step (fun k => spec_ValueOf.j0.eq_2 v l true k) (ev_pos rfl (ev_some rfl))
 ·have hvo : valsOk v = false := by
   simp only [decide_eq_true_eq] at h
   unfold valsOk; rw [decide_eq_false (by omega), Bool.false_and]
  rw [hvo]
  exact Ev.step (fun k => spec_ValueOf.j0.eq_2 v l true k) (ev_pos rfl (ev_some rfl))
namespace HCone
def coneL (a : List (List Int)) (i : Int) : List Int × Bool := if arcsOk a && decide (0 ≤ i ∧ i < a.length) then (listOf (clo a (mk a.length [i])), true) else ([], false)
theorem sCone_ev (a : List (List Int)) (ha : a.length ≤ maxLen) (hb : ∀ x ∈ a, x.length ≤ maxLen) (i : Int) : Ev (fun k => spec_ConeOf.f k a i) (coneL a i) := by
 unfold spec_ConeOf.f coneL
 refine Ev.bind (clHas_ev a ha hb i) (ev_ite (fun h => ?_) (fun h => ?_))
 ·rw [if_pos h]
  rw [Bool.and_eq_true, decide_eq_true_eq] at h
  unfold spec_clUp.f
  exact Ev.bind (ev_id (clLeast_ev a (arcsOk_iff.1 h.1) [i] (by simp) (fun x hx => by rw [List.mem_singleton] at hx; subst hx; exact h.2))) (ev_some rfl)
 ·rw [if_neg h]; exact ev_some rfl
theorem iCone_ev (a : List (List Int)) (ha : a.length ≤ maxLen) (hb : ∀ x ∈ a, x.length ≤ maxLen) (i : Int) : Ev (fun k => impl_ConeOf.f k a i) (coneL a i) := by
 unfold impl_ConeOf.f coneL
 refine Ev.bind (AreArcs_ev a ha hb) (ev_ite (fun h => ?_) (fun h => ?_))
 ·rw [h, Bool.true_and]
  have hA := arcsOk_iff.1 h
  have hle := hA.le
  refine ev_ite (fun h1 => Ev.step (fun k => impl_ConeOf.j0.eq_2 a i true k) (ev_pos rfl (ev_some ?_))) (fun h1 => ?_)
  ·rw [if_neg (zLaw_0)]
  ·refine Ev.step (fun k => impl_ConeOf.j0.eq_2 a i _ k) (ev_ite (fun h2 => ev_some ?_) (fun h2 => ?_))
   ·rw [decide_eq_true_eq] at h2; rw [if_neg (zLaw_0)]
   ·rw [decide_eq_true_eq] at h2; rw [if_pos (zLaw_0)]
    refine Ev.bind (closureOf_ev a hA [i] (by simp) (fun x hx => by rw [List.mem_singleton] at hx; subst hx; omega)) (Ev.bind (listOf_ev _ (by rw [clo_len, mk_len]; omega)) (ev_some rfl))
 ·rw [Bool.not_eq_true] at h; rw [h]
  exact Ev.step (fun k => impl_ConeOf.j0.eq_2 a i true k) (ev_pos rfl (ev_some rfl))
theorem coneL_len (a : List (List Int)) (i : Int) : (coneL a i).1.length ≤ 1048576 := by
 unfold coneL
 split
 ·rename_i h
  rw [Bool.and_eq_true] at h
  have := (arcsOk_iff.1 h.1).le
  have := listOf_len (m := clo a (mk a.length [i]))
  rw [clo_len, mk_len] at this
  show (listOf (clo a (mk a.length [i]))).length ≤ _
  omega
 ·simp
theorem both (a : List (List Int)) (i : Int) (ha : a.length ≤ 1048576) (hb : ∀ x ∈ a, x.length ≤ 1048576) (hi : -9223372036854775808 ≤ i ∧ i ≤ 9223372036854775807) :
  ∃ r : List Int × Bool, Ev (fun k => spec_ConeOf.f k a i) r ∧ Ev (fun k => impl_ConeOf.f k a i) r ∧ r.1.length ≤ 1048576 :=
 ⟨coneL a i, sCone_ev a (maxLen_val (by omega)) (fun x hx => maxLen_val (by have := hb x hx; omega)) i, iCone_ev a (maxLen_val (by omega)) (fun x hx => maxLen_val (by have := hb x hx; omega)) i, coneL_len a i⟩
end HCone
namespace HBelow
def belowL (a : List (List Int)) (i : Int) : List Int × Bool := if arcsOk a && decide (0 ≤ i ∧ i < a.length) then (listOf (foldR (belStep a) 0 a.length (mk a.length [i])), true) else ([], false)
theorem sBelow_ev (a : List (List Int)) (ha : a.length ≤ maxLen) (hb : ∀ x ∈ a, x.length ≤ maxLen) (i : Int) : Ev (fun k => spec_BelowOf.f k a i) (belowL a i) := by
 unfold spec_BelowOf.f belowL
 refine Ev.bind (clHas_ev a ha hb i) (ev_ite (fun h => ?_) (fun h => ?_))
 ·rw [if_pos h]
  rw [Bool.and_eq_true, decide_eq_true_eq] at h
  have hA := arcsOk_iff.1 h.1
  have hle := hA.le
  refine Ev.bind (clMarks_ev a.length (by omega) [i] (maxLen_val (by simp)) (fun x hx => by rw [List.mem_singleton] at hx; omega)) ?_
  exact sBelow_l0 a hA a.length 0 _ (by omega) mk_len
 ·rw [if_neg h]; exact ev_some rfl
theorem iBelow_ev (a : List (List Int)) (ha : a.length ≤ maxLen) (hb : ∀ x ∈ a, x.length ≤ maxLen) (i : Int) : Ev (fun k => impl_BelowOf.f k a i) (belowL a i) := by
 unfold impl_BelowOf.f belowL
 refine Ev.bind (AreArcs_ev a ha hb) (ev_ite (fun h => ?_) (fun h => ?_))
 ·rw [h, Bool.true_and]
  have hA := arcsOk_iff.1 h
  have hle := hA.le
  refine ev_ite (fun h1 => Ev.step (fun k => impl_BelowOf.j0.eq_2 a i true k) (ev_pos rfl (ev_some ?_))) (fun h1 => ?_)
  ·rw [if_neg (zLaw_0)]
  ·refine Ev.step (fun k => impl_BelowOf.j0.eq_2 a i _ k) (ev_ite (fun h2 => ev_some ?_) (fun h2 => ?_))
   ·rw [decide_eq_true_eq] at h2; rw [if_neg (zLaw_0)]
   ·rw [decide_eq_true_eq] at h2; rw [if_pos (zLaw_0)]
    obtain ⟨j, rfl⟩ : ∃ j : Nat, i = j := ⟨i.toNat, by omega⟩
    refine Ev.bind (belowOf_ev a hA j (by omega)) (Ev.bind (listOf_ev _ (by rw [bel_len, mk_len]; omega)) (ev_some rfl))
 ·rw [Bool.not_eq_true] at h; rw [h]
  exact Ev.step (fun k => impl_BelowOf.j0.eq_2 a i true k) (ev_pos rfl (ev_some rfl))
theorem belowL_len (a : List (List Int)) (i : Int) : (belowL a i).1.length ≤ 1048576 := by
 unfold belowL
 split
 ·rename_i h
  rw [Bool.and_eq_true] at h
  have := (arcsOk_iff.1 h.1).le
  have := listOf_len (m := foldR (belStep a) 0 a.length (mk a.length [i]))
  rw [bel_len, mk_len] at this
  show (listOf (foldR (belStep a) 0 a.length (mk a.length [i]))).length ≤ _
  omega
 ·simp
theorem both (a : List (List Int)) (i : Int) (ha : a.length ≤ 1048576) (hb : ∀ x ∈ a, x.length ≤ 1048576) (hi : -9223372036854775808 ≤ i ∧ i ≤ 9223372036854775807) :
  ∃ r : List Int × Bool, Ev (fun k => spec_BelowOf.f k a i) r ∧ Ev (fun k => impl_BelowOf.f k a i) r ∧ r.1.length ≤ 1048576 :=
 ⟨belowL a i, sBelow_ev a (maxLen_val (by omega)) (fun x hx => maxLen_val (by have := hb x hx; omega)) i, iBelow_ev a (maxLen_val (by omega)) (fun x hx => maxLen_val (by have := hb x hx; omega)) i, belowL_len a i⟩
end HBelow
namespace HRed
def orAt (k : List Bool) (m : List Bool) (j : Nat) : List Bool := m.set j (m.getD j false || k.getD j false)
theorem iRed_l2 (a o : List (List Int)) (i : Int) (l : List Int) (n c : Int) (t : Int) (row : List Int) (s : Int) (q : List (List Int) × Bool) (k : List Bool) (hk : k.length ≤ 120) : ∀ (d j : Nat) (b : List Bool), j + d = k.length → b.length = k.length →
  Ev (fun r => impl_ReducedArcs.l1 r a o i l (foldR (orAt k) j k.length b) a n c row t (wrap64 (s + 1))) q →
  Ev (fun r => impl_ReducedArcs.l2 r a o i l b a n c row t s k (k.length : Int) (j : Int)) q := by
 intro d
 induction d with
 | zero =>
  intro j b hj hb hq
  rw [foldR_end (by omega)] at hq
  exact Ev.step (fun r => impl_ReducedArcs.l2.eq_2 a o i l b a n c row t s k k.length j r) (ev_neg (by omega) hq)
 | succ d ih =>
  intro j b hj hb hq
  refine Ev.step (fun r => impl_ReducedArcs.l2.eq_2 a o i l b a n c row t s k k.length j r) ?_
  rw [foldR_step (by omega)] at hq
  unfold orAt at hq
  have e : ∀ m : List Bool, at_ m (j : Int) = m.getD j false := by intro m; unfold at_; rw [toNat_nat]
  rw [w_succ (n := k.length) (by omega) (by omega), rdB, rdB, e, e, toNat_nat]
  refine ev_pos (by omega) (ev_pos (by omega) (ev_pos (by omega) (ev_pos (by omega) (ev_ite (fun h => ?_) (fun h => ?_)))))
  ·rw [h, Bool.true_or] at hq
   exact ih (j + 1) _ (by omega) (by rw [List.length_set]; exact hb) hq
  ·rw [Bool.not_eq_true] at h
   rw [h, Bool.false_or] at hq
   exact ih (j + 1) _ (by omega) (by rw [List.length_set]; exact hb) hq
theorem iRed_l1 (a : List (List Int)) (ha : Arcs a) (o : List (List Int)) (i : Int) (l : List Int) (hl : ∀ x ∈ l, 0 ≤ x ∧ x < a.length) (hll : l.length ≤ 120) (n c : Int) (q : List (List Int) × Bool) : ∀ (d j : Nat) (b : List Bool), j + d = l.length → b.length = a.length →
  Ev (fun r => impl_ReducedArcs.l3 r a o i (foldR (behStep a l) j l.length b) a n c l (l.length : Int) 0) q →
  Ev (fun r => impl_ReducedArcs.l1 r a o i l b a n c l (l.length : Int) (j : Int)) q := by
 have hle := ha.le
 intro d
 induction d with
 | zero =>
  intro j b hj hb hq
  rw [foldR_end (by omega)] at hq
  exact Ev.step (fun r => impl_ReducedArcs.l1.eq_2 a o i l b a n c l l.length j r) (ev_neg (by omega) hq)
 | succ d ih =>
  intro j b hj hb hq
  have hx := hl _ (getD_mem (z := 0) (show j < l.length by omega))
  rw [foldR_step (by omega)] at hq
  have ih := ih (j + 1) (behStep a l b j) (by omega) (by unfold behStep; rw [orM_len]; exact hb) hq
  refine Ev.step (fun r => impl_ReducedArcs.l1.eq_2 a o i l b a n c l l.length j r) ?_
  rw [rd_nat, rdL1']
  have hrow : ∀ x ∈ a.getD (l.getD j 0).toNat [], 0 ≤ x ∧ x < a.length := fun x hx' => by have := ha.down hx'; omega
  refine ev_pos (by omega) (ev_pos (by omega) (ev_pos (by omega) (ev_pos (by omega) (ev_pos (by omega) (Ev.bind (closureOf_ev a ha _ (by have := ha.len (l.getD j 0).toNat; omega) hrow) ?_)))))
  refine iRed_l2 a o i l n c l.length l j q (clo a (mk a.length (a.getD (l.getD j 0).toNat []))) (by rw [clo_len, mk_len]; omega) (clo a (mk a.length (a.getD (l.getD j 0).toNat []))).length 0 b (by omega) (by rw [clo_len, mk_len]; exact hb) ?_
  rw [w_succ (n := l.length) (by omega) (by omega)]
  exact ih
theorem iRed_l3 (a o : List (List Int)) (i : Nat) (hi : i < o.length) (m : List Bool) (n c : Int) (l : List Int) (hl : ∀ x ∈ l, 0 ≤ x ∧ x < m.length) (hll : l.length ≤ 120) (q : List (List Int) × Bool)
  (hq : Ev (fun r => impl_ReducedArcs.l0 r a (o.set i (l.filter (fun x => !(at_ m x)))) a n (wrap64 (c + 1))) q) : ∀ (d j : Nat), j + d = l.length →
  Ev (fun r => impl_ReducedArcs.l3 r a (o.set i (foldR (keepAt (fun x => !(at_ m x)) l) 0 j [])) (i : Int) m a n c l (l.length : Int) (j : Int)) q := by
 intro d
 induction d with
 | zero =>
  intro j hj
  obtain rfl : j = l.length := by omega
  refine Ev.step (fun r => impl_ReducedArcs.l3.eq_2 a _ i m a n c l l.length l.length r) (ev_neg (by omega) ?_)
  rw [keepAt_filter _ _ _ (Nat.le_refl _), List.take_length]
  exact hq
 | succ d ih =>
  intro j hj
  have ih := ih (j + 1) (by omega)
  rw [foldR_last (Nat.zero_le _)] at ih
  have hlen := keepAt_len (fun x => !(at_ m x)) l j (by omega)
  have hx := hl _ (getD_mem (z := 0) (show j < l.length by omega))
  refine Ev.step (fun r => impl_ReducedArcs.l3.eq_2 a _ i m a n c l l.length j r) ?_
  rw [w_succ (n := l.length) (by omega) (by omega), rd_nat, rdB, rdL1, getD_set, if_pos ⟨rfl, hi⟩, toNat_nat, List.set_set, List.length_set]
  unfold keepAt at ih hlen ⊢
  refine ev_pos (by omega) (ev_pos (by omega) (ev_pos (by omega) (ev_pos (by omega) (ev_pos (by omega) (ev_ite (fun h => ?_) (fun h => ?_))))))
  ·rw [if_neg (by show ¬ ((!(at_ m (l.getD j 0))) = true); rw [h]; simp)] at ih; exact ih
  ·rw [if_pos (by show (!(at_ m (l.getD j 0))) = true; rw [Bool.not_eq_true] at h; rw [h]; rfl)] at ih
   exact ev_pos (by omega) (ev_pos (by omega) (ev_pos (by omega) ih))
def redP (a : List (List Int)) (i : Nat) : List (List Int) := (redL a).take i ++ List.replicate (a.length - i) []
theorem redP_len (a : List (List Int)) (i : Nat) (h : i ≤ a.length) : (redP a i).length = a.length := by
 unfold redP; rw [List.length_append, List.length_take, List.length_replicate, redL_len]; omega
theorem redP_set (a : List (List Int)) (i : Nat) (h : i < a.length) : (redP a i).set i (redRow a (a.getD i [])) = redP a (i + 1) := by
 unfold redP
 rw [List.set_append_right _ _ (by rw [List.length_take, redL_len]; omega), List.length_take, redL_len, Nat.min_eq_left (by omega), Nat.sub_self, show a.length - i = (a.length - (i + 1)) + 1 by omega, List.replicate_succ, List.set_cons_zero, ← take_map_snoc i h, List.append_assoc]
 rfl
theorem redP_nil (a : List (List Int)) (i : Nat) (h : i < a.length) : (redP a i).set i [] = redP a i := by
 have e : (redP a i).getD i [] = [] := by
  unfold redP
  rw [List.getD_eq_getElem?_getD, List.getElem?_append_right (by rw [List.length_take, redL_len]; omega)]
  simp [List.getElem?_replicate]
  split <;> rfl
 refine getD_ext [] (by rw [List.length_set]) (fun j hj => ?_)
 rw [getD_set]
 split
 ·rename_i hc; rw [← hc.1, e]
 ·rfl
theorem iRed_l0 (a : List (List Int)) (ha : Arcs a) : ∀ (d i : Nat), i + d = a.length → Ev (fun r => impl_ReducedArcs.l0 r a (redP a i) a (a.length : Int) (i : Int)) (redL a, true) := by
 have hle := ha.le
 intro d
 induction d with
 | zero =>
  intro i hi
  obtain rfl : i = a.length := by omega
  refine Ev.step (fun r => impl_ReducedArcs.l0.eq_2 a _ a a.length a.length r) (ev_neg (by omega) (ev_some ?_))
  unfold redP
  rw [List.take_of_length_le (by rw [redL_len]; omega), Nat.sub_self]; simp
 | succ d ih =>
  intro i hi
  have ih := ih (i + 1) (by omega)
  refine Ev.step (fun r => impl_ReducedArcs.l0.eq_2 a _ a a.length i r) ?_
  rw [rdL1, toNat_nat]
  have hrow : ∀ x ∈ a.getD i [], 0 ≤ x ∧ x < (a.length : Int) := fun x hx => by have := ha.down hx; omega
  refine ev_pos (by omega) (ev_pos (by omega) (ev_pos (by omega) (ev_pos (by omega) (ev_pos (by omega) ?_))))
  refine iRed_l1 a ha _ i (a.getD i []) hrow (ha.len i) a.length i _ (a.getD i []).length 0 _ (by omega) (by simp) ?_
  have hb := (behStep_at ha hrow (a.getD i []).length (Nat.le_refl _)).1
  have := iRed_l3 a (redP a i) i (by rw [redP_len a i (by omega)]; omega) (behM a (a.getD i [])) a.length i (a.getD i []) (fun x hx => by rw [show (behM a (a.getD i [])).length = a.length from hb]; exact hrow x hx) (ha.len i) (redL a, true) (by
   rw [show (a.getD i []).filter (fun x => !(at_ (behM a (a.getD i [])) x)) = redRow a (a.getD i []) from rfl, redP_set a i (by omega), w_succ (n := a.length) (by omega) (by omega)]
   exact ih) (a.getD i []).length 0 (by omega)
  rw [foldR_end (Nat.le_refl _), redP_nil a i (by omega)] at this
  exact this
theorem iRed_ev (a : List (List Int)) (ha : a.length ≤ maxLen) (hb : ∀ x ∈ a, x.length ≤ maxLen) : Ev (fun k => impl_ReducedArcs.f k a) (if arcsOk a then (redL a, true) else ([], false)) := by
 unfold impl_ReducedArcs.f
 refine Ev.bind (AreArcs_ev a ha hb) (ev_ite (fun h => ?_) (fun h => ?_))
 ·have hA := arcsOk_iff.1 h
  have hle := hA.le
  rw [if_pos h, toNat_nat]
  refine ev_pos (by omega) (ev_pos (by omega) ?_)
  have := iRed_l0 a hA a.length 0 (by omega)
  rw [show redP a 0 = List.replicate a.length [] by unfold redP; simp] at this
  exact this
 ·rw [if_neg h]; exact ev_some rfl
theorem both (a : List (List Int)) (ha : a.length ≤ 1048576) (hb : ∀ x ∈ a, x.length ≤ 1048576) :
  ∃ r : List (List Int) × Bool, Ev (fun k => spec_ReducedArcs.f k a) r ∧ Ev (fun k => impl_ReducedArcs.f k a) r ∧ r.1.length ≤ 1048576 ∧ ∀ x ∈ r.1, x.length ≤ 1048576 := by
 refine ⟨if arcsOk a then (redL a, true) else ([], false), sRed_ev a (maxLen_val (by omega)) (fun x hx => maxLen_val (by have := hb x hx; omega)), iRed_ev a (maxLen_val (by omega)) (fun x hx => maxLen_val (by have := hb x hx; omega)), ?_⟩
 split
 ·refine ⟨by show (redL a).length ≤ _; rw [redL_len]; exact ha, fun x hx => ?_⟩
  change x ∈ redL a at hx
  unfold redL at hx
  rw [List.mem_map] at hx
  obtain ⟨y, hy, rfl⟩ := hx
  have := redRow_len a y
  have := hb y hy
  omega
 ·simp
end HRed
theorem iIsClosure_ev (a : List (List Int)) (ha : a.length ≤ maxLen) (hb : ∀ x ∈ a, x.length ≤ maxLen) (l : List Int) (hl : l.length ≤ maxLen) : Ev (fun k => impl_IsClosure.f k a l) (if arcsOk a && asc l a.length then (isClo a l, true) else (false, false)) := by
 unfold impl_IsClosure.f
 refine Ev.bind (AreArcs_ev a ha hb) (ev_ite (fun h => ?_) (fun h => ?_))
 ·refine Ev.bind (areBlocks_ev l hl _) (ev_ite (fun h1 => ?_) (fun h1 => ev_some ?_))
  ·rw [h, h1]; exact Ev.bind (isClosure_ev a (arcsOk_iff.1 h) l h1) (ev_some rfl)
  ·rw [Bool.not_eq_true] at h1; rw [h, h1]; rfl
 ·rw [Bool.not_eq_true] at h; rw [h]; exact ev_some rfl
theorem iLeast_ev (a : List (List Int)) (ha : a.length ≤ maxLen) (hb : ∀ x ∈ a, x.length ≤ maxLen) (l : List Int) (hl : l.length ≤ 1048576) : Ev (fun k => impl_LeastClosure.f k a l) (if arcsOk a && asc l a.length then (listOf (clo a (mk a.length l)), true) else ([], false)) := by
 unfold impl_LeastClosure.f
 refine Ev.bind (AreArcs_ev a ha hb) (ev_ite (fun h => ?_) (fun h => ?_))
 ·rw [h, Bool.true_and]
  have hA := arcsOk_iff.1 h
  have hle := hA.le
  refine Ev.bind (areBlocks_ev l (maxLen_val (by omega)) _) (Ev.step (fun k => impl_LeastClosure.j0.eq_2 a l _ k) ?_)
  cases h1 : asc l a.length with
  | false => exact ev_pos rfl (ev_some rfl)
  | true => exact ev_neg (by simp) (Ev.bind (closureOf_ev a hA l hl (fun x hx => asc_mem h1 hx)) (Ev.bind (listOf_ev _ (by rw [clo_len, mk_len]; omega)) (ev_some rfl)))
 ·rw [Bool.not_eq_true] at h; rw [h]
  exact Ev.step (fun k => impl_LeastClosure.j0.eq_2 a l true k) (ev_pos rfl (ev_some rfl))
theorem drawn_below' {w w' : World} (h : Drawn0 w w') : Below w.heap.size w w' := by
 obtain ⟨n, rfl⟩ := h
 exact pw_below_drewN (Below.refl _ _) n
theorem sameInts_l0 (l : List Int) (hl : l.length ≤ maxLen) : ∀ (d i : Nat), i + d = l.length → Ev (fun k => laws_sameInts.l0 k l l (l.length : Int) (i : Int)) true := by
 have hl := maxLen_le hl
 intro d
 induction d with
 | zero => intro i hi; exact Ev.step (fun k => laws_sameInts.l0.eq_2 l l l.length i k) (ev_neg (by omega) (ev_some rfl))
 | succ d ih =>
  intro i hi
  refine Ev.step (fun k => laws_sameInts.l0.eq_2 l l l.length i k) ?_
  rw [w_succ (n := l.length) (by omega) (by omega)]
  exact ev_pos (by omega) (ev_pos (by omega) (ev_pos (by omega) (ev_pos (by omega) (ev_pos rfl (ih (i + 1) (by omega))))))
theorem same_calls (A A' : Option Addr) (c c' : Nat) (l : List Int) (w : World) (h1 : Kd.C (Kd.int .i64) w A l.length l) (e1 : l.length ≤ c) (h2 : Kd.C (Kd.int .i64) w A' l.length l) (e2 : l.length ≤ c') (hl : l.length ≤ maxLen) :
  Calls Try.prog 17 #[.slice A l.length c, .slice A' l.length c'] w fun e w' => e = .returned (.bool true) ∧ Below w.heap.size w w' := by
 have hev : Ev (fun k => laws_sameInts.f k l l) true := by
  unfold laws_sameInts.f
  exact ev_pos rfl (sameInts_l0 l hl l.length 0 (by omega))
 obtain ⟨k, hk⟩ := hev.rounds
 exact (laws_sameInts.calls k A c l A' c' l true w h1 e1 h2 e2 hk).mono fun e w' h => ⟨h.1, drawn_below' h.2⟩
theorem pIn_l0 (l : List Int) (hl : l.length ≤ maxLen) (x : Int) : ∀ (d i : Nat), i + d = l.length → Ev (fun k => laws_pIn.l0 k x l (l.length : Int) (i : Int)) (decide (x ∈ l.drop i)) := by
 have hl := maxLen_le hl
 intro d
 induction d with
 | zero =>
  intro i hi
  refine Ev.step (fun k => laws_pIn.l0.eq_2 x l l.length i k) (ev_neg (by omega) (ev_some ?_))
  rw [List.drop_of_length_le (by omega)]; simp
 | succ d ih =>
  intro i hi
  refine Ev.step (fun k => laws_pIn.l0.eq_2 x l l.length i k) ?_
  have hd : l.drop i = l.getD i 0 :: l.drop (i + 1) := by
   rw [List.drop_eq_getElem_cons (by omega)]; congr 1; simp [List.getD_eq_getElem?_getD, show i < l.length by omega]
  rw [w_succ (n := l.length) (by omega) (by omega), rd_nat, hd]
  refine ev_pos (by omega) (ev_pos (by omega) (ev_pos (by omega) (ev_ite (fun h => ev_some ?_) (fun h => ?_))))
  ·symm; rw [decide_eq_true_eq]; rw [← h]; exact List.mem_cons_self
  ·refine ev_eq ?_ (ih (i + 1) (by omega))
   rw [decide_eq_decide, List.mem_cons]
   exact ⟨.inr, fun h1 => h1.resolve_left (fun e => h e.symm)⟩
theorem in_calls (A : Option Addr) (c : Nat) (l : List Int) (x : Int) (w : World) (h1 : Kd.C (Kd.int .i64) w A l.length l) (e1 : l.length ≤ c) (hl : l.length ≤ maxLen) (hx : x ∈ l) :
  Calls Try.prog 22 #[.slice A l.length c, .int .i64 x] w fun e w' => e = .returned (.bool true) ∧ Below w.heap.size w w' := by
 have hev : Ev (fun k => laws_pIn.f k l x) true := by
  unfold laws_pIn.f
  have := pIn_l0 l hl x l.length 0 (by omega)
  rwa [List.drop_zero, dTw hx] at this
 obtain ⟨k, hk⟩ := hev.rounds
 exact (laws_pIn.calls k A c l x true w h1 e1 hk).mono fun e w' h => ⟨h.1, drawn_below' h.2⟩
theorem sameInts_ev (l : List Int) (hl : l.length ≤ maxLen) : Ev (fun k => laws_sameInts.f k l l) true := by
 unfold laws_sameInts.f
 exact ev_pos rfl (sameInts_l0 l hl l.length 0 (by omega))
theorem sameLists_l0 (a : List (List Int)) (hl : a.length ≤ maxLen) (hb : ∀ x ∈ a, x.length ≤ maxLen) : ∀ (d i : Nat), i + d = a.length → Ev (fun k => laws_sameLists.l0 k a a (a.length : Int) (i : Int)) true := by
 have hl := maxLen_le hl
 intro d
 induction d with
 | zero => intro i hi; exact Ev.step (fun k => laws_sameLists.l0.eq_2 a a a.length i k) (ev_neg (by omega) (ev_some rfl))
 | succ d ih =>
  intro i hi
  refine Ev.step (fun k => laws_sameLists.l0.eq_2 a a a.length i k) ?_
  have hx : rd_L5 a (i : Int) = a.getD i [] := by unfold rd_L5; rw [toNat_nat]
  rw [w_succ (n := a.length) (by omega) (by omega), hx]
  exact ev_pos (by omega) (ev_pos (by omega) (ev_pos (by omega) (ev_pos (by omega) (Ev.bind (sameInts_ev _ (hb _ (getD_mem (show i < a.length by omega)))) (ev_pos rfl (ih (i + 1) (by omega)))))))
theorem sameLists_ev (a : List (List Int)) (hl : a.length ≤ maxLen) (hb : ∀ x ∈ a, x.length ≤ maxLen) : Ev (fun k => laws_sameLists.f k a a) true := by
 unfold laws_sameLists.f
 exact ev_pos rfl (sameLists_l0 a hl hb a.length 0 (by omega))
def OkC (a : List (List Int)) (i : Int) (l b : List Int) : Prop :=
 asc l a.length = true ∧ asc b a.length = true ∧ a.length ≤ 120 ∧ Ev (fun k => impl_IsClosure.f k a l) (true, true) ∧ Ev (fun k => impl_LeastClosure.f k a [i]) (l, true) ∧
 (∀ k ∈ b, ∃ cone, Ev (fun n => impl_ConeOf.f n a k) (cone, true) ∧ i ∈ cone ∧ cone.length ≤ 120) ∧
 ∃ red : List (List Int), red.length ≤ 120 ∧ (∀ x ∈ red, x.length ≤ 120) ∧ Ev (fun k => impl_ReducedArcs.f k a) (red, true) ∧ Ev (fun k => spec_ReducedArcs.f k a) (red, true) ∧ Ev (fun k => impl_ConeOf.f k red i) (l, true)
theorem cone_law (a : List (List Int)) (i : Int) (ha : a.length ≤ 1048576) (hb : ∀ x ∈ a, x.length ≤ 1048576) : ∃ (l : List Int) (ok : Bool) (b : List Int) (one : Bool) (ar : Bool),
  (Ev (fun k => impl_ConeOf.f k a i) (l, ok) ∧ Ev (fun k => spec_ConeOf.f k a i) (l, ok)) ∧ (Ev (fun k => impl_BelowOf.f k a i) (b, one) ∧ Ev (fun k => spec_BelowOf.f k a i) (b, one)) ∧ (Ev (fun k => impl_AreArcs.f k a) ar ∧ Ev (fun k => spec_AreArcs.f k a) ar) ∧
  (l.length ≤ 120 ∧ b.length ≤ 120) ∧ (ok = true → OkC a i l b) := by
 have ha' : a.length ≤ maxLen := maxLen_val (by omega)
 have hb' : ∀ x ∈ a, x.length ≤ maxLen := fun x hx => maxLen_val (by have := hb x hx; omega)
 have sA : Ev (fun k => spec_AreArcs.f k a) (arcsOk a) := by unfold spec_AreArcs.f; exact ev_id (clArcs_ev a ha' hb')
 have e1 := HCone.iCone_ev a ha' hb' i
 have e2 := HCone.sCone_ev a ha' hb' i
 have e3 := HBelow.iBelow_ev a ha' hb' i
 have e4 := HBelow.sBelow_ev a ha' hb' i
 unfold HCone.coneL at e1 e2
 unfold HBelow.belowL at e3 e4
 by_cases h : (arcsOk a && decide (0 ≤ i ∧ i < a.length)) = true
 ·rw [if_pos h] at e1 e2 e3 e4
  rw [Bool.and_eq_true, decide_eq_true_eq] at h
  have hA := arcsOk_iff.1 h.1
  have hle := hA.le
  have hs : ∀ x ∈ [i], 0 ≤ x ∧ x < (a.length : Int) := by intro x hx; rw [List.mem_singleton] at hx; subst hx; exact h.2
  have hasc : asc [i] a.length = true := asc_of (List.pairwise_singleton _ _) hs
  have h1 : asc (listOf (clo a (mk a.length [i]))) a.length = true := clo_asc mk_len
  have h2 : asc (listOf (foldR (belStep a) 0 a.length (mk a.length [i]))) a.length = true := by
   have := listOf_asc (m := foldR (belStep a) 0 a.length (mk a.length [i]))
   rwa [bel_len, mk_len] at this
  have n1 := asc_len h1
  have n2 := asc_len h2
  refine ⟨_, _, _, _, _, ⟨e1, e2⟩, ⟨e3, e4⟩, ⟨AreArcs_ev a ha' hb', sA⟩, ⟨by omega, by omega⟩, fun _ => ⟨h1, h2, hle, ?_, ?_, ?_, redL a, ?_, ?_, ?_, ?_, ?_⟩⟩
  ·have := iIsClosure_ev a ha' hb' (listOf (clo a (mk a.length [i]))) (maxLen_val (by omega))
   rwa [h.1, h1, Bool.and_self, if_pos rfl, clo_isClo hA hs] at this
  ·have := iLeast_ev a ha' hb' [i] (by simp)
   rwa [h.1, hasc, Bool.and_self, if_pos rfl] at this
  ·intro k hk
   obtain ⟨hk1, hk2⟩ := bel_mem hA h.2 hk
   have := HCone.iCone_ev a ha' hb' k
   unfold HCone.coneL at this
   rw [if_pos (by rw [h.1, Bool.true_and]; exact dTw hk1)] at this
   exact ⟨_, this, hk2, by have := asc_len (clo_asc (a := a) (mk_len (n := a.length) (l := [k]))); omega⟩
  ·rw [redL_len]; exact hle
  ·intro x hx
   obtain ⟨j, hj, rfl⟩ := mem_getD (z := []) hx
   exact (redL_arcs hA).len j
  ·have := HRed.iRed_ev a ha' hb'
   rwa [if_pos h.1] at this
  ·have := sRed_ev a ha' hb'
   rwa [if_pos h.1] at this
  ·have hR := redL_arcs hA
   have := HCone.iCone_ev (redL a) (by rw [redL_len]; exact ha') (fun x hx => by obtain ⟨j, hj, rfl⟩ := mem_getD (z := []) hx; exact maxLen_val (by have := hR.len j; omega)) i
   unfold HCone.coneL at this
   rw [arcsOk_iff.2 hR, Bool.true_and, redL_len, if_pos (dTw h.2), redL_clo hA _ mk_len] at this
   exact this
 ·rw [if_neg h] at e1 e2 e3 e4
  exact ⟨_, _, _, _, _, ⟨e1, e2⟩, ⟨e3, e4⟩, ⟨AreArcs_ev a ha' hb', sA⟩, ⟨by simp, by simp⟩, fun h => by cases h⟩
theorem rest_law (a : List (List Int)) (ha : a.length ≤ 1048576) (hb : ∀ x ∈ a, x.length ≤ 1048576) (v l : List Int) (hv : v.length ≤ maxLen) (hl : l.length ≤ maxLen) : ∃ (r : List (List Int)) (three : Bool) (s : Int) (five : Bool),
  (Ev (fun k => impl_ReducedArcs.f k a) (r, three) ∧ Ev (fun k => spec_ReducedArcs.f k a) (r, three)) ∧ (Ev (fun k => impl_ValueOf.f k v l) (s, five) ∧ Ev (fun k => spec_ValueOf.f k v l) (s, five)) ∧ r.length ≤ 1048576 ∧ ∀ x ∈ r, x.length ≤ 1048576 := by
 obtain ⟨⟨r, three⟩, h1, h2, h3, h4⟩ := HRed.both a ha hb
 have e1 := iValueOf_ev v l hv hl
 have e2 := sValueOf_ev v l hv hl
 generalize (if valsOk v && asc l v.length then (valSum v l, true) else ((0 : Int), false)) = q at e1 e2
 exact ⟨r, three, q.1, q.2, ⟨h2, h1⟩, ⟨e1, e2⟩, h3, h4⟩
end Go.Proofs.Ytbhlffakpneecaa.ConeLaw
