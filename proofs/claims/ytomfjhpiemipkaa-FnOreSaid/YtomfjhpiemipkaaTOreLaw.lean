/- What the law FnOre asks, of the numbers and lists that its callees tell. -/
import Derived.Test.YtomfjhpiemipkaaTBase
import Derived.Test.YtomfjhpiemipkaaTMarks
import Derived.Test.YtomfjhpiemipkaaTFold
import Derived.Test.YtomfjhpiemipkaaTMFnOrex0
import Derived.Test.YtomfjhpiemipkaaTMFnOrex0
import Derived.Test.YtomfjhpiemipkaaTMFnOrex0
import Derived.Test.YtomfjhpiemipkaaTMFnOrex0
import Derived.Test.YtomfjhpiemipkaaTMFnOrex1
import Derived.Test.YtomfjhpiemipkaaTMFnOrex1
import Derived.Test.YtomfjhpiemipkaaTMFnOrex1
import Derived.Test.YtomfjhpiemipkaaTMFnOrex1
import Derived.Test.YtomfjhpiemipkaaTMFnOrex0
import Derived.Test.YtomfjhpiemipkaaTMFnOrex0
namespace Go.Proofs.Ytomfjhpiemipkaa.OreLaw
open Go.RowKit Go.Proofs.Ytomfjhpiemipkaa.PFnOre Go.Proofs.YtomfjhpiemipkaaW.PrintWords Go.Proofs.YtomfjhpiemipkaaW.PrintLast Go.Proofs.YtomfjhpiemipkaaW.PrintMore Go.Proofs.Ytomfjhpiemipkaa.B
set_option linter.unusedVariables false
set_option linter.unusedSimpArgs false
def valAt (l : List Int) (j : Nat) : Bool := decide (-1000000 ≤ l.getD j 0 ∧ l.getD j 0 ≤ 1000000)
def valsOk (l : List Int) : Bool := decide (1 ≤ l.length ∧ l.length ≤ 120) && allR (valAt l) 0 l.length
theorem valsOk_iff {l : List Int} : valsOk l = true ↔ 1 ≤ l.length ∧ l.length ≤ 120 ∧ ∀ j, j < l.length → -1000000 ≤ l.getD j 0 ∧ l.getD j 0 ≤ 1000000 := by
 unfold valsOk valAt
 rw [Bool.and_eq_true, decide_eq_true_eq, allR_iff]
 constructor
 ·rintro ⟨⟨h1, h2⟩, h3⟩; exact ⟨h1, h2, fun j hj => by have := h3 j (Nat.zero_le _) hj; simpa using this⟩
 ·rintro ⟨h1, h2, h3⟩; exact ⟨⟨h1, h2⟩, fun j _ hj => by simpa using h3 j hj⟩
def sumAt (v l : List Int) (s : Int) (j : Nat) : Int := s + v.getD (l.getD j 0).toNat 0
def valSum (v l : List Int) : Int := foldR (sumAt v l) 0 l.length 0
theorem valSum_bound {v l : List Int} (hv : ∀ j, j < v.length → -1000000 ≤ v.getD j 0 ∧ v.getD j 0 ≤ 1000000) (hl : ∀ j, j < l.length → 0 ≤ l.getD j 0 ∧ l.getD j 0 < v.length) (m : Nat) (hm : m ≤ l.length) : -1000000 * (m : Int) ≤ foldR (sumAt v l) 0 m 0 ∧ foldR (sumAt v l) 0 m 0 ≤ 1000000 * (m : Int) := by
 induction m with
 | zero => rw [foldR_end (Nat.le_refl _)]; omega
 | succ m ih =>
  have ih := ih (by omega)
  rw [foldR_last (by omega)]
  have h1 := hl m (by omega)
  have h2 := hv (l.getD m 0).toNat (by omega)
  unfold sumAt at *
  omega
theorem goodValues_l0 (l : List Int) (hl : l.length ≤ maxLen) : ∀ (d i : Nat), i + d = l.length → Ev (fun k => impl_goodValues.l0 k l (l.length : Int) (i : Int)) (allR (valAt l) i l.length) := by
 have hl := maxLen_le hl
 intro d
 induction d with
 | zero =>
  intro i hi
  exact Ev.step (fun k => impl_goodValues.l0.eq_2 l l.length i k) (ev_neg (by omega) (ev_some (allR_end (by omega)).symm))
 | succ d ih =>
  intro i hi
  refine Ev.step (fun k => impl_goodValues.l0.eq_2 l l.length i k) ?_
  rw [allR_step (by omega), w_succ (n := l.length) (by omega) (by omega), rd_nat]
  have no : ¬ (-1000000 ≤ l.getD i 0 ∧ l.getD i 0 ≤ 1000000) → false = (valAt l i && allR (valAt l) (i + 1) l.length) := by
   intro h; rw [show valAt l i = false from decide_eq_false h, Bool.false_and]
  refine ev_pos (by omega) (ev_pos (by omega) (ev_pos (by omega) ?_))
  refine ev_ite (fun h => ev_some (no (by omega))) (fun h => ?_)
  refine ev_ite (fun h1 => ev_some (no (by omega))) (fun h1 => ?_)
  rw [show valAt l i = true from decide_eq_true (by omega), Bool.true_and]; exact ih (i + 1) (by omega)
theorem goodValues_ev (l : List Int) (hl : l.length ≤ maxLen) : Ev (fun k => impl_goodValues.f k l) (valsOk l) := by
 unfold impl_goodValues.f valsOk
 refine ev_ite (fun h => ?_) (fun h => ?_)
 ·refine Ev.step (fun k => impl_goodValues.j0.eq_2 l true k) (ev_pos rfl (ev_some ?_))
  rw [decide_eq_false (by omega), Bool.false_and]
 ·refine Ev.step (fun k => impl_goodValues.j0.eq_2 l _ k) (ev_ite (fun h1 => ev_some ?_) (fun h1 => ?_))
  ·simp only [decide_eq_true_eq] at h1
   rw [decide_eq_false (by omega), Bool.false_and]
  ·simp only [decide_eq_true_eq] at h1
   rw [decide_eq_true (by omega), Bool.true_and]; exact goodValues_l0 l hl l.length 0 (by omega)
theorem areBlocks_l0 (l : List Int) (hl : l.length ≤ maxLen) (n : Int) : ∀ (d i : Nat), i + d = l.length → Ev (fun k => impl_areBlocks.l0 k l n l (l.length : Int) (i : Int)) (allR (ascAt l n) i l.length) := by
 have hl := maxLen_le hl
 intro d
 induction d with
 | zero =>
  intro i hi
  exact Ev.step (fun k => impl_areBlocks.l0.eq_2 l n l l.length i k) (ev_neg (by omega) (ev_some (allR_end (by omega)).symm))
 | succ d ih =>
  intro i hi
  refine Ev.step (fun k => impl_areBlocks.l0.eq_2 l n l l.length i k) ?_
  rw [allR_step (by omega), w_succ (n := l.length) (by omega) (by omega), rd_nat]
  refine ev_pos (by omega) (ev_pos (by omega) (ev_pos (by omega) ?_))
  have no : ¬ (0 ≤ l.getD i 0 ∧ l.getD i 0 < n ∧ (0 < i → l.getD (i - 1) 0 < l.getD i 0)) → false = (ascAt l n i && allR (ascAt l n) (i + 1) l.length) := by
   intro h
   have : ascAt l n i = false := by unfold ascAt; simp only [decide_eq_false_iff_not]; exact h
   rw [this]; rfl
  have yes : (0 ≤ l.getD i 0 ∧ l.getD i 0 < n ∧ (0 < i → l.getD (i - 1) 0 < l.getD i 0)) → Ev (fun k => impl_areBlocks.l0 k l n l (l.length : Int) ((i + 1 : Nat) : Int)) (ascAt l n i && allR (ascAt l n) (i + 1) l.length) := by
   intro h
   have : ascAt l n i = true := by unfold ascAt; simp only [decide_eq_true_eq]; exact h
   rw [this]; exact ih (i + 1) (by omega)
  refine ev_ite (fun h => ev_some (no (by omega))) (fun h => ?_)
  refine ev_ite (fun h1 => ev_some (no (by omega))) (fun h1 => ?_)
  refine ev_ite (fun h0 => ?_) (fun h0 => yes ⟨by omega, by omega, fun _ => by omega⟩)
  rw [w64 (x := (i : Int) - 1) (by omega) (by omega), show (i : Int) - 1 = ((i - 1 : Nat) : Int) by omega, rd_nat]
  refine ev_pos (by omega) (ev_pos (by omega) ?_)
  refine ev_ite (fun h2 => ev_some (no (fun hc => by have := hc.2.2 (by omega); omega))) (fun h2 => yes ⟨by omega, by omega, fun _ => by omega⟩)
theorem areBlocks_ev (l : List Int) (hl : l.length ≤ maxLen) (n : Int) : Ev (fun k => impl_areBlocks.f k l n) (asc l n) := by
 unfold impl_areBlocks.f asc
 exact areBlocks_l0 l hl n l.length 0 (by omega)
theorem valueSum_l0 (v l : List Int) (hv : valsOk v = true) (hl : asc l v.length = true) : ∀ (d i : Nat), i + d = l.length → Ev (fun k => impl_valueSum.l0 k v (foldR (sumAt v l) 0 i 0) l (l.length : Int) (i : Int)) (valSum v l) := by
 have hlen := asc_len hl
 rw [asc_iff] at hl
 rw [valsOk_iff] at hv
 intro d
 induction d with
 | zero =>
  intro i hi
  obtain rfl : i = l.length := by omega
  exact Ev.step (fun k => impl_valueSum.l0.eq_2 v _ l l.length l.length k) (ev_neg (by omega) (ev_some rfl))
 | succ d ih =>
  intro i hi
  refine Ev.step (fun k => impl_valueSum.l0.eq_2 v _ l l.length i k) ?_
  have h1 := hl i (by omega)
  have h2 := valSum_bound hv.2.2 (fun j hj => ⟨(hl j hj).1, (hl j hj).2.1⟩) i (by omega)
  have h3 := hv.2.2 (l.getD i 0).toNat (by omega)
  rw [w_succ (n := l.length) (by omega) (by omega), rd_nat]
  refine ev_pos (by omega) (ev_pos (by omega) (ev_pos (by omega) (ev_pos (by omega) (ev_pos (by omega) ?_))))
  have e : wrap64 (foldR (sumAt v l) 0 i 0 + rd v (l.getD i 0)) = foldR (sumAt v l) 0 (i + 1) 0 := by
   rw [foldR_last (Nat.zero_le _)]
   unfold rd sumAt
   unfold sumAt at h2
   rw [w64 (by omega) (by omega)]
  rw [e]
  exact ih (i + 1) (by omega)
theorem valueSum_ev (v l : List Int) (hv : valsOk v = true) (hl : asc l v.length = true) : Ev (fun k => impl_valueSum.f k v l) (valSum v l) := by
 unfold impl_valueSum.f
 have := valueSum_l0 v l hv hl l.length 0 (by omega)
 rwa [foldR_end (Nat.le_refl _)] at this
theorem vaSum_l0 (v l : List Int) (hv : valsOk v = true) (hl : ∀ x ∈ l, 0 ≤ x ∧ x < v.length) (hlen : l.length ≤ 120) : ∀ (d i : Nat), i + d = l.length → Ev (fun k => spec_vaSum.l0 k v (foldR (sumAt v l) 0 i 0) l (l.length : Int) (i : Int)) (valSum v l) := by
 have hl' : ∀ j, j < l.length → 0 ≤ l.getD j 0 ∧ l.getD j 0 < v.length := fun j hj => hl _ (getD_mem hj)
 rw [valsOk_iff] at hv
 intro d
 induction d with
 | zero =>
  intro i hi
  obtain rfl : i = l.length := by omega
  exact Ev.step (fun k => spec_vaSum.l0.eq_2 v _ l l.length l.length k) (ev_neg (by omega) (ev_some rfl))
 | succ d ih =>
  intro i hi
  refine Ev.step (fun k => spec_vaSum.l0.eq_2 v _ l l.length i k) ?_
  have h1 := hl' i (by omega)
  have h2 := valSum_bound hv.2.2 hl' i (by omega)
  have h3 := hv.2.2 (l.getD i 0).toNat (by omega)
  rw [w_succ (n := l.length) (by omega) (by omega), rd_nat]
  refine ev_pos (by omega) (ev_pos (by omega) (ev_pos (by omega) (ev_pos (by omega) (ev_pos (by omega) ?_))))
  have e : wrap64 (foldR (sumAt v l) 0 i 0 + rd v (l.getD i 0)) = foldR (sumAt v l) 0 (i + 1) 0 := by
   rw [foldR_last (Nat.zero_le _)]
   unfold rd sumAt
   unfold sumAt at h2
   rw [w64 (by omega) (by omega)]
  rw [e]
  exact ih (i + 1) (by omega)
theorem vaSum_ev (v l : List Int) (hv : valsOk v = true) (hl : ∀ x ∈ l, 0 ≤ x ∧ x < v.length) (hlen : l.length ≤ 120) : Ev (fun k => spec_vaSum.f k v l) (valSum v l) := by
 unfold spec_vaSum.f
 have := vaSum_l0 v l hv hl hlen l.length 0 (by omega)
 rwa [foldR_end (Nat.le_refl _)] at this
theorem valSum_snoc (v l : List Int) (x : Int) : valSum v (l ++ [x]) = valSum v l + v.getD x.toNat 0 := by
 unfold valSum
 rw [List.length_append, show l.length + [x].length = l.length + 1 from rfl, foldR_last (Nat.zero_le _)]
 rw [foldR_congr (g := sumAt v l) (fun t j _ hj => by unfold sumAt; rw [List.getD_eq_getElem?_getD (l := l ++ [x]), List.getElem?_append_left hj, ← List.getD_eq_getElem?_getD])]
 unfold sumAt
 rw [List.getD_eq_getElem?_getD (l := l ++ [x]), List.getElem?_append_right (Nat.le_refl _), Nat.sub_self]
 rfl
theorem l1In_eq (a b c : Int) : spec_l1In.f a b c = some (decide (b ≤ a ∧ a ≤ c)) := by
 unfold spec_l1In.f
 by_cases h : a ≥ b
 ·rw [if_pos h]; simp [show b ≤ a from h]
 ·rw [if_neg h]; simp [show ¬ b ≤ a from h]
theorem l1All_l0 (l : List Int) (hl : l.length ≤ maxLen) (lo hi : Int) : ∀ (d i : Nat), i + d = l.length → Ev (fun k => spec_l1All.l0 k lo hi l (l.length : Int) (i : Int)) (allR (fun j => decide (lo ≤ l.getD j 0 ∧ l.getD j 0 ≤ hi)) i l.length) := by
 have hl := maxLen_le hl
 intro d
 induction d with
 | zero =>
  intro i hi'
  exact Ev.step (fun k => spec_l1All.l0.eq_2 lo hi l l.length i k) (ev_neg (by omega) (ev_some (allR_end (by omega)).symm))
 | succ d ih =>
  intro i hi'
  refine Ev.step (fun k => spec_l1All.l0.eq_2 lo hi l l.length i k) ?_
  rw [allR_step (by omega), w_succ (n := l.length) (by omega) (by omega), rd_nat]
  refine ev_pos (by omega) (ev_pos (by omega) (ev_pos (by omega) (ev_bindc (l1In_eq _ _ _) ?_)))
  refine ev_ite (fun h => ?_) (fun h => ?_)
  ·rw [h, Bool.true_and]; exact ih (i + 1) (by omega)
  ·rw [Bool.not_eq_true] at h; rw [h, Bool.false_and]; exact ev_some rfl
theorem l1All_ev (l : List Int) (hl : l.length ≤ maxLen) (lo hi : Int) : Ev (fun k => spec_l1All.f k l lo hi) (allR (fun j => decide (lo ≤ l.getD j 0 ∧ l.getD j 0 ≤ hi)) 0 l.length) := by
 unfold spec_l1All.f
 exact l1All_l0 l hl lo hi l.length 0 (by omega)
theorem vaGood_ev (l : List Int) (hl : l.length ≤ maxLen) (n : Int) : Ev (fun k => spec_vaGood.f k l n) (decide ((l.length : Int) = n) && valsOk l) := by
 unfold spec_vaGood.f
 refine ev_ite (fun h => ?_) (fun h => ev_some (by rw [decide_eq_false h, Bool.false_and]))
 subst h
 rw [decide_eq_true rfl, Bool.true_and]
 unfold valsOk
 refine ev_bindc (l1In_eq _ _ _) (ev_ite (fun h => ?_) (fun h => ev_some ?_))
 ·simp only [decide_eq_true_eq] at h
  rw [decide_eq_true (by omega), Bool.true_and]
  exact ev_id (l1All_ev l hl _ _)
 ·simp only [decide_eq_true_eq] at h
  rw [decide_eq_false (by omega), Bool.false_and]
theorem l1Rising_l0 (l : List Int) (hl : l.length ≤ maxLen) (n : Int) : ∀ (d i : Nat), i + d = l.length → Ev (fun k => spec_l1Rising.l0 k l 0 (n - 1) l (l.length : Int) (i : Int)) (allR (ascAt l n) i l.length) := by
 have hl := maxLen_le hl
 intro d
 induction d with
 | zero =>
  intro i hi
  exact Ev.step (fun k => spec_l1Rising.l0.eq_2 l 0 (n - 1) l l.length i k) (ev_neg (by omega) (ev_some (allR_end (by omega)).symm))
 | succ d ih =>
  intro i hi
  refine Ev.step (fun k => spec_l1Rising.l0.eq_2 l 0 (n - 1) l l.length i k) ?_
  rw [allR_step (by omega), w_succ (n := l.length) (by omega) (by omega), rd_nat]
  refine ev_pos (by omega) (ev_pos (by omega) (ev_pos (by omega) (ev_bindc (l1In_eq _ _ _) ?_)))
  refine ev_ite (fun h => ?_) (fun h => ?_)
  ·simp only [decide_eq_true_eq] at h
   refine ev_ite (fun h0 => ?_) (fun h0 => ?_)
   ·rw [w64 (x := (i : Int) - 1) (by omega) (by omega), show (i : Int) - 1 = ((i - 1 : Nat) : Int) by omega, rd_nat]
    refine ev_pos (by omega) (ev_pos (by omega) ?_)
    refine ev_ite (fun h1 => ?_) (fun h1 => ?_)
    ·refine ev_some ?_
     have : ascAt l n i = false := by unfold ascAt; simp only [decide_eq_false_iff_not]; intro hc; have := hc.2.2 (by omega); omega
     rw [this]; rfl
    ·have : ascAt l n i = true := by unfold ascAt; simp only [decide_eq_true_eq]; exact ⟨by omega, by omega, fun _ => by omega⟩
     rw [this]; exact ih (i + 1) (by omega)
   ·have : ascAt l n i = true := by unfold ascAt; simp only [decide_eq_true_eq]; exact ⟨by omega, by omega, fun _ => by omega⟩
    rw [this]; exact ih (i + 1) (by omega)
  ·refine ev_some ?_
   have : ascAt l n i = false := by
    unfold ascAt; simp only [decide_eq_true_eq] at h; simp only [decide_eq_false_iff_not]; intro hc; exact h ⟨hc.1, by omega⟩
   rw [this]; rfl
theorem l1Rising_ev (l : List Int) (hl : l.length ≤ maxLen) (n : Int) : Ev (fun k => spec_l1Rising.f k l 0 (n - 1)) (asc l n) := by
 unfold spec_l1Rising.f asc
 exact l1Rising_l0 l hl n l.length 0 (by omega)
def oreAt (v : List Int) (o : List Int) (j : Nat) : List Int := if v.getD j 0 > 0 then o ++ [(j : Int)] else o
def oreL (v : List Int) : List Int := foldR (oreAt v) 0 v.length []
theorem oreL_len (v : List Int) (m : Nat) : (foldR (oreAt v) 0 m []).length ≤ m := by
 induction m with
 | zero => rw [foldR_end (Nat.le_refl _)]; exact Nat.le_refl _
 | succ m ih =>
  rw [foldR_last (Nat.zero_le _)]
  unfold oreAt at *
  split
  ·rw [List.length_append]; simp; exact ih
  ·omega
theorem vaOre_l0 (v : List Int) (hv : v.length ≤ 1048576) : ∀ (d i : Nat), i + d = v.length → Ev (fun k => spec_vaOre.l0 k (foldR (oreAt v) 0 i []) v (v.length : Int) (i : Int)) (oreL v) := by
 intro d
 induction d with
 | zero =>
  intro i hi
  obtain rfl : i = v.length := by omega
  exact Ev.step (fun k => spec_vaOre.l0.eq_2 _ v v.length v.length k) (ev_neg (by omega) (ev_some rfl))
 | succ d ih =>
  intro i hi
  have ih := ih (i + 1) (by omega)
  rw [foldR_last (Nat.zero_le _)] at ih
  have hlen := oreL_len v i
  refine Ev.step (fun k => spec_vaOre.l0.eq_2 _ v v.length i k) ?_
  rw [w_succ (n := v.length) (by omega) (by omega), rd_nat]
  refine ev_pos (by omega) (ev_pos (by omega) (ev_pos (by omega) (ev_ite (fun h => ?_) (fun h => ?_))))
  ·rw [show oreAt v (foldR (oreAt v) 0 i []) i = foldR (oreAt v) 0 i [] ++ [(i : Int)] from if_pos h] at ih
   exact ev_pos (by omega) ih
  ·rw [show oreAt v (foldR (oreAt v) 0 i []) i = foldR (oreAt v) 0 i [] from if_neg h] at ih
   exact ih
theorem vaOre_ev (v : List Int) (hv : v.length ≤ 1048576) : Ev (fun k => spec_vaOre.f k v) (oreL v) := by
 unfold spec_vaOre.f
 have := vaOre_l0 v hv v.length 0 (by omega)
 rwa [foldR_end (Nat.le_refl _)] at this
theorem iOre_l0 (v : List Int) (hv : v.length ≤ 1048576) : ∀ (d i : Nat), i + d = v.length → Ev (fun k => impl_OreBlocks.l0 k (foldR (oreAt v) 0 i []) v (v.length : Int) (i : Int)) (oreL v, true) := by
 intro d
 induction d with
 | zero =>
  intro i hi
  obtain rfl : i = v.length := by omega
  exact Ev.step (fun k => impl_OreBlocks.l0.eq_2 _ v v.length v.length k) (ev_neg (by omega) (ev_some rfl))
 | succ d ih =>
  intro i hi
  have ih := ih (i + 1) (by omega)
  rw [foldR_last (Nat.zero_le _)] at ih
  have hlen := oreL_len v i
  refine Ev.step (fun k => impl_OreBlocks.l0.eq_2 _ v v.length i k) ?_
  rw [w_succ (n := v.length) (by omega) (by omega), rd_nat]
  refine ev_pos (by omega) (ev_pos (by omega) (ev_pos (by omega) (ev_ite (fun h => ?_) (fun h => ?_))))
  ·rw [show oreAt v (foldR (oreAt v) 0 i []) i = foldR (oreAt v) 0 i [] ++ [(i : Int)] from if_pos h] at ih
   exact ev_pos (by omega) ih
  ·rw [show oreAt v (foldR (oreAt v) 0 i []) i = foldR (oreAt v) 0 i [] from if_neg h] at ih
   exact ih
theorem iOre_ev (v : List Int) (hv : v.length ≤ 1048576) : Ev (fun k => impl_OreBlocks.f k v) (if valsOk v then (oreL v, true) else ([], false)) := by
 unfold impl_OreBlocks.f
 refine Ev.bind (goodValues_ev v (by unfold maxLen; omega)) (ev_ite (fun h => ?_) (fun h => ev_some ?_))
 ·rw [h]
  have := iOre_l0 v hv v.length 0 (by omega)
  rwa [foldR_end (Nat.le_refl _)] at this
 ·rw [Bool.not_eq_true] at h; rw [h]; rfl
theorem sOre_ev (v : List Int) (hv : v.length ≤ 1048576) : Ev (fun k => spec_OreBlocks.f k v) (if valsOk v then (oreL v, true) else ([], false)) := by
 unfold spec_OreBlocks.f
 refine Ev.bind (vaGood_ev v (by unfold maxLen; omega) _) ?_
 rw [decide_eq_true rfl, Bool.true_and]
 refine ev_ite (fun h => ?_) (fun h => ev_some ?_)
 ·rw [h]; exact Ev.bind (vaOre_ev v hv) (ev_some rfl)
 ·rw [Bool.not_eq_true] at h; rw [h]; rfl
def gridOk (x y z : Int) : Bool := decide (1 ≤ x ∧ x ≤ 8 ∧ 1 ≤ y ∧ y ≤ 6 ∧ 1 ≤ z ∧ z ≤ 5 ∧ x * y * z ≤ 120)
theorem grid_w {x y z : Int} (h : 1 ≤ x ∧ x ≤ 8 ∧ 1 ≤ y ∧ y ≤ 6 ∧ 1 ≤ z ∧ z ≤ 5) : wrap64 (wrap64 (x * y) * z) = x * y * z ∧ 1 ≤ x * y * z ∧ x * y * z ≤ 240 := by
 obtain ⟨h1, h2, h3, h4, h5, h6⟩ := h
 have a1 : x * y ≤ 8 * 6 := Int.mul_le_mul h2 h4 (by omega) (by omega)
 have a2 : 1 * 1 ≤ x * y := Int.mul_le_mul h1 h3 (by omega) (by omega)
 have a3 : x * y * z ≤ (8 * 6) * 5 := Int.mul_le_mul a1 h6 (by omega) (by omega)
 have a4 : (1 * 1) * 1 ≤ x * y * z := Int.mul_le_mul a2 h5 (by omega) (by omega)
 rw [w64 (x := x * y) (by omega) (by omega), w64 (by omega) (by omega)]
 exact ⟨rfl, by omega, by omega⟩
theorem grid_ok {x y z : Int} (h : gridOk x y z = true) : wrap64 (wrap64 (x * y) * z) = x * y * z ∧ 1 ≤ x * y * z ∧ x * y * z ≤ 120 := by
 unfold gridOk at h
 rw [decide_eq_true_eq] at h
 have := grid_w (x := x) (y := y) (z := z) (by omega)
 exact ⟨this.1, this.2.1, by omega⟩
def inL (lo hi : Int) (l : List Int) (j : Nat) : Bool := decide (lo ≤ l.getD j 0 ∧ l.getD j 0 ≤ hi)
def blockAt (t g r : List Int) (j : Nat) : Bool := inL 0 10000 t j && (inL 0 1000 g j && inL 0 4 r j)
def modelOk (x y z : Int) (t g r : List Int) : Bool := gridOk x y z && (decide ((t.length : Int) = x * y * z ∧ (g.length : Int) = x * y * z ∧ (r.length : Int) = x * y * z) && allR (blockAt t g r) 0 t.length)
theorem inL_iff {lo hi : Int} {l : List Int} {j : Nat} : inL lo hi l j = true ↔ lo ≤ l.getD j 0 ∧ l.getD j 0 ≤ hi := by unfold inL; rw [decide_eq_true_eq]
theorem blockAt_iff {t g r : List Int} {j : Nat} : blockAt t g r j = true ↔ (0 ≤ t.getD j 0 ∧ t.getD j 0 ≤ 10000) ∧ (0 ≤ g.getD j 0 ∧ g.getD j 0 ≤ 1000) ∧ 0 ≤ r.getD j 0 ∧ r.getD j 0 ≤ 4 := by
 unfold blockAt; rw [Bool.and_eq_true, Bool.and_eq_true, inL_iff, inL_iff, inL_iff]
theorem modelOk_iff {x y z : Int} {t g r : List Int} : modelOk x y z t g r = true ↔ gridOk x y z = true ∧ ((t.length : Int) = x * y * z ∧ (g.length : Int) = x * y * z ∧ (r.length : Int) = x * y * z) ∧ ∀ j, j < t.length → (0 ≤ t.getD j 0 ∧ t.getD j 0 ≤ 10000) ∧ (0 ≤ g.getD j 0 ∧ g.getD j 0 ≤ 1000) ∧ 0 ≤ r.getD j 0 ∧ r.getD j 0 ≤ 4 := by
 unfold modelOk
 rw [Bool.and_eq_true, Bool.and_eq_true, decide_eq_true_eq, allR_iff]
 exact ⟨fun h => ⟨h.1, h.2.1, fun j hj => blockAt_iff.1 (h.2.2 j (Nat.zero_le _) hj)⟩, fun h => ⟨h.1, h.2.1, fun j _ hj => blockAt_iff.2 (h.2.2 j hj)⟩⟩
theorem model_bd {x y z : Int} {t g r : List Int} (h : modelOk x y z t g r = true) : 1 ≤ t.length ∧ t.length ≤ 120 ∧ g.length = t.length ∧ r.length = t.length ∧ (t.length : Int) = x * y * z ∧ wrap64 (wrap64 (x * y) * z) = x * y * z := by
 rw [modelOk_iff] at h
 have := grid_ok h.1
 obtain ⟨_, ⟨h1, h2, h3⟩, _⟩ := h
 exact ⟨by omega, by omega, by omega, by omega, h1, this.1⟩
def stripAt (v t l : List Int) (s : Int × Int) (j : Nat) : Int × Int := if v.getD (l.getD j 0).toNat 0 > 0 then (s.1, s.2 + t.getD (l.getD j 0).toNat 0) else (s.1 + t.getD (l.getD j 0).toNat 0, s.2)
theorem strip_bd {v t l : List Int} (hl : asc l v.length = true) (ht : ∀ j, j < v.length → 0 ≤ t.getD j 0 ∧ t.getD j 0 ≤ 10000) (i : Nat) (hi : i ≤ l.length) : 0 ≤ (foldR (stripAt v t l) 0 i (0, 0)).1 ∧ (foldR (stripAt v t l) 0 i (0, 0)).1 ≤ 10000 * (i : Int) ∧ 0 ≤ (foldR (stripAt v t l) 0 i (0, 0)).2 ∧ (foldR (stripAt v t l) 0 i (0, 0)).2 ≤ 10000 * (i : Int) := by
 induction i with
 | zero => rw [foldR_end (Nat.le_refl _)]; simp
 | succ i ih =>
  have ih := ih (by omega)
  rw [foldR_last (Nat.zero_le _)]
  have h1 := asc_at hl (show i < l.length by omega)
  have h2 := ht (l.getD i 0).toNat (by omega)
  unfold stripAt at ih ⊢
  split
  ·simp only; omega
  ·simp only; omega
theorem IsGrid_eq (x y z : Int) : impl_IsGrid.f x y z = some (gridOk x y z) := by
 unfold impl_IsGrid.f gridOk
 by_cases h : 1 ≤ x ∧ x ≤ 8 ∧ 1 ≤ y ∧ y ≤ 6 ∧ 1 ≤ z ∧ z ≤ 5
 ·rw [if_pos (by omega), if_pos (by omega), if_pos (by omega), if_pos (by omega), if_pos (by omega), if_pos (by omega), (grid_w h).1]
  congr 1
  rw [Bool.eq_iff_iff, decide_eq_true_eq, decide_eq_true_eq]
  omega
 ·rw [show decide (1 ≤ x ∧ x ≤ 8 ∧ 1 ≤ y ∧ y ≤ 6 ∧ 1 ≤ z ∧ z ≤ 5 ∧ x * y * z ≤ 120) = false from decide_eq_false (by omega)]
  repeat' split
  all_goals first | rfl | (exfalso; omega)
theorem IsModel_l0 (x y z : Int) (t g r : List Int) (hl : t.length ≤ maxLen) (h1 : g.length = t.length) (h2 : r.length = t.length) : ∀ (d i : Nat), i + d = t.length → Ev (fun k => impl_IsModel.l0 k (t.length : Int) (i : Int) x y z t g r) (allR (blockAt t g r) i t.length) := by
 have hl := maxLen_le hl
 intro d
 induction d with
 | zero =>
  intro i hi
  exact Ev.step (fun k => impl_IsModel.l0.eq_2 t.length i x y z t g r k) (ev_neg (by omega) (ev_some (allR_end (by omega)).symm))
 | succ d ih =>
  intro i hi
  refine Ev.step (fun k => impl_IsModel.l0.eq_2 t.length i x y z t g r k) ?_
  rw [allR_step (by omega), w_succ (n := t.length) (by omega) (by omega), rd_nat, rd_nat, rd_nat]
  have no : ¬ ((0 ≤ t.getD i 0 ∧ t.getD i 0 ≤ 10000) ∧ (0 ≤ g.getD i 0 ∧ g.getD i 0 ≤ 1000) ∧ 0 ≤ r.getD i 0 ∧ r.getD i 0 ≤ 4) → false = (blockAt t g r i && allR (blockAt t g r) (i + 1) t.length) := by
   intro h
   have : blockAt t g r i = false := by rw [← Bool.not_eq_true, blockAt_iff]; exact h
   rw [this, Bool.false_and]
  refine ev_pos (by omega) (ev_pos (by omega) (ev_pos (by omega) (ev_ite (fun q => ev_some (no (by omega))) (fun q1 => ev_ite (fun q => ev_some (no (by omega))) (fun q2 => ev_pos (by omega) (ev_ite (fun q => ev_some (no (by omega))) (fun q3 => ev_ite (fun q => ev_some (no (by omega))) (fun q4 => ev_pos (by omega) (ev_ite (fun q => ev_some (no (by omega))) (fun q5 => ev_ite (fun q => ev_some (no (by omega))) (fun q6 => ?_)))))))))))
  rw [blockAt_iff.2 (by omega), Bool.true_and]
  exact ih (i + 1) (by omega)
theorem IsModel_ev (x y z : Int) (t g r : List Int) (ht : t.length ≤ maxLen) : Ev (fun k => impl_IsModel.f k x y z t g r) (modelOk x y z t g r) := by
 unfold impl_IsModel.f
 refine ev_bindc (IsGrid_eq x y z) (ev_ite (fun h => ?_) (fun h => ev_some ?_))
 ·have hw := grid_ok h
  refine ev_bindc (a := x * y * z) (by unfold impl_blocksOf.f; rw [hw.1]) ?_
  have no : ¬ ((t.length : Int) = x * y * z ∧ (g.length : Int) = x * y * z ∧ (r.length : Int) = x * y * z) → false = modelOk x y z t g r := by
   intro hn; unfold modelOk; rw [decide_eq_false hn, Bool.false_and, Bool.and_false]
  have bad : ∀ b : Bool, b = true → ¬ ((t.length : Int) = x * y * z ∧ (g.length : Int) = x * y * z ∧ (r.length : Int) = x * y * z) → Ev (fun k => impl_IsModel.j0 k (x * y * z) b x y z t g r) (modelOk x y z t g r) := by
   intro b hb hn
   exact Ev.step (fun k => impl_IsModel.j0.eq_2 _ b x y z t g r k) (ev_pos hb (ev_some (no hn)))
  refine ev_ite (fun h1 => ev_ite (fun h2 => ?_) (fun h2 => bad _ rfl (by omega))) (fun h1 => bad _ rfl (by omega))
  by_cases h3 : (r.length : Int) = x * y * z
  ·refine Ev.step (fun k => impl_IsModel.j0.eq_2 _ _ x y z t g r k) (ev_neg (by simp [h3]) ?_)
   have := IsModel_l0 x y z t g r ht (by omega) (by omega) t.length 0 (by omega)
   unfold modelOk
   rw [h, decide_eq_true ⟨h1, h2, h3⟩, Bool.true_and, Bool.true_and, ← h1]
   exact this
  ·exact bad _ (by simp [h3]) (by omega)
 ·rw [Bool.not_eq_true] at h; unfold modelOk; rw [h, Bool.false_and]
theorem grGood_eq (x y z : Int) : spec_grGood.f x y z = some (gridOk x y z) := by
 unfold spec_grGood.f gridOk
 simp only [l1In_eq, Option.bind_some, decide_eq_true_eq]
 by_cases h1 : 1 ≤ x ∧ x ≤ 8
 ·rw [if_pos h1]
  by_cases h2 : 1 ≤ y ∧ y ≤ 6
  ·rw [if_pos h2]
   by_cases h3 : 1 ≤ z ∧ z ≤ 5
   ·rw [if_pos h3]
    have := grid_w (x := x) (y := y) (z := z) (by omega)
    rw [this.1]
    congr 1
    rw [Bool.eq_iff_iff, decide_eq_true_eq, decide_eq_true_eq]
    omega
   ·rw [if_neg h3, decide_eq_false (by omega)]
  ·rw [if_neg h2, decide_eq_false (by omega)]
 ·rw [if_neg h1, decide_eq_false (by omega)]
theorem moGood_ev (x y z : Int) (t g r : List Int) (ht : t.length ≤ maxLen) (hg : g.length ≤ maxLen) (hr : r.length ≤ maxLen) : Ev (fun k => spec_moGood.f k x y z t g r) (modelOk x y z t g r) := by
 unfold spec_moGood.f
 refine ev_bindc (grGood_eq x y z) (ev_ite (fun h => ?_) (fun h => ev_some ?_))
 ·have hw := grid_ok h
  refine ev_bindc (a := x * y * z) (by unfold spec_grCount.f; rw [hw.1]) ?_
  have no : ¬ ((t.length : Int) = x * y * z ∧ (g.length : Int) = x * y * z ∧ (r.length : Int) = x * y * z) → false = modelOk x y z t g r := by
   intro hn; unfold modelOk; rw [decide_eq_false hn, Bool.false_and, Bool.and_false]
  refine ev_ite (fun h1 => ev_ite (fun h2 => ev_ite (fun h3 => ?_) (fun h3 => ev_some (no (by omega)))) (fun h2 => ev_some (no (by omega)))) (fun h1 => ev_some (no (by omega)))
  have e : modelOk x y z t g r = (allR (inL 0 10000 t) 0 t.length && (allR (inL 0 1000 g) 0 g.length && allR (inL 0 4 r) 0 r.length)) := by
   rw [Bool.eq_iff_iff, modelOk_iff, Bool.and_eq_true, Bool.and_eq_true, allR_iff, allR_iff, allR_iff]
   constructor
   ·rintro ⟨_, _, hb⟩
    exact ⟨fun j _ hj => inL_iff.2 (hb j hj).1, fun j _ hj => inL_iff.2 (hb j (by omega)).2.1, fun j _ hj => inL_iff.2 (hb j (by omega)).2.2⟩
   ·rintro ⟨b1, b2, b3⟩
    exact ⟨h, ⟨h1, h2, h3⟩, fun j hj => ⟨inL_iff.1 (b1 j (Nat.zero_le _) hj), inL_iff.1 (b2 j (Nat.zero_le _) (by omega)), inL_iff.1 (b3 j (Nat.zero_le _) (by omega))⟩⟩
  rw [e]
  refine Ev.bind (l1All_ev t ht 0 10000) (ev_ite (fun q1 => ?_) (fun q1 => ev_some ?_))
  ·rw [show allR (inL 0 10000 t) 0 t.length = true from q1, Bool.true_and]
   refine Ev.bind (l1All_ev g hg 0 1000) (ev_ite (fun q2 => ?_) (fun q2 => ev_some ?_))
   ·rw [show allR (inL 0 1000 g) 0 g.length = true from q2, Bool.true_and]
    exact ev_id (l1All_ev r hr 0 4)
   ·rw [Bool.not_eq_true] at q2; rw [show allR (inL 0 1000 g) 0 g.length = false from q2, Bool.false_and]
  ·rw [Bool.not_eq_true] at q1; rw [show allR (inL 0 10000 t) 0 t.length = false from q1, Bool.false_and]
 ·rw [Bool.not_eq_true] at h; unfold modelOk; rw [h, Bool.false_and]
theorem strip_l0 (x y z : Int) (v t g r l : List Int) (hlen : v.length = t.length) (hn : v.length ≤ 120) (hl : asc l v.length = true) (ht : ∀ j, j < v.length → 0 ≤ t.getD j 0 ∧ t.getD j 0 ≤ 10000) (q : Int × Int × Bool)
  (hs : Ev (fun k => spec_StripRatio.l0 k v (foldR (stripAt v t l) 0 l.length (0, 0)).1 (foldR (stripAt v t l) 0 l.length (0, 0)).2 l (l.length : Int) (l.length : Int) x y z t g r) q)
  (hi : Ev (fun k => impl_StripRatio.l0 k v (foldR (stripAt v t l) 0 l.length (0, 0)).1 (foldR (stripAt v t l) 0 l.length (0, 0)).2 l (l.length : Int) (l.length : Int) x y z t g r) q) :
  ∀ (d i : Nat), i + d = l.length → Ev (fun k => spec_StripRatio.l0 k v (foldR (stripAt v t l) 0 i (0, 0)).1 (foldR (stripAt v t l) 0 i (0, 0)).2 l (l.length : Int) (i : Int) x y z t g r) q ∧ Ev (fun k => impl_StripRatio.l0 k v (foldR (stripAt v t l) 0 i (0, 0)).1 (foldR (stripAt v t l) 0 i (0, 0)).2 l (l.length : Int) (i : Int) x y z t g r) q := by
 have hll := asc_len hl
 intro d
 induction d with
 | zero =>
  intro i hi'
  obtain rfl : i = l.length := by omega
  exact ⟨hs, hi⟩
 | succ d ih =>
  intro i hi'
  have ih := ih (i + 1) (by omega)
  have h1 := asc_at hl (show i < l.length by omega)
  have h2 := ht (l.getD i 0).toNat (by omega)
  have h3 := strip_bd hl ht i (by omega)
  rw [foldR_last (Nat.zero_le _), ← w_succ (n := l.length) (i := i) (by omega) (by omega)] at ih
  generalize foldR (stripAt v t l) 0 i (0, 0) = s at *
  have rv : rd v (l.getD i 0) = v.getD (l.getD i 0).toNat 0 := rfl
  have rt : rd t (l.getD i 0) = t.getD (l.getD i 0).toNat 0 := rfl
  unfold stripAt at ih
  constructor
  ·refine Ev.step (fun k => spec_StripRatio.l0.eq_2 v s.1 s.2 l l.length i x y z t g r k) ?_
   rw [rd_nat, rv, rt]
   refine ev_pos (by omega) (ev_pos (by omega) (ev_pos (by omega) (ev_pos (by omega) (ev_pos (by omega) (ev_ite (fun h => ev_pos (by omega) ?_) (fun h => ev_pos (by omega) ?_))))))
   ·rw [if_pos h] at ih; rw [w64 (x := s.2 + _) (by omega) (by omega)]; exact ih.1
   ·rw [if_neg h] at ih; rw [w64 (x := s.1 + _) (by omega) (by omega)]; exact ih.1
  ·refine Ev.step (fun k => impl_StripRatio.l0.eq_2 v s.1 s.2 l l.length i x y z t g r k) ?_
   rw [rd_nat, rv, rt]
   refine ev_pos (by omega) (ev_pos (by omega) (ev_pos (by omega) (ev_pos (by omega) (ev_pos (by omega) (ev_ite (fun h => ev_pos (by omega) ?_) (fun h => ev_pos (by omega) ?_))))))
   ·rw [if_pos h] at ih; rw [w64 (x := s.2 + _) (by omega) (by omega)]; exact ih.2
   ·rw [if_neg h] at ih; rw [w64 (x := s.1 + _) (by omega) (by omega)]; exact ih.2
theorem parts2 (a b : Int) : ∀ (n : Nat) (x y : Int), 0 ≤ x → 0 ≤ y → y ≤ n → (x ≠ 0 ∨ y ≠ 0) → ∃ r : Int × Int, (Ev (fun k => spec_moPart.l0 k a b x y) r ∧ Ev (fun k => impl_lowest.l0 k a b x y) r) ∧ ∃ g : Int, 1 ≤ g ∧ (∃ p q : Int, x = g * p ∧ y = g * q) ∧ r = (wrap64 (Int.tdiv a g), wrap64 (Int.tdiv b g)) := by
 intro n
 induction n with
 | zero =>
  intro x y hx hy hn hxy
  have hy0 : y = 0 := by omega
  subst hy0
  exact ⟨_, ⟨Ev.step (fun k => spec_moPart.l0.eq_2 a b x 0 k) (ev_neg (by omega) (ev_neg (by omega) (ev_some rfl))), Ev.step (fun k => impl_lowest.l0.eq_2 a b x 0 k) (ev_pos rfl (ev_neg (by omega) (ev_some rfl)))⟩, x, by omega, ⟨1, 0, by omega, by omega⟩, rfl⟩
 | succ n ih =>
  intro x y hx hy hn hxy
  by_cases hy0 : y = 0
  ·subst hy0
   exact ⟨_, ⟨Ev.step (fun k => spec_moPart.l0.eq_2 a b x 0 k) (ev_neg (by omega) (ev_neg (by omega) (ev_some rfl))), Ev.step (fun k => impl_lowest.l0.eq_2 a b x 0 k) (ev_pos rfl (ev_neg (by omega) (ev_some rfl)))⟩, x, by omega, ⟨1, 0, by omega, by omega⟩, rfl⟩
  ·have h1 : Int.tmod x y = x % y := Int.tmod_eq_emod_of_nonneg hx
   have h2 := Int.emod_nonneg x hy0
   have h3 := Int.emod_lt_of_pos x (show 0 < y by omega)
   obtain ⟨r, ⟨hs, hi⟩, g, hg, ⟨p, q, hp, hq⟩, hr⟩ := ih y (Int.tmod x y) hy (by omega) (by omega) (Or.inl hy0)
   refine ⟨r, ⟨Ev.step (fun k => spec_moPart.l0.eq_2 a b x y k) (ev_pos (by omega) (ev_neg hy0 hs)), Ev.step (fun k => impl_lowest.l0.eq_2 a b x y k) (ev_neg hy0 hi)⟩, g, hg, ⟨p * (x / y) + q, p, ?_, hp⟩, hr⟩
   have h4 := Int.mul_ediv_add_emod x y
   rw [← h1, hq] at h4
   rw [Int.mul_add, ← Int.mul_assoc, ← hp]
   exact h4.symm
theorem strip_law (x y z : Int) (v t g r l : List Int) (hv : v.length ≤ maxLen) (ht : t.length ≤ maxLen) (hg : g.length ≤ maxLen) (hr : r.length ≤ maxLen) (hl : l.length ≤ maxLen) :
  ∃ q : Int × Int × Bool, (Ev (fun k => spec_StripRatio.f k x y z t g r v l) q ∧ Ev (fun k => impl_StripRatio.f k x y z t g r v l) q) ∧ (q.2.2 = true → modelOk x y z t g r = true ∧ asc l t.length = true ∧ valsOk v = true ∧ v.length = t.length ∧ q.1 * (foldR (stripAt v t l) 0 l.length (0, 0)).2 = (foldR (stripAt v t l) 0 l.length (0, 0)).1 * q.2.1 ∧ 1 ≤ q.2.1 ∧ (0 ≤ q.1 ∧ q.1 ≤ (foldR (stripAt v t l) 0 l.length (0, 0)).1) ∧ q.2.1 ≤ (foldR (stripAt v t l) 0 l.length (0, 0)).2) := by
 have hm := moGood_ev x y z t g r ht hg hr
 have hi := IsModel_ev x y z t g r ht
 by_cases c0 : modelOk x y z t g r = true ∧ asc l t.length = true ∧ valsOk v = true ∧ v.length = t.length
 ·obtain ⟨c1, c2, c3, c4⟩ := c0
  have hb := model_bd c1
  have hm' := (modelOk_iff.1 c1).2.2
  have hll := asc_len c2
  have key : ∃ q : Int × Int × Bool, (Ev (fun k => spec_StripRatio.l0 k v 0 0 l (l.length : Int) 0 x y z t g r) q ∧ Ev (fun k => impl_StripRatio.l0 k v 0 0 l (l.length : Int) 0 x y z t g r) q) ∧ (q.2.2 = true → q.1 * (foldR (stripAt v t l) 0 l.length (0, 0)).2 = (foldR (stripAt v t l) 0 l.length (0, 0)).1 * q.2.1 ∧ 1 ≤ q.2.1 ∧ (0 ≤ q.1 ∧ q.1 ≤ (foldR (stripAt v t l) 0 l.length (0, 0)).1) ∧ q.2.1 ≤ (foldR (stripAt v t l) 0 l.length (0, 0)).2) := by
   have hbd := strip_bd (v := v) (t := t) (l := l) (by rw [c4]; exact c2) (fun j hj => (hm' j (by omega)).1) l.length (Nat.le_refl _)
   have st := fun q => strip_l0 x y z v t g r l c4 (by omega) (by rw [c4]; exact c2) (fun j hj => (hm' j (by omega)).1) q
   generalize hs : foldR (stripAt v t l) 0 l.length (0, 0) = s at *
   by_cases h0 : s.2 = 0
   ·have := st (0, 0, false) (Ev.step (fun k => spec_StripRatio.l0.eq_2 v s.1 s.2 l l.length l.length x y z t g r k) (ev_neg (by omega) (ev_pos h0 (ev_some rfl)))) (Ev.step (fun k => impl_StripRatio.l0.eq_2 v s.1 s.2 l l.length l.length x y z t g r k) (ev_neg (by omega) (ev_pos h0 (ev_some rfl)))) l.length 0 (by omega)
    rw [foldR_end (Nat.le_refl _)] at this
    exact ⟨_, this, fun h => by cases h⟩
   ·obtain ⟨p, ⟨hp1, hp2⟩, g', hg1, ⟨u, w', hu, hw⟩, hpe⟩ := parts2 s.1 s.2 s.2.toNat s.1 s.2 (by omega) (by omega) (by omega) (Or.inr h0)
    have := st (p.1, p.2, true) (Ev.step (fun k => spec_StripRatio.l0.eq_2 v s.1 s.2 l l.length l.length x y z t g r k) (ev_neg (by omega) (ev_neg h0 (Ev.bind (by unfold spec_moPart.f; exact hp1) (ev_some rfl))))) (Ev.step (fun k => impl_StripRatio.l0.eq_2 v s.1 s.2 l l.length l.length x y z t g r k) (ev_neg (by omega) (ev_neg h0 (Ev.bind (by
     unfold impl_lowest.f impl_abs.f
     refine ev_bindc (a := s.1) ?_ hp2
     have : mx s.1 (wrap64 (-s.1)) = s.1 := by
      unfold mx
      rw [w64 (by omega) (by omega)]
      split <;> omega
     rw [this]) (ev_some rfl))))) l.length 0 (by omega)
    rw [foldR_end (Nat.le_refl _)] at this
    refine ⟨_, this, fun _ => ?_⟩
    have d1 : Int.tdiv s.1 g' = u := by rw [hu]; exact Int.mul_tdiv_cancel_left u (by omega)
    have d2 : Int.tdiv s.2 g' = w' := by rw [hw]; exact Int.mul_tdiv_cancel_left w' (by omega)
    have b1 : 0 ≤ Int.tdiv s.1 g' ∧ Int.tdiv s.1 g' ≤ s.1 := ⟨Int.tdiv_nonneg (by omega) (by omega), by rw [Int.tdiv_eq_ediv_of_nonneg (by omega)]; exact Int.ediv_le_self _ (by omega)⟩
    have b2 : 0 ≤ Int.tdiv s.2 g' ∧ Int.tdiv s.2 g' ≤ s.2 := ⟨Int.tdiv_nonneg (by omega) (by omega), by rw [Int.tdiv_eq_ediv_of_nonneg (by omega)]; exact Int.ediv_le_self _ (by omega)⟩
    have p1 : p.1 = u := by rw [hpe]; show wrap64 (Int.tdiv s.1 g') = u; rw [w64 (by omega) (by omega), d1]
    have p2 : p.2 = w' := by rw [hpe]; show wrap64 (Int.tdiv s.2 g') = w'; rw [w64 (by omega) (by omega), d2]
    show p.1 * s.2 = s.1 * p.2 ∧ 1 ≤ p.2 ∧ (0 ≤ p.1 ∧ p.1 ≤ s.1) ∧ p.2 ≤ s.2
    rw [p1, p2]
    refine ⟨by rw [hw, hu, ← Int.mul_assoc, Int.mul_comm u g'], ?_, ⟨by omega, by omega⟩, by omega⟩
    by_cases hz : w' = 0
    ·rw [hz, Int.mul_zero] at hw; exact absurd hw h0
    ·omega
  obtain ⟨q, ⟨k1, k2⟩, k3⟩ := key
  refine ⟨q, ⟨?_, ?_⟩, fun h => ⟨c1, c2, c3, c4, k3 h⟩⟩
  ·unfold spec_StripRatio.f spec_moList.f
   refine Ev.bind (a := true) (Ev.bind hm (ev_pos c1 (ev_bindc (a := x * y * z) (by unfold spec_grCount.f; rw [hb.2.2.2.2.2]) ?_))) (ev_pos rfl ?_)
   ·rw [w64 (by omega) (by omega)]
    have := l1Rising_ev l hl (x * y * z)
    rw [← hb.2.2.2.2.1] at this
    rw [← hb.2.2.2.2.1, ← c2]
    exact ev_id this
   ·refine Ev.bind (vaGood_ev v hv _) ?_
    refine Ev.step (fun k => spec_StripRatio.j0.eq_2 v l _ x y z t g r k) (ev_neg ?_ k1)
    rw [c3, c4]; simp
  ·unfold impl_StripRatio.f
   refine Ev.bind hi (ev_pos c1 (Ev.bind (goodValues_ev v hv) (ev_pos c3 (ev_pos (by omega) (Ev.bind (areBlocks_ev l hl _) ?_)))))
   refine Ev.step (fun k => impl_StripRatio.j0.eq_2 v l _ x y z t g r k) (ev_neg ?_ k2)
   rw [c4, c2]; simp
 ·refine ⟨(0, 0, false), ⟨?_, ?_⟩, fun h => by cases h⟩
  ·have fin : ∀ b, b = true → Ev (fun k => spec_StripRatio.j0 k v l b x y z t g r) (0, 0, false) := fun b hb => Ev.step (fun k => spec_StripRatio.j0.eq_2 v l b x y z t g r k) (ev_pos hb (ev_some rfl))
   unfold spec_StripRatio.f spec_moList.f
   refine Ev.bind (a := modelOk x y z t g r && asc l t.length) (Ev.bind hm (ev_ite (fun h => ?_) (fun h => ev_some ?_))) (ev_ite (fun h => ?_) (fun h => fin _ rfl))
   ·have hb := model_bd h
    refine ev_bindc (a := x * y * z) (by unfold spec_grCount.f; rw [hb.2.2.2.2.2]) ?_
    rw [w64 (by omega) (by omega), h, Bool.true_and, hb.2.2.2.2.1]
    exact ev_id (l1Rising_ev l hl (x * y * z))
   ·rw [Bool.not_eq_true] at h; rw [h, Bool.false_and]
   ·rw [Bool.and_eq_true] at h
    refine Ev.bind (vaGood_ev v hv _) (fin _ ?_)
    rw [Bool.not_eq_true', ← Bool.not_eq_true, Bool.and_eq_true, decide_eq_true_eq]
    rintro ⟨h1, h2⟩
    exact c0 ⟨h.1, h.2, h2, by omega⟩
  ·have fin : ∀ b, b = true → Ev (fun k => impl_StripRatio.j0 k v l b x y z t g r) (0, 0, false) := fun b hb => Ev.step (fun k => impl_StripRatio.j0.eq_2 v l b x y z t g r k) (ev_pos hb (ev_some rfl))
   unfold impl_StripRatio.f
   refine Ev.bind hi (ev_ite (fun h => Ev.bind (goodValues_ev v hv) (ev_ite (fun h1 => ev_ite (fun h2 => Ev.bind (areBlocks_ev l hl _) (fin _ ?_)) (fun _ => fin _ rfl)) (fun _ => fin _ rfl))) (fun _ => fin _ rfl))
   rw [Bool.not_eq_true', ← Bool.not_eq_true]
   intro h3
   exact c0 ⟨h, by rw [← h2]; exact h3, h1, by omega⟩
theorem iSum_ev (v l : List Int) (hv : v.length ≤ maxLen) (hl : l.length ≤ maxLen) : Ev (fun k => impl_SumOfValues.f k v l) (if valsOk v && asc l v.length then (valSum v l, true) else (0, false)) := by
 unfold impl_SumOfValues.f
 refine Ev.bind (goodValues_ev v hv) (ev_ite (fun h => ?_) (fun h => ev_some ?_))
 ·refine Ev.bind (areBlocks_ev l hl _) (ev_ite (fun h1 => ?_) (fun h1 => ev_some ?_))
  ·rw [h, h1]; exact Ev.bind (valueSum_ev v l h h1) (ev_some rfl)
  ·rw [Bool.not_eq_true] at h1; rw [h, h1]; rfl
 ·rw [Bool.not_eq_true] at h; rw [h]; rfl
theorem sSum_ev (v l : List Int) (hv : v.length ≤ maxLen) (hl : l.length ≤ maxLen) : Ev (fun k => spec_SumOfValues.f k v l) (if valsOk v && asc l v.length then (valSum v l, true) else (0, false)) := by
 have hv' := maxLen_le hv
 unfold spec_SumOfValues.f
 refine Ev.bind (vaGood_ev v hv _) ?_
 rw [decide_eq_true rfl, Bool.true_and, w64 (by omega) (by omega)]
 refine ev_ite (fun h => ?_) (fun h => ev_some ?_)
 ·refine Ev.bind (l1Rising_ev l hl _) (ev_ite (fun h1 => ?_) (fun h1 => ev_some ?_))
  ·have hlen := asc_len h1
   have hn := (valsOk_iff.1 h).2.1
   rw [h, h1]; exact Ev.bind (vaSum_ev v l h (fun x hx => asc_mem h1 hx) (by omega)) (ev_some rfl)
  ·rw [Bool.not_eq_true] at h1; rw [h, h1]; rfl
 ·rw [Bool.not_eq_true] at h; rw [h]; rfl
theorem iAre_ev (v : List Int) (n : Int) (hv : v.length ≤ maxLen) : Ev (fun k => impl_AreValues.f k v n) (decide ((v.length : Int) = n) && valsOk v) := by
 unfold impl_AreValues.f
 refine ev_ite (fun h => ?_) (fun h => ev_some ?_)
 ·rw [decide_eq_true h, Bool.true_and]; exact ev_id (goodValues_ev v hv)
 ·rw [decide_eq_false h]; rfl
theorem sAre_ev (v : List Int) (n : Int) (hv : v.length ≤ maxLen) : Ev (fun k => spec_AreValues.f k v n) (decide ((v.length : Int) = n) && valsOk v) := by
 unfold spec_AreValues.f
 exact ev_id (vaGood_ev v hv n)
theorem ore_list (v : List Int) : oreL v = listOf (v.map fun x => decide (x > 0)) := by
 unfold oreL listOf
 rw [List.length_map]
 refine foldR_congr (fun t j _ hj => ?_)
 unfold oreAt putAt
 rw [List.getD_eq_getElem?_getD, List.getD_eq_getElem?_getD, List.getElem?_map, List.getElem?_eq_getElem hj]
 simp
theorem ore_asc (v : List Int) : asc (oreL v) v.length = true := by
 have h := listOf_asc (m := v.map fun x => decide (x > 0))
 rw [List.length_map] at h
 rw [ore_list]; exact h
theorem ore_mem (v : List Int) (i : Nat) (hi : i < v.length) : ((i : Int) ∈ oreL v) ↔ v.getD i 0 > 0 := by
 rw [ore_list, listOf_mem]
 unfold at_
 rw [toNat_nat, List.getD_eq_getElem?_getD, List.getElem?_map, List.getD_eq_getElem?_getD, List.getElem?_eq_getElem hi]
 simp
/-- what is left of the ore's sum behind i values -/
def posAt (v : List Int) (s : Int) (j : Nat) : Int := if v.getD j 0 > 0 then s + v.getD j 0 else s
def posTo (v : List Int) (i : Nat) : Int := foldR (posAt v) 0 i 0
theorem posTo_succ (v : List Int) (i : Nat) : posTo v (i + 1) = if v.getD i 0 > 0 then posTo v i + v.getD i 0 else posTo v i := by unfold posTo; rw [foldR_last (Nat.zero_le _)]; rfl
theorem ore_sum (v : List Int) (m : Nat) : valSum v (foldR (oreAt v) 0 m []) = posTo v m := by
 induction m with
 | zero => unfold posTo; rw [foldR_end (Nat.le_refl _), foldR_end (Nat.le_refl _)]; rfl
 | succ m ih =>
  rw [foldR_last (Nat.zero_le _), posTo_succ, ← ih]
  unfold oreAt
  split
  ·rw [valSum_snoc, toNat_nat]
  ·rfl
theorem ore_val (v : List Int) : valSum v (oreL v) = posTo v v.length := ore_sum v v.length
theorem posTo_bd {v : List Int} (h : valsOk v = true) (i : Nat) (hi : i ≤ v.length) : 0 ≤ posTo v i ∧ posTo v i ≤ 1000000 * (i : Int) := by
 have hv := (valsOk_iff.1 h).2.2
 induction i with
 | zero => unfold posTo; rw [foldR_end (Nat.le_refl _)]; simp
 | succ i ih =>
  have ih := ih (by omega)
  have := hv i (by omega)
  rw [posTo_succ]
  split <;> omega
theorem sum_bd {v l : List Int} (h : valsOk v = true) (hl : asc l v.length = true) (m : Nat) (hm : m ≤ l.length) : -1000000 * (m : Int) ≤ foldR (sumAt v l) 0 m 0 ∧ foldR (sumAt v l) 0 m 0 ≤ 1000000 * (m : Int) := by
 have hv := (valsOk_iff.1 h).2.2
 induction m with
 | zero => rw [foldR_end (Nat.le_refl _)]; simp
 | succ m ih =>
  have ih := ih (by omega)
  have h1 := asc_at hl (show m < l.length by omega)
  have := hv (l.getD m 0).toNat (by omega)
  rw [foldR_last (Nat.zero_le _)]
  unfold sumAt at *
  omega
theorem has_l0 (l : List Int) (hl : l.length ≤ maxLen) (u : Int) : ∀ (d i : Nat), i + d = l.length → (∀ j, j < i → l.getD j 0 ≠ u) → Ev (fun k => laws_qHas.l0 k u l (l.length : Int) (i : Int)) (decide (u ∈ l)) := by
 have hl := maxLen_le hl
 intro d
 induction d with
 | zero =>
  intro i hi hb
  refine Ev.step (fun k => laws_qHas.l0.eq_2 u l l.length i k) (ev_neg (by omega) (ev_some ?_))
  refine (decide_eq_false (fun h => ?_)).symm
  obtain ⟨j, hj, he⟩ := mem_getD (z := 0) h
  exact hb j (by omega) he
 | succ d ih =>
  intro i hi hb
  refine Ev.step (fun k => laws_qHas.l0.eq_2 u l l.length i k) ?_
  rw [w_succ (n := l.length) (by omega) (by omega), rd_nat]
  refine ev_pos (by omega) (ev_pos (by omega) (ev_pos (by omega) (ev_ite (fun h => ev_some ?_) (fun h => ih (i + 1) (by omega) (fun j hj => ?_)))))
  ·exact (decide_eq_true (by rw [← h]; exact getD_mem (by omega))).symm
  ·by_cases e : j = i
   ·subst e; exact h
   ·exact hb j (by omega)
theorem has_calls (l : List Int) (hl : l.length ≤ maxLen) (u : Int) (A : Option Addr) (c : Nat) (w : World) (h1 : Kd.C (Kd.int .i64) w A l.length l) (e1 : l.length ≤ c) :
  Calls Try.prog 58 #[.slice A l.length c, .int .i64 u] w fun e w' => e = .returned (.bool (decide (u ∈ l))) ∧ Below w.heap.size w w' := by
 have h : Ev (fun k => laws_qHas.f k l u) (decide (u ∈ l)) := by
  unfold laws_qHas.f
  exact has_l0 l hl u l.length 0 (by omega) (fun j hj => by omega)
 obtain ⟨k, hk⟩ := h.rounds
 refine (laws_qHas.calls k A c l u _ w h1 e1 hk).mono ?_
 rintro e w' ⟨h, m, rfl⟩
 exact ⟨h, pw_below_drewN (Below.refl _ _) m⟩
theorem ints_l0 (l : List Int) (hl : l.length ≤ maxLen) : ∀ (d i : Nat), i + d = l.length → Ev (fun k => laws_qInts.l0 k l l (l.length : Int) (i : Int)) true := by
 have hl := maxLen_le hl
 intro d
 induction d with
 | zero =>
  intro i hi
  exact Ev.step (fun k => laws_qInts.l0.eq_2 l l l.length i k) (ev_neg (by omega) (ev_some rfl))
 | succ d ih =>
  intro i hi
  refine Ev.step (fun k => laws_qInts.l0.eq_2 l l l.length i k) ?_
  rw [w_succ (n := l.length) (by omega) (by omega)]
  exact ev_pos (by omega) (ev_pos (by omega) (ev_pos (by omega) (ev_pos (by omega) (ev_pos rfl (ih (i + 1) (by omega))))))
theorem ints_calls (l : List Int) (hl : l.length ≤ maxLen) (A : Option Addr) (c : Nat) (A' : Option Addr) (c' : Nat) (w : World) (h1 : Kd.C (Kd.int .i64) w A l.length l) (e1 : l.length ≤ c) (h2 : Kd.C (Kd.int .i64) w A' l.length l) (e2 : l.length ≤ c') :
  Calls Try.prog 55 #[.slice A l.length c, .slice A' l.length c'] w fun e w' => e = .returned (.bool true) ∧ Below w.heap.size w w' := by
 have h : Ev (fun k => laws_qInts.f k l l) true := by
  unfold laws_qInts.f
  exact ev_pos rfl (ints_l0 l hl l.length 0 (by omega))
 obtain ⟨k, hk⟩ := h.rounds
 refine (laws_qInts.calls k A c l A' c' l true w h1 e1 h2 e2 hk).mono ?_
 rintro e w' ⟨h, m, rfl⟩
 exact ⟨h, pw_below_drewN (Below.refl _ _) m⟩
end Go.Proofs.Ytomfjhpiemipkaa.OreLaw
