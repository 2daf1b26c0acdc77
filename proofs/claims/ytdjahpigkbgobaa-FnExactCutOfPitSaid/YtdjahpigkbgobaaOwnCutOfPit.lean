/- The contract of impl.CutOfPit by hand. -/
-- OWN cutP %s = %s
import Derived.Test.YtdjahpigkbgobaaCom
import Derived.Laws.IdiomStrings
import Derived.Test.YtdjahpigkbgobaaMFnExactCutOfPitx0
import Derived.Test.YtdjahpigkbgobaaMFnExactCutOfPitx0
import Derived.Test.YtdjahpigkbgobaaMFnExactCutOfPitx0
namespace Go.Proofs.Ytdjahpigkbgobaa.OwnCutOfPit
open Go.RowKit Go.Proofs.Ytdjahpigkbgobaa.PFnExactCutOfPit Go.Proofs.YtdjahpigkbgobaaW.PrintWords Go.Proofs.YtdjahpigkbgobaaW.PrintLast Go.Proofs.YtdjahpigkbgobaaW.PrintMore Go.Proofs.Ytdjahpigkbgobaa.B Go.Proofs.Ytdjahpigkbgobaa.Com
set_option linter.unusedVariables false
set_option linter.unusedSimpArgs false
attribute [local go_sem] max2_int min2_int max_two min_two
def valAt (l : List Int) (j : Nat) : Bool := decide (-1000000 ≤ l.getD j 0 ∧ l.getD j 0 ≤ 1000000)
def valsOk (l : List Int) : Bool := decide (1 ≤ l.length ∧ l.length ≤ 120) && allR (valAt l) 0 l.length
theorem valsOk_iff {l : List Int} : valsOk l = true ↔ 1 ≤ l.length ∧ l.length ≤ 120 ∧ ∀ j, j < l.length → -1000000 ≤ l.getD j 0 ∧ l.getD j 0 ≤ 1000000 := by
  unfold valsOk valAt
  rw [Bool.and_eq_true, decide_eq_true_eq, allR_iff]
  constructor
  · rintro ⟨⟨h1, h2⟩, h3⟩; exact ⟨h1, h2, fun j hj => by have := h3 j (Nat.zero_le _) hj; simpa using this⟩
  · rintro ⟨h1, h2, h3⟩; exact ⟨⟨h1, h2⟩, fun j _ hj => by simpa using h3 j hj⟩
def sumAt (v l : List Int) (s : Int) (j : Nat) : Int := s + v.getD (l.getD j 0).toNat 0
def valSum (v l : List Int) : Int := foldR (sumAt v l) 0 l.length 0
theorem valSum_bound {v l : List Int} (hv : ∀ j, j < v.length → -1000000 ≤ v.getD j 0 ∧ v.getD j 0 ≤ 1000000) (hl : ∀ j, j < l.length → 0 ≤ l.getD j 0 ∧ l.getD j 0 < v.length) (m : Nat) (hm : m ≤ l.length) : -1000000 * (m : Int) ≤ foldR (sumAt v l) 0 m 0 ∧ foldR (sumAt v l) 0 m 0 ≤ 1000000 * (m : Int) := by
  induction m with
  | zero => rw [foldR_end (Nat.le_refl _)]; omega
  | succ m ih =>
    have ih := ih (by omega)
    rw [foldR_last (by omega)]
    have h1 := hl m (by omega)
    have h2 := hv (l.getD m 0).toNat (by omega)
    unfold sumAt at *
    omega

def goodC (a : List (List Int)) (l : List Int) : Bool := arcsOk a && (asc l a.length && isClo a l)
theorem goodC_iff {a : List (List Int)} {l : List Int} : goodC a l = true ↔ Arcs a ∧ asc l a.length = true ∧ isClo a l = true := by
  unfold goodC; rw [Bool.and_eq_true, Bool.and_eq_true, arcsOk_iff]

def posAt (v : List Int) (s : Int) (j : Nat) : Int := s + max 0 (v.getD j 0)
def posSum (v : List Int) : Int := foldR (posAt v) 0 v.length 0
def valuedB (a : List (List Int)) (v : List Int) : Bool := arcsOk a && (valsOk v && decide ((v.length : Int) = a.length))
def cutP (a : List (List Int)) (v p : List Int) : Int × Bool := if valuedB a v && (asc p a.length && isClo a p) then (posSum v - valSum v p, true) else (0, false)
theorem posAt_bd {v : List Int} (hv : valsOk v = true) (i : Nat) (hi : i ≤ v.length) : 0 ≤ foldR (posAt v) 0 i 0 ∧ foldR (posAt v) 0 i 0 ≤ 1000000 * (i : Int) := by
  rw [valsOk_iff] at hv
  induction i with
  | zero => rw [foldR_end (Nat.le_refl _)]; omega
  | succ i ih =>
    have ih := ih (by omega)
    rw [foldR_last (Nat.zero_le _)]
    have := hv.2.2 i (by omega)
    unfold posAt at *
    omega

theorem areBlocks_l0 (l : List Int) (hl : l.length ≤ maxLen) (n : Int) : ∀ (d i : Nat), i + d = l.length → Ev (fun k => impl_areBlocks.l0 k l n l (l.length : Int) (i : Int)) (allR (ascAt l n) i l.length) := by
  have hl := maxLen_le hl
  intro d
  induction d with
  | zero =>
    intro i hi
    exact Ev.step (fun k => impl_areBlocks.l0.eq_2 l n l l.length i k) (ev_neg (by omega) (ev_some (allR_end (by omega)).symm))
  | succ d ih =>
    intro i hi
    refine Ev.step (fun k => impl_areBlocks.l0.eq_2 l n l l.length i k) ?_
    rw [allR_step (by omega), w_succ (n := l.length) (by omega) (by omega), rd_nat]
    refine ev_pos (by omega) (ev_pos (by omega) (ev_pos (by omega) ?_))
    have no : ¬ (0 ≤ l.getD i 0 ∧ l.getD i 0 < n ∧ (0 < i → l.getD (i - 1) 0 < l.getD i 0)) → false = (ascAt l n i && allR (ascAt l n) (i + 1) l.length) := by
      intro h
      have : ascAt l n i = false := by unfold ascAt; simp only [decide_eq_false_iff_not]; exact h
      rw [this]; rfl
    have yes : (0 ≤ l.getD i 0 ∧ l.getD i 0 < n ∧ (0 < i → l.getD (i - 1) 0 < l.getD i 0)) → Ev (fun k => impl_areBlocks.l0 k l n l (l.length : Int) ((i + 1 : Nat) : Int)) (ascAt l n i && allR (ascAt l n) (i + 1) l.length) := by
      intro h
      have : ascAt l n i = true := by unfold ascAt; simp only [decide_eq_true_eq]; exact h
      rw [this]; exact ih (i + 1) (by omega)
    refine ev_ite (fun h => ev_some (no (by omega))) (fun h => ?_)
    refine ev_ite (fun h1 => ev_some (no (by omega))) (fun h1 => ?_)
    refine ev_ite (fun h0 => ?_) (fun h0 => yes ⟨by omega, by omega, fun _ => by omega⟩)
    rw [w64 (x := (i : Int) - 1) (by omega) (by omega), show (i : Int) - 1 = ((i - 1 : Nat) : Int) by omega, rd_nat]
    refine ev_pos (by omega) (ev_pos (by omega) ?_)
    refine ev_ite (fun h2 => ev_some (no (fun hc => by have := hc.2.2 (by omega); omega))) (fun h2 => yes ⟨by omega, by omega, fun _ => by omega⟩)
theorem areBlocks_ev (l : List Int) (hl : l.length ≤ maxLen) (n : Int) : Ev (fun k => impl_areBlocks.f k l n) (asc l n) := by
  unfold impl_areBlocks.f asc
  exact areBlocks_l0 l hl n l.length 0 (by omega)

theorem AreArcs_l0 (a : List (List Int)) (hl : a.length ≤ maxLen) (hb : ∀ x ∈ a, x.length ≤ maxLen) : ∀ (d i : Nat), i + d = a.length →
    Ev (fun k => impl_AreArcs.l0 k a (a.length : Int) (i : Int)) (allR (fun i => asc (a.getD i []) i) i a.length) := by
  have hl := maxLen_le hl
  intro d
  induction d with
  | zero =>
    intro i hi
    exact Ev.step (fun k => impl_AreArcs.l0.eq_2 a a.length i k) (ev_neg (by omega) (ev_some (allR_end (by omega)).symm))
  | succ d ih =>
    intro i hi
    refine Ev.step (fun k => impl_AreArcs.l0.eq_2 a a.length i k) ?_
    have hx : rd_L1 a (i : Int) = a.getD i [] := by unfold rd_L1; rw [toNat_nat]
    have hmem : a.getD i [] ∈ a := by
      rw [List.getD_eq_getElem?_getD, List.getElem?_eq_getElem (by omega)]; exact List.getElem_mem _
    rw [allR_step (by omega), w_succ (n := a.length) (by omega) (by omega), hx]
    refine ev_pos (by omega) (ev_pos (by omega) (ev_pos (by omega) (Ev.bind (areBlocks_ev _ (hb _ hmem) _) ?_)))
    refine ev_ite (fun h => ?_) (fun h => ?_)
    · rw [h, Bool.true_and]; exact ih (i + 1) (by omega)
    · rw [Bool.not_eq_true] at h; rw [h, Bool.false_and]; exact ev_some rfl
theorem AreArcs_ev (a : List (List Int)) (hl : a.length ≤ maxLen) (hb : ∀ x ∈ a, x.length ≤ maxLen) : Ev (fun k => impl_AreArcs.f k a) (arcsOk a) := by
  unfold impl_AreArcs.f arcsOk
  refine ev_ite (fun h => ?_) (fun h => ?_)
  · refine Ev.step (fun k => impl_AreArcs.j0.eq_2 a true k) (ev_pos rfl (ev_some ?_))
    rw [decide_eq_false (by omega), Bool.false_and]
  · refine Ev.step (fun k => impl_AreArcs.j0.eq_2 a _ k) (ev_ite (fun h1 => ev_some ?_) (fun h1 => ?_))
    · simp only [decide_eq_true_eq] at h1
      rw [decide_eq_false (by omega), Bool.false_and]
    · simp only [decide_eq_true_eq] at h1
      rw [decide_eq_true (by omega), Bool.true_and]; exact AreArcs_l0 a hl hb a.length 0 (by omega)

theorem goodValues_l0 (l : List Int) (hl : l.length ≤ maxLen) : ∀ (d i : Nat), i + d = l.length → Ev (fun k => impl_goodValues.l0 k l (l.length : Int) (i : Int)) (allR (valAt l) i l.length) := by
  have hl := maxLen_le hl
  intro d
  induction d with
  | zero =>
    intro i hi
    exact Ev.step (fun k => impl_goodValues.l0.eq_2 l l.length i k) (ev_neg (by omega) (ev_some (allR_end (by omega)).symm))
  | succ d ih =>
    intro i hi
    refine Ev.step (fun k => impl_goodValues.l0.eq_2 l l.length i k) ?_
    rw [allR_step (by omega), w_succ (n := l.length) (by omega) (by omega), rd_nat]
    have no : ¬ (-1000000 ≤ l.getD i 0 ∧ l.getD i 0 ≤ 1000000) → false = (valAt l i && allR (valAt l) (i + 1) l.length) := by
      intro h; rw [show valAt l i = false from decide_eq_false h, Bool.false_and]
    refine ev_pos (by omega) (ev_pos (by omega) (ev_pos (by omega) ?_))
    refine ev_ite (fun h => ev_some (no (by omega))) (fun h => ?_)
    refine ev_ite (fun h1 => ev_some (no (by omega))) (fun h1 => ?_)
    rw [show valAt l i = true from decide_eq_true (by omega), Bool.true_and]; exact ih (i + 1) (by omega)
theorem goodValues_ev (l : List Int) (hl : l.length ≤ maxLen) : Ev (fun k => impl_goodValues.f k l) (valsOk l) := by
  unfold impl_goodValues.f valsOk
  refine ev_ite (fun h => ?_) (fun h => ?_)
  · refine Ev.step (fun k => impl_goodValues.j0.eq_2 l true k) (ev_pos rfl (ev_some ?_))
    rw [decide_eq_false (by omega), Bool.false_and]
  · refine Ev.step (fun k => impl_goodValues.j0.eq_2 l _ k) (ev_ite (fun h1 => ev_some ?_) (fun h1 => ?_))
    · simp only [decide_eq_true_eq] at h1
      rw [decide_eq_false (by omega), Bool.false_and]
    · simp only [decide_eq_true_eq] at h1
      rw [decide_eq_true (by omega), Bool.true_and]; exact goodValues_l0 l hl l.length 0 (by omega)

theorem rdL1 (a : List (List Int)) (i : Nat) : rd_L1 a (i : Int) = a.getD i [] := by unfold rd_L1; rw [toNat_nat]
theorem rdL1' (a : List (List Int)) (x : Int) : rd_L1 a x = a.getD x.toNat [] := rfl

theorem rdB (m : List Bool) (x : Int) : rdOf false m x = at_ m x := rfl

theorem markOf_l0 (l : List Int) (hl : l.length ≤ maxLen) : ∀ (d i : Nat) (m : List Bool), i + d = l.length → (∀ x ∈ l, 0 ≤ x ∧ x < m.length) → Ev (fun k => impl_markOf.l0 k m l (l.length : Int) (i : Int)) (foldR (setAt l) i l.length m) := by
  have hl := maxLen_le hl
  intro d
  induction d with
  | zero =>
    intro i m hi hm
    exact Ev.step (fun k => impl_markOf.l0.eq_2 m l l.length i k) (ev_neg (by omega) (ev_some (foldR_end (by omega)).symm))
  | succ d ih =>
    intro i m hi hm
    refine Ev.step (fun k => impl_markOf.l0.eq_2 m l l.length i k) ?_
    have hx := hm _ (getD_mem (z := 0) (show i < l.length by omega))
    rw [foldR_step (by omega), w_succ (n := l.length) (by omega) (by omega), rd_nat]
    refine ev_pos (by omega) (ev_pos (by omega) (ev_pos (by omega) (ev_pos (by omega) (ev_pos (by omega) ?_))))
    exact ih (i + 1) _ (by omega) (by intro x h; have := hm x h; simpa using this)
theorem markOf_ev (n : Nat) (hn : n ≤ 1048576) (l : List Int) (hl : l.length ≤ maxLen) (h : ∀ x ∈ l, 0 ≤ x ∧ x < n) : Ev (fun k => impl_markOf.f k (n : Int) l) (mk n l) := by
  unfold impl_markOf.f mk setAll
  refine ev_pos (by omega) (ev_pos (by omega) ?_)
  rw [toNat_nat]
  exact markOf_l0 l hl l.length 0 _ (by omega) (by simpa using h)

theorem allIn_l0 (m : List Bool) (l : List Int) (hl : l.length ≤ maxLen) (hm : ∀ x ∈ l, 0 ≤ x ∧ x < m.length) : ∀ (d i : Nat), i + d = l.length → Ev (fun k => impl_allIn.l0 k m l (l.length : Int) (i : Int)) (allR (inAt m l) i l.length) := by
  have hl := maxLen_le hl
  intro d
  induction d with
  | zero =>
    intro i hi
    exact Ev.step (fun k => impl_allIn.l0.eq_2 m l l.length i k) (ev_neg (by omega) (ev_some (allR_end (by omega)).symm))
  | succ d ih =>
    intro i hi
    refine Ev.step (fun k => impl_allIn.l0.eq_2 m l l.length i k) ?_
    have hx := hm _ (getD_mem (z := 0) (show i < l.length by omega))
    rw [allR_step (by omega), w_succ (n := l.length) (by omega) (by omega), rd_nat, rdB]
    refine ev_pos (by omega) (ev_pos (by omega) (ev_pos (by omega) (ev_pos (by omega) (ev_pos (by omega) ?_))))
    refine ev_ite (fun h => ?_) (fun h => ?_)
    · rw [show inAt m l i = true from h, Bool.true_and]; exact ih (i + 1) (by omega)
    · rw [Bool.not_eq_true] at h; rw [show inAt m l i = false from h, Bool.false_and]; exact ev_some rfl
theorem allIn_ev (m : List Bool) (l : List Int) (hl : l.length ≤ maxLen) (hm : ∀ x ∈ l, 0 ≤ x ∧ x < m.length) : Ev (fun k => impl_allIn.f k m l) (allIn m l) := by
  unfold impl_allIn.f allIn
  exact allIn_l0 m l hl hm l.length 0 (by omega)

theorem isClosure_l0 (a : List (List Int)) (ha : Arcs a) (m : List Bool) (hm : m.length = a.length) (l : List Int) (hl : asc l a.length = true) : ∀ (d i : Nat), i + d = l.length → Ev (fun k => impl_isClosure.l0 k a m l (l.length : Int) (i : Int)) (allR (cloAt a m l) i l.length) := by
  have h1 := asc_len hl
  have h2 := ha.le
  intro d
  induction d with
  | zero =>
    intro i hi
    exact Ev.step (fun k => impl_isClosure.l0.eq_2 a m l l.length i k) (ev_neg (by omega) (ev_some (allR_end (by omega)).symm))
  | succ d ih =>
    intro i hi
    refine Ev.step (fun k => impl_isClosure.l0.eq_2 a m l l.length i k) ?_
    have hx := asc_at hl (show i < l.length by omega)
    rw [allR_step (by omega), w_succ (n := l.length) (by omega) (by omega), rd_nat, rdL1']
    refine ev_pos (by omega) (ev_pos (by omega) (ev_pos (by omega) (ev_pos (by omega) (ev_pos (by omega) ?_))))
    have hlen := ha.len (l.getD i 0).toNat
    refine Ev.bind (allIn_ev m _ (maxLen_val (by omega)) (fun x hx => by have := ha.down hx; omega)) ?_
    refine ev_ite (fun h => ?_) (fun h => ?_)
    · rw [show cloAt a m l i = true from h, Bool.true_and]; exact ih (i + 1) (by omega)
    · rw [Bool.not_eq_true] at h; rw [show cloAt a m l i = false from h, Bool.false_and]; exact ev_some rfl
theorem isClosure_ev (a : List (List Int)) (ha : Arcs a) (l : List Int) (hl : asc l a.length = true) : Ev (fun k => impl_isClosure.f k a l) (isClo a l) := by
  have h1 := asc_len hl
  have h2 := ha.le
  unfold impl_isClosure.f isClo
  exact Ev.bind (markOf_ev a.length (by omega) l (maxLen_val (by omega)) (fun x hx => asc_mem hl hx)) (isClosure_l0 a ha _ mk_len l hl l.length 0 (by omega))

def pitAt (a : List (List Int)) (Ls : List (List Int)) (j : Nat) : Bool := asc (Ls.getD j []) a.length && isClo a (Ls.getD j [])
theorem arePits_l0 (a : List (List Int)) (ha : Arcs a) (Ls : List (List Int)) (hl : Ls.length ≤ 1048576) (hb : ∀ x ∈ Ls, x.length ≤ maxLen) : ∀ (d i : Nat), i + d = Ls.length → Ev (fun k => impl_arePits.l0 k a Ls (Ls.length : Int) (i : Int)) (allR (pitAt a Ls) i Ls.length) := by
  intro d
  induction d with
  | zero =>
    intro i hi
    exact Ev.step (fun k => impl_arePits.l0.eq_2 a Ls Ls.length i k) (ev_neg (by omega) (ev_some (allR_end (by omega)).symm))
  | succ d ih =>
    intro i hi
    refine Ev.step (fun k => impl_arePits.l0.eq_2 a Ls Ls.length i k) ?_
    rw [allR_step (by omega), w_succ (n := Ls.length) (by omega) (by omega), rdL1]
    refine ev_pos (by omega) (ev_pos (by omega) (ev_pos (by omega) (Ev.bind (areBlocks_ev _ (hb _ (getD_mem (by omega))) _) ?_)))
    refine ev_ite (fun h => ?_) (fun h => ?_)
    · refine Ev.bind (isClosure_ev a ha _ h) (ev_ite (fun h1 => ?_) (fun h1 => ?_))
      · rw [show pitAt a Ls i = true by unfold pitAt; rw [h, h1]; rfl, Bool.true_and]; exact ih (i + 1) (by omega)
      · rw [Bool.not_eq_true] at h1; rw [show pitAt a Ls i = false by unfold pitAt; rw [h1, Bool.and_false], Bool.false_and]; exact ev_some rfl
    · rw [Bool.not_eq_true] at h; rw [show pitAt a Ls i = false by unfold pitAt; rw [h, Bool.false_and], Bool.false_and]; exact ev_some rfl
theorem arePits_ev (a : List (List Int)) (ha : a.length ≤ maxLen) (hb : ∀ x ∈ a, x.length ≤ maxLen) (Ls : List (List Int)) (hl : Ls.length ≤ 1048576) (hbl : ∀ x ∈ Ls, x.length ≤ maxLen) : Ev (fun k => impl_arePits.f k a Ls) (arcsOk a && allR (pitAt a Ls) 0 Ls.length) := by
  unfold impl_arePits.f
  refine Ev.bind (AreArcs_ev a ha hb) (ev_ite (fun h => ?_) (fun h => ?_))
  · rw [h, Bool.true_and]; exact arePits_l0 a (arcsOk_iff.1 h) Ls hl hbl Ls.length 0 (by omega)
  · rw [Bool.not_eq_true] at h; rw [h, Bool.false_and]; exact ev_some rfl
theorem arePits1_ev (a : List (List Int)) (ha : a.length ≤ maxLen) (hb : ∀ x ∈ a, x.length ≤ maxLen) (l : List Int) (hl : l.length ≤ maxLen) : Ev (fun k => impl_arePits.f k a [l]) (arcsOk a && (asc l a.length && isClo a l)) := by
  have := arePits_ev a ha hb [l] (by simp) (fun x hx => by rw [List.mem_singleton] at hx; subst hx; exact hl)
  rw [show [l].length = 1 from rfl, allR_step (i := 0) (by omega), allR_end (i := 0 + 1) (by omega), Bool.and_true] at this
  exact this
theorem arePits2_ev (a : List (List Int)) (ha : a.length ≤ maxLen) (hb : ∀ x ∈ a, x.length ≤ maxLen) (l m : List Int) (hl : l.length ≤ maxLen) (hm : m.length ≤ maxLen) : Ev (fun k => impl_arePits.f k a [l, m]) (arcsOk a && ((asc l a.length && isClo a l) && (asc m a.length && isClo a m))) := by
  have := arePits_ev a ha hb [l, m] (by simp) (fun x hx => by
    simp only [List.mem_cons, List.not_mem_nil, or_false] at hx
    rcases hx with rfl | rfl
    · exact hl
    · exact hm)
  rw [show [l, m].length = 2 from rfl, allR_step (i := 0) (by omega), allR_step (i := 0 + 1) (by omega), allR_end (i := 0 + 1 + 1) (by omega), Bool.and_true] at this
  exact this

theorem valueSum_l0 (v l : List Int) (hv : valsOk v = true) (hl : asc l v.length = true) : ∀ (d i : Nat), i + d = l.length → Ev (fun k => impl_valueSum.l0 k v (foldR (sumAt v l) 0 i 0) l (l.length : Int) (i : Int)) (valSum v l) := by
  have hlen := asc_len hl
  rw [asc_iff] at hl
  rw [valsOk_iff] at hv
  intro d
  induction d with
  | zero =>
    intro i hi
    obtain rfl : i = l.length := by omega
    exact Ev.step (fun k => impl_valueSum.l0.eq_2 v _ l l.length l.length k) (ev_neg (by omega) (ev_some rfl))
  | succ d ih =>
    intro i hi
    refine Ev.step (fun k => impl_valueSum.l0.eq_2 v _ l l.length i k) ?_
    have h1 := hl i (by omega)
    have h2 := valSum_bound hv.2.2 (fun j hj => ⟨(hl j hj).1, (hl j hj).2.1⟩) i (by omega)
    have h3 := hv.2.2 (l.getD i 0).toNat (by omega)
    rw [w_succ (n := l.length) (by omega) (by omega), rd_nat]
    refine ev_pos (by omega) (ev_pos (by omega) (ev_pos (by omega) (ev_pos (by omega) (ev_pos (by omega) ?_))))
    have e : wrap64 (foldR (sumAt v l) 0 i 0 + rd v (l.getD i 0)) = foldR (sumAt v l) 0 (i + 1) 0 := by
      rw [foldR_last (Nat.zero_le _)]
      unfold rd sumAt
      unfold sumAt at h2
      rw [w64 (by omega) (by omega)]
    rw [e]
    exact ih (i + 1) (by omega)
theorem valueSum_ev (v l : List Int) (hv : valsOk v = true) (hl : asc l v.length = true) : Ev (fun k => impl_valueSum.f k v l) (valSum v l) := by
  unfold impl_valueSum.f
  have := valueSum_l0 v l hv hl l.length 0 (by omega)
  rwa [foldR_end (Nat.le_refl _)] at this
theorem areValued_ev (a : List (List Int)) (ha : a.length ≤ maxLen) (hb : ∀ x ∈ a, x.length ≤ maxLen) (v : List Int) (hv : v.length ≤ maxLen) : Ev (fun k => impl_areValued.f k a v) (valuedB a v) := by
  unfold impl_areValued.f valuedB
  refine Ev.bind (AreArcs_ev a ha hb) (ev_ite (fun h => ?_) (fun h => ?_))
  · rw [h, Bool.true_and]
    refine Ev.bind (goodValues_ev v hv) (ev_ite (fun h1 => ?_) (fun h1 => ?_))
    · rw [h1, Bool.true_and]; exact ev_some (by rw [Bool.eq_iff_iff, beq_iff_eq, decide_eq_true_eq])
    · rw [Bool.not_eq_true] at h1; rw [h1, Bool.false_and]; exact ev_some rfl
  · rw [Bool.not_eq_true] at h; rw [h, Bool.false_and]; exact ev_some rfl
/-- A literal of one row reads as the list of that row. -/
theorem lit1 {w : World} {A : Option Addr} {p : List Int} {c : Nat} (hc : p.length ≤ c) (h : Kd.C (Kd.int .i64) w A p.length p) {t : TypeId} {m : Nat × Nat} :
    Kd.C kSS (w.alloc (.cells #[.slice A p.length c] t m)) (some ⟨w.heap.size, 0, none⟩) [p].length [p] := by
  refine ⟨rfl, Nat.le_of_lt (by simp), fun _ => ⟨⟨w.heap.size, 0, none⟩, rfl, fun j q hj => ?_⟩⟩
  have : j = 0 ∧ q = p := by
    cases j with
    | zero => simp at hj; exact ⟨rfl, hj.symm⟩
    | succ j => simp at hj
  obtain ⟨rfl, rfl⟩ := this
  refine ⟨[.slice A q.length c], rfl, ⟨A, c, rfl, hc, Kd.C_alloc h _⟩, fun i u hu => ?_⟩
  cases i with
  | zero =>
    simp only [List.getElem?_cons_zero, Option.some.injEq] at hu
    subst hu
    rw [show kSS.sz = 1 from rfl, show 0 * 1 + 0 = 0 from rfl, show (⟨w.heap.size, 0, none⟩ : Addr).add 0 = ⟨w.heap.size, 0, none⟩ from rfl]
    exact World.cell?_alloc_mark w _ t m 0
  | succ i => simp at hu
set_option maxHeartbeats 4000000 in
set_option maxRecDepth 100000 in
theorem own_impl (A0 : Option Addr) (c0 : Nat) (a : List (List Int)) (A1 : Option Addr) (c1 : Nat) (v : List Int) (A2 : Option Addr) (c2 : Nat) (p : List Int) (g0 : Int) (g1 : Bool) (w : World)
    (h0 : Kd.C kSS w A0 a.length a) (e0 : a.length ≤ c0) (h1 : Kd.C (Kd.int .i64) w A1 v.length v) (e1 : v.length ≤ c1) (h2 : Kd.C (Kd.int .i64) w A2 p.length p) (e2 : p.length ≤ c2)
    (la : a.length ≤ 1048576) (lb : ∀ x ∈ a, x.length ≤ 1048576) (lv : v.length ≤ 1048576) (lp : p.length ≤ 1048576) (h : cutP a v p = (g0, g1)) :
    Calls Try.prog 43 #[.slice A0 a.length c0, .slice A1 v.length c1, .slice A2 p.length c2] w fun e w' => e = .returned (.tuple #[.int .i64 g0, .bool g1]) ∧ Below w.heap.size w w' := by
  have lb' : ∀ x ∈ a, x.length ≤ maxLen := fun x hx => maxLen_val (by have := lb x hx; omega)
  obtain ⟨kv, hkv⟩ := (areValued_ev a (maxLen_val (by omega)) lb' v (maxLen_val (by omega))).rounds
  obtain ⟨kp, hkp⟩ := (arePits1_ev a (maxLen_val (by omega)) lb' p (maxLen_val (by omega))).rounds
  have H0 := Aside0.mk h0
  have E0 := Aside0.mk e0
  have H1 := Aside0.mk h1
  have E1 := Aside0.mk e1
  have H2 := Aside0.mk h2
  have E2 := Aside0.mk e2
  have HKV := Aside0.mk hkv
  have HKP := Aside0.mk hkp
  have HH := Aside0.mk h
  clear h0 e0 h1 e1 h2 e2 hkv hkp h lb' lb la
  cases hval : valuedB a v with
  | false =>
    have hr : (0, false) = (g0, g1) := by rw [← HH.out]; unfold cutP; rw [hval, Bool.false_and]; rfl
    injection hr with hr0 hr1
    subst hr0 hr1
    have HV := Aside0.mk hval
    clear hval
    go_enter Try.func43, Try.ntmps43
    go_wp2_with fail
    refine (impl_areValued.calls kv A0 c0 a A1 c1 v false w H0.out E0.out H1.out E1.out (by rw [← HV.out]; exact HKV.out)).mono ?_
    rintro e w1 ⟨rfl, hb⟩
    have B1 := Aside0.mk (drawn_below hb)
    clear hb
    go_wp2_with fail
    go_ret2
    exact ⟨rfl, B1.out⟩
  | true =>
    have HV := Aside0.mk hval
    have hvo : Arcs a ∧ valsOk v = true ∧ v.length = a.length := by
      unfold valuedB at hval
      rw [Bool.and_eq_true, Bool.and_eq_true, decide_eq_true_eq, arcsOk_iff] at hval
      exact ⟨hval.1, hval.2.1, by omega⟩
    have HVO := Aside0.mk hvo
    clear hval hvo
    cases hpit : (asc p a.length && isClo a p) with
    | false =>
      have hr : (0, false) = (g0, g1) := by rw [← HH.out]; unfold cutP; rw [hpit, Bool.and_false]; rfl
      injection hr with hr0 hr1
      subst hr0 hr1
      have HP := Aside0.mk hpit
      clear hpit
      go_enter Try.func43, Try.ntmps43
      go_wp2_with fail
      refine (impl_areValued.calls kv A0 c0 a A1 c1 v true w H0.out E0.out H1.out E1.out (by rw [← HV.out]; exact HKV.out)).mono ?_
      rintro e w1 ⟨rfl, hb⟩
      have B1 := Aside0.mk (drawn_below hb)
      clear hb
      go_wp2_with fail
      refine (impl_arePits.calls kp A0 c0 a (some ⟨w1.heap.size, 0, none⟩) 1 [p] false _ (Kd.C_alloc (Kd.C_below H0.out B1.out) _) E0.out (lit1 E2.out (Kd.C_below H2.out B1.out)) (Nat.le_refl _) (by rw [HKP.out, (arcsOk_iff.2 HVO.out.1), HP.out]; rfl)).mono ?_
      rintro e w2 ⟨rfl, hb⟩
      have B2 := Aside0.mk (below_step (below_alloc B1.out _) hb)
      clear hb
      go_wp2_with fail
      go_ret2
      exact ⟨rfl, B2.out⟩
    | true =>
      have hr : (posSum v - valSum v p, true) = (g0, g1) := by rw [← HH.out]; unfold cutP; rw [hpit, HV.out]; rfl
      injection hr with hr0 hr1
      subst hr0 hr1
      have HP := Aside0.mk hpit
      have hasc : asc p a.length = true := by rw [Bool.and_eq_true] at hpit; exact hpit.1
      have HASC := Aside0.mk hasc
      obtain ⟨ks, hks⟩ := (valueSum_ev v p HVO.out.2.1 (by rw [HVO.out.2.2]; exact hasc)).rounds
      have HKS := Aside0.mk hks
      clear hpit hasc hks
      go_enter Try.func43, Try.ntmps43
      go_wp2_with fail
      refine (impl_areValued.calls kv A0 c0 a A1 c1 v true w H0.out E0.out H1.out E1.out (by rw [← HV.out]; exact HKV.out)).mono ?_
      rintro e w1 ⟨rfl, hb⟩
      have B1 := Aside0.mk (drawn_below hb)
      clear hb
      go_wp2_with fail
      refine (impl_arePits.calls kp A0 c0 a (some ⟨w1.heap.size, 0, none⟩) 1 [p] true _ (Kd.C_alloc (Kd.C_below H0.out B1.out) _) E0.out (lit1 E2.out (Kd.C_below H2.out B1.out)) (Nat.le_refl _) (by rw [HKP.out, (arcsOk_iff.2 HVO.out.1), HP.out]; rfl)).mono ?_
      rintro e w2 ⟨rfl, hb⟩
      have B2 := Aside0.mk (below_step (below_alloc B1.out _) hb)
      have HC1 := Aside0.mk (Kd.C_below H1.out B2.out)
      have HLV := Aside0.mk lv
      clear hb
      go_wp2_with fail
      have e0 : (0 : Int) = foldR (posAt v) 0 (0 : Int).toNat 0 := by rw [show (0 : Int).toNat = 0 from rfl, foldR_end (Nat.le_refl _)]
      have EZ := Aside0.mk e0
      clear e0
      go_loopg [8, 24] (v.length) (fun d v8 v24 wr => ∃ i : Int, v24 = .int .i64 i ∧ v8 = .int .i64 (foldR (posAt v) 0 i.toNat 0) ∧ Aside0 (0 ≤ i ∧ i + d = v.length) ∧ wr = w2)
      case atStart => exact ⟨0, rfl, congrArg _ EZ.out, ⟨by omega⟩, rfl⟩
      case round =>
        clear EZ
        obtain ⟨i, rfl, rfl, HI, rfl⟩ := hrel
        have h0 := HI.out.1
        cases gk with
        | zero =>
          have hd : decide (i < (v.length : Int)) = false := decide_eq_false (by have := HI.out.2; omega)
          have hi : i.toNat = v.length := by have := HI.out; omega
          have HI2 := Aside0.mk hi
          clear hi HI
          go_wp2_with fail
          refine (impl_valueSum.calls ks A1 c1 v A2 c2 p (valSum v p) wr HC1.out E1.out (Kd.C_below H2.out B2.out) E2.out HKS.out).mono ?_
          rintro e w3 ⟨rfl, hb⟩
          have B3 := Aside0.mk (below_step B2.out (drawn_below hb))
          have hsub : wrap64 (foldR (posAt v) 0 i.toNat 0 - valSum v p) = posSum v - valSum v p := by
            rw [HI2.out]
            have h1 := posAt_bd HVO.out.2.1 v.length (Nat.le_refl _)
            have h2 := valSum_bound (valsOk_iff.1 HVO.out.2.1).2.2 (fun j hj => by have := asc_at HASC.out hj; rw [← HVO.out.2.2] at this; exact this) p.length (Nat.le_refl _)
            have h3 := asc_len HASC.out
            have h4 := HVO.out.1.le
            have h5 := HVO.out.2.2
            unfold posSum valSum
            rw [w64 (by omega) (by omega)]
          have HSUB := Aside0.mk hsub
          clear hb hsub
          go_wp2_with fail
          go_ret2
          exact ⟨congrArg (fun z => Ending.returned (.tuple #[.int .i64 z, .bool true])) HSUB.out, B3.out⟩
        | succ d =>
          have hlt : i < (v.length : Int) := by have := HI.out.2; omega
          have hd : decide (i < (v.length : Int)) = true := decide_eq_true hlt
          obtain ⟨ad, ce, eA, _, hK, hcc⟩ := Kd.C_get HC1.out 0 i h0 hlt
          subst eA
          have hce : ce = [.int .i64 (rd v i)] := hK
          subst hce
          have hcell := hcc 0 _ rfl
          simp only [show (Kd.int IntKind.i64).sz = 1 from rfl, Nat.mul_one, Nat.add_zero] at hcell
          have H0' := Aside0.mk h0
          have HLT := Aside0.mk hlt
          have q0 := eq_true h0
          have q1 := eq_true hlt
          clear h0 hlt hK hcc
          go_wp2_with fail
          all_goals
            go_roundg d
            case measure => omega
            case rel =>
              have hI := HI.out
              have hlt := HLT.out
              have hl := HLV.out
              have hb := posAt_bd HVO.out.2.1 i.toNat (by omega)
              have hv := (valsOk_iff.1 HVO.out.2.1).2.2 i.toNat (by omega)
              have hr : rd v i = v.getD i.toNat 0 := rfl
              have ei : wrap64 (i + 1) = i + 1 := by rw [w64 (by omega) (by omega)]
              refine ⟨i + 1, by rw [ei], congrArg _ ?_, ⟨by omega⟩, rfl⟩
              rw [show (i + 1).toNat = i.toNat + 1 by omega, foldR_last (Nat.zero_le _)]
              unfold posAt at hb ⊢
              rw [w64 (by omega) (by omega)]
              omega
end Go.Proofs.Ytdjahpigkbgobaa.OwnCutOfPit
