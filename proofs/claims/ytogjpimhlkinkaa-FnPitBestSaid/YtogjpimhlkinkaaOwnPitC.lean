/- What all contracts of best pits share: the valued arcs, what the runs leave, the list of marks. -/
import Derived.Test.YtogjpimhlkinkaaOwnPitB
import Derived.Test.YtogjpimhlkinkaaOwnPitS
import Derived.Test.YtogjpimhlkinkaaMFnPitBestx0
import Derived.Test.YtogjpimhlkinkaaMFnPitBestx0
import Derived.Test.YtogjpimhlkinkaaMFnPitBestx0
namespace Go.Proofs.Ytogjpimhlkinkaa.OwnPitC
open Go.RowKit Go.Proofs.Ytogjpimhlkinkaa.PFnPitBest Go.Proofs.YtogjpimhlkinkaaW.PrintWords Go.Proofs.YtogjpimhlkinkaaW.PrintLast Go.Proofs.YtogjpimhlkinkaaW.PrintMore Go.Proofs.Ytogjpimhlkinkaa.B Go.Proofs.Ytogjpimhlkinkaa.Flow Go.Proofs.Ytogjpimhlkinkaa.OwnPush Go.Proofs.Ytogjpimhlkinkaa.OwnLevels Go.Proofs.Ytogjpimhlkinkaa.OwnRows Go.Proofs.Ytogjpimhlkinkaa.OwnNet Go.Proofs.Ytogjpimhlkinkaa.OwnValue Go.Proofs.Ytogjpimhlkinkaa.OwnFrom Go.Proofs.Ytogjpimhlkinkaa.PitMath Go.Proofs.Ytogjpimhlkinkaa.PitBest Go.Proofs.Ytogjpimhlkinkaa.OwnPitB Go.Proofs.Ytogjpimhlkinkaa.OwnPitS
set_option linter.unusedVariables false
set_option linter.unusedSimpArgs false
theorem rdB (m : List Bool) (x : Int) : rdOf false m x = at_ m x := rfl
theorem l1In_eq (a b c : Int) : spec_l1In.f a b c = some (decide (b ≤ a ∧ a ≤ c)) := by
  unfold spec_l1In.f
  by_cases h : a ≥ b
  · rw [if_pos h]; simp [show b ≤ a from h]
  · rw [if_neg h]; simp [show ¬ b ≤ a from h]
theorem l1Rising_l0 (l : List Int) (hl : l.length ≤ maxLen) (n : Int) : ∀ (d i : Nat), i + d = l.length → Ev (fun k => spec_l1Rising.l0 k l 0 (n - 1) l (l.length : Int) (i : Int)) (allR (ascAt l n) i l.length) := by
  have hl := maxLen_le hl
  intro d
  induction d with
  | zero =>
    intro i hi
    exact Ev.step (fun k => spec_l1Rising.l0.eq_2 l 0 (n - 1) l l.length i k) (ev_neg (by omega) (ev_some (allR_end (by omega)).symm))
  | succ d ih =>
    intro i hi
    refine Ev.step (fun k => spec_l1Rising.l0.eq_2 l 0 (n - 1) l l.length i k) ?_
    rw [allR_step (by omega), w_succ (n := l.length) (by omega) (by omega), rd_nat]
    refine ev_pos (by omega) (ev_pos (by omega) (ev_pos (by omega) (ev_bindc (l1In_eq _ _ _) ?_)))
    refine ev_ite (fun h => ?_) (fun h => ?_)
    · simp only [decide_eq_true_eq] at h
      refine ev_ite (fun h0 => ?_) (fun h0 => ?_)
      · rw [w64 (x := (i : Int) - 1) (by omega) (by omega), show (i : Int) - 1 = ((i - 1 : Nat) : Int) by omega, rd_nat]
        refine ev_pos (by omega) (ev_pos (by omega) ?_)
        refine ev_ite (fun h1 => ?_) (fun h1 => ?_)
        · refine ev_some ?_
          have : ascAt l n i = false := by unfold ascAt; simp only [decide_eq_false_iff_not]; intro hc; have := hc.2.2 (by omega); omega
          rw [this]; rfl
        · have : ascAt l n i = true := by unfold ascAt; simp only [decide_eq_true_eq]; exact ⟨by omega, by omega, fun _ => by omega⟩
          rw [this]; exact ih (i + 1) (by omega)
      · have : ascAt l n i = true := by unfold ascAt; simp only [decide_eq_true_eq]; exact ⟨by omega, by omega, fun _ => by omega⟩
        rw [this]; exact ih (i + 1) (by omega)
    · refine ev_some ?_
      have : ascAt l n i = false := by
        unfold ascAt; simp only [decide_eq_true_eq] at h; simp only [decide_eq_false_iff_not]; intro hc; exact h ⟨hc.1, by omega⟩
      rw [this]; rfl
theorem l1Rising_ev (l : List Int) (hl : l.length ≤ maxLen) (n : Int) : Ev (fun k => spec_l1Rising.f k l 0 (n - 1)) (asc l n) := by
  unfold spec_l1Rising.f asc
  exact l1Rising_l0 l hl n l.length 0 (by omega)
theorem l1All_l0 (l : List Int) (hl : l.length ≤ maxLen) (lo hi : Int) : ∀ (d i : Nat), i + d = l.length → Ev (fun k => spec_l1All.l0 k lo hi l (l.length : Int) (i : Int)) (allR (fun j => decide (lo ≤ l.getD j 0 ∧ l.getD j 0 ≤ hi)) i l.length) := by
  have hl := maxLen_le hl
  intro d
  induction d with
  | zero =>
    intro i hi'
    exact Ev.step (fun k => spec_l1All.l0.eq_2 lo hi l l.length i k) (ev_neg (by omega) (ev_some (allR_end (by omega)).symm))
  | succ d ih =>
    intro i hi'
    refine Ev.step (fun k => spec_l1All.l0.eq_2 lo hi l l.length i k) ?_
    rw [allR_step (by omega), w_succ (n := l.length) (by omega) (by omega), rd_nat]
    refine ev_pos (by omega) (ev_pos (by omega) (ev_pos (by omega) (ev_bindc (l1In_eq _ _ _) ?_)))
    refine ev_ite (fun h => ?_) (fun h => ?_)
    · rw [h, Bool.true_and]; exact ih (i + 1) (by omega)
    · rw [Bool.not_eq_true] at h; rw [h, Bool.false_and]; exact ev_some rfl
theorem l1All_ev (l : List Int) (hl : l.length ≤ maxLen) (lo hi : Int) : Ev (fun k => spec_l1All.f k l lo hi) (allR (fun j => decide (lo ≤ l.getD j 0 ∧ l.getD j 0 ≤ hi)) 0 l.length) := by
  unfold spec_l1All.f
  exact l1All_l0 l hl lo hi l.length 0 (by omega)
theorem clArcs_l0 (a : List (List Int)) (hl : a.length ≤ maxLen) (hb : ∀ x ∈ a, x.length ≤ maxLen) : ∀ (d i : Nat), i + d = a.length →
    Ev (fun k => spec_clArcs.l0 k a a (a.length : Int) (i : Int)) (decide (1 ≤ a.length ∧ a.length ≤ 120) && allR (fun i => asc (a.getD i []) i) i a.length) := by
  have hl := maxLen_le hl
  intro d
  induction d with
  | zero =>
    intro i hi
    refine Ev.step (fun k => spec_clArcs.l0.eq_2 a a a.length i k) (ev_neg (by omega) (ev_bindc (l1In_eq _ _ _) (ev_some ?_)))
    rw [allR_end (by omega), Bool.and_true, decide_eq_decide]; omega
  | succ d ih =>
    intro i hi
    refine Ev.step (fun k => spec_clArcs.l0.eq_2 a a a.length i k) ?_
    have hx : rd_L1 a (i : Int) = a.getD i [] := by unfold rd_L1; rw [toNat_nat]
    have hmem : a.getD i [] ∈ a := by
      rw [List.getD_eq_getElem?_getD, List.getElem?_eq_getElem (by omega)]; exact List.getElem_mem _
    rw [allR_step (by omega), w_succ (n := a.length) (by omega) (by omega), hx, w64 (x := (i : Int) - 1) (by omega) (by omega)]
    refine ev_pos (by omega) (ev_pos (by omega) (ev_pos (by omega) (Ev.bind (l1Rising_ev _ (hb _ hmem) _) ?_)))
    refine ev_ite (fun h => ?_) (fun h => ?_)
    · rw [h, Bool.true_and]; exact ih (i + 1) (by omega)
    · rw [Bool.not_eq_true] at h; rw [h, Bool.false_and, Bool.and_false]; exact ev_some rfl
theorem clArcs_ev (a : List (List Int)) (hl : a.length ≤ maxLen) (hb : ∀ x ∈ a, x.length ≤ maxLen) : Ev (fun k => spec_clArcs.f k a) (arcsOk a) := by
  unfold spec_clArcs.f arcsOk
  exact clArcs_l0 a hl hb a.length 0 (by omega)
theorem vaGood_ev (l : List Int) (hl : l.length ≤ maxLen) (n : Int) : Ev (fun k => spec_vaGood.f k l n) (decide ((l.length : Int) = n) && valsOk l) := by
  unfold spec_vaGood.f
  refine ev_ite (fun h => ?_) (fun h => ev_some (by rw [decide_eq_false h, Bool.false_and]))
  subst h
  rw [decide_eq_true rfl, Bool.true_and]
  unfold valsOk
  refine ev_bindc (l1In_eq _ _ _) (ev_ite (fun h => ?_) (fun h => ev_some ?_))
  · simp only [decide_eq_true_eq] at h
    rw [decide_eq_true (by omega), Bool.true_and]
    exact ev_id (l1All_ev l hl _ _)
  · simp only [decide_eq_true_eq] at h
    rw [decide_eq_false (by omega), Bool.false_and]
theorem paGood_ev (a : List (List Int)) (ha : a.length ≤ maxLen) (hb : ∀ x ∈ a, x.length ≤ maxLen) (v : List Int) (hv : v.length ≤ maxLen) : Ev (fun k => spec_paGood.f k a v) (valuedB a v) := by
  unfold spec_paGood.f valuedB
  refine Ev.bind (clArcs_ev a ha hb) (ev_ite (fun h => ?_) (fun h => ?_))
  · rw [h, Bool.true_and, Bool.and_comm]
    exact ev_id (vaGood_ev v hv _)
  · rw [Bool.not_eq_true] at h; rw [h, Bool.false_and]; exact ev_some rfl
theorem areBlocks_l0 (l : List Int) (hl : l.length ≤ maxLen) (n : Int) : ∀ (d i : Nat), i + d = l.length → Ev (fun k => impl_areBlocks.l0 k l n l (l.length : Int) (i : Int)) (allR (ascAt l n) i l.length) := by
  have hl := maxLen_le hl
  intro d
  induction d with
  | zero =>
    intro i hi
    exact Ev.step (fun k => impl_areBlocks.l0.eq_2 l n l l.length i k) (ev_neg (by omega) (ev_some (allR_end (by omega)).symm))
  | succ d ih =>
    intro i hi
    refine Ev.step (fun k => impl_areBlocks.l0.eq_2 l n l l.length i k) ?_
    rw [allR_step (by omega), w_succ (n := l.length) (by omega) (by omega), rd_nat]
    refine ev_pos (by omega) (ev_pos (by omega) (ev_pos (by omega) ?_))
    have no : ¬ (0 ≤ l.getD i 0 ∧ l.getD i 0 < n ∧ (0 < i → l.getD (i - 1) 0 < l.getD i 0)) → false = (ascAt l n i && allR (ascAt l n) (i + 1) l.length) := by
      intro h
      have : ascAt l n i = false := by unfold ascAt; simp only [decide_eq_false_iff_not]; exact h
      rw [this]; rfl
    have yes : (0 ≤ l.getD i 0 ∧ l.getD i 0 < n ∧ (0 < i → l.getD (i - 1) 0 < l.getD i 0)) → Ev (fun k => impl_areBlocks.l0 k l n l (l.length : Int) ((i + 1 : Nat) : Int)) (ascAt l n i && allR (ascAt l n) (i + 1) l.length) := by
      intro h
      have : ascAt l n i = true := by unfold ascAt; simp only [decide_eq_true_eq]; exact h
      rw [this]; exact ih (i + 1) (by omega)
    refine ev_ite (fun h => ev_some (no (by omega))) (fun h => ?_)
    refine ev_ite (fun h1 => ev_some (no (by omega))) (fun h1 => ?_)
    refine ev_ite (fun h0 => ?_) (fun h0 => yes ⟨by omega, by omega, fun _ => by omega⟩)
    rw [w64 (x := (i : Int) - 1) (by omega) (by omega), show (i : Int) - 1 = ((i - 1 : Nat) : Int) by omega, rd_nat]
    refine ev_pos (by omega) (ev_pos (by omega) ?_)
    refine ev_ite (fun h2 => ev_some (no (fun hc => by have := hc.2.2 (by omega); omega))) (fun h2 => yes ⟨by omega, by omega, fun _ => by omega⟩)
theorem areBlocks_ev (l : List Int) (hl : l.length ≤ maxLen) (n : Int) : Ev (fun k => impl_areBlocks.f k l n) (asc l n) := by
  unfold impl_areBlocks.f asc
  exact areBlocks_l0 l hl n l.length 0 (by omega)
theorem AreArcs_l0 (a : List (List Int)) (hl : a.length ≤ maxLen) (hb : ∀ x ∈ a, x.length ≤ maxLen) : ∀ (d i : Nat), i + d = a.length →
    Ev (fun k => impl_AreArcs.l0 k a (a.length : Int) (i : Int)) (allR (fun i => asc (a.getD i []) i) i a.length) := by
  have hl := maxLen_le hl
  intro d
  induction d with
  | zero =>
    intro i hi
    exact Ev.step (fun k => impl_AreArcs.l0.eq_2 a a.length i k) (ev_neg (by omega) (ev_some (allR_end (by omega)).symm))
  | succ d ih =>
    intro i hi
    refine Ev.step (fun k => impl_AreArcs.l0.eq_2 a a.length i k) ?_
    have hx : rd_L1 a (i : Int) = a.getD i [] := by unfold rd_L1; rw [toNat_nat]
    have hmem : a.getD i [] ∈ a := by
      rw [List.getD_eq_getElem?_getD, List.getElem?_eq_getElem (by omega)]; exact List.getElem_mem _
    rw [allR_step (by omega), w_succ (n := a.length) (by omega) (by omega), hx]
    refine ev_pos (by omega) (ev_pos (by omega) (ev_pos (by omega) (Ev.bind (areBlocks_ev _ (hb _ hmem) _) ?_)))
    refine ev_ite (fun h => ?_) (fun h => ?_)
    · rw [h, Bool.true_and]; exact ih (i + 1) (by omega)
    · rw [Bool.not_eq_true] at h; rw [h, Bool.false_and]; exact ev_some rfl
theorem AreArcs_ev (a : List (List Int)) (hl : a.length ≤ maxLen) (hb : ∀ x ∈ a, x.length ≤ maxLen) : Ev (fun k => impl_AreArcs.f k a) (arcsOk a) := by
  unfold impl_AreArcs.f arcsOk
  refine ev_ite (fun h => ?_) (fun h => ?_)
  · refine Ev.step (fun k => impl_AreArcs.j0.eq_2 a true k) (ev_pos rfl (ev_some ?_))
    rw [decide_eq_false (by omega), Bool.false_and]
  · refine Ev.step (fun k => impl_AreArcs.j0.eq_2 a _ k) (ev_ite (fun h1 => ev_some ?_) (fun h1 => ?_))
    · simp only [decide_eq_true_eq] at h1
      rw [decide_eq_false (by omega), Bool.false_and]
    · simp only [decide_eq_true_eq] at h1
      rw [decide_eq_true (by omega), Bool.true_and]; exact AreArcs_l0 a hl hb a.length 0 (by omega)
theorem goodValues_l0 (l : List Int) (hl : l.length ≤ maxLen) : ∀ (d i : Nat), i + d = l.length → Ev (fun k => impl_goodValues.l0 k l (l.length : Int) (i : Int)) (allR (valAt l) i l.length) := by
  have hl := maxLen_le hl
  intro d
  induction d with
  | zero =>
    intro i hi
    exact Ev.step (fun k => impl_goodValues.l0.eq_2 l l.length i k) (ev_neg (by omega) (ev_some (allR_end (by omega)).symm))
  | succ d ih =>
    intro i hi
    refine Ev.step (fun k => impl_goodValues.l0.eq_2 l l.length i k) ?_
    rw [allR_step (by omega), w_succ (n := l.length) (by omega) (by omega), rd_nat]
    have no : ¬ (-1000000 ≤ l.getD i 0 ∧ l.getD i 0 ≤ 1000000) → false = (valAt l i && allR (valAt l) (i + 1) l.length) := by
      intro h; rw [show valAt l i = false from decide_eq_false h, Bool.false_and]
    refine ev_pos (by omega) (ev_pos (by omega) (ev_pos (by omega) ?_))
    refine ev_ite (fun h => ev_some (no (by omega))) (fun h => ?_)
    refine ev_ite (fun h1 => ev_some (no (by omega))) (fun h1 => ?_)
    rw [show valAt l i = true from decide_eq_true (by omega), Bool.true_and]; exact ih (i + 1) (by omega)
theorem goodValues_ev (l : List Int) (hl : l.length ≤ maxLen) : Ev (fun k => impl_goodValues.f k l) (valsOk l) := by
  unfold impl_goodValues.f valsOk
  refine ev_ite (fun h => ?_) (fun h => ?_)
  · refine Ev.step (fun k => impl_goodValues.j0.eq_2 l true k) (ev_pos rfl (ev_some ?_))
    rw [decide_eq_false (by omega), Bool.false_and]
  · refine Ev.step (fun k => impl_goodValues.j0.eq_2 l _ k) (ev_ite (fun h1 => ev_some ?_) (fun h1 => ?_))
    · simp only [decide_eq_true_eq] at h1
      rw [decide_eq_false (by omega), Bool.false_and]
    · simp only [decide_eq_true_eq] at h1
      rw [decide_eq_true (by omega), Bool.true_and]; exact goodValues_l0 l hl l.length 0 (by omega)
theorem areValued_ev (a : List (List Int)) (ha : a.length ≤ maxLen) (hb : ∀ x ∈ a, x.length ≤ maxLen) (v : List Int) (hv : v.length ≤ maxLen) : Ev (fun k => impl_areValued.f k a v) (valuedB a v) := by
  unfold impl_areValued.f valuedB
  refine Ev.bind (AreArcs_ev a ha hb) (ev_ite (fun h => ?_) (fun h => ?_))
  · rw [h, Bool.true_and]
    refine Ev.bind (goodValues_ev v hv) (ev_ite (fun h1 => ?_) (fun h1 => ?_))
    · rw [h1, Bool.true_and]; exact ev_some (by rw [Bool.eq_iff_iff, beq_iff_eq, decide_eq_true_eq])
    · rw [Bool.not_eq_true] at h1; rw [h1, Bool.false_and]; exact ev_some rfl
  · rw [Bool.not_eq_true] at h; rw [h, Bool.false_and]; exact ev_some rfl
theorem listOf_l0 (m : List Bool) (hm : m.length ≤ 1048576) : ∀ (d i : Nat), i + d = m.length → Ev (fun k => impl_listOf.l0 k (foldR (putAt m) 0 i []) m (m.length : Int) (i : Int)) (listOf m) := by
  intro d
  induction d with
  | zero =>
    intro i hi
    obtain rfl : i = m.length := by omega
    exact Ev.step (fun k => impl_listOf.l0.eq_2 _ m m.length m.length k) (ev_neg (by omega) (ev_some rfl))
  | succ d ih =>
    intro i hi
    have ih := ih (i + 1) (by omega)
    rw [foldR_last (Nat.zero_le _)] at ih
    have hlen := putAt_len (m := m) i
    refine Ev.step (fun k => impl_listOf.l0.eq_2 _ m m.length i k) ?_
    rw [w_succ (n := m.length) (by omega) (by omega), rdB]
    unfold at_
    rw [toNat_nat]
    refine ev_pos (by omega) (ev_pos (by omega) (ev_pos (by omega) (ev_ite (fun h => ?_) (fun h => ?_))))
    · rw [show putAt m (foldR (putAt m) 0 i []) i = foldR (putAt m) 0 i [] ++ [(i : Int)] from if_pos h] at ih
      exact ev_pos (by omega) ih
    · rw [show putAt m (foldR (putAt m) 0 i []) i = foldR (putAt m) 0 i [] from if_neg h] at ih
      exact ih
theorem listOf_ev (m : List Bool) (hm : m.length ≤ 1048576) : Ev (fun k => impl_listOf.f k m) (listOf m) := by
  unfold impl_listOf.f
  have := listOf_l0 m hm m.length 0 (by omega)
  rwa [foldR_end (Nat.le_refl _)] at this
/-- what a run over the pit's network leaves, and who reaches the sink then -/
structure PitsX (a : List (List Int)) (v : List Int) (x : Int × List Int × List Int) (b : List Int) : Prop where
  rx : Ran (a.length + 2) (pitE a v) x
  rb : ∃ k, bfsL (tosL (pitE a v)) (adjL (pitE a v) (a.length + 2) (pitE a v).length) (flipL x.2.1) k (d0 (a.length + 2) (((a.length + 2 : Nat) : Int) - 1)) [((a.length + 2 : Nat) : Int) - 1] = some b
theorem pitsx_end {a : List (List Int)} {v : List Int} (h : valuedB a v = true) : ∃ x b, PitsX a v x b := by
  obtain ⟨hA, hV, hN⟩ := valued_arcs h
  have hE := pit_at hA (valued_flow h) hN
  have hle := hA.le
  obtain ⟨x, hx⟩ := ran_ends (a.length + 2) (pitE a v) (by omega) hE
  have N := net_of (a.length + 2) (pitE a v) (by omega) hE
  have h0 := lev0 (left := flipL x.2.1) N (o := ((a.length + 2 : Nat) : Int) - 1) (by omega) (by omega)
  obtain ⟨b, hb⟩ := bfs_ends N (a.length + 2) _ _ h0.2 h0.1
  obtain ⟨kb, hb⟩ := hb.rounds
  exact ⟨x, b, hx, ⟨kb, hb⟩⟩
theorem x_len {a : List (List Int)} {v : List Int} (h : valuedB a v = true) {x : Int × List Int × List Int} (hx : Ran (a.length + 2) (pitE a v) x) : (inB x.2.2).length = a.length + 2 := by
  obtain ⟨hA, hV, hN⟩ := valued_arcs h
  have hE := pit_at hA (valued_flow h) hN
  obtain ⟨kx, hx⟩ := hx
  have hT := run_told (net_of (a.length + 2) (pitE a v) (by omega) hE) (by omega) (by omega) kx 0 (leftL (pitE a v)) x hx (flows_of (a.length + 2) (pitE a v) hE)
  rw [inB_len]; exact hT.2.1.len
/-- the least best pit, the largest one -/
def bestL (a : List (List Int)) (x : Int × List Int × List Int) : List Int := listOf (pitB a.length (inB x.2.2))
theorem bestL_asc {a : List (List Int)} {v : List Int} (h : valuedB a v = true) {x : Int × List Int × List Int} (hx : Ran (a.length + 2) (pitE a v) x) : asc (bestL a x) a.length = true := by
  have := listOf_asc (m := pitB a.length (inB x.2.2))
  rwa [pitB_len (x_len h hx)] at this
theorem list_calls (A : Option Addr) (c : Nat) (m : List Bool) (n : Nat) (w : World) (hn : m.length = n) (h : Kd.C Kd.bool w A n m) (hc : n ≤ c) (hm : n ≤ 1048576) :
    Calls Try.prog 69 #[.slice A n c] w fun e w' => ∃ u : Value, e = .returned u ∧ Kd.R (Kd.int .i64) 3 w' w.heap.size (fun _ => True) u (listOf m) ∧ Below w.heap.size w w' := by
  subst hn
  obtain ⟨k, hk⟩ := (listOf_ev m hm).rounds
  exact impl_listOf.calls k A c m _ w h hc hk
end Go.Proofs.Ytogjpimhlkinkaa.OwnPitC
