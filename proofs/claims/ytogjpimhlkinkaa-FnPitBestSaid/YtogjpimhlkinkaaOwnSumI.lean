/- Contracts of impl's sums of values and of pits that are given, over their printed ones. -/
import Derived.Test.YtogjpimhlkinkaaPitNet
import Derived.Test.YtogjpimhlkinkaaMFnPitBestx0
import Derived.Test.YtogjpimhlkinkaaMFnPitBestx0
import Derived.Laws.IdiomStrings
namespace Go.Proofs.Ytogjpimhlkinkaa.OwnSumI
open Go.RowKit Go.Proofs.Ytogjpimhlkinkaa.PFnPitBest Go.Proofs.YtogjpimhlkinkaaW.PrintWords Go.Proofs.YtogjpimhlkinkaaW.PrintLast Go.Proofs.YtogjpimhlkinkaaW.PrintMore Go.Proofs.Ytogjpimhlkinkaa.B Go.Proofs.Ytogjpimhlkinkaa.Flow Go.Proofs.Ytogjpimhlkinkaa.PitMath Go.Proofs.Ytogjpimhlkinkaa.PitBest
set_option linter.unusedVariables false
set_option linter.unusedSimpArgs false
theorem rdB (m : List Bool) (x : Int) : rdOf false m x = at_ m x := rfl
theorem rdL1 (a : List (List Int)) (i : Nat) : rd_L1 a (i : Int) = a.getD i [] := by unfold rd_L1; rw [toNat_nat]
theorem rdL1' (a : List (List Int)) (x : Int) : rd_L1 a x = a.getD x.toNat [] := rfl
theorem areBlocks_l0 (l : List Int) (hl : l.length ≤ maxLen) (n : Int) : ∀ (d i : Nat), i + d = l.length → Ev (fun k => impl_areBlocks.l0 k l n l (l.length : Int) (i : Int)) (allR (ascAt l n) i l.length) := by
  have hl := maxLen_le hl
  intro d
  induction d with
  | zero =>
    intro i hi
    exact Ev.step (fun k => impl_areBlocks.l0.eq_2 l n l l.length i k) (ev_neg (by omega) (ev_some (allR_end (by omega)).symm))
  | succ d ih =>
    intro i hi
    refine Ev.step (fun k => impl_areBlocks.l0.eq_2 l n l l.length i k) ?_
    rw [allR_step (by omega), w_succ (n := l.length) (by omega) (by omega), rd_nat]
    refine ev_pos (by omega) (ev_pos (by omega) (ev_pos (by omega) ?_))
    have no : ¬ (0 ≤ l.getD i 0 ∧ l.getD i 0 < n ∧ (0 < i → l.getD (i - 1) 0 < l.getD i 0)) → false = (ascAt l n i && allR (ascAt l n) (i + 1) l.length) := by
      intro h
      have : ascAt l n i = false := by unfold ascAt; simp only [decide_eq_false_iff_not]; exact h
      rw [this]; rfl
    have yes : (0 ≤ l.getD i 0 ∧ l.getD i 0 < n ∧ (0 < i → l.getD (i - 1) 0 < l.getD i 0)) → Ev (fun k => impl_areBlocks.l0 k l n l (l.length : Int) ((i + 1 : Nat) : Int)) (ascAt l n i && allR (ascAt l n) (i + 1) l.length) := by
      intro h
      have : ascAt l n i = true := by unfold ascAt; simp only [decide_eq_true_eq]; exact h
      rw [this]; exact ih (i + 1) (by omega)
    refine ev_ite (fun h => ev_some (no (by omega))) (fun h => ?_)
    refine ev_ite (fun h1 => ev_some (no (by omega))) (fun h1 => ?_)
    refine ev_ite (fun h0 => ?_) (fun h0 => yes ⟨by omega, by omega, fun _ => by omega⟩)
    rw [w64 (x := (i : Int) - 1) (by omega) (by omega), show (i : Int) - 1 = ((i - 1 : Nat) : Int) by omega, rd_nat]
    refine ev_pos (by omega) (ev_pos (by omega) ?_)
    refine ev_ite (fun h2 => ev_some (no (fun hc => by have := hc.2.2 (by omega); omega))) (fun h2 => yes ⟨by omega, by omega, fun _ => by omega⟩)
theorem areBlocks_ev (l : List Int) (hl : l.length ≤ maxLen) (n : Int) : Ev (fun k => impl_areBlocks.f k l n) (asc l n) := by
  unfold impl_areBlocks.f asc
  exact areBlocks_l0 l hl n l.length 0 (by omega)
theorem AreArcs_l0 (a : List (List Int)) (hl : a.length ≤ maxLen) (hb : ∀ x ∈ a, x.length ≤ maxLen) : ∀ (d i : Nat), i + d = a.length →
    Ev (fun k => impl_AreArcs.l0 k a (a.length : Int) (i : Int)) (allR (fun i => asc (a.getD i []) i) i a.length) := by
  have hl := maxLen_le hl
  intro d
  induction d with
  | zero =>
    intro i hi
    exact Ev.step (fun k => impl_AreArcs.l0.eq_2 a a.length i k) (ev_neg (by omega) (ev_some (allR_end (by omega)).symm))
  | succ d ih =>
    intro i hi
    refine Ev.step (fun k => impl_AreArcs.l0.eq_2 a a.length i k) ?_
    have hx : rd_L1 a (i : Int) = a.getD i [] := by unfold rd_L1; rw [toNat_nat]
    have hmem : a.getD i [] ∈ a := by
      rw [List.getD_eq_getElem?_getD, List.getElem?_eq_getElem (by omega)]; exact List.getElem_mem _
    rw [allR_step (by omega), w_succ (n := a.length) (by omega) (by omega), hx]
    refine ev_pos (by omega) (ev_pos (by omega) (ev_pos (by omega) (Ev.bind (areBlocks_ev _ (hb _ hmem) _) ?_)))
    refine ev_ite (fun h => ?_) (fun h => ?_)
    · rw [h, Bool.true_and]; exact ih (i + 1) (by omega)
    · rw [Bool.not_eq_true] at h; rw [h, Bool.false_and]; exact ev_some rfl
theorem AreArcs_ev (a : List (List Int)) (hl : a.length ≤ maxLen) (hb : ∀ x ∈ a, x.length ≤ maxLen) : Ev (fun k => impl_AreArcs.f k a) (arcsOk a) := by
  unfold impl_AreArcs.f arcsOk
  refine ev_ite (fun h => ?_) (fun h => ?_)
  · refine Ev.step (fun k => impl_AreArcs.j0.eq_2 a true k) (ev_pos rfl (ev_some ?_))
    rw [decide_eq_false (by omega), Bool.false_and]
  · refine Ev.step (fun k => impl_AreArcs.j0.eq_2 a _ k) (ev_ite (fun h1 => ev_some ?_) (fun h1 => ?_))
    · simp only [decide_eq_true_eq] at h1
      rw [decide_eq_false (by omega), Bool.false_and]
    · simp only [decide_eq_true_eq] at h1
      rw [decide_eq_true (by omega), Bool.true_and]; exact AreArcs_l0 a hl hb a.length 0 (by omega)
theorem markOf_l0 (l : List Int) (hl : l.length ≤ maxLen) : ∀ (d i : Nat) (m : List Bool), i + d = l.length → (∀ x ∈ l, 0 ≤ x ∧ x < m.length) → Ev (fun k => impl_markOf.l0 k m l (l.length : Int) (i : Int)) (foldR (setAt l) i l.length m) := by
  have hl := maxLen_le hl
  intro d
  induction d with
  | zero =>
    intro i m hi hm
    exact Ev.step (fun k => impl_markOf.l0.eq_2 m l l.length i k) (ev_neg (by omega) (ev_some (foldR_end (by omega)).symm))
  | succ d ih =>
    intro i m hi hm
    refine Ev.step (fun k => impl_markOf.l0.eq_2 m l l.length i k) ?_
    have hx := hm _ (getD_mem (z := 0) (show i < l.length by omega))
    rw [foldR_step (by omega), w_succ (n := l.length) (by omega) (by omega), rd_nat]
    refine ev_pos (by omega) (ev_pos (by omega) (ev_pos (by omega) (ev_pos (by omega) (ev_pos (by omega) ?_))))
    exact ih (i + 1) _ (by omega) (by intro x h; have := hm x h; simpa using this)
theorem markOf_ev (n : Nat) (hn : n ≤ 1048576) (l : List Int) (hl : l.length ≤ maxLen) (h : ∀ x ∈ l, 0 ≤ x ∧ x < n) : Ev (fun k => impl_markOf.f k (n : Int) l) (mk n l) := by
  unfold impl_markOf.f mk setAll
  refine ev_pos (by omega) (ev_pos (by omega) ?_)
  rw [toNat_nat]
  exact markOf_l0 l hl l.length 0 _ (by omega) (by simpa using h)
theorem allIn_l0 (m : List Bool) (l : List Int) (hl : l.length ≤ maxLen) (hm : ∀ x ∈ l, 0 ≤ x ∧ x < m.length) : ∀ (d i : Nat), i + d = l.length → Ev (fun k => impl_allIn.l0 k m l (l.length : Int) (i : Int)) (allR (inAt m l) i l.length) := by
  have hl := maxLen_le hl
  intro d
  induction d with
  | zero =>
    intro i hi
    exact Ev.step (fun k => impl_allIn.l0.eq_2 m l l.length i k) (ev_neg (by omega) (ev_some (allR_end (by omega)).symm))
  | succ d ih =>
    intro i hi
    refine Ev.step (fun k => impl_allIn.l0.eq_2 m l l.length i k) ?_
    have hx := hm _ (getD_mem (z := 0) (show i < l.length by omega))
    rw [allR_step (by omega), w_succ (n := l.length) (by omega) (by omega), rd_nat, rdB]
    refine ev_pos (by omega) (ev_pos (by omega) (ev_pos (by omega) (ev_pos (by omega) (ev_pos (by omega) ?_))))
    refine ev_ite (fun h => ?_) (fun h => ?_)
    · rw [show inAt m l i = true from h, Bool.true_and]; exact ih (i + 1) (by omega)
    · rw [Bool.not_eq_true] at h; rw [show inAt m l i = false from h, Bool.false_and]; exact ev_some rfl
theorem allIn_ev (m : List Bool) (l : List Int) (hl : l.length ≤ maxLen) (hm : ∀ x ∈ l, 0 ≤ x ∧ x < m.length) : Ev (fun k => impl_allIn.f k m l) (allIn m l) := by
  unfold impl_allIn.f allIn
  exact allIn_l0 m l hl hm l.length 0 (by omega)
theorem isClosure_l0 (a : List (List Int)) (ha : Arcs a) (m : List Bool) (hm : m.length = a.length) (l : List Int) (hl : asc l a.length = true) : ∀ (d i : Nat), i + d = l.length → Ev (fun k => impl_isClosure.l0 k a m l (l.length : Int) (i : Int)) (allR (cloAt a m l) i l.length) := by
  have h1 := asc_len hl
  have h2 := ha.le
  intro d
  induction d with
  | zero =>
    intro i hi
    exact Ev.step (fun k => impl_isClosure.l0.eq_2 a m l l.length i k) (ev_neg (by omega) (ev_some (allR_end (by omega)).symm))
  | succ d ih =>
    intro i hi
    refine Ev.step (fun k => impl_isClosure.l0.eq_2 a m l l.length i k) ?_
    have hx := asc_at hl (show i < l.length by omega)
    rw [allR_step (by omega), w_succ (n := l.length) (by omega) (by omega), rd_nat, rdL1']
    refine ev_pos (by omega) (ev_pos (by omega) (ev_pos (by omega) (ev_pos (by omega) (ev_pos (by omega) ?_))))
    have hlen := ha.len (l.getD i 0).toNat
    refine Ev.bind (allIn_ev m _ (maxLen_val (by omega)) (fun x hx => by have := ha.down hx; omega)) ?_
    refine ev_ite (fun h => ?_) (fun h => ?_)
    · rw [show cloAt a m l i = true from h, Bool.true_and]; exact ih (i + 1) (by omega)
    · rw [Bool.not_eq_true] at h; rw [show cloAt a m l i = false from h, Bool.false_and]; exact ev_some rfl
theorem isClosure_ev (a : List (List Int)) (ha : Arcs a) (l : List Int) (hl : asc l a.length = true) : Ev (fun k => impl_isClosure.f k a l) (isClo a l) := by
  have h1 := asc_len hl
  have h2 := ha.le
  unfold impl_isClosure.f isClo
  exact Ev.bind (markOf_ev a.length (by omega) l (maxLen_val (by omega)) (fun x hx => asc_mem hl hx)) (isClosure_l0 a ha _ mk_len l hl l.length 0 (by omega))
def pitAt (a : List (List Int)) (Ls : List (List Int)) (j : Nat) : Bool := asc (Ls.getD j []) a.length && isClo a (Ls.getD j [])
theorem arePits_l0 (a : List (List Int)) (ha : Arcs a) (Ls : List (List Int)) (hl : Ls.length ≤ 1048576) (hb : ∀ x ∈ Ls, x.length ≤ maxLen) : ∀ (d i : Nat), i + d = Ls.length → Ev (fun k => impl_arePits.l0 k a Ls (Ls.length : Int) (i : Int)) (allR (pitAt a Ls) i Ls.length) := by
  intro d
  induction d with
  | zero =>
    intro i hi
    exact Ev.step (fun k => impl_arePits.l0.eq_2 a Ls Ls.length i k) (ev_neg (by omega) (ev_some (allR_end (by omega)).symm))
  | succ d ih =>
    intro i hi
    refine Ev.step (fun k => impl_arePits.l0.eq_2 a Ls Ls.length i k) ?_
    rw [allR_step (by omega), w_succ (n := Ls.length) (by omega) (by omega), rdL1]
    refine ev_pos (by omega) (ev_pos (by omega) (ev_pos (by omega) (Ev.bind (areBlocks_ev _ (hb _ (getD_mem (by omega))) _) ?_)))
    refine ev_ite (fun h => ?_) (fun h => ?_)
    · refine Ev.bind (isClosure_ev a ha _ h) (ev_ite (fun h1 => ?_) (fun h1 => ?_))
      · rw [show pitAt a Ls i = true by unfold pitAt; rw [h, h1]; rfl, Bool.true_and]; exact ih (i + 1) (by omega)
      · rw [Bool.not_eq_true] at h1; rw [show pitAt a Ls i = false by unfold pitAt; rw [h1, Bool.and_false], Bool.false_and]; exact ev_some rfl
    · rw [Bool.not_eq_true] at h; rw [show pitAt a Ls i = false by unfold pitAt; rw [h, Bool.false_and], Bool.false_and]; exact ev_some rfl
theorem arePits_ev (a : List (List Int)) (ha : a.length ≤ maxLen) (hb : ∀ x ∈ a, x.length ≤ maxLen) (Ls : List (List Int)) (hl : Ls.length ≤ 1048576) (hbl : ∀ x ∈ Ls, x.length ≤ maxLen) : Ev (fun k => impl_arePits.f k a Ls) (arcsOk a && allR (pitAt a Ls) 0 Ls.length) := by
  unfold impl_arePits.f
  refine Ev.bind (AreArcs_ev a ha hb) (ev_ite (fun h => ?_) (fun h => ?_))
  · rw [h, Bool.true_and]; exact arePits_l0 a (arcsOk_iff.1 h) Ls hl hbl Ls.length 0 (by omega)
  · rw [Bool.not_eq_true] at h; rw [h, Bool.false_and]; exact ev_some rfl
theorem arePits1_ev (a : List (List Int)) (ha : a.length ≤ maxLen) (hb : ∀ x ∈ a, x.length ≤ maxLen) (l : List Int) (hl : l.length ≤ maxLen) : Ev (fun k => impl_arePits.f k a [l]) (arcsOk a && (asc l a.length && isClo a l)) := by
  have := arePits_ev a ha hb [l] (by simp) (fun x hx => by rw [List.mem_singleton] at hx; subst hx; exact hl)
  rw [show [l].length = 1 from rfl, allR_step (i := 0) (by omega), allR_end (i := 0 + 1) (by omega), Bool.and_true] at this
  exact this
theorem arePits2_ev (a : List (List Int)) (ha : a.length ≤ maxLen) (hb : ∀ x ∈ a, x.length ≤ maxLen) (l m : List Int) (hl : l.length ≤ maxLen) (hm : m.length ≤ maxLen) : Ev (fun k => impl_arePits.f k a [l, m]) (arcsOk a && ((asc l a.length && isClo a l) && (asc m a.length && isClo a m))) := by
  have := arePits_ev a ha hb [l, m] (by simp) (fun x hx => by
    simp only [List.mem_cons, List.not_mem_nil, or_false] at hx
    rcases hx with rfl | rfl
    · exact hl
    · exact hm)
  rw [show [l, m].length = 2 from rfl, allR_step (i := 0) (by omega), allR_step (i := 0 + 1) (by omega), allR_end (i := 0 + 1 + 1) (by omega), Bool.and_true] at this
  exact this
theorem valueSum_l0 (v l : List Int) (hv : valsOk v = true) (hl : asc l v.length = true) : ∀ (d i : Nat), i + d = l.length → Ev (fun k => impl_valueSum.l0 k v (foldR (sumAt v l) 0 i 0) l (l.length : Int) (i : Int)) (valSum v l) := by
  have hlen := asc_len hl
  rw [asc_iff] at hl
  rw [valsOk_iff] at hv
  intro d
  induction d with
  | zero =>
    intro i hi
    obtain rfl : i = l.length := by omega
    exact Ev.step (fun k => impl_valueSum.l0.eq_2 v _ l l.length l.length k) (ev_neg (by omega) (ev_some rfl))
  | succ d ih =>
    intro i hi
    refine Ev.step (fun k => impl_valueSum.l0.eq_2 v _ l l.length i k) ?_
    have h1 := hl i (by omega)
    have h2 := valSum_bound hv.2.2 (fun j hj => ⟨(hl j hj).1, (hl j hj).2.1⟩) i (by omega)
    have h3 := hv.2.2 (l.getD i 0).toNat (by omega)
    rw [w_succ (n := l.length) (by omega) (by omega), rd_nat]
    refine ev_pos (by omega) (ev_pos (by omega) (ev_pos (by omega) (ev_pos (by omega) (ev_pos (by omega) ?_))))
    have e : wrap64 (foldR (sumAt v l) 0 i 0 + rd v (l.getD i 0)) = foldR (sumAt v l) 0 (i + 1) 0 := by
      rw [foldR_last (Nat.zero_le _)]
      unfold rd sumAt
      unfold sumAt at h2
      rw [w64 (by omega) (by omega)]
    rw [e]
    exact ih (i + 1) (by omega)
theorem valueSum_ev (v l : List Int) (hv : valsOk v = true) (hl : asc l v.length = true) : Ev (fun k => impl_valueSum.f k v l) (valSum v l) := by
  unfold impl_valueSum.f
  have := valueSum_l0 v l hv hl l.length 0 (by omega)
  rwa [foldR_end (Nat.le_refl _)] at this
abbrev kL : Kd (List Int) := Kd.slice 3 (Kd.int .i64)
theorem drawn_below {w w' : World} (h : Drawn0 w w') : Below w.heap.size w w' := by
  obtain ⟨n, rfl⟩ := h
  exact pw_below_drewN (Below.refl _ _) n
theorem valueSum_calls (A1 : Option Addr) (c1 : Nat) (v : List Int) (A2 : Option Addr) (c2 : Nat) (l : List Int) (w : World) (h1 : Kd.C (Kd.int .i64) w A1 v.length v) (e1 : v.length ≤ c1) (h2 : Kd.C (Kd.int .i64) w A2 l.length l) (e2 : l.length ≤ c2) (hv : valsOk v = true) (hl : asc l v.length = true) :
    Calls Try.prog 78 #[.slice A1 v.length c1, .slice A2 l.length c2] w fun e w' => e = .returned (.int .i64 (valSum v l)) ∧ Below w.heap.size w w' := by
  obtain ⟨k, hk⟩ := (valueSum_ev v l hv hl).rounds
  exact (impl_valueSum.calls k A1 c1 v A2 c2 l _ w h1 e1 h2 e2 hk).mono fun e w' h => ⟨h.1, drawn_below h.2⟩
/-- A literal of one row reads as the list of that row. -/
theorem lit1 {w : World} {A : Option Addr} {p : List Int} {c : Nat} (hc : p.length ≤ c) (h : Kd.C (Kd.int .i64) w A p.length p) {t : TypeId} {m : Nat × Nat} :
    Kd.C kL (w.alloc (.cells #[.slice A p.length c] t m)) (some ⟨w.heap.size, 0, none⟩) [p].length [p] := by
  refine ⟨rfl, Nat.le_of_lt (by simp), fun _ => ⟨⟨w.heap.size, 0, none⟩, rfl, fun j q hj => ?_⟩⟩
  have : j = 0 ∧ q = p := by
    cases j with
    | zero => simp at hj; exact ⟨rfl, hj.symm⟩
    | succ j => simp at hj
  obtain ⟨rfl, rfl⟩ := this
  refine ⟨[.slice A q.length c], rfl, ⟨A, c, rfl, hc, Kd.C_alloc h _⟩, fun i u hu => ?_⟩
  cases i with
  | zero =>
    simp only [List.getElem?_cons_zero, Option.some.injEq] at hu
    subst hu
    rw [show kL.sz = 1 from rfl, show 0 * 1 + 0 = 0 from rfl, show (⟨w.heap.size, 0, none⟩ : Addr).add 0 = ⟨w.heap.size, 0, none⟩ from rfl]
    exact World.cell?_alloc_mark w _ t m 0
  | succ i => simp at hu
theorem arePits_calls (A0 : Option Addr) (c0 : Nat) (a : List (List Int)) (A2 : Option Addr) (c2 : Nat) (p : List Int) (w : World) (h0 : Kd.C kL w A0 a.length a) (e0 : a.length ≤ c0) (h2 : Kd.C (Kd.int .i64) w A2 p.length p) (e2 : p.length ≤ c2) (hA : Arcs a) (lb : ∀ x ∈ a, x.length ≤ 1048576) (lp : p.length ≤ 1048576) (t : TypeId) :
    Calls Try.prog 83 #[.slice A0 a.length c0, .slice (some ⟨w.heap.size, 0, none⟩) 1 1] (w.alloc (.cells #[.slice A2 p.length c2] t)) fun e w' => e = .returned (.bool (asc p a.length && isClo a p)) ∧ Below w.heap.size w w' := by
  have hle := hA.le
  obtain ⟨k, hk⟩ := (arePits1_ev a (maxLen_val (by omega)) (fun x hx => maxLen_val (by have := lb x hx; omega)) p (maxLen_val (by omega))).rounds
  rw [arcsOk_iff.2 hA, Bool.true_and] at hk
  exact (impl_arePits.calls k A0 c0 a (some ⟨w.heap.size, 0, none⟩) 1 [p] _ _ (Kd.C_alloc h0 _) e0 (lit1 e2 h2) (Nat.le_refl _) hk).mono fun e w' h => ⟨h.1, below_step (below_alloc (Below.refl _ _) _) h.2⟩
end Go.Proofs.Ytogjpimhlkinkaa.OwnSumI
