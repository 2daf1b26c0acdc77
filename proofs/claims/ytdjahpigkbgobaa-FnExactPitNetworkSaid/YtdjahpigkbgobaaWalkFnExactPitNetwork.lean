/- The law FnExactPitNetwork, walked by hand over its callees' contracts: for every input it returns true. -/
import Derived.Test.YtdjahpigkbgobaaCom
import Derived.Test.YtdjahpigkbgobaaMFnExactPitNetworkx0
import Derived.Test.YtdjahpigkbgobaaMFnExactPitNetworkx1
namespace Go.Proofs.Ytdjahpigkbgobaa.WalkFnExactPitNetwork
open Go.RowKit Go.Proofs.Ytdjahpigkbgobaa.PFnExactPitNetwork Go.Proofs.YtdjahpigkbgobaaW.PrintWords Go.Proofs.YtdjahpigkbgobaaW.PrintLast Go.Proofs.YtdjahpigkbgobaaW.PrintMore Go.Proofs.Ytdjahpigkbgobaa.B Go.Proofs.Ytdjahpigkbgobaa.Com
set_option linter.unusedVariables false
set_option linter.unusedSimpArgs false
def Zn (W W' : World) (u : Value) (k : Nat) : Prop := Btw W W' k ∧ some k = u.ownBlock
/- laws_eqEdgeS -/
theorem eqEdgeS_l0 (l : List S69) (hl : l.length ≤ maxLen) : ∀ (d i : Nat), i + d = l.length → Ev (fun k => laws_eqEdgeS.l0 k l l (i : Int)) true := by
  have hl := maxLen_le hl
  intro d
  induction d with
  | zero =>
    intro i hi
    exact Ev.step (fun k => laws_eqEdgeS.l0.eq_2 l l i k) (ev_neg (by omega) (ev_some rfl))
  | succ d ih =>
    intro i hi
    refine Ev.step (fun k => laws_eqEdgeS.l0.eq_2 l l i k) ?_
    rw [w_succ (n := l.length) (by omega) (by omega)]
    exact ev_pos (by omega) (ev_pos (by omega) (ev_pos (by omega) (ev_bindc (by unfold laws_eqEdge.f; rw [if_pos rfl, if_pos rfl, if_pos rfl]) (ev_pos rfl (ih (i + 1) (by omega))))))
theorem eqEdgeS_ev (l : List S69) (hl : l.length ≤ maxLen) : Ev (fun k => laws_eqEdgeS.f k l l) true := by
  unfold laws_eqEdgeS.f
  exact ev_pos rfl (eqEdgeS_l0 l hl l.length 0 (by omega))

/- com.eqEdgeS -/
theorem eqEdgeS_calls (l : List S69) (hl : l.length ≤ maxLen) (A A' : Option Addr) (c c' : Nat) (w : World) (h1 : Kd.C k69 w A l.length l) (h2 : l.length ≤ c) (h3 : Kd.C k69 w A' l.length l) (h4 : l.length ≤ c') :
    Calls Try.prog 46 #[.slice A l.length c, .slice A' l.length c'] w fun e w' => e = .returned (.bool true) ∧ Below w.heap.size w w' := by
  obtain ⟨k, hk⟩ := (eqEdgeS_ev l hl).rounds
  exact laws_eqEdgeS.calls k A c l A' c' l true w h1 h2 h3 h4 hk

/- laws_markEdgeS -/
def mk3 (a : Int) (j : Nat) : S69 := ⟨a + 3 * j, a + 3 * j + 1, a + 3 * j + 2⟩
theorem markEdgeS_l0 (l : List S69) (hl : l.length ≤ 1048576) (a : Int) (ha : 0 ≤ a ∧ a ≤ 1099511627776) : ∀ (d i : Nat) (m : List S69), i + d = l.length → m.length = l.length → (∀ j, j < i → m.getD j z69 = mk3 a j) →
    ∃ r, Ev (fun k => laws_markEdgeS.l0 k m (a + 3 * i) (i : Int)) (a + 3 * l.length, r) ∧ r.length = l.length ∧ ∀ j, j < l.length → r.getD j z69 = mk3 a j := by
  intro d
  induction d with
  | zero =>
    intro i m hi hm he
    obtain rfl : i = l.length := by omega
    exact ⟨m, Ev.step (fun k => laws_markEdgeS.l0.eq_2 m (a + 3 * l.length) l.length k) (ev_neg (by omega) (ev_some rfl)), hm, he⟩
  | succ d ih =>
    intro i m hi hm he
    have hi' : i < m.length := by omega
    have e : ∀ (v : S69) (u : List S69), u.length = m.length → rd_T69 (u.set i v) (i : Int) = v := by
      intro v u hu; unfold rd_T69; rw [toNat_nat, getD_set, if_pos ⟨rfl, by omega⟩]
    obtain ⟨r, hr, hz⟩ := ih (i + 1) (((m.set i ⟨a + 3 * i, (rd_T69 m i).f1, (rd_T69 m i).f2⟩).set i ⟨a + 3 * i, a + 3 * i + 1, (rd_T69 m i).f2⟩).set i (mk3 a i)) (by omega) (by simpa using hm) (fun j hj => by
      rw [getD_set, getD_set, getD_set]
      simp only [List.length_set]
      by_cases hji : i = j
      · subst hji; rw [if_pos ⟨rfl, hi'⟩]
      · rw [if_neg (by omega), if_neg (by omega), if_neg (by omega)]; exact he j (by omega))
    refine ⟨r, Ev.step (fun k => laws_markEdgeS.l0.eq_2 m (a + 3 * i) i k) ?_, hz⟩
    rw [w_succ (n := l.length) (by omega) (by omega), toNat_nat, w64 (x := a + 3 * i + 1) (by omega) (by omega), w64 (x := a + 3 * i + 1 + 1) (by omega) (by omega), w64 (x := a + 3 * i + 1 + 1 + 1) (by omega) (by omega)]
    simp only [Option.bind_some, e _ _ rfl, List.length_set]
    refine ev_pos (by omega) (ev_pos (by omega) ?_)
    rw [e _ (m.set i _) (by simp)]
    rw [show a + 3 * (i : Int) + 1 + 1 + 1 = a + 3 * ((i + 1 : Nat) : Int) by omega]
    have e2 : a + 3 * (i : Int) + 1 + 1 = a + 3 * (i : Int) + 2 := by omega
    rw [e2]
    exact hr
theorem heldEdgeS_l0 (l : List S69) (hl : l.length ≤ 1048576) (a : Int) (ha : 0 ≤ a ∧ a ≤ 1099511627776) (he : ∀ j, j < l.length → l.getD j z69 = mk3 a j) : ∀ (d i : Nat), i + d = l.length →
    Ev (fun k => laws_heldEdgeS.l0 k l (a + 3 * i) (i : Int)) (a + 3 * l.length) := by
  intro d
  induction d with
  | zero =>
    intro i hi
    obtain rfl : i = l.length := by omega
    exact Ev.step (fun k => laws_heldEdgeS.l0.eq_2 l (a + 3 * l.length) l.length k) (ev_neg (by omega) (ev_some rfl))
  | succ d ih =>
    intro i hi
    refine Ev.step (fun k => laws_heldEdgeS.l0.eq_2 l (a + 3 * i) i k) ?_
    have hx : rd_T69 l (i : Int) = mk3 a i := by unfold rd_T69; rw [toNat_nat]; exact he i (by omega)
    rw [w_succ (n := l.length) (by omega) (by omega), hx, w64 (x := a + 3 * i + 1) (by omega) (by omega), w64 (x := a + 3 * i + 1 + 1) (by omega) (by omega), w64 (x := a + 3 * i + 1 + 1 + 1) (by omega) (by omega)]
    refine ev_pos (by omega) (ev_pos (by omega) (ev_pos rfl (ev_pos rfl (ev_pos ?_ ?_))))
    · show a + 3 * (i : Int) + 2 = _; omega
    · have := ih (i + 1) (by omega)
      rwa [show a + 3 * ((i + 1 : Nat) : Int) = a + 3 * (i : Int) + 1 + 1 + 1 by omega] at this
theorem markEdgeS_ev (l : List S69) (hl : l.length ≤ 1048576) (a : Int) (ha : 0 ≤ a ∧ a ≤ 1099511627776) :
    ∃ r, Ev (fun k => laws_markEdgeS.f k l a) (a + 3 * l.length, r) ∧ Ev (fun k => laws_heldEdgeS.f k r a) (a + 3 * l.length) ∧ r.length = l.length := by
  obtain ⟨r, h1, h2, h3⟩ := markEdgeS_l0 l hl a ha l.length 0 l (by omega) rfl (fun j hj => by omega)
  have h4 := heldEdgeS_l0 r (by omega) a ha (fun j hj => h3 j (by omega)) r.length 0 (by omega)
  rw [show a + 3 * ((0 : Nat) : Int) = a by omega] at h1 h4
  rw [h2] at h4
  exact ⟨r, h1, h4, h2⟩

/- com.markEdgeS -/
def markRowE (a : Int) (n : Nat) : List S69 := (List.range n).map (mk3 a)
theorem markRowE_len (a : Int) (n : Nat) : (markRowE a n).length = n := by unfold markRowE; rw [List.length_map, List.length_range]
theorem markRowE_at (a : Int) (n j : Nat) (h : j < n) : (markRowE a n).getD j z69 = mk3 a j := by
  unfold markRowE
  rw [List.getD_eq_getElem?_getD, List.getElem?_map, List.getElem?_range h]; rfl
theorem markEdgeS_row (l : List S69) (hl : l.length ≤ 1048576) (a : Int) (ha : 0 ≤ a ∧ a ≤ 1099511627776) : Ev (fun k => laws_markEdgeS.f k l a) (a + 3 * l.length, markRowE a l.length) := by
  obtain ⟨r, h1, h2, h3⟩ := markEdgeS_l0 l hl a ha l.length 0 l (by omega) rfl (fun j hj => by omega)
  rw [show a + 3 * ((0 : Nat) : Int) = a by omega] at h1
  have : r = markRowE a l.length := getD_ext z69 (by rw [h2, markRowE_len]) (fun j hj => by rw [h3 j (by omega), markRowE_at a l.length j (by omega)])
  rw [← this]
  exact h1
theorem markEdgeS_calls (l : List S69) (hl : l.length ≤ 1048576) (a : Int) (ha : 0 ≤ a ∧ a ≤ 1099511627776) (P : Nat → Prop) (u : Value) (w0 w : World) (hB : Below w0.heap.size w0 w) (hR : Kd.R k69 69 w w0.heap.size P u l) :
    Calls Try.prog 47 #[u, .int .i64 a] w fun e w' => e = .returned (.int .i64 (a + 3 * l.length)) ∧ Kd.R k69 69 w' w0.heap.size P u (markRowE a l.length) ∧ Below w0.heap.size w0 w' ∧ Kept w w' P := by
  obtain ⟨k, hk⟩ := (markEdgeS_row l hl a ha).rounds
  exact (laws_markEdgeS.calls k P u l a _ _ w0 w hB hR hk).mono fun e w' h => ⟨h.1, Kd.R_reok rfl h.2.1 hR.1, h.2.2.1, h.2.2.2⟩

/- com.heldEdgeS -/
theorem heldEdgeS_calls (n : Nat) (hl : n ≤ 1048576) (a : Int) (ha : 0 ≤ a ∧ a ≤ 1099511627776) (A : Option Addr) (c : Nat) (w : World) (h1 : Kd.C k69 w A n (markRowE a n)) (h2 : n ≤ c) :
    Calls Try.prog 48 #[.slice A n c, .int .i64 a] w fun e w' => e = .returned (.int .i64 (a + 3 * n)) ∧ Below w.heap.size w w' := by
  have hn := markRowE_len a n
  have h := heldEdgeS_l0 (markRowE a n) (by rw [hn]; exact hl) a ha (fun j hj => markRowE_at a n j (by rw [hn] at hj; exact hj)) n 0 (by rw [hn]; omega)
  rw [hn, show a + 3 * ((0 : Nat) : Int) = a by omega] at h
  obtain ⟨k, hk⟩ := h.rounds
  have := laws_heldEdgeS.calls k A c (markRowE a n) a (a + 3 * n) w (by rw [hn]; exact h1) (by rw [hn]; exact h2) hk
  rw [hn] at this
  exact this.mono fun e w' h => ⟨h.1, drawn_below h.2⟩

/- vals -/
def valAt (l : List Int) (j : Nat) : Bool := decide (-1000000 ≤ l.getD j 0 ∧ l.getD j 0 ≤ 1000000)
def valsOk (l : List Int) : Bool := decide (1 ≤ l.length ∧ l.length ≤ 120) && allR (valAt l) 0 l.length
theorem valsOk_iff {l : List Int} : valsOk l = true ↔ 1 ≤ l.length ∧ l.length ≤ 120 ∧ ∀ j, j < l.length → -1000000 ≤ l.getD j 0 ∧ l.getD j 0 ≤ 1000000 := by
  unfold valsOk valAt
  rw [Bool.and_eq_true, decide_eq_true_eq, allR_iff]
  constructor
  · rintro ⟨⟨h1, h2⟩, h3⟩; exact ⟨h1, h2, fun j hj => by have := h3 j (Nat.zero_le _) hj; simpa using this⟩
  · rintro ⟨h1, h2, h3⟩; exact ⟨⟨h1, h2⟩, fun j _ hj => by simpa using h3 j hj⟩
def sumAt (v l : List Int) (s : Int) (j : Nat) : Int := s + v.getD (l.getD j 0).toNat 0
def valSum (v l : List Int) : Int := foldR (sumAt v l) 0 l.length 0
theorem valSum_bound {v l : List Int} (hv : ∀ j, j < v.length → -1000000 ≤ v.getD j 0 ∧ v.getD j 0 ≤ 1000000) (hl : ∀ j, j < l.length → 0 ≤ l.getD j 0 ∧ l.getD j 0 < v.length) (m : Nat) (hm : m ≤ l.length) : -1000000 * (m : Int) ≤ foldR (sumAt v l) 0 m 0 ∧ foldR (sumAt v l) 0 m 0 ≤ 1000000 * (m : Int) := by
  induction m with
  | zero => rw [foldR_end (Nat.le_refl _)]; omega
  | succ m ih =>
    have ih := ih (by omega)
    rw [foldR_last (by omega)]
    have h1 := hl m (by omega)
    have h2 := hv (l.getD m 0).toNat (by omega)
    unfold sumAt at *
    omega

/- closGood -/
def goodC (a : List (List Int)) (l : List Int) : Bool := arcsOk a && (asc l a.length && isClo a l)
theorem goodC_iff {a : List (List Int)} {l : List Int} : goodC a l = true ↔ Arcs a ∧ asc l a.length = true ∧ isClo a l = true := by
  unfold goodC; rw [Bool.and_eq_true, Bool.and_eq_true, arcsOk_iff]

/- cutP -/
def posAt (v : List Int) (s : Int) (j : Nat) : Int := s + max 0 (v.getD j 0)
def posSum (v : List Int) : Int := foldR (posAt v) 0 v.length 0
def valuedB (a : List (List Int)) (v : List Int) : Bool := arcsOk a && (valsOk v && decide ((v.length : Int) = a.length))
def cutP (a : List (List Int)) (v p : List Int) : Int × Bool := if valuedB a v && (asc p a.length && isClo a p) then (posSum v - valSum v p, true) else (0, false)
theorem posAt_bd {v : List Int} (hv : valsOk v = true) (i : Nat) (hi : i ≤ v.length) : 0 ≤ foldR (posAt v) 0 i 0 ∧ foldR (posAt v) 0 i 0 ≤ 1000000 * (i : Int) := by
  rw [valsOk_iff] at hv
  induction i with
  | zero => rw [foldR_end (Nat.le_refl _)]; omega
  | succ i ih =>
    have ih := ih (by omega)
    rw [foldR_last (Nat.zero_le _)]
    have := hv.2.2 i (by omega)
    unfold posAt at *
    omega
theorem valued_arcs {a : List (List Int)} {v : List Int} (h : valuedB a v = true) : Arcs a ∧ valsOk v = true ∧ v.length = a.length := by
  unfold valuedB at h
  rw [Bool.and_eq_true, Bool.and_eq_true, decide_eq_true_eq, arcsOk_iff] at h
  exact ⟨h.1, h.2.1, by omega⟩

/- spec_l1In -/
theorem l1In_eq (a b c : Int) : spec_l1In.f a b c = some (decide (b ≤ a ∧ a ≤ c)) := by
  unfold spec_l1In.f
  by_cases h : a ≥ b
  · rw [if_pos h]; simp [show b ≤ a from h]
  · rw [if_neg h]; simp [show ¬ b ≤ a from h]

/- spec_l1Rising -/
theorem l1Rising_l0 (l : List Int) (hl : l.length ≤ maxLen) (n : Int) : ∀ (d i : Nat), i + d = l.length → Ev (fun k => spec_l1Rising.l0 k l 0 (n - 1) l (l.length : Int) (i : Int)) (allR (ascAt l n) i l.length) := by
  have hl := maxLen_le hl
  intro d
  induction d with
  | zero =>
    intro i hi
    exact Ev.step (fun k => spec_l1Rising.l0.eq_2 l 0 (n - 1) l l.length i k) (ev_neg (by omega) (ev_some (allR_end (by omega)).symm))
  | succ d ih =>
    intro i hi
    refine Ev.step (fun k => spec_l1Rising.l0.eq_2 l 0 (n - 1) l l.length i k) ?_
    rw [allR_step (by omega), w_succ (n := l.length) (by omega) (by omega), rd_nat]
    refine ev_pos (by omega) (ev_pos (by omega) (ev_pos (by omega) (ev_bindc (l1In_eq _ _ _) ?_)))
    refine ev_ite (fun h => ?_) (fun h => ?_)
    · simp only [decide_eq_true_eq] at h
      refine ev_ite (fun h0 => ?_) (fun h0 => ?_)
      · rw [w64 (x := (i : Int) - 1) (by omega) (by omega), show (i : Int) - 1 = ((i - 1 : Nat) : Int) by omega, rd_nat]
        refine ev_pos (by omega) (ev_pos (by omega) ?_)
        refine ev_ite (fun h1 => ?_) (fun h1 => ?_)
        · refine ev_some ?_
          have : ascAt l n i = false := by unfold ascAt; simp only [decide_eq_false_iff_not]; intro hc; have := hc.2.2 (by omega); omega
          rw [this]; rfl
        · have : ascAt l n i = true := by unfold ascAt; simp only [decide_eq_true_eq]; exact ⟨by omega, by omega, fun _ => by omega⟩
          rw [this]; exact ih (i + 1) (by omega)
      · have : ascAt l n i = true := by unfold ascAt; simp only [decide_eq_true_eq]; exact ⟨by omega, by omega, fun _ => by omega⟩
        rw [this]; exact ih (i + 1) (by omega)
    · refine ev_some ?_
      have : ascAt l n i = false := by
        unfold ascAt; simp only [decide_eq_true_eq] at h; simp only [decide_eq_false_iff_not]; intro hc; exact h ⟨hc.1, by omega⟩
      rw [this]; rfl
theorem l1Rising_ev (l : List Int) (hl : l.length ≤ maxLen) (n : Int) : Ev (fun k => spec_l1Rising.f k l 0 (n - 1)) (asc l n) := by
  unfold spec_l1Rising.f asc
  exact l1Rising_l0 l hl n l.length 0 (by omega)

/- spec_clArcs -/
theorem clArcs_l0 (a : List (List Int)) (hl : a.length ≤ maxLen) (hb : ∀ x ∈ a, x.length ≤ maxLen) : ∀ (d i : Nat), i + d = a.length →
    Ev (fun k => spec_clArcs.l0 k a a (a.length : Int) (i : Int)) (decide (1 ≤ a.length ∧ a.length ≤ 120) && allR (fun i => asc (a.getD i []) i) i a.length) := by
  have hl := maxLen_le hl
  intro d
  induction d with
  | zero =>
    intro i hi
    refine Ev.step (fun k => spec_clArcs.l0.eq_2 a a a.length i k) (ev_neg (by omega) (ev_bindc (l1In_eq _ _ _) (ev_some ?_)))
    rw [allR_end (by omega), Bool.and_true, decide_eq_decide]; omega
  | succ d ih =>
    intro i hi
    refine Ev.step (fun k => spec_clArcs.l0.eq_2 a a a.length i k) ?_
    have hx : rd_L1 a (i : Int) = a.getD i [] := by unfold rd_L1; rw [toNat_nat]
    have hmem : a.getD i [] ∈ a := by
      rw [List.getD_eq_getElem?_getD, List.getElem?_eq_getElem (by omega)]; exact List.getElem_mem _
    rw [allR_step (by omega), w_succ (n := a.length) (by omega) (by omega), hx, w64 (x := (i : Int) - 1) (by omega) (by omega)]
    refine ev_pos (by omega) (ev_pos (by omega) (ev_pos (by omega) (Ev.bind (l1Rising_ev _ (hb _ hmem) _) ?_)))
    refine ev_ite (fun h => ?_) (fun h => ?_)
    · rw [h, Bool.true_and]; exact ih (i + 1) (by omega)
    · rw [Bool.not_eq_true] at h; rw [h, Bool.false_and, Bool.and_false]; exact ev_some rfl
theorem clArcs_ev (a : List (List Int)) (hl : a.length ≤ maxLen) (hb : ∀ x ∈ a, x.length ≤ maxLen) : Ev (fun k => spec_clArcs.f k a) (arcsOk a) := by
  unfold spec_clArcs.f arcsOk
  exact clArcs_l0 a hl hb a.length 0 (by omega)

/- spec_l1All -/
theorem l1All_l0 (l : List Int) (hl : l.length ≤ maxLen) (lo hi : Int) : ∀ (d i : Nat), i + d = l.length → Ev (fun k => spec_l1All.l0 k lo hi l (l.length : Int) (i : Int)) (allR (fun j => decide (lo ≤ l.getD j 0 ∧ l.getD j 0 ≤ hi)) i l.length) := by
  have hl := maxLen_le hl
  intro d
  induction d with
  | zero =>
    intro i hi'
    exact Ev.step (fun k => spec_l1All.l0.eq_2 lo hi l l.length i k) (ev_neg (by omega) (ev_some (allR_end (by omega)).symm))
  | succ d ih =>
    intro i hi'
    refine Ev.step (fun k => spec_l1All.l0.eq_2 lo hi l l.length i k) ?_
    rw [allR_step (by omega), w_succ (n := l.length) (by omega) (by omega), rd_nat]
    refine ev_pos (by omega) (ev_pos (by omega) (ev_pos (by omega) (ev_bindc (l1In_eq _ _ _) ?_)))
    refine ev_ite (fun h => ?_) (fun h => ?_)
    · rw [h, Bool.true_and]; exact ih (i + 1) (by omega)
    · rw [Bool.not_eq_true] at h; rw [h, Bool.false_and]; exact ev_some rfl
theorem l1All_ev (l : List Int) (hl : l.length ≤ maxLen) (lo hi : Int) : Ev (fun k => spec_l1All.f k l lo hi) (allR (fun j => decide (lo ≤ l.getD j 0 ∧ l.getD j 0 ≤ hi)) 0 l.length) := by
  unfold spec_l1All.f
  exact l1All_l0 l hl lo hi l.length 0 (by omega)

/- spec_vaGood -/
theorem vaGood_ev (l : List Int) (hl : l.length ≤ maxLen) (n : Int) : Ev (fun k => spec_vaGood.f k l n) (decide ((l.length : Int) = n) && valsOk l) := by
  unfold spec_vaGood.f
  refine ev_ite (fun h => ?_) (fun h => ev_some (by rw [decide_eq_false h, Bool.false_and]))
  subst h
  rw [decide_eq_true rfl, Bool.true_and]
  unfold valsOk
  refine ev_bindc (l1In_eq _ _ _) (ev_ite (fun h => ?_) (fun h => ev_some ?_))
  · simp only [decide_eq_true_eq] at h
    rw [decide_eq_true (by omega), Bool.true_and]
    exact ev_id (l1All_ev l hl _ _)
  · simp only [decide_eq_true_eq] at h
    rw [decide_eq_false (by omega), Bool.false_and]

/- spec_paGood -/
theorem paGood_ev (a : List (List Int)) (ha : a.length ≤ maxLen) (hb : ∀ x ∈ a, x.length ≤ maxLen) (v : List Int) (hv : v.length ≤ maxLen) : Ev (fun k => spec_paGood.f k a v) (valuedB a v) := by
  unfold spec_paGood.f valuedB
  refine Ev.bind (clArcs_ev a ha hb) (ev_ite (fun h => ?_) (fun h => ?_))
  · rw [h, Bool.true_and, Bool.and_comm]
    exact ev_id (vaGood_ev v hv _)
  · rw [Bool.not_eq_true] at h; rw [h, Bool.false_and]; exact ev_some rfl

/- pitE -/
def arcE (i : Nat) (x : Int) : S69 := ⟨(i : Int) + 1, x + 1, 1000000000⟩
def pitAt (a : List (List Int)) (v : List Int) (o : List S69) (i : Nat) : List S69 :=
  (if v.getD i 0 < 0 then (if v.getD i 0 > 0 then o ++ [⟨0, (i : Int) + 1, v.getD i 0⟩] else o) ++ [⟨(i : Int) + 1, (a.length : Int) + 1, -(v.getD i 0)⟩] else (if v.getD i 0 > 0 then o ++ [⟨0, (i : Int) + 1, v.getD i 0⟩] else o)) ++ (a.getD i []).map (arcE i)
def pitE (a : List (List Int)) (v : List Int) : List S69 := foldR (pitAt a v) 0 a.length []
theorem pitAt_len {a : List (List Int)} (ha : Arcs a) (v : List Int) (m : Nat) : (foldR (pitAt a v) 0 m []).length ≤ 122 * m := by
  induction m with
  | zero => rw [foldR_end (Nat.le_refl _)]; simp
  | succ m ih =>
    rw [foldR_last (Nat.zero_le _)]
    have := ha.len m
    generalize foldR (pitAt a v) 0 m [] = o at *
    unfold pitAt
    rw [List.length_append, List.length_map]
    split <;> split <;> (try simp only [List.length_append, List.length_cons, List.length_nil]) <;> omega
/-- Values that a network is made of. -/
def flowVals (v : List Int) : Prop := ∀ j, j < v.length → -1000000000 ≤ v.getD j 0 ∧ v.getD j 0 ≤ 1000000000

/- rdL1 -/
theorem rdL1 (a : List (List Int)) (i : Nat) : rd_L1 a (i : Int) = a.getD i [] := by unfold rd_L1; rw [toNat_nat]
theorem rdL1' (a : List (List Int)) (x : Int) : rd_L1 a x = a.getD x.toNat [] := rfl

/- spec_paEdges -/
theorem paEdges_l1 (a : List (List Int)) (v : List Int) (i : Nat) (hi : i < 120) (l : List Int) (hl : l.length ≤ 120) (hx : ∀ x ∈ l, 0 ≤ x ∧ x < 120) (q : List S69) : ∀ (d j : Nat) (o : List S69), j + d = l.length → o.length + d ≤ 1000000 →
    Ev (fun k => spec_paEdges.l0 k a v (o ++ (l.drop j).map (arcE i)) a (a.length : Int) (wrap64 ((i : Int) + 1))) q →
    Ev (fun k => spec_paEdges.l1 k a v o (i : Int) a (a.length : Int) (i : Int) l (l.length : Int) (j : Int)) q := by
  intro d
  induction d with
  | zero =>
    intro j o hj _ hq
    rw [List.drop_eq_nil_of_le (by omega), List.map_nil, List.append_nil] at hq
    exact Ev.step (fun k => spec_paEdges.l1.eq_2 a v o i a a.length i l l.length j k) (ev_neg (by omega) hq)
  | succ d ih =>
    intro j o hj ho hq
    have hm := hx _ (getD_mem (z := 0) (show j < l.length by omega))
    refine Ev.step (fun k => spec_paEdges.l1.eq_2 a v o i a a.length i l l.length j k) ?_
    rw [w_succ (i := j) (n := l.length) (by omega) (by omega), rd_nat, w64 (x := (i : Int) + 1) (by omega) (by omega), w64 (x := l.getD j 0 + 1) (by omega) (by omega)]
    refine ev_pos (by omega) (ev_pos (by omega) (ev_pos (by omega) (ev_pos (by omega) ?_)))
    refine ih (j + 1) _ (by omega) (by rw [List.length_append]; simp; omega) ?_
    rw [List.append_assoc]
    have e : l.drop j = l.getD j 0 :: l.drop (j + 1) := by
      rw [List.drop_eq_getElem_cons (show j < l.length by omega), List.getD_eq_getElem?_getD, List.getElem?_eq_getElem (show j < l.length by omega)]; rfl
    rw [e, List.map_cons] at hq
    exact hq
theorem paEdges_l0 (a : List (List Int)) (ha : Arcs a) (v : List Int) (hv : flowVals v) (hn : v.length = a.length) : ∀ (d i : Nat), i + d = a.length →
    Ev (fun k => spec_paEdges.l0 k a v (foldR (pitAt a v) 0 i []) a (a.length : Int) (i : Int)) (pitE a v) := by
  have hle := ha.le
  intro d
  induction d with
  | zero =>
    intro i hi
    obtain rfl : i = a.length := by omega
    exact Ev.step (fun k => spec_paEdges.l0.eq_2 a v _ a a.length a.length k) (ev_neg (by omega) (ev_some rfl))
  | succ d ih =>
    intro i hi
    have ih := ih (i + 1) (by omega)
    have hlen := pitAt_len ha v i
    have hvi := hv i (by omega)
    rw [foldR_last (Nat.zero_le _)] at ih
    generalize foldR (pitAt a v) 0 i [] = o at *
    refine Ev.step (fun k => spec_paEdges.l0.eq_2 a v o a a.length i k) ?_
    rw [rd_nat, rdL1]
    have hrow := ha.len i
    have go : ∀ o' : List S69, o'.length ≤ 130 * 120 → o' ++ (a.getD i []).map (arcE i) = pitAt a v o i → Ev (fun k => spec_paEdges.j1 k a v o' (i : Int) (a.getD i []) a (a.length : Int) (i : Int)) (pitE a v) := by
      intro o' h1 h2
      refine Ev.step (fun k => spec_paEdges.j1.eq_2 a v o' i (a.getD i []) a a.length i k) ?_
      refine paEdges_l1 a v i (by omega) (a.getD i []) hrow (fun x hx => by have := ha.down hx; omega) _ (a.getD i []).length 0 o' (by omega) (by omega) ?_
      rw [List.drop_zero, h2, w_succ (n := a.length) (by omega) (by omega)]
      exact ih
    refine ev_pos (by omega) (ev_pos (by omega) (ev_pos (by omega) (ev_pos (by omega) (ev_ite (fun h => ev_pos (by omega) ?_) (fun h => ev_ite (fun h1 => ev_pos (by omega) ?_) (fun h1 => ?_))))))
    · rw [w64 (x := (i : Int) + 1) (by omega) (by omega)]
      exact go _ (by rw [List.length_append]; simp; omega) (by unfold pitAt; rw [if_neg (by omega), if_pos h])
    · rw [w64 (x := (i : Int) + 1) (by omega) (by omega), w64 (x := (a.length : Int) + 1) (by omega) (by omega), w64 (x := -(v.getD i 0)) (by omega) (by omega)]
      exact go _ (by rw [List.length_append]; simp; omega) (by unfold pitAt; rw [if_pos h1, if_neg h])
    · exact go _ (by omega) (by unfold pitAt; rw [if_neg h1, if_neg h])
theorem paEdges_ev (a : List (List Int)) (ha : Arcs a) (v : List Int) (hv : flowVals v) (hn : v.length = a.length) : Ev (fun k => spec_paEdges.f k a v) (pitE a v) := by
  unfold spec_paEdges.f
  have := paEdges_l0 a ha v hv hn a.length 0 (by omega)
  rwa [foldR_end (Nat.le_refl _)] at this

/- impl_pitNetwork -/
theorem pitNetwork_l1 (a : List (List Int)) (v : List Int) (n : Int) (i : Nat) (hi : i < 120) (l : List Int) (hl : l.length ≤ 120) (hx : ∀ x ∈ l, 0 ≤ x ∧ x < 120) (q : Int × List S69) : ∀ (d j : Nat) (o : List S69), j + d = l.length → o.length + d ≤ 1000000 →
    Ev (fun k => impl_pitNetwork.l0 k a n (o ++ (l.drop j).map (arcE i)) v (v.length : Int) (wrap64 ((i : Int) + 1))) q →
    Ev (fun k => impl_pitNetwork.l1 k a n o (i : Int) v (v.length : Int) (i : Int) l (l.length : Int) (j : Int)) q := by
  intro d
  induction d with
  | zero =>
    intro j o hj _ hq
    rw [List.drop_eq_nil_of_le (by omega), List.map_nil, List.append_nil] at hq
    exact Ev.step (fun k => impl_pitNetwork.l1.eq_2 a n o i v v.length i l l.length j k) (ev_neg (by omega) hq)
  | succ d ih =>
    intro j o hj ho hq
    have hm := hx _ (getD_mem (z := 0) (show j < l.length by omega))
    refine Ev.step (fun k => impl_pitNetwork.l1.eq_2 a n o i v v.length i l l.length j k) ?_
    rw [w_succ (i := j) (n := l.length) (by omega) (by omega), rd_nat, w64 (x := (i : Int) + 1) (by omega) (by omega), w64 (x := l.getD j 0 + 1) (by omega) (by omega)]
    refine ev_pos (by omega) (ev_pos (by omega) (ev_pos (by omega) (ev_pos (by omega) ?_)))
    refine ih (j + 1) _ (by omega) (by rw [List.length_append]; simp; omega) ?_
    rw [List.append_assoc]
    have e : l.drop j = l.getD j 0 :: l.drop (j + 1) := by
      rw [List.drop_eq_getElem_cons (show j < l.length by omega), List.getD_eq_getElem?_getD, List.getElem?_eq_getElem (show j < l.length by omega)]; rfl
    rw [e, List.map_cons] at hq
    exact hq
theorem pitNetwork_l0 (a : List (List Int)) (ha : Arcs a) (v : List Int) (hv : flowVals v) (hn : v.length = a.length) : ∀ (d i : Nat), i + d = v.length →
    Ev (fun k => impl_pitNetwork.l0 k a ((a.length : Int) + 2) (foldR (pitAt a v) 0 i []) v (v.length : Int) (i : Int)) ((a.length : Int) + 2, pitE a v) := by
  have hle := ha.le
  intro d
  induction d with
  | zero =>
    intro i hi
    obtain rfl : i = v.length := by omega
    refine Ev.step (fun k => impl_pitNetwork.l0.eq_2 a _ _ v v.length v.length k) (ev_neg (by omega) (ev_some ?_))
    unfold pitE; rw [hn]
  | succ d ih =>
    intro i hi
    have ih := ih (i + 1) (by omega)
    have hlen := pitAt_len ha v i
    have hvi := hv i (by omega)
    rw [foldR_last (Nat.zero_le _)] at ih
    generalize foldR (pitAt a v) 0 i [] = o at *
    refine Ev.step (fun k => impl_pitNetwork.l0.eq_2 a _ o v v.length i k) ?_
    rw [rd_nat]
    have hrow := ha.len i
    have go2 : ∀ o' : List S69, o'.length ≤ 130 * 120 → o' ++ (a.getD i []).map (arcE i) = pitAt a v o i → Ev (fun k => impl_pitNetwork.j2 k a ((a.length : Int) + 2) o' (i : Int) v (v.length : Int) (i : Int)) ((a.length : Int) + 2, pitE a v) := by
      intro o' h1 h2
      refine Ev.step (fun k => impl_pitNetwork.j2.eq_2 a _ o' i v v.length i k) (ev_pos (by omega) (ev_pos (by omega) ?_))
      rw [rdL1]
      refine pitNetwork_l1 a v _ i (by omega) (a.getD i []) hrow (fun x hx => by have := ha.down hx; omega) _ (a.getD i []).length 0 o' (by omega) (by omega) ?_
      rw [List.drop_zero, h2, w_succ (n := v.length) (by omega) (by omega)]
      exact ih
    have go1 : ∀ o' : List S69, o'.length ≤ 129 * 120 → (if v.getD i 0 < 0 then o' ++ [⟨(i : Int) + 1, (a.length : Int) + 1, -(v.getD i 0)⟩] else o') ++ (a.getD i []).map (arcE i) = pitAt a v o i → Ev (fun k => impl_pitNetwork.j1 k a ((a.length : Int) + 2) o' (i : Int) (v.getD i 0) v (v.length : Int) (i : Int)) ((a.length : Int) + 2, pitE a v) := by
      intro o' h1 h2
      refine Ev.step (fun k => impl_pitNetwork.j1.eq_2 a _ o' i (v.getD i 0) v v.length i k) (ev_ite (fun h => ev_pos (by omega) ?_) (fun h => ?_))
      · rw [if_pos h] at h2
        rw [w64 (x := (i : Int) + 1) (by omega) (by omega), w64 (x := (a.length : Int) + 2 - 1) (by omega) (by omega), w64 (x := -(v.getD i 0)) (by omega) (by omega), show (a.length : Int) + 2 - 1 = (a.length : Int) + 1 by omega]
        exact go2 _ (by rw [List.length_append]; simp; omega) h2
      · rw [if_neg h] at h2
        exact go2 _ (by omega) h2
    refine ev_pos (by omega) (ev_pos (by omega) (ev_pos (by omega) (ev_ite (fun h => ev_pos (by omega) ?_) (fun h => ?_))))
    · rw [w64 (x := (i : Int) + 1) (by omega) (by omega)]
      exact go1 _ (by rw [List.length_append]; simp; omega) (by unfold pitAt; rw [if_neg (by omega), if_neg (by omega), if_pos h])
    · exact go1 _ (by omega) (by unfold pitAt; rw [if_neg h])
theorem pitNetwork_ev (a : List (List Int)) (ha : Arcs a) (v : List Int) (hv : flowVals v) (hn : v.length = a.length) : Ev (fun k => impl_pitNetwork.f k a v) ((a.length : Int) + 2, pitE a v) := by
  have hle := ha.le
  unfold impl_pitNetwork.f
  rw [w64 (x := (a.length : Int) + 2) (by omega) (by omega)]
  have := pitNetwork_l0 a ha v hv hn v.length 0 (by omega)
  rwa [foldR_end (Nat.le_refl _)] at this

/- impl_areBlocks -/
theorem areBlocks_l0 (l : List Int) (hl : l.length ≤ maxLen) (n : Int) : ∀ (d i : Nat), i + d = l.length → Ev (fun k => impl_areBlocks.l0 k l n l (l.length : Int) (i : Int)) (allR (ascAt l n) i l.length) := by
  have hl := maxLen_le hl
  intro d
  induction d with
  | zero =>
    intro i hi
    exact Ev.step (fun k => impl_areBlocks.l0.eq_2 l n l l.length i k) (ev_neg (by omega) (ev_some (allR_end (by omega)).symm))
  | succ d ih =>
    intro i hi
    refine Ev.step (fun k => impl_areBlocks.l0.eq_2 l n l l.length i k) ?_
    rw [allR_step (by omega), w_succ (n := l.length) (by omega) (by omega), rd_nat]
    refine ev_pos (by omega) (ev_pos (by omega) (ev_pos (by omega) ?_))
    have no : ¬ (0 ≤ l.getD i 0 ∧ l.getD i 0 < n ∧ (0 < i → l.getD (i - 1) 0 < l.getD i 0)) → false = (ascAt l n i && allR (ascAt l n) (i + 1) l.length) := by
      intro h
      have : ascAt l n i = false := by unfold ascAt; simp only [decide_eq_false_iff_not]; exact h
      rw [this]; rfl
    have yes : (0 ≤ l.getD i 0 ∧ l.getD i 0 < n ∧ (0 < i → l.getD (i - 1) 0 < l.getD i 0)) → Ev (fun k => impl_areBlocks.l0 k l n l (l.length : Int) ((i + 1 : Nat) : Int)) (ascAt l n i && allR (ascAt l n) (i + 1) l.length) := by
      intro h
      have : ascAt l n i = true := by unfold ascAt; simp only [decide_eq_true_eq]; exact h
      rw [this]; exact ih (i + 1) (by omega)
    refine ev_ite (fun h => ev_some (no (by omega))) (fun h => ?_)
    refine ev_ite (fun h1 => ev_some (no (by omega))) (fun h1 => ?_)
    refine ev_ite (fun h0 => ?_) (fun h0 => yes ⟨by omega, by omega, fun _ => by omega⟩)
    rw [w64 (x := (i : Int) - 1) (by omega) (by omega), show (i : Int) - 1 = ((i - 1 : Nat) : Int) by omega, rd_nat]
    refine ev_pos (by omega) (ev_pos (by omega) ?_)
    refine ev_ite (fun h2 => ev_some (no (fun hc => by have := hc.2.2 (by omega); omega))) (fun h2 => yes ⟨by omega, by omega, fun _ => by omega⟩)
theorem areBlocks_ev (l : List Int) (hl : l.length ≤ maxLen) (n : Int) : Ev (fun k => impl_areBlocks.f k l n) (asc l n) := by
  unfold impl_areBlocks.f asc
  exact areBlocks_l0 l hl n l.length 0 (by omega)

/- impl_AreArcs -/
theorem AreArcs_l0 (a : List (List Int)) (hl : a.length ≤ maxLen) (hb : ∀ x ∈ a, x.length ≤ maxLen) : ∀ (d i : Nat), i + d = a.length →
    Ev (fun k => impl_AreArcs.l0 k a (a.length : Int) (i : Int)) (allR (fun i => asc (a.getD i []) i) i a.length) := by
  have hl := maxLen_le hl
  intro d
  induction d with
  | zero =>
    intro i hi
    exact Ev.step (fun k => impl_AreArcs.l0.eq_2 a a.length i k) (ev_neg (by omega) (ev_some (allR_end (by omega)).symm))
  | succ d ih =>
    intro i hi
    refine Ev.step (fun k => impl_AreArcs.l0.eq_2 a a.length i k) ?_
    have hx : rd_L1 a (i : Int) = a.getD i [] := by unfold rd_L1; rw [toNat_nat]
    have hmem : a.getD i [] ∈ a := by
      rw [List.getD_eq_getElem?_getD, List.getElem?_eq_getElem (by omega)]; exact List.getElem_mem _
    rw [allR_step (by omega), w_succ (n := a.length) (by omega) (by omega), hx]
    refine ev_pos (by omega) (ev_pos (by omega) (ev_pos (by omega) (Ev.bind (areBlocks_ev _ (hb _ hmem) _) ?_)))
    refine ev_ite (fun h => ?_) (fun h => ?_)
    · rw [h, Bool.true_and]; exact ih (i + 1) (by omega)
    · rw [Bool.not_eq_true] at h; rw [h, Bool.false_and]; exact ev_some rfl
theorem AreArcs_ev (a : List (List Int)) (hl : a.length ≤ maxLen) (hb : ∀ x ∈ a, x.length ≤ maxLen) : Ev (fun k => impl_AreArcs.f k a) (arcsOk a) := by
  unfold impl_AreArcs.f arcsOk
  refine ev_ite (fun h => ?_) (fun h => ?_)
  · refine Ev.step (fun k => impl_AreArcs.j0.eq_2 a true k) (ev_pos rfl (ev_some ?_))
    rw [decide_eq_false (by omega), Bool.false_and]
  · refine Ev.step (fun k => impl_AreArcs.j0.eq_2 a _ k) (ev_ite (fun h1 => ev_some ?_) (fun h1 => ?_))
    · simp only [decide_eq_true_eq] at h1
      rw [decide_eq_false (by omega), Bool.false_and]
    · simp only [decide_eq_true_eq] at h1
      rw [decide_eq_true (by omega), Bool.true_and]; exact AreArcs_l0 a hl hb a.length 0 (by omega)

/- impl_goodValues -/
theorem goodValues_l0 (l : List Int) (hl : l.length ≤ maxLen) : ∀ (d i : Nat), i + d = l.length → Ev (fun k => impl_goodValues.l0 k l (l.length : Int) (i : Int)) (allR (valAt l) i l.length) := by
  have hl := maxLen_le hl
  intro d
  induction d with
  | zero =>
    intro i hi
    exact Ev.step (fun k => impl_goodValues.l0.eq_2 l l.length i k) (ev_neg (by omega) (ev_some (allR_end (by omega)).symm))
  | succ d ih =>
    intro i hi
    refine Ev.step (fun k => impl_goodValues.l0.eq_2 l l.length i k) ?_
    rw [allR_step (by omega), w_succ (n := l.length) (by omega) (by omega), rd_nat]
    have no : ¬ (-1000000 ≤ l.getD i 0 ∧ l.getD i 0 ≤ 1000000) → false = (valAt l i && allR (valAt l) (i + 1) l.length) := by
      intro h; rw [show valAt l i = false from decide_eq_false h, Bool.false_and]
    refine ev_pos (by omega) (ev_pos (by omega) (ev_pos (by omega) ?_))
    refine ev_ite (fun h => ev_some (no (by omega))) (fun h => ?_)
    refine ev_ite (fun h1 => ev_some (no (by omega))) (fun h1 => ?_)
    rw [show valAt l i = true from decide_eq_true (by omega), Bool.true_and]; exact ih (i + 1) (by omega)
theorem goodValues_ev (l : List Int) (hl : l.length ≤ maxLen) : Ev (fun k => impl_goodValues.f k l) (valsOk l) := by
  unfold impl_goodValues.f valsOk
  refine ev_ite (fun h => ?_) (fun h => ?_)
  · refine Ev.step (fun k => impl_goodValues.j0.eq_2 l true k) (ev_pos rfl (ev_some ?_))
    rw [decide_eq_false (by omega), Bool.false_and]
  · refine Ev.step (fun k => impl_goodValues.j0.eq_2 l _ k) (ev_ite (fun h1 => ev_some ?_) (fun h1 => ?_))
    · simp only [decide_eq_true_eq] at h1
      rw [decide_eq_false (by omega), Bool.false_and]
    · simp only [decide_eq_true_eq] at h1
      rw [decide_eq_true (by omega), Bool.true_and]; exact goodValues_l0 l hl l.length 0 (by omega)

/- impl_areValued -/
theorem areValued_ev (a : List (List Int)) (ha : a.length ≤ maxLen) (hb : ∀ x ∈ a, x.length ≤ maxLen) (v : List Int) (hv : v.length ≤ maxLen) : Ev (fun k => impl_areValued.f k a v) (valuedB a v) := by
  unfold impl_areValued.f valuedB
  refine Ev.bind (AreArcs_ev a ha hb) (ev_ite (fun h => ?_) (fun h => ?_))
  · rw [h, Bool.true_and]
    refine Ev.bind (goodValues_ev v hv) (ev_ite (fun h1 => ?_) (fun h1 => ?_))
    · rw [h1, Bool.true_and]; exact ev_some (by rw [Bool.eq_iff_iff, beq_iff_eq, decide_eq_true_eq])
    · rw [Bool.not_eq_true] at h1; rw [h1, Bool.false_and]; exact ev_some rfl
  · rw [Bool.not_eq_true] at h; rw [h, Bool.false_and]; exact ev_some rfl

/- hand.FnExactPitNetwork -/
def pitNet (a : List (List Int)) (v : List Int) : Int × List S69 × Bool := if valuedB a v = true then (if ((pitE a v).length : Int) > 2000 then (0, [], false) else ((a.length : Int) + 2, pitE a v, true)) else (0, [], false)
theorem valued_flow {a : List (List Int)} {v : List Int} (h : valuedB a v = true) : flowVals v := fun j hj => by
  have := (valsOk_iff.1 (valued_arcs h).2.1).2.2 j hj
  omega
theorem both (a : List (List Int)) (v : List Int) (la : a.length ≤ 1048576) (lb : ∀ x ∈ a, x.length ≤ 1048576) (lv : v.length ≤ 1048576) :
    ∃ r : Int × List S69 × Bool, Ev (fun k => spec_PitNetwork.f k a v) r ∧ Ev (fun k => impl_PitNetwork.f k a v) r ∧ r.2.1.length ≤ 1048576 := by
  have ha := maxLen_val (n := a.length) (by omega)
  have hb : ∀ x ∈ a, x.length ≤ maxLen := fun x hx => maxLen_val (by have := lb x hx; omega)
  have hv := maxLen_val (n := v.length) (by omega)
  refine ⟨pitNet a v, ?_, ?_, ?_⟩
  · unfold spec_PitNetwork.f pitNet
    refine Ev.bind (paGood_ev a ha hb v hv) (ev_ite (fun h => ?_) (fun h => ?_))
    · obtain ⟨hA, hV, hN⟩ := valued_arcs h
      have e := paEdges_ev a hA v (valued_flow h) hN
      have hle := hA.le
      rw [if_pos h]
      refine Ev.bind e (ev_ite (fun h1 => ?_) (fun h1 => ?_))
      · rw [if_pos h1]; exact ev_some rfl
      · rw [if_neg h1, w64 (x := (a.length : Int) + 2) (by omega) (by omega)]; exact Ev.bind e (ev_some rfl)
    · rw [if_neg h]; exact ev_some rfl
  · unfold impl_PitNetwork.f pitNet
    refine Ev.bind (areValued_ev a ha hb v hv) (ev_ite (fun h => ?_) (fun h => ?_))
    · obtain ⟨hA, hV, hN⟩ := valued_arcs h
      rw [if_pos h]
      refine Ev.bind (pitNetwork_ev a hA v (valued_flow h) hN) (ev_ite (fun h1 => ?_) (fun h1 => ?_))
      · rw [if_pos h1]; exact ev_some rfl
      · rw [if_neg h1]; exact ev_some rfl
    · rw [if_neg h]; exact ev_some rfl
  · unfold pitNet
    split
    · split
      · simp
      · simp only; omega
    · simp

set_option maxHeartbeats 4000000 in
set_option maxRecDepth 100000 in
theorem walk (a0 : List (List Int)) (a1 : List Int) (Aa0 : Option Addr) (ca0 : Nat) (Aa1 : Option Addr) (ca1 : Nat) (w : World) (hra0 : Kd.C kSS w Aa0 a0.length a0) (hca0 : a0.length ≤ ca0) (hra1 : Kd.C (Kd.int .i64) w Aa1 a1.length a1) (hca1 : a1.length ≤ ca1) (r0 : Int) (hsz0 : ∀ (Aa0 : Option Addr) (ca0 : Nat) (w : World), Kd.C kSS w Aa0 a0.length a0 → a0.length ≤ ca0 → Calls Try.prog 15 #[.slice Aa0 a0.length ca0, .int .i64 1048576] w fun e w' => e = .returned (.int .i64 r0) ∧ Below w.heap.size w w') (hlt0 : ¬ r0 < 0)  (g0 : Int) (g1 : List S69) (g2 : Bool) (hla0 : a0.length ≤ 1048576) (hba0 : ∀ x ∈ a0, x.length ≤ 1048576) (hla1 : a1.length ≤ 1048576) (hlg1 : g1.length ≤ 1048576) (hs : ∃ k, spec_PitNetwork.f k a0 a1 = some (g0, g1, g2)) (hi : ∃ k, impl_PitNetwork.f k a0 a1 = some (g0, g1, g2)) :
    Calls Try.prog 13 #[.slice Aa0 a0.length ca0, .slice Aa1 a1.length ca1] w fun e w' => e = .returned (.bool true) ∧ Below w.heap.size w w' := by
  obtain ⟨ks, hs⟩ := hs
  have Hs := Aside0.mk hs
  obtain ⟨ki, hi⟩ := hi
  have Hi := Aside0.mk hi
  have HRa0 := Aside0.mk hra0
  have HCa0 := Aside0.mk hca0
  have HLa0 := Aside0.mk hla0
  have HBa0 := Aside0.mk hba0
  have HRa1 := Aside0.mk hra1
  have HCa1 := Aside0.mk hca1
  have HLa1 := Aside0.mk hla1
  have xa1 : decide (1048576 < (a1.length : Int)) = false := decide_eq_false (by omega)
  have ya1 : decide (1048576 < a1.length) = false := decide_eq_false (by omega)
  have HLg1 := Aside0.mk hlg1
  have HSZ0 := Aside0.mk hsz0
  have d0 : decide (r0 < 0) = false := decide_eq_false hlt0
  clear hs hi hra0 hca0 hla0 hba0 hra1 hca1 hla1 hlg1 hsz0 hlt0
  go_enter Try.func13, Try.ntmps13
  go_wp2_with fail
  refine (HSZ0.out Aa0 ca0 w HRa0.out HCa0.out).mono ?_
  rintro e w1 ⟨rfl, hb⟩
  have B1 := Aside0.mk hb
  have z1 := hb.size
  clear hb
  go_wp2_with fail
  refine (toIntSS_calls a0 HLa0.out HBa0.out Aa0 ca0 w1 (Kd.C_below HRa0.out B1.out) HCa0.out).mono ?_
  rintro e w2 ⟨v, rfl, ho, hb⟩
  have B2 := Aside0.mk (below_step B1.out hb)
  have z2 := hb.size
  obtain ⟨At0_0_2, ct0_0_2, rfl⟩ := Kd.S_slice ho
  have Ft0_0_2 := Aside0.mk (ivS (w := w) ho (by omega))
  clear ho
  clear hb
  go_wp2_with fail
  refine (toIntS_calls a1 (by have := HLa1.out; omega) Aa1 ca1 w2 (Kd.C_below HRa1.out B2.out) HCa1.out).mono ?_
  rintro e w3 ⟨v, rfl, ho, hb⟩
  have B3 := Aside0.mk (below_step B2.out hb)
  have z3 := hb.size
  obtain ⟨At1_0_3, ct1_0_3, rfl⟩ := Kd.R_slice ho
  have Ft1_0_3 := Aside0.mk (ivR (w := w) ho (by omega))
  clear ho
  have Ft0_0_3 := Aside0.mk (Kd.S_below Ft0_0_2.out hb)
  clear Ft0_0_2
  clear hb
  go_wp2_with fail
  refine (spec_PitNetwork.calls ks At0_0_2 ct0_0_2 a0 At1_0_3 ct1_0_3 a1 g0 g1 g2 w3 (readsS Ft0_0_3.out).2.2 (readsS Ft0_0_3.out).2.1 (readsR Ft1_0_3.out).2.2 (readsR Ft1_0_3.out).2.1 Hs.out).mono ?_
  rintro e w4 ⟨v, rfl, ho, hb⟩
  have ho := Kd.R_mono ho (ok' := fun _ => True) (fun _ _ => trivial)
  have B4 := Aside0.mk (below_step B3.out hb)
  have z4 := hb.size
  obtain ⟨Aw1_0_4, cw1_0_4, rfl⟩ := Kd.R_slice ho
  have Fw1_0_4 := Aside0.mk (ivR (w := w) ho (by omega))
  clear ho
  have Ft0_0_4 := Aside0.mk (Kd.S_below Ft0_0_3.out hb)
  clear Ft0_0_3
  have Ft1_0_4 := Aside0.mk (Kd.R_below Ft1_0_3.out hb)
  clear Ft1_0_3
  clear hb
  go_wp2_with fail
  refine (toIntSS_calls a0 HLa0.out HBa0.out Aa0 ca0 w4 (Kd.C_below HRa0.out B4.out) HCa0.out).mono ?_
  rintro e w5 ⟨v, rfl, ho, hb⟩
  have B5 := Aside0.mk (below_step B4.out hb)
  have z5 := hb.size
  obtain ⟨Ax0_0_5, cx0_0_5, rfl⟩ := Kd.S_slice ho
  have Fx0_0_5 := Aside0.mk (ivS (w := w) ho (by omega))
  clear ho
  have Fw1_0_5 := Aside0.mk (Kd.R_below Fw1_0_4.out hb)
  clear Fw1_0_4
  clear hb
  go_wp2_with fail
  refine (toIntS_calls a1 (by have := HLa1.out; omega) Aa1 ca1 w5 (Kd.C_below HRa1.out B5.out) HCa1.out).mono ?_
  rintro e w6 ⟨v, rfl, ho, hb⟩
  have B6 := Aside0.mk (below_step B5.out hb)
  have z6 := hb.size
  obtain ⟨Ax1_0_6, cx1_0_6, rfl⟩ := Kd.R_slice ho
  have Fx1_0_6 := Aside0.mk (ivR (w := w) ho (by omega))
  clear ho
  have Fw1_0_6 := Aside0.mk (Kd.R_below Fw1_0_5.out hb)
  clear Fw1_0_5
  have Fx0_0_6 := Aside0.mk (Kd.S_below Fx0_0_5.out hb)
  clear Fx0_0_5
  clear hb
  go_wp2_with fail
  refine (impl_PitNetwork.calls ki Ax0_0_5 cx0_0_5 a0 Ax1_0_6 cx1_0_6 a1 g0 g1 g2 w6 (readsS Fx0_0_6.out).2.2 (readsS Fx0_0_6.out).2.1 (readsR Fx1_0_6.out).2.2 (readsR Fx1_0_6.out).2.1 Hi.out).mono ?_
  rintro e w7 ⟨v, rfl, ho, hb⟩
  have ho := Kd.R_mono ho (ok' := fun _ => True) (fun _ _ => trivial)
  have B7 := Aside0.mk (below_step B6.out hb)
  have z7 := hb.size
  obtain ⟨Ag1_0_7, cg1_0_7, rfl⟩ := Kd.R_slice ho
  have Fg1_0_7 := Aside0.mk (ivR (w := w) ho (by omega))
  clear ho
  have Fw1_0_7 := Aside0.mk (Kd.R_below Fw1_0_6.out hb)
  clear Fw1_0_6
  have Fx0_0_7 := Aside0.mk (Kd.S_below Fx0_0_6.out hb)
  clear Fx0_0_6
  have Fx1_0_7 := Aside0.mk (Kd.R_below Fx1_0_6.out hb)
  clear Fx1_0_6
  clear hb
  go_wp2_with fail
  refine (eqEdgeS_calls g1 (maxLen_val (by have := HLg1.out; omega)) Ag1_0_7 Aw1_0_4 cg1_0_7 cw1_0_4 w7 (readsR Fg1_0_7.out).2.2 (readsR Fg1_0_7.out).2.1 (readsR Fw1_0_7.out).2.2 (readsR Fw1_0_7.out).2.1).mono ?_
  rintro e w8 ⟨rfl, hb⟩
  have B8 := Aside0.mk (below_step B7.out hb)
  have z8 := hb.size
  have Fw1_0_8 := Aside0.mk (Kd.R_below Fw1_0_7.out hb)
  clear Fw1_0_7
  have Fx0_0_8 := Aside0.mk (Kd.S_below Fx0_0_7.out hb)
  clear Fx0_0_7
  have Fx1_0_8 := Aside0.mk (Kd.R_below Fx1_0_7.out hb)
  clear Fx1_0_7
  have Fg1_0_8 := Aside0.mk (Kd.R_below Fg1_0_7.out hb)
  clear Fg1_0_7
  clear hb
  go_wp2_with fail
  refine (toIntSS_calls a0 HLa0.out HBa0.out Aa0 ca0 w8 (Kd.C_below HRa0.out B8.out) HCa0.out).mono ?_
  rintro e w9 ⟨v, rfl, ho, hb⟩
  have B9 := Aside0.mk (below_step B8.out hb)
  have z9 := hb.size
  obtain ⟨Au_0_9, cu_0_9, rfl⟩ := Kd.S_slice ho
  have Fu_0_9 := Aside0.mk (ivS (w := w) ho (by omega))
  clear ho
  have Fw1_0_9 := Aside0.mk (Kd.R_below Fw1_0_8.out hb)
  clear Fw1_0_8
  have Fx0_0_9 := Aside0.mk (Kd.S_below Fx0_0_8.out hb)
  clear Fx0_0_8
  have Fx1_0_9 := Aside0.mk (Kd.R_below Fx1_0_8.out hb)
  clear Fx1_0_8
  have Fg1_0_9 := Aside0.mk (Kd.R_below Fg1_0_8.out hb)
  clear Fg1_0_8
  clear hb
  go_wp2_with fail
  refine (eqIntSS_calls a0 (maxLen_val (by have := HLa0.out; omega)) (fun x hx => maxLen_val (by have := HBa0.out x hx; omega)) Ax0_0_5 Au_0_9 cx0_0_5 cu_0_9 w9 (readsS Fx0_0_9.out).2.2 (readsS Fx0_0_9.out).2.1 (readsS Fu_0_9.out).2.2 (readsS Fu_0_9.out).2.1).mono ?_
  rintro e w10 ⟨rfl, hb⟩
  have B10 := Aside0.mk (below_step B9.out hb)
  have z10 := hb.size
  have Fw1_0_10 := Aside0.mk (Kd.R_below Fw1_0_9.out hb)
  clear Fw1_0_9
  have Fx0_0_10 := Aside0.mk (Kd.S_below Fx0_0_9.out hb)
  clear Fx0_0_9
  have Fx1_0_10 := Aside0.mk (Kd.R_below Fx1_0_9.out hb)
  clear Fx1_0_9
  have Fg1_0_10 := Aside0.mk (Kd.R_below Fg1_0_9.out hb)
  clear Fg1_0_9
  have Fu_0_10 := Aside0.mk (Kd.S_below Fu_0_9.out hb)
  clear Fu_0_9
  clear hb
  go_wp2_with fail
  refine (toIntS_calls a1 (by have := HLa1.out; omega) Aa1 ca1 w10 (Kd.C_below HRa1.out B10.out) HCa1.out).mono ?_
  rintro e w11 ⟨v, rfl, ho, hb⟩
  have B11 := Aside0.mk (below_step B10.out hb)
  have z11 := hb.size
  obtain ⟨Au_0_11, cu_0_11, rfl⟩ := Kd.R_slice ho
  have Fu_0_11 := Aside0.mk (ivR (w := w) ho (by omega))
  clear ho
  have Fw1_0_11 := Aside0.mk (Kd.R_below Fw1_0_10.out hb)
  clear Fw1_0_10
  have Fx0_0_11 := Aside0.mk (Kd.S_below Fx0_0_10.out hb)
  clear Fx0_0_10
  have Fx1_0_11 := Aside0.mk (Kd.R_below Fx1_0_10.out hb)
  clear Fx1_0_10
  have Fg1_0_11 := Aside0.mk (Kd.R_below Fg1_0_10.out hb)
  clear Fg1_0_10
  clear hb
  go_wp2_with fail
  refine (eqIntS_calls a1 (maxLen_val (by have := HLa1.out; omega)) Ax1_0_6 Au_0_11 cx1_0_6 cu_0_11 w11 (readsR Fx1_0_11.out).2.2 (readsR Fx1_0_11.out).2.1 (readsR Fu_0_11.out).2.2 (readsR Fu_0_11.out).2.1).mono ?_
  rintro e w12 ⟨rfl, hb⟩
  have B12 := Aside0.mk (below_step B11.out hb)
  have z12 := hb.size
  have Fw1_0_12 := Aside0.mk (Kd.R_below Fw1_0_11.out hb)
  clear Fw1_0_11
  have Fx0_0_12 := Aside0.mk (Kd.S_below Fx0_0_11.out hb)
  clear Fx0_0_11
  have Fx1_0_12 := Aside0.mk (Kd.R_below Fx1_0_11.out hb)
  clear Fx1_0_11
  have Fg1_0_12 := Aside0.mk (Kd.R_below Fg1_0_11.out hb)
  clear Fg1_0_11
  have Fu_0_12 := Aside0.mk (Kd.R_below Fu_0_11.out hb)
  clear Fu_0_11
  clear hb
  go_wp2_with fail
  refine (markIntSS_calls a0 HLa0.out HBa0.out 1 (by omega) (by have := HLa0.out; omega) (Btw w4 w5) (.slice Ax0_0_5 a0.length cx0_0_5) w w12 B12.out Fx0_0_12.out).mono ?_
  rintro e w13 ⟨rfl, ho, hb, hk⟩
  have z13 := hk.1
  have B13 := Aside0.mk hb
  have Fw1_0_13 := Aside0.mk (Kd.R_kept Fw1_0_12.out hk (apart (by omega)))
  clear Fw1_0_12
  have Fx1_0_13 := Aside0.mk (Kd.R_kept Fx1_0_12.out hk (apart (by omega)))
  clear Fx1_0_12
  have Fg1_0_13 := Aside0.mk (Kd.R_kept Fg1_0_12.out hk (apart (by omega)))
  clear Fg1_0_12
  have hbd := markAll_bd 1 a0 HBa0.out a0.length
  have hll := HLa0.out
  obtain ⟨m13, em13⟩ : ∃ z : Int, z = (markAll 1 a0 a0.length).1 := ⟨_, rfl⟩
  rw [← em13] at hbd ⊢
  have lm13 : 0 ≤ m13 ∧ m13 ≤ 1099511627777 := by omega
  have dm13 : decide (m13 < 0) = false := decide_eq_false (by omega)
  have Em13 := Aside0.mk em13
  have Lm13 := Aside0.mk lm13
  clear Fx0_0_12
  clear hb hk ho hll hbd em13 lm13
  go_wp2_with fail
  have lk := Lm13.out
  refine (markIntS_calls a1 (by have := HLa1.out; omega) m13 (by omega) (Btw w5 w6) (.slice Ax1_0_6 a1.length cx1_0_6) w w13 B13.out Fx1_0_13.out).mono ?_
  rintro e w14 ⟨rfl, ho, hb, hk⟩
  have z14 := hk.1
  have B14 := Aside0.mk hb
  have Fw1_0_14 := Aside0.mk (Kd.R_kept Fw1_0_13.out hk (apart (by omega)))
  clear Fw1_0_13
  have Fg1_0_14 := Aside0.mk (Kd.R_kept Fg1_0_13.out hk (apart (by omega)))
  clear Fg1_0_13
  have hll := HLa1.out
  obtain ⟨m14, em14⟩ : ∃ z : Int, z = m13 + (a1.length : Int) := ⟨_, rfl⟩
  rw [← em14]
  have lm14 : 0 ≤ m14 ∧ m14 ≤ 1099520016385 := by omega
  have dm14 : decide (m14 < 0) = false := decide_eq_false (by omega)
  have Em14 := Aside0.mk em14
  have Lm14 := Aside0.mk lm14
  clear Fx1_0_13
  clear hb hk ho hll em14 lm14 lk
  go_wp2_with fail
  refine (eqEdgeS_calls g1 (maxLen_val (by have := HLg1.out; omega)) Ag1_0_7 Aw1_0_4 cg1_0_7 cw1_0_4 w14 (readsR Fg1_0_14.out).2.2 (readsR Fg1_0_14.out).2.1 (readsR Fw1_0_14.out).2.2 (readsR Fw1_0_14.out).2.1).mono ?_
  rintro e w15 ⟨rfl, hb⟩
  have B15 := Aside0.mk (below_step B14.out hb)
  have z15 := hb.size
  have Fw1_0_15 := Aside0.mk (Kd.R_below Fw1_0_14.out hb)
  clear Fw1_0_14
  have Fg1_0_15 := Aside0.mk (Kd.R_below Fg1_0_14.out hb)
  clear Fg1_0_14
  clear hb
  go_wp2_with fail
  refine (markEdgeS_calls g1 (by have := HLg1.out; omega) 1 (by omega) (Btw w6 w7) (.slice Ag1_0_7 g1.length cg1_0_7) w w15 B15.out Fg1_0_15.out).mono ?_
  rintro e w16 ⟨rfl, ho, hb, hk⟩
  have z16 := hk.1
  have B16 := Aside0.mk hb
  have Fw1_0_16 := Aside0.mk (Kd.R_kept Fw1_0_15.out hk (apart (by omega)))
  clear Fw1_0_15
  have hll := HLg1.out
  obtain ⟨m16, em16⟩ : ∃ z : Int, z = 1 + 3 * (g1.length : Int) := ⟨_, rfl⟩
  rw [← em16]
  have lm16 : 0 ≤ m16 ∧ m16 ≤ 8388609 := by omega
  have dm16 : decide (m16 < 0) = false := decide_eq_false (by omega)
  have Em16 := Aside0.mk em16
  have Lm16 := Aside0.mk lm16
  have Fg1_0_16 := Aside0.mk ho
  clear Fg1_0_15
  clear hb hk ho hll em16 lm16
  go_wp2_with fail
  refine (heldEdgeS_calls g1.length (by have := HLg1.out; omega) 1 (by omega) Ag1_0_7 cg1_0_7 w16 (by have h := (readsR Fg1_0_16.out).2.2; rwa [markRowE_len] at h) (by have h := (readsR Fg1_0_16.out).2.1; rwa [markRowE_len] at h)).mono ?_
  rintro e w17 ⟨rfl, hb⟩
  have B17 := Aside0.mk (below_step B16.out hb)
  have z17 := hb.size
  have Fw1_0_17 := Aside0.mk (Kd.R_below Fw1_0_16.out hb)
  clear Fw1_0_16
  have Fg1_0_17 := Aside0.mk (Kd.R_below Fg1_0_16.out hb)
  clear Fg1_0_16
  rw [← Em16.out]
  clear hb
  go_wp2_with fail
  refine (toIntSS_calls a0 HLa0.out HBa0.out Aa0 ca0 w17 (Kd.C_below HRa0.out B17.out) HCa0.out).mono ?_
  rintro e w18 ⟨v, rfl, ho, hb⟩
  have B18 := Aside0.mk (below_step B17.out hb)
  have z18 := hb.size
  obtain ⟨At0_0_18, ct0_0_18, rfl⟩ := Kd.S_slice ho
  have Ft0_0_18 := Aside0.mk (ivS (w := w) ho (by omega))
  clear ho
  have Fw1_0_18 := Aside0.mk (Kd.R_below Fw1_0_17.out hb)
  clear Fw1_0_17
  have Fg1_0_18 := Aside0.mk (Kd.R_below Fg1_0_17.out hb)
  clear Fg1_0_17
  clear hb
  go_wp2_with fail
  refine (toIntS_calls a1 (by have := HLa1.out; omega) Aa1 ca1 w18 (Kd.C_below HRa1.out B18.out) HCa1.out).mono ?_
  rintro e w19 ⟨v, rfl, ho, hb⟩
  have B19 := Aside0.mk (below_step B18.out hb)
  have z19 := hb.size
  obtain ⟨At1_0_19, ct1_0_19, rfl⟩ := Kd.R_slice ho
  have Ft1_0_19 := Aside0.mk (ivR (w := w) ho (by omega))
  clear ho
  have Fw1_0_19 := Aside0.mk (Kd.R_below Fw1_0_18.out hb)
  clear Fw1_0_18
  have Fg1_0_19 := Aside0.mk (Kd.R_below Fg1_0_18.out hb)
  clear Fg1_0_18
  have Ft0_0_19 := Aside0.mk (Kd.S_below Ft0_0_18.out hb)
  clear Ft0_0_18
  clear hb
  go_wp2_with fail
  refine (impl_PitNetwork.calls ki At0_0_18 ct0_0_18 a0 At1_0_19 ct1_0_19 a1 g0 g1 g2 w19 (readsS Ft0_0_19.out).2.2 (readsS Ft0_0_19.out).2.1 (readsR Ft1_0_19.out).2.2 (readsR Ft1_0_19.out).2.1 Hi.out).mono ?_
  rintro e w20 ⟨v, rfl, ho, hb⟩
  have ho := Kd.R_mono ho (ok' := fun _ => True) (fun _ _ => trivial)
  have B20 := Aside0.mk (below_step B19.out hb)
  have z20 := hb.size
  obtain ⟨Ah1_0_20, ch1_0_20, rfl⟩ := Kd.R_slice ho
  have Fh1_0_20 := Aside0.mk (ivR (w := w) ho (by omega))
  clear ho
  have Fw1_0_20 := Aside0.mk (Kd.R_below Fw1_0_19.out hb)
  clear Fw1_0_19
  have Fg1_0_20 := Aside0.mk (Kd.R_below Fg1_0_19.out hb)
  clear Fg1_0_19
  have Ft0_0_20 := Aside0.mk (Kd.S_below Ft0_0_19.out hb)
  clear Ft0_0_19
  have Ft1_0_20 := Aside0.mk (Kd.R_below Ft1_0_19.out hb)
  clear Ft1_0_19
  clear hb
  go_wp2_with fail
  refine (eqEdgeS_calls g1 (maxLen_val (by have := HLg1.out; omega)) Ah1_0_20 Aw1_0_4 ch1_0_20 cw1_0_4 w20 (readsR Fh1_0_20.out).2.2 (readsR Fh1_0_20.out).2.1 (readsR Fw1_0_20.out).2.2 (readsR Fw1_0_20.out).2.1).mono ?_
  rintro e w21 ⟨rfl, hb⟩
  have B21 := Aside0.mk (below_step B20.out hb)
  have z21 := hb.size
  have Fw1_0_21 := Aside0.mk (Kd.R_below Fw1_0_20.out hb)
  clear Fw1_0_20
  have Fg1_0_21 := Aside0.mk (Kd.R_below Fg1_0_20.out hb)
  clear Fg1_0_20
  have Fh1_0_21 := Aside0.mk (Kd.R_below Fh1_0_20.out hb)
  clear Fh1_0_20
  clear hb
  go_wp2_with fail
  refine (heldEdgeS_calls g1.length (by have := HLg1.out; omega) 1 (by omega) Ag1_0_7 cg1_0_7 w21 (by have h := (readsR Fg1_0_21.out).2.2; rwa [markRowE_len] at h) (by have h := (readsR Fg1_0_21.out).2.1; rwa [markRowE_len] at h)).mono ?_
  rintro e w22 ⟨rfl, hb⟩
  have B22 := Aside0.mk (below_step B21.out hb)
  have z22 := hb.size
  have Fw1_0_22 := Aside0.mk (Kd.R_below Fw1_0_21.out hb)
  clear Fw1_0_21
  have Fg1_0_22 := Aside0.mk (Kd.R_below Fg1_0_21.out hb)
  clear Fg1_0_21
  have Fh1_0_22 := Aside0.mk (Kd.R_below Fh1_0_21.out hb)
  clear Fh1_0_21
  rw [← Em16.out]
  clear hb
  go_wp2_with fail
  go_ret
  exact ⟨rfl, B22.out⟩
set_option maxRecDepth 100000 in
theorem walk_len0 (a0 : List (List Int)) (a1 : List Int) (Aa0 : Option Addr) (ca0 : Nat) (Aa1 : Option Addr) (ca1 : Nat) (w : World) (hra0 : Kd.C kSS w Aa0 a0.length a0) (hca0 : a0.length ≤ ca0) (hra1 : Kd.C (Kd.int .i64) w Aa1 a1.length a1) (hca1 : a1.length ≤ ca1)  (h : ¬ a1.length ≤ 1048576) : Calls Try.prog 13 #[.slice Aa0 a0.length ca0, .slice Aa1 a1.length ca1] w fun e w' => e = .returned (.bool true) ∧ Below w.heap.size w w' := by
  have xx : decide (1048576 < (a1.length : Int)) = true := decide_eq_true (by omega)
  have yy : decide (1048576 < a1.length) = true := decide_eq_true (by omega)
  clear h  hra0 hca0 hra1 hca1
  go_enter Try.func13, Try.ntmps13
  go_wp2
  go_ret
  exact ⟨rfl, Below.refl _ _⟩
set_option maxRecDepth 100000 in
theorem walk_neg0 (a0 : List (List Int)) (a1 : List Int) (Aa0 : Option Addr) (ca0 : Nat) (Aa1 : Option Addr) (ca1 : Nat) (w : World) (hra0 : Kd.C kSS w Aa0 a0.length a0) (hca0 : a0.length ≤ ca0) (hra1 : Kd.C (Kd.int .i64) w Aa1 a1.length a1) (hca1 : a1.length ≤ ca1) (h0 : a1.length ≤ 1048576) (r0 : Int) (hsz0 : ∀ (Aa0 : Option Addr) (ca0 : Nat) (w : World), Kd.C kSS w Aa0 a0.length a0 → a0.length ≤ ca0 → Calls Try.prog 15 #[.slice Aa0 a0.length ca0, .int .i64 1048576] w fun e w' => e = .returned (.int .i64 r0) ∧ Below w.heap.size w w') (hlt0 : r0 < 0) : Calls Try.prog 13 #[.slice Aa0 a0.length ca0, .slice Aa1 a1.length ca1] w fun e w' => e = .returned (.bool true) ∧ Below w.heap.size w w' := by
  have x0 : decide (1048576 < (a1.length : Int)) = false := decide_eq_false (by omega)
  have y0 : decide (1048576 < a1.length) = false := decide_eq_false (by omega)
  have HRa0 := Aside0.mk hra0
  have HRa1 := Aside0.mk hra1
  have HCa0 := Aside0.mk hca0
  have HCa1 := Aside0.mk hca1
  have HSZ0 := Aside0.mk hsz0
  have d0 : decide (r0 < 0) = true := decide_eq_true hlt0
  clear hsz0 hlt0 h0 hra0 hca0 hra1 hca1
  go_enter Try.func13, Try.ntmps13
  go_wp2_with fail
  refine (HSZ0.out Aa0 ca0 w HRa0.out HCa0.out).mono ?_
  rintro e w1 ⟨rfl, hb⟩
  have B1 := Aside0.mk hb
  clear hb
  go_wp2_with fail
  go_ret
  exact ⟨rfl, B1.out⟩
theorem law (a0 : List (List Int)) (a1 : List Int) (ha0 : a0.length ≤ maxLen) (ga0 : ∀ x ∈ a0, x.length ≤ maxLen ∧ ∀ y0 ∈ x, (Lit.int .i64 y0).wf = true) (ha1 : a1.length ≤ maxLen) (sa1 : a1.length * 8 ≤ 140737488351232) (ga1 : ∀ x ∈ a1, (Lit.int .i64 x).wf = true) (Aa0 : Option Addr) (ca0 : Nat) (Aa1 : Option Addr) (ca1 : Nat) (w : World) (hra0 : Kd.C kSS w Aa0 a0.length a0) (hca0 : a0.length ≤ ca0) (hra1 : Kd.C (Kd.int .i64) w Aa1 a1.length a1) (hca1 : a1.length ≤ ca1) : Calls Try.prog 13 #[.slice Aa0 a0.length ca0, .slice Aa1 a1.length ca1] w fun e w' => e = .returned (.bool true) ∧ Below w.heap.size w w' := by
  by_cases q0 : a1.length ≤ 1048576
  rotate_left
  · exact walk_len0 a0 a1 Aa0 ca0 Aa1 ca1 w hra0 hca0 hra1 hca1  q0
  obtain ⟨r0, hz, hsz0⟩ := szIntSS_calls a0 ha0 (fun x hx => (ga0 x hx).1)
  by_cases hlt0 : r0 < 0
  · exact walk_neg0 a0 a1 Aa0 ca0 Aa1 ca1 w hra0 hca0 hra1 hca1 q0 r0 hsz0 hlt0
  obtain ⟨l1a0, l2a0⟩ := hz (by omega)
  obtain ⟨⟨g0, g1, g2⟩, hs, hi, ng1⟩ := both a0 a1 l1a0 l2a0 q0
  exact walk a0 a1 Aa0 ca0 Aa1 ca1 w hra0 hca0 hra1 hca1 r0 hsz0 hlt0  g0 g1 g2 l1a0 l2a0 q0 ng1 hs.rounds hi.rounds
end Go.Proofs.Ytdjahpigkbgobaa.WalkFnExactPitNetwork
