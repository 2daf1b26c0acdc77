/- Runs, cuts and flows of a network, in plain Lean: the least and the greatest cut are worth the flow, no flow is worth more, and the turned network has the same. -/
import Derived.Test.YtomfjhpiemipkaaTOwnFlows
import Derived.Test.YtomfjhpiemipkaaTOwnFlowValue
import Derived.Test.YtomfjhpiemipkaaTOwnTurn
import Derived.Test.YtomfjhpiemipkaaTOwnValue
import Derived.Test.YtomfjhpiemipkaaTOwnFrom
import Derived.Test.YtomfjhpiemipkaaTOwnLeast
import Derived.Test.YtomfjhpiemipkaaTBaseJ
namespace Go.Proofs.Ytomfjhpiemipkaa.FlowMath
open Go.RowKit Go.Proofs.Ytomfjhpiemipkaa.PFnFlowValues Go.Proofs.YtomfjhpiemipkaaW.PrintWords Go.Proofs.YtomfjhpiemipkaaW.PrintLast Go.Proofs.YtomfjhpiemipkaaW.PrintMore Go.Proofs.Ytomfjhpiemipkaa.B Go.Proofs.Ytomfjhpiemipkaa.Flow Go.Proofs.Ytomfjhpiemipkaa.OwnPush Go.Proofs.Ytomfjhpiemipkaa.OwnRows Go.Proofs.Ytomfjhpiemipkaa.OwnNet Go.Proofs.Ytomfjhpiemipkaa.OwnValue Go.Proofs.Ytomfjhpiemipkaa.OwnTurn
set_option linter.unusedVariables false
set_option linter.unusedSimpArgs false
def crosses (C : Int → Bool) (e : S99) : Prop := C e.f0 = true ∧ C e.f1 = false
instance (C : Int → Bool) (e : S99) : Decidable (crosses C e) := by unfold crosses; exact inferInstance
theorem cutF_step (l : List S99) (C : Int → Bool) (m : Nat) (hm : m < l.length) : cutF (tosL l) (leftL l) C (m + 1) = cutF (tosL l) (leftL l) C m + (if crosses C (l.getD m z99) then (l.getD m z99).f2 else 0) := by
  have ht := tos_at l m (by omega) (by omega)
  have hl := left_at l m (by omega) (by omega)
  rw [toNat_nat] at ht hl
  show cutF (tosL l) (leftL l) C m + _ = _
  rw [ht.1, ht.2, hl.1, hl.2, Int.add_zero]
  rfl
/-- what a run leaves -/
structure Done (n : Nat) (l : List S99) (x : Int × List Int × List Int) : Prop where
  nd : 2 ≤ n
  net : Net n l.length (tosL l) (adjL l n l.length)
  flows : Flows n l.length (tosL l) (leftL l) ((n : Int) - 1) x.1 x.2.1
  lev : Lev n l.length (tosL l) (adjL l n l.length) 0 x.2.1 x.2.2 [] (-1) 0
  cut : rd x.2.2 ((n : Int) - 1) < 0
theorem done {n : Nat} {l : List S99} (hn : 2 ≤ n) (hE : ∀ j, j < l.length → edgeOk n (l.getD j z99)) {x : Int × List Int × List Int} (hx : Ran n l x) : Done n l x := by
  obtain ⟨k, hk⟩ := hx
  have N := net_of n l hn hE
  have h := run_told N (by omega) (by omega) k 0 (leftL l) x hk (flows_of n l hE)
  exact ⟨hn, N, h.1, h.2.1, h.2.2⟩
/-- a run's flow is at most each cut -/
theorem Done.le {n : Nat} {l : List S99} {x : Int × List Int × List Int} (D : Done n l x) {C : Int → Bool} (c0 : C 0 = true) (cs : C ((n : Int) - 1) = false) : x.1 ≤ cutF (tosL l) (leftL l) C l.length :=
  weak (by have := D.nd; omega) D.net.rng D.flows c0 cs
theorem Done.src {n : Nat} {l : List S99} {x : Int × List Int × List Int} (D : Done n l x) : R x.2.2 0 = true := by unfold R; rw [D.lev.src]; rfl
theorem Done.snk {n : Nat} {l : List S99} {x : Int × List Int × List Int} (D : Done n l x) : R x.2.2 ((n : Int) - 1) = false := by unfold R; exact decide_eq_false (by have := D.cut; omega)
theorem Done.eq {n : Nat} {l : List S99} {x : Int × List Int × List Int} (D : Done n l x) : cutF (tosL l) (leftL l) (R x.2.2) l.length = x.1 := R_tight D.net D.flows D.lev D.cut
/-- what does not reach the sink -/
def Mo (b : List Int) (v : Int) : Bool := !(decide (0 ≤ rd b v))
structure Back (n : Nat) (l : List S99) (x : Int × List Int × List Int) (b : List Int) : Prop where
  bk : Bk n l.length (tosL l) ((n : Int) - 1) x.2.1 (rd b)
theorem back_of {n : Nat} {l : List S99} {x : Int × List Int × List Int} (D : Done n l x) {b : List Int} (hb : ∃ k, bfsL (tosL l) (adjL l n l.length) (flipL x.2.1) k (d0 n ((n : Int) - 1)) [(n : Int) - 1] = some b) : Back n l x b := by
  obtain ⟨k, hk⟩ := hb
  have hn := D.nd
  have h0 := lev0 (left := flipL x.2.1) D.net (o := (n : Int) - 1) (by omega) (by omega)
  exact ⟨bk_of D.net D.flows.good.1 (bfs_told D.net k _ _ b hk h0.1)⟩
theorem Back.apart {n : Nat} {l : List S99} {x : Int × List Int × List Int} {b : List Int} (B : Back n l x b) (D : Done n l x) {v : Int} (v0 : 0 ≤ v) (v1 : v < n) (h : 0 ≤ rd b v) : R x.2.2 v = false := by
  have := bk_in (T := fun u => !R x.2.2 u) D.net.rng B.bk (by show (!R x.2.2 ((n : Int) - 1)) = true; rw [D.snk]; rfl) (by
    intro e h0 h1 h h2
    have h2 : R x.2.2 (rd (tosL l) e) = false := by simpa using h2
    show (!R x.2.2 (rd (tosL l) (par e))) = true
    rw [Bool.not_eq_true']
    unfold R at h2 ⊢
    have h2 := of_decide_eq_false h2
    exact decide_eq_false fun hh => h2 (lev_clos D.net D.lev h0 h1 h hh)) v v0 v1 h
  simpa using this
theorem Back.src {n : Nat} {l : List S99} {x : Int × List Int × List Int} {b : List Int} (B : Back n l x b) (D : Done n l x) : Mo b 0 = true := by
  unfold Mo
  rw [Bool.not_eq_true']
  exact decide_eq_false (bk_z0 D.net D.lev D.cut B.bk)
theorem Back.snk {n : Nat} {l : List S99} {x : Int × List Int × List Int} {b : List Int} (B : Back n l x b) : Mo b ((n : Int) - 1) = false := by
  unfold Mo
  rw [B.bk.src]
  rfl
theorem Back.eq {n : Nat} {l : List S99} {x : Int × List Int × List Int} {b : List Int} (B : Back n l x b) (D : Done n l x) : cutF (tosL l) (leftL l) (Mo b) l.length = x.1 := by
  refine (Flow.tight (by have := D.nd; omega) D.net.rng D.flows (B.src D) B.snk).2 (fun e h0 h1 h2 h3 => ?_)
  have hg := D.flows.good.2 e h0 h1
  by_cases hz : rd x.2.1 e = 0
  · exact hz
  · unfold Mo at h2 h3
    have h3 : 0 ≤ rd b (rd (tosL l) e) := by simpa using h3
    have := B.bk.clos e h0 h1 (by omega) h3
    rw [decide_eq_true this] at h2
    cases h2
theorem cutF_congr {l : List S99} {n : Nat} (hE : ∀ j, j < l.length → edgeOk n (l.getD j z99)) {C D : Int → Bool} (h : ∀ u : Int, 0 ≤ u → u < n → C u = D u) (m : Nat) (hm : m ≤ l.length) : cutF (tosL l) (leftL l) C m = cutF (tosL l) (leftL l) D m := by
  induction m with
  | zero => rfl
  | succ m ih =>
    have he := hE m (by omega)
    unfold edgeOk at he
    rw [cutF_step _ _ _ (by omega), cutF_step _ _ _ (by omega), ih (by omega)]
    have e1 := h _ he.1 he.2.1
    have e2 := h _ he.2.2.1 he.2.2.2.1
    have : crosses C (l.getD m z99) ↔ crosses D (l.getD m z99) := by unfold crosses; rw [e1, e2]
    by_cases c : crosses C (l.getD m z99)
    · rw [if_pos c, if_pos (this.1 c)]
    · rw [if_neg c, if_neg (fun h => c (this.2 h))]
theorem cross_term (m : List Bool) (e : S99) : (if crosses (fun u => at_ m u) e then e.f2 else 0) = OwnFlows.cutTerm m e := by
  unfold OwnFlows.cutTerm
  by_cases h1 : at_ m e.f0 = true
  · by_cases h2 : at_ m e.f1 = true
    · rw [if_pos h1, if_pos h2, if_neg (fun h : crosses (fun u => at_ m u) e => by have h3 : at_ m e.f1 = false := h.2; rw [h2] at h3; cases h3)]
    · rw [if_pos h1, if_neg h2, if_pos (show crosses (fun u => at_ m u) e from ⟨h1, by simpa using h2⟩)]
  · rw [if_neg h1, if_neg (fun h : crosses (fun u => at_ m u) e => h1 h.1)]
theorem cutF_sum (m : List Bool) (l : List S99) (i : Nat) (hi : i ≤ l.length) : cutF (tosL l) (leftL l) (fun u => at_ m u) i = foldR (OwnFlows.cutAt m l) 0 i 0 := by
  induction i with
  | zero => rw [foldR_end (Nat.le_refl _)]; rfl
  | succ i ih => rw [foldR_last (Nat.zero_le _), cutF_step _ _ _ (by omega), ih (by omega), cross_term]; rfl
theorem mk_list {m : List Bool} : mk m.length (listOf m) = m := by
  refine getD_ext false mk_len (fun j hj => ?_)
  rw [mk_len] at hj
  have h := mk_at (n := m.length) (l := listOf m) (fun x hx => asc_mem listOf_asc hx) j
  rw [listOf_mem] at h
  unfold at_ at h
  rw [toNat_nat] at h
  rw [Bool.eq_iff_iff, h]
  exact ⟨fun h => h.2, fun h => ⟨by omega, h⟩⟩
/-- marks that hold the source and not the sink: their list is a cut, worth what its edges hold -/
theorem marks_cut {n : Nat} {m : List Bool} {l : List S99} (hm : m.length = n) (h0 : at_ m 0 = true) (h1 : at_ m ((n : Int) - 1) = false) : OwnFlows.cutOk n (listOf m) = true ∧ OwnFlows.cutSum (mk n (listOf m)) l = cutF (tosL l) (leftL l) (fun u => at_ m u) l.length := by
  subst hm
  refine ⟨?_, ?_⟩
  · unfold OwnFlows.cutOk
    rw [mk_list, h0, h1, listOf_asc]
    rfl
  · rw [mk_list, cutF_sum _ _ _ (Nat.le_refl _)]
    rfl
theorem cutL_list (d : List Int) : OwnLeast.cutL d = listOf (OwnFrom.inB d) := by
  unfold OwnLeast.cutL listOf
  rw [OwnFrom.inB_len]
  refine foldR_congr (fun t j _ hj => ?_)
  unfold OwnLeast.cutAt putAt OwnFrom.inB
  rw [List.getD_eq_getElem?_getD, List.getD_eq_getElem?_getD, List.getElem?_map, List.getElem?_eq_getElem hj]
  simp
theorem in_at {d : List Int} {u : Int} (h0 : 0 ≤ u) (h1 : u < d.length) : at_ (OwnFrom.inB d) u = R d u := by
  unfold at_ OwnFrom.inB R
  rw [rd_def, List.getD_eq_getElem?_getD, List.getElem?_map, List.getD_eq_getElem?_getD, List.getElem?_eq_getElem (show u.toNat < d.length by omega)]
  rfl
theorem out_at {b : List Int} {u : Int} (h0 : 0 ≤ u) (h1 : u < b.length) : at_ (PitMath.outB b) u = Mo b u := by
  unfold at_ Mo
  rw [PitMath.outB_at b u.toNat (by omega), rd_def, Bool.eq_iff_iff, decide_eq_true_eq, Bool.not_eq_true', decide_eq_false_iff_not]
  omega
theorem Done.least {n : Nat} {l : List S99} {x : Int × List Int × List Int} (D : Done n l x) (hE : ∀ j, j < l.length → edgeOk n (l.getD j z99)) : OwnFlows.cutOk n (OwnLeast.cutL x.2.2) = true ∧ OwnFlows.cutSum (Go.Proofs.Ytomfjhpiemipkaa.B.mk n (OwnLeast.cutL x.2.2)) l = x.1 := by
  have hl := D.lev.len
  have hn := D.nd
  rw [cutL_list]
  obtain ⟨h1, h2⟩ := marks_cut (l := l) (m := OwnFrom.inB x.2.2) (n := n) (by rw [OwnFrom.inB_len, hl]) (by rw [in_at (by omega) (by omega)]; exact D.src) (by rw [in_at (by omega) (by omega)]; exact D.snk)
  refine ⟨h1, ?_⟩
  rw [h2, cutF_congr hE (D := R x.2.2) (fun u u0 u1 => in_at u0 (by omega)) _ (Nat.le_refl _)]
  exact D.eq
theorem Back.most {n : Nat} {l : List S99} {x : Int × List Int × List Int} {b : List Int} (B : Back n l x b) (D : Done n l x) (hl : b.length = n) (hE : ∀ j, j < l.length → edgeOk n (l.getD j z99)) : OwnFlows.cutOk n (listOf (PitMath.outB b)) = true ∧ OwnFlows.cutSum (Go.Proofs.Ytomfjhpiemipkaa.B.mk n (listOf (PitMath.outB b))) l = x.1 := by
  have hn := D.nd
  obtain ⟨h1, h2⟩ := marks_cut (l := l) (m := PitMath.outB b) (n := n) (by rw [PitMath.outB_len, hl]) (by rw [out_at (by omega) (by omega)]; exact B.src D) (by rw [out_at (by omega) (by omega)]; exact B.snk)
  refine ⟨h1, ?_⟩
  rw [h2, cutF_congr hE (D := Mo b) (fun u u0 u1 => out_at u0 (by omega)) _ (Nat.le_refl _)]
  exact B.eq D
theorem Back.inMost {n : Nat} {l : List S99} {x : Int × List Int × List Int} {b : List Int} (B : Back n l x b) (D : Done n l x) (hl : b.length = n) : ∀ u ∈ OwnLeast.cutL x.2.2, u ∈ listOf (PitMath.outB b) := by
  intro u hu
  rw [cutL_list, listOf_mem] at hu
  have hlen : u < n := by
    have h := asc_mem (l := listOf (OwnFrom.inB x.2.2)) (n := (OwnFrom.inB x.2.2).length) listOf_asc ((listOf_mem u).2 hu)
    rw [OwnFrom.inB_len, D.lev.len] at h
    exact h.2
  rw [in_at hu.1 (by rw [D.lev.len]; exact hlen)] at hu
  rw [listOf_mem, out_at hu.1 (by omega)]
  refine ⟨hu.1, ?_⟩
  unfold Mo
  rw [Bool.not_eq_true', decide_eq_false_iff_not]
  intro h
  have := B.apart D hu.1 hlen h
  rw [hu.2] at this
  cases this
def leftF (l : List S99) (f : List Int) : List Int := (List.range (2 * l.length)).map fun (i : Nat) => if i % 2 = 0 then (l.getD (i / 2) z99).f2 - f.getD (i / 2) 0 else f.getD (i / 2) 0
theorem leftF_len (l : List S99) (f : List Int) : (leftF l f).length = 2 * l.length := by unfold leftF; rw [List.length_map, List.length_range]
theorem leftF_at (l : List S99) (f : List Int) (k : Int) (h0 : 0 ≤ k) (h : k < l.length) : rd (leftF l f) (2 * k) = (l.getD k.toNat z99).f2 - f.getD k.toNat 0 ∧ rd (leftF l f) (2 * k + 1) = f.getD k.toNat 0 := by
  have key : ∀ i : Nat, i < 2 * l.length → (leftF l f).getD i 0 = if i % 2 = 0 then (l.getD (i / 2) z99).f2 - f.getD (i / 2) 0 else f.getD (i / 2) 0 := by
    intro i hi
    unfold leftF
    rw [List.getD_eq_getElem?_getD, List.getElem?_map, List.getElem?_range hi]
    rfl
  rw [rd_def, rd_def, key _ (by omega), key _ (by omega), if_pos (show (2 * k).toNat % 2 = 0 by omega), if_neg (show ¬ (2 * k + 1).toNat % 2 = 0 by omega), show (2 * k).toNat / 2 = k.toNat by omega, show (2 * k + 1).toNat / 2 = k.toNat by omega]
  exact ⟨rfl, rfl⟩
theorem ex_step (l : List S99) (f : List Int) (v : Int) (m : Nat) (hm : m < l.length) : ex (tosL l) (leftF l f) v (m + 1) = ex (tosL l) (leftF l f) v m + f.getD m 0 * ((if (l.getD m z99).f0 = v then 1 else 0) - (if (l.getD m z99).f1 = v then 1 else 0)) := by
  have ht := tos_at l m (by omega) (by omega)
  have hl := leftF_at l f m (by omega) (by omega)
  rw [toNat_nat] at ht hl
  show ex (tosL l) (leftF l f) v m + _ = _
  rw [ht.1, ht.2, hl.2]
theorem ex_val (l : List S99) (f : List Int) (m : Nat) (hm : m ≤ l.length) : ex (tosL l) (leftF l f) 0 m = foldR (OwnFlowValue.fvAt l f) 0 m 0 := by
  induction m with
  | zero => rw [foldR_end (Nat.le_refl _)]; rfl
  | succ m ih =>
    rw [ex_step l f 0 m (by omega), ih (by omega), foldR_last (Nat.zero_le _)]
    generalize foldR (OwnFlowValue.fvAt l f) 0 m 0 = s
    unfold OwnFlowValue.fvAt
    by_cases h0 : (l.getD m z99).f0 = 0 <;> by_cases h1 : (l.getD m z99).f1 = 0
    · rw [if_pos h0, if_pos h1, if_pos h1, if_pos h0]; omega
    · rw [if_pos h0, if_neg h1, if_neg h1, if_pos h0]; omega
    · rw [if_neg h0, if_pos h1, if_pos h1, if_neg h0]; omega
    · rw [if_neg h0, if_neg h1, if_neg h1, if_neg h0]; omega
theorem ex_bal {n : Nat} (l : List S99) (hE : ∀ j, j < l.length → edgeOk n (l.getD j z99)) (f : List Int) (v : Int) (v0 : 0 ≤ v) (v1 : v < n) (m : Nat) (hm : m ≤ l.length) : (OwnFlows.bal n l f m).getD v.toNat 0 = - ex (tosL l) (leftF l f) v m := by
  induction m with
  | zero =>
    unfold OwnFlows.bal
    rw [foldR_end (Nat.le_refl _), getD_replicate (by omega)]
    rfl
  | succ m ih =>
    have he := hE m (by omega)
    unfold edgeOk at he
    rw [ex_step l f v m (by omega), OwnFlows.bal_succ]
    unfold OwnFlows.flowStep
    rw [OwnFlows.addTo_at, OwnFlows.addTo_at, OwnFlows.addTo_len, OwnFlows.bal_len, ih (by omega)]
    generalize ex (tosL l) (leftF l f) v m = s
    generalize f.getD m 0 = q
    by_cases h0 : (l.getD m z99).f0 = v <;> by_cases h1 : (l.getD m z99).f1 = v
    · rw [if_pos (show (l.getD m z99).f0.toNat = v.toNat ∧ v.toNat < (n : Int).toNat by omega), if_pos (show (l.getD m z99).f1.toNat = v.toNat ∧ v.toNat < (n : Int).toNat by omega), if_pos h0, if_pos h1]; omega
    · rw [if_pos (show (l.getD m z99).f0.toNat = v.toNat ∧ v.toNat < (n : Int).toNat by omega), if_neg (show ¬ ((l.getD m z99).f1.toNat = v.toNat ∧ v.toNat < (n : Int).toNat) by omega), if_pos h0, if_neg h1]; omega
    · rw [if_neg (show ¬ ((l.getD m z99).f0.toNat = v.toNat ∧ v.toNat < (n : Int).toNat) by omega), if_pos (show (l.getD m z99).f1.toNat = v.toNat ∧ v.toNat < (n : Int).toNat by omega), if_neg h0, if_pos h1]; omega
    · rw [if_neg (show ¬ ((l.getD m z99).f0.toNat = v.toNat ∧ v.toNat < (n : Int).toNat) by omega), if_neg (show ¬ ((l.getD m z99).f1.toNat = v.toNat ∧ v.toNat < (n : Int).toNat) by omega), if_neg h0, if_neg h1]; omega
theorem flow_of {n : Nat} {l : List S99} (hn : 2 ≤ n) (hE : ∀ j, j < l.length → edgeOk n (l.getD j z99)) {f : List Int} (h : OwnFlows.flowsB n l f = true) : Flows n l.length (tosL l) (leftL l) ((n : Int) - 1) (foldR (OwnFlowValue.fvAt l f) 0 l.length 0) (leftF l f) := by
  have hb := h
  unfold OwnFlows.flowsB at hb
  rw [Bool.and_eq_true, Bool.and_eq_true, allR_iff, allR_iff] at hb
  have half : ∀ e : Int, 0 ≤ e → e < 2 * (l.length : Int) → (e = 2 * (e / 2) ∧ par e = 2 * (e / 2) + 1 ∨ e = 2 * (e / 2) + 1 ∧ par e = 2 * (e / 2)) ∧ 0 ≤ e / 2 ∧ e / 2 < l.length := by
    intro e h0 h1
    unfold par
    by_cases c : e % 2 = 0
    · rw [if_pos c]; omega
    · rw [if_neg c]; omega
  refine ⟨⟨leftF_len l f, fun e h0 h1 => ?_⟩, fun e h0 h1 => ?_, ex_val l f l.length (Nat.le_refl _), fun v v0 v1 vz vs => ?_⟩
  · obtain ⟨hc, k0, k1⟩ := half e h0 h1
    have ha := leftF_at l f (e / 2) k0 k1
    have hf := OwnFlowValue.flows_at h (e / 2).toNat (by omega)
    have he := hE (e / 2).toNat (by omega)
    unfold edgeOk at he
    rcases hc with ⟨a, b⟩ | ⟨a, b⟩
    · rw [b, show rd (leftF l f) e = rd (leftF l f) (2 * (e / 2)) by rw [← a], ha.1, ha.2]; omega
    · rw [b, show rd (leftF l f) e = rd (leftF l f) (2 * (e / 2) + 1) by rw [← a], ha.1, ha.2]; omega
  · obtain ⟨hc, k0, k1⟩ := half e h0 h1
    have ha := leftF_at l f (e / 2) k0 k1
    have hl := left_at l (e / 2) k0 k1
    rcases hc with ⟨a, b⟩ | ⟨a, b⟩
    · rw [b, show rd (leftF l f) e = rd (leftF l f) (2 * (e / 2)) by rw [← a], show rd (leftL l) e = rd (leftL l) (2 * (e / 2)) by rw [← a], ha.1, ha.2, hl.1, hl.2]; omega
    · rw [b, show rd (leftF l f) e = rd (leftF l f) (2 * (e / 2) + 1) by rw [← a], show rd (leftL l) e = rd (leftL l) (2 * (e / 2) + 1) by rw [← a], ha.1, ha.2, hl.1, hl.2]; omega
  · have hz := hb.2.2 (v.toNat - 1) (Nat.zero_le _) (by omega)
    unfold OwnFlows.balOk at hz
    rw [decide_eq_true_eq, show v.toNat - 1 + 1 = v.toNat by omega, ex_bal l hE f v v0 v1 l.length (Nat.le_refl _)] at hz
    omega
theorem Done.flow_le {n : Nat} {l : List S99} {x : Int × List Int × List Int} (D : Done n l x) (hE : ∀ j, j < l.length → edgeOk n (l.getD j z99)) {f : List Int} (h : OwnFlows.flowsB n l f = true) : foldR (OwnFlowValue.fvAt l f) 0 l.length 0 ≤ x.1 :=
  run_most D.net D.flows D.lev D.cut (flow_of D.nd hE h)
theorem turn_turn {n : Nat} {l : List S99} (hn : n ≤ 130) (hE : ∀ j, j < l.length → edgeOk n (l.getD j z99)) : turnL n (turnL n l) = l := by
  refine getD_ext z99 (by rw [turnL_len, turnL_len]) (fun j hj => ?_)
  rw [turnL_len, turnL_len] at hj
  rw [turnL_at n _ j (by rw [turnL_len]; exact hj), turnL_at n l j hj]
  have h1 := turnE_ok hn (hE j hj)
  have h2 := turnE_ok hn h1.1
  generalize l.getD j z99 = e at *
  have e0 : (turnE n (turnE n e)).f0 = e.f0 := by rw [h2.2.1, h1.2.2.1]; omega
  have e1 : (turnE n (turnE n e)).f1 = e.f1 := by rw [h2.2.2.1, h1.2.1]; omega
  have e2 : (turnE n (turnE n e)).f2 = e.f2 := by rw [h2.2.2.2, h1.2.2.2]
  generalize turnE n (turnE n e) = g at *
  cases e
  cases g
  simp only at e0 e1 e2
  rw [e0, e1, e2]
theorem turn_le {n : Nat} {l : List S99} (hn : n ≤ 130) (hE : ∀ j, j < l.length → edgeOk n (l.getD j z99)) {x y : Int × List Int × List Int} (D : Done n l x) (Y : Done n (turnL n l) y) : y.1 ≤ x.1 := by
  have hF := Y.flows
  have hr := Y.net.rng
  rw [turnL_len, turn_left hn hE] at hF
  rw [turnL_len] at hr
  exact run_most D.net D.flows D.lev D.cut (turn_flows D.nd hr (turn_of hn hE) hF)
theorem turn_eq {n : Nat} {l : List S99} (hn : n ≤ 130) (hE : ∀ j, j < l.length → edgeOk n (l.getD j z99)) {x y : Int × List Int × List Int} (D : Done n l x) (Y : Done n (turnL n l) y) : y.1 = x.1 := by
  have h1 := turn_le hn hE D Y
  have D2 := D
  rw [← turn_turn hn hE] at D2
  have h2 := turn_le hn (turn_edges hn hE) Y D2
  omega
end Go.Proofs.Ytomfjhpiemipkaa.FlowMath
