/- Texts of this claim put together in one file. -/
import Derived.Test.YtomfjhpiemipkaaTOwnWith
import Derived.Test.YtomfjhpiemipkaaTOwnTurn
import Derived.Test.YtomfjhpiemipkaaTFlowCut
import Derived.Test.YtomfjhpiemipkaaTOwnGreatestFlowJ
import Derived.Test.YtomfjhpiemipkaaTOwnGreatestCut
import Derived.Test.YtomfjhpiemipkaaTMFnEdgesx0
section
/- Networks with one capacity changed, in plain Lean: more of it helps exactly edges that lead from what the source reaches to what reaches the sink; less of it hurts these. And cuts as lists of marks. -/
namespace Go.Proofs.Ytomfjhpiemipkaa.EdgeMath
open Go.RowKit Go.Proofs.Ytomfjhpiemipkaa.PFnEdges Go.Proofs.YtomfjhpiemipkaaW.PrintWords Go.Proofs.YtomfjhpiemipkaaW.PrintLast Go.Proofs.YtomfjhpiemipkaaW.PrintMore Go.Proofs.Ytomfjhpiemipkaa.B Go.Proofs.Ytomfjhpiemipkaa.Flow Go.Proofs.Ytomfjhpiemipkaa.OwnPush Go.Proofs.Ytomfjhpiemipkaa.OwnRows Go.Proofs.Ytomfjhpiemipkaa.OwnNet Go.Proofs.Ytomfjhpiemipkaa.OwnValue Go.Proofs.Ytomfjhpiemipkaa.OwnWith Go.Proofs.Ytomfjhpiemipkaa.OwnTurn
set_option linter.unusedVariables false
set_option linter.unusedSimpArgs false
/-- what the levels reach lies in each set that holds the source and is left by no edge with something left -/
theorem lev_in {n m : Nat} {tos : List Int} {adj : List (List Int)} {left d : List Int} {C : Int → Bool} (N : Net n m tos adj) (L : Lev n m tos adj 0 left d [] (-1) 0) (c0 : C 0 = true)
    (hc : ∀ e : Int, 0 ≤ e → e < 2 * (m : Int) → 0 < rd left e → C (rd tos (par e)) = true → C (rd tos e) = true) : ∀ v : Int, 0 ≤ v → v < n → 0 ≤ rd d v → C v = true := by
  have all : ∀ t : Nat, ∀ v : Int, 0 ≤ v → v < n → rd d v = t → C v = true := by
    intro t
    induction t with
    | zero => intro v v0 v1 hv; rw [L.zero v v0 v1 hv]; exact c0
    | succ t ih =>
      intro v v0 v1 hv
      obtain ⟨u, e, hu, he, hl, ht, hd⟩ := L.pred v v0 v1 (by omega)
      have hE := N.row u hu.1 hu.2 e he
      have := hc e hE.1.1 hE.1.2 hl (by rw [hE.2]; exact ih u hu.1 hu.2 (by omega))
      rwa [ht] at this
  intro v v0 v1 hv
  exact all (rd d v).toNat v v0 v1 (by omega)
def crosses (C : Int → Bool) (e : S99) : Prop := C e.f0 = true ∧ C e.f1 = false
instance (C : Int → Bool) (e : S99) : Decidable (crosses C e) := by unfold crosses; exact inferInstance
theorem cutF_step (l : List S99) (C : Int → Bool) (m : Nat) (hm : m < l.length) : cutF (tosL l) (leftL l) C (m + 1) = cutF (tosL l) (leftL l) C m + (if crosses C (l.getD m z99) then (l.getD m z99).f2 else 0) := by
  have ht := tos_at l m (by omega) (by omega)
  have hl := left_at l m (by omega) (by omega)
  rw [toNat_nat] at ht hl
  show cutF (tosL l) (leftL l) C m + _ = _
  rw [ht.1, ht.2, hl.1, hl.2, Int.add_zero]
  rfl
theorem cutF_cap (l : List S99) (k : Int) (ch : Int) (hk : 0 ≤ k ∧ k < l.length) (C : Int → Bool) (m : Nat) (hm : m ≤ l.length) : cutF (tosL (setCap l k ch)) (leftL (setCap l k ch)) C m = cutF (tosL l) (leftL l) C m + (if k.toNat < m then (if crosses C (l.getD k.toNat z99) then ch else 0) else 0) := by
  induction m with
  | zero => rw [if_neg (Nat.not_lt_zero _)]; rfl
  | succ m ih =>
    rw [cutF_step _ _ _ (by rw [setCap_len]; omega), cutF_step _ _ _ (by omega), ih (by omega), setCap_at l k ch m (by omega)]
    by_cases h : k.toNat = m
    · rw [if_pos h, if_neg (show ¬ k.toNat < m by omega), if_pos (show k.toNat < m + 1 by omega), h]
      by_cases c : C (l.getD m z99).f0 = true ∧ C (l.getD m z99).f1 = false
      · simp only [if_pos (show crosses C (l.getD m z99) from c), if_pos (show crosses C ⟨(l.getD m z99).f0, (l.getD m z99).f1, (l.getD m z99).f2 + ch⟩ from c)]
        omega
      · simp only [if_neg (show ¬ crosses C (l.getD m z99) from c), if_neg (show ¬ crosses C ⟨(l.getD m z99).f0, (l.getD m z99).f1, (l.getD m z99).f2 + ch⟩ from c)]
    · rw [if_neg h]
      by_cases h2 : k.toNat < m
      · rw [if_pos h2, if_pos (show k.toNat < m + 1 by omega)]; omega
      · rw [if_neg h2, if_neg (show ¬ k.toNat < m + 1 by omega)]; omega
theorem cut_cap (l : List S99) (k : Int) (ch : Int) (hk : 0 ≤ k ∧ k < l.length) (C : Int → Bool) : cutF (tosL (setCap l k ch)) (leftL (setCap l k ch)) C (setCap l k ch).length = cutF (tosL l) (leftL l) C l.length + (if crosses C (l.getD k.toNat z99) then ch else 0) := by
  rw [setCap_len, cutF_cap l k ch hk C l.length (Nat.le_refl _), if_pos (by omega)]
/-- what a run leaves -/
structure Done (n : Nat) (l : List S99) (x : Int × List Int × List Int) : Prop where
  nd : 2 ≤ n
  net : Net n l.length (tosL l) (adjL l n l.length)
  flows : Flows n l.length (tosL l) (leftL l) ((n : Int) - 1) x.1 x.2.1
  lev : Lev n l.length (tosL l) (adjL l n l.length) 0 x.2.1 x.2.2 [] (-1) 0
  cut : rd x.2.2 ((n : Int) - 1) < 0
theorem done {n : Nat} {l : List S99} (hn : 2 ≤ n) (hE : ∀ j, j < l.length → edgeOk n (l.getD j z99)) {x : Int × List Int × List Int} (hx : Ran n l x) : Done n l x := by
  obtain ⟨k, hk⟩ := hx
  have N := net_of n l hn hE
  have h := run_told N (by omega) (by omega) k 0 (leftL l) x hk (flows_of n l hE)
  exact ⟨hn, N, h.1, h.2.1, h.2.2⟩
/-- a run's flow is at most each cut -/
theorem Done.le {n : Nat} {l : List S99} {x : Int × List Int × List Int} (D : Done n l x) {C : Int → Bool} (c0 : C 0 = true) (cs : C ((n : Int) - 1) = false) : x.1 ≤ cutF (tosL l) (leftL l) C l.length :=
  weak (by have := D.nd; omega) D.net.rng D.flows c0 cs
theorem Done.src {n : Nat} {l : List S99} {x : Int × List Int × List Int} (D : Done n l x) : R x.2.2 0 = true := by unfold R; rw [D.lev.src]; rfl
theorem Done.snk {n : Nat} {l : List S99} {x : Int × List Int × List Int} (D : Done n l x) : R x.2.2 ((n : Int) - 1) = false := by unfold R; exact decide_eq_false (by have := D.cut; omega)
theorem Done.eq {n : Nat} {l : List S99} {x : Int × List Int × List Int} (D : Done n l x) : cutF (tosL l) (leftL l) (R x.2.2) l.length = x.1 := R_tight D.net D.flows D.lev D.cut
/-- what does not reach the sink -/
def Mo (b : List Int) (v : Int) : Bool := !(decide (0 ≤ rd b v))
structure Back (n : Nat) (l : List S99) (x : Int × List Int × List Int) (b : List Int) : Prop where
  bk : Bk n l.length (tosL l) ((n : Int) - 1) x.2.1 (rd b)
theorem back_of {n : Nat} {l : List S99} {x : Int × List Int × List Int} (D : Done n l x) {b : List Int} (hb : ∃ k, bfsL (tosL l) (adjL l n l.length) (flipL x.2.1) k (d0 n ((n : Int) - 1)) [(n : Int) - 1] = some b) : Back n l x b := by
  obtain ⟨k, hk⟩ := hb
  have hn := D.nd
  have h0 := lev0 (left := flipL x.2.1) D.net (o := (n : Int) - 1) (by omega) (by omega)
  exact ⟨bk_of D.net D.flows.good.1 (bfs_told D.net k _ _ b hk h0.1)⟩
theorem Back.apart {n : Nat} {l : List S99} {x : Int × List Int × List Int} {b : List Int} (B : Back n l x b) (D : Done n l x) {v : Int} (v0 : 0 ≤ v) (v1 : v < n) (h : 0 ≤ rd b v) : R x.2.2 v = false := by
  have := bk_in (T := fun u => !R x.2.2 u) D.net.rng B.bk (by show (!R x.2.2 ((n : Int) - 1)) = true; rw [D.snk]; rfl) (by
    intro e h0 h1 h h2
    have h2 : R x.2.2 (rd (tosL l) e) = false := by simpa using h2
    show (!R x.2.2 (rd (tosL l) (par e))) = true
    rw [Bool.not_eq_true']
    unfold R at h2 ⊢
    have h2 := of_decide_eq_false h2
    exact decide_eq_false fun hh => h2 (lev_clos D.net D.lev h0 h1 h hh)) v v0 v1 h
  simpa using this
theorem Back.src {n : Nat} {l : List S99} {x : Int × List Int × List Int} {b : List Int} (B : Back n l x b) (D : Done n l x) : Mo b 0 = true := by
  unfold Mo
  rw [Bool.not_eq_true']
  exact decide_eq_false (bk_z0 D.net D.lev D.cut B.bk)
theorem Back.snk {n : Nat} {l : List S99} {x : Int × List Int × List Int} {b : List Int} (B : Back n l x b) : Mo b ((n : Int) - 1) = false := by
  unfold Mo
  rw [B.bk.src]
  rfl
theorem Back.eq {n : Nat} {l : List S99} {x : Int × List Int × List Int} {b : List Int} (B : Back n l x b) (D : Done n l x) : cutF (tosL l) (leftL l) (Mo b) l.length = x.1 := by
  refine (Flow.tight (by have := D.nd; omega) D.net.rng D.flows (B.src D) B.snk).2 (fun e h0 h1 h2 h3 => ?_)
  have hg := D.flows.good.2 e h0 h1
  by_cases hz : rd x.2.1 e = 0
  · exact hz
  · unfold Mo at h2 h3
    have h3 : 0 ≤ rd b (rd (tosL l) e) := by simpa using h3
    have := B.bk.clos e h0 h1 (by omega) h3
    rw [decide_eq_true this] at h2
    cases h2
/-- more capacity helps exactly an edge from what the source reaches to what reaches the sink -/
theorem mends {n : Nat} {l : List S99} {k : Int} (hk : 0 ≤ k ∧ k < l.length) {x y : Int × List Int × List Int} {b : List Int} (D : Done n l x) (B : Back n l x b) (Y : Done n (setCap l k 1) y) (hE : edgeOk n (l.getD k.toNat z99)) :
    x.1 < y.1 ↔ R x.2.2 (l.getD k.toNat z99).f0 = true ∧ Mo b (l.getD k.toNat z99).f1 = false := by
  unfold edgeOk at hE
  constructor
  · intro h
    have h1 := Y.le D.src D.snk
    rw [cut_cap l k 1 hk, D.eq] at h1
    have h2 := Y.le (B.src D) B.snk
    rw [cut_cap l k 1 hk, B.eq D] at h2
    refine ⟨?_, ?_⟩
    · by_cases c : crosses (R x.2.2) (l.getD k.toNat z99)
      · exact c.1
      · rw [if_neg c] at h1; omega
    · by_cases c : crosses (Mo b) (l.getD k.toNat z99)
      · exact c.2
      · rw [if_neg c] at h2; omega
  · rintro ⟨h1, h2⟩
    have h3 := D.le Y.src Y.snk
    have h4 := Y.eq
    rw [cut_cap l k 1 hk] at h4
    by_cases c : crosses (R y.2.2) (l.getD k.toNat z99)
    · rw [if_pos c] at h4
      omega
    · rw [if_neg c] at h4
      by_cases hlt : x.1 < y.1
      · exact hlt
      · -- then y's least cut is one of l, too: it holds what the source reaches, and nothing that reaches the sink
        have ht := (Flow.tight (by have := D.nd; omega) D.net.rng D.flows Y.src Y.snk).1 (by omega)
        have hg := D.flows.good.2
        have g1 := lev_in (C := R y.2.2) D.net D.lev Y.src (fun e e0 e1 hl hc => by
          cases hh : R y.2.2 (rd (tosL l) e) with
          | true => rfl
          | false => have := ht e e0 e1 hc hh; omega) _ hE.1 hE.2.1 (by unfold R at h1; exact of_decide_eq_true h1)
        have g2 := bk_in (T := fun u => !R y.2.2 u) D.net.rng B.bk (by show (!R y.2.2 ((n : Int) - 1)) = true; rw [Y.snk]; rfl) (fun e e0 e1 hl hc => by
          have hc : R y.2.2 (rd (tosL l) e) = false := by simpa using hc
          show (!R y.2.2 (rd (tosL l) (par e))) = true
          cases hh : R y.2.2 (rd (tosL l) (par e)) with
          | false => rfl
          | true => have := ht e e0 e1 hh hc; omega) _ hE.2.2.1 hE.2.2.2.1 (by unfold Mo at h2; simpa using h2)
        exact absurd ⟨g1, by simpa using g2⟩ c
/-- less capacity hurts such an edge -/
theorem hurts {n : Nat} {l : List S99} {k : Int} (hk : 0 ≤ k ∧ k < l.length) {x y : Int × List Int × List Int} {b : List Int} (D : Done n l x) (B : Back n l x b) (Y : Done n (setCap l k (-1)) y) (hE : edgeOk n (l.getD k.toNat z99))
    (h1 : R x.2.2 (l.getD k.toNat z99).f0 = true) (h2 : Mo b (l.getD k.toNat z99).f1 = false) : y.1 < x.1 := by
  unfold edgeOk at hE
  have h := Y.le D.src D.snk
  rw [cut_cap l k (-1) hk, D.eq, if_pos ⟨h1, B.apart D hE.2.2.1 hE.2.2.2.1 (by unfold Mo at h2; simpa using h2)⟩] at h
  omega
end Go.Proofs.Ytomfjhpiemipkaa.EdgeMath
end
section
/- What the law FnEdges asks, of the numbers and lists that its callees tell. -/
namespace Go.Proofs.Ytomfjhpiemipkaa.EdgeLaw
open Go.RowKit Go.Proofs.Ytomfjhpiemipkaa.PFnEdges Go.Proofs.YtomfjhpiemipkaaW.PrintWords Go.Proofs.YtomfjhpiemipkaaW.PrintLast Go.Proofs.YtomfjhpiemipkaaW.PrintMore Go.Proofs.Ytomfjhpiemipkaa.B Go.Proofs.Ytomfjhpiemipkaa.Flow Go.Proofs.Ytomfjhpiemipkaa.OwnRows Go.Proofs.Ytomfjhpiemipkaa.OwnNet Go.Proofs.Ytomfjhpiemipkaa.OwnValue Go.Proofs.Ytomfjhpiemipkaa.OwnWith Go.Proofs.Ytomfjhpiemipkaa.EdgeMath
set_option linter.unusedVariables false
set_option linter.unusedSimpArgs false
def okE (n : Int) (e : S99) : Bool := decide (0 ≤ e.f0 ∧ e.f0 < n ∧ 0 ≤ e.f1 ∧ e.f1 < n ∧ 0 ≤ e.f2 ∧ e.f2 ≤ 1000000000)
def netOk (n : Int) (l : List S99) : Bool := decide (2 ≤ n ∧ n ≤ 130 ∧ l.length ≤ 2000) && allR (fun j => okE n (l.getD j z99)) 0 l.length
theorem rdE (l : List S99) (i : Nat) : rd_T99 l (i : Int) = l.getD i z99 := by unfold rd_T99; rw [toNat_nat]
theorem netOk_iff {n : Int} {l : List S99} : netOk n l = true ↔ 2 ≤ n ∧ n ≤ 130 ∧ l.length ≤ 2000 ∧ ∀ j, j < l.length → okE n (l.getD j z99) = true := by
  unfold netOk
  rw [Bool.and_eq_true, decide_eq_true_eq, allR_iff]
  exact ⟨fun h => ⟨h.1.1, h.1.2.1, h.1.2.2, fun j hj => h.2 j (Nat.zero_le _) hj⟩, fun h => ⟨⟨h.1, h.2.1, h.2.2.1⟩, fun j _ hj => h.2.2.2 j hj⟩⟩
theorem okE_iff {n : Int} {e : S99} : okE n e = true ↔ 0 ≤ e.f0 ∧ e.f0 < n ∧ 0 ≤ e.f1 ∧ e.f1 < n ∧ 0 ≤ e.f2 ∧ e.f2 ≤ 1000000000 := by
  unfold okE; rw [decide_eq_true_eq]
def cutTerm (m : List Bool) (e : S99) : Int := if at_ m e.f0 = true then (if at_ m e.f1 = true then 0 else e.f2) else 0
def cutAt (m : List Bool) (l : List S99) (s : Int) (j : Nat) : Int := s + cutTerm m (l.getD j z99)
def cutSum (m : List Bool) (l : List S99) : Int := foldR (cutAt m l) 0 l.length 0
theorem cutTerm_bd {n : Int} {m : List Bool} {e : S99} (h : okE n e = true) : 0 ≤ cutTerm m e ∧ cutTerm m e ≤ 1000000000 := by
  rw [okE_iff] at h
  unfold cutTerm
  split
  · split <;> omega
  · omega
theorem cutAt_bd {n : Int} {m : List Bool} {l : List S99} (h : ∀ j, j < l.length → okE n (l.getD j z99) = true) (i : Nat) (hi : i ≤ l.length) : 0 ≤ foldR (cutAt m l) 0 i 0 ∧ foldR (cutAt m l) 0 i 0 ≤ 1000000000 * (i : Int) := by
  induction i with
  | zero => rw [foldR_end (Nat.le_refl _)]; omega
  | succ i ih =>
    have ih := ih (by omega)
    rw [foldR_last (Nat.zero_le _)]
    have := cutTerm_bd (m := m) (h i (by omega))
    unfold cutAt at *
    omega
def cutOk (n : Nat) (l : List Int) : Bool := asc l n && (at_ (mk n l) 0 && !(at_ (mk n l) ((n : Int) - 1)))
theorem cutOk_iff {n : Nat} {l : List Int} (hn : 2 ≤ n) : cutOk n l = true ↔ asc l ((n : Int) - 1) = true ∧ 0 < l.length ∧ l.getD 0 0 = 0 := by
  unfold cutOk
  rw [Bool.and_eq_true, Bool.and_eq_true, Bool.not_eq_true']
  have hm : asc l n = true → ∀ y : Int, 0 ≤ y → (at_ (mk n l) y = true ↔ y ∈ l) := by
    intro h y hy
    unfold at_
    rw [mk_at (fun x hx => asc_mem h hx), Int.toNat_of_nonneg hy]
  constructor
  · rintro ⟨h1, h2, h3⟩
    have hz := (hm h1 0 (by omega)).1 h2
    have hl : ¬ ((n : Int) - 1) ∈ l := by intro h; have := (hm h1 _ (by omega)).2 h; rw [this] at h3; cases h3
    obtain ⟨j, hj, he⟩ := mem_getD (z := 0) hz
    refine ⟨asc_of (asc_pairwise h1) (fun x hx => ?_), by omega, ?_⟩
    · have := asc_mem h1 hx
      refine ⟨this.1, ?_⟩
      by_cases e : x = (n : Int) - 1
      · exact absurd (e ▸ hx) hl
      · omega
    · by_cases e : j = 0
      · subst e; exact he
      · have := asc_mono h1 (show 0 < j by omega) hj
        have := (asc_at h1 (show 0 < l.length by omega)).1
        omega
  · rintro ⟨h1, h2, h3⟩
    have h4 : asc l n = true := asc_of (asc_pairwise h1) (fun x hx => by have := asc_mem h1 hx; omega)
    refine ⟨h4, (hm h4 0 (by omega)).2 (h3 ▸ getD_mem h2), ?_⟩
    rw [← Bool.not_eq_true]
    intro h
    have := asc_mem h1 ((hm h4 _ (by omega)).1 h)
    omega
theorem cutOk_mark {n : Nat} {l : List Int} (h : asc l n = true) {x : Int} (hx : 0 ≤ x) : at_ (mk n l) x = decide (x ∈ l) := by
  rw [Bool.eq_iff_iff, decide_eq_true_eq]
  unfold at_
  rw [mk_at (fun x hx => asc_mem h hx), Int.toNat_of_nonneg hx]
theorem rdB (m : List Bool) (x : Int) : rdOf false m x = at_ m x := rfl
theorem IsNetwork_l0 (n : Int) (l : List S99) (hl : l.length ≤ maxLen) : ∀ (d i : Nat), i + d = l.length →
    Ev (fun k => impl_IsNetwork.l0 k n l (l.length : Int) (i : Int)) (allR (fun j => okE n (l.getD j z99)) i l.length) := by
  have hl := maxLen_le hl
  intro d
  induction d with
  | zero =>
    intro i hi
    exact Ev.step (fun k => impl_IsNetwork.l0.eq_2 n l l.length i k) (ev_neg (by omega) (ev_some (allR_end (by omega)).symm))
  | succ d ih =>
    intro i hi
    refine Ev.step (fun k => impl_IsNetwork.l0.eq_2 n l l.length i k) ?_
    have hx : rd_T99 l (i : Int) = l.getD i z99 := by unfold rd_T99; rw [toNat_nat]
    rw [allR_step (by omega), w_succ (n := l.length) (by omega) (by omega), hx]
    generalize l.getD i z99 = e
    have no : ¬ (0 ≤ e.f0 ∧ e.f0 < n ∧ 0 ≤ e.f1 ∧ e.f1 < n ∧ 0 ≤ e.f2 ∧ e.f2 ≤ 1000000000) → false = (okE n e && allR (fun j => okE n (l.getD j z99)) (i + 1) l.length) := by
      intro h
      rw [show okE n e = false from decide_eq_false h, Bool.false_and]
    refine ev_pos (by omega) (ev_pos (by omega) (ev_pos (by omega) ?_))
    refine ev_ite (fun h => ev_some (no (by omega))) (fun h0 => ?_)
    refine ev_ite (fun h => ev_some (no (by omega))) (fun h1 => ?_)
    refine ev_ite (fun h => ev_some (no (by omega))) (fun h2 => ?_)
    refine ev_ite (fun h => ev_some (no (by omega))) (fun h3 => ?_)
    refine ev_ite (fun h => ev_some (no (by omega))) (fun h4 => ?_)
    refine ev_ite (fun h => ev_some (no (by omega))) (fun h5 => ?_)
    rw [show okE n e = true from decide_eq_true (by omega), Bool.true_and]
    exact ih (i + 1) (by omega)
theorem IsNetwork_ev (n : Int) (l : List S99) (hl : l.length ≤ maxLen) : Ev (fun k => impl_IsNetwork.f k n l) (netOk n l) := by
  unfold impl_IsNetwork.f netOk
  have no : ¬ (2 ≤ n ∧ n ≤ 130 ∧ l.length ≤ 2000) → false = (decide (2 ≤ n ∧ n ≤ 130 ∧ l.length ≤ 2000) && allR (fun j => okE n (l.getD j z99)) 0 l.length) := by
    intro h; rw [decide_eq_false h, Bool.false_and]
  refine ev_ite (fun h => Ev.step (fun k => impl_IsNetwork.j0.eq_2 n l true k) (ev_pos rfl (ev_some (no (by omega))))) (fun h => ?_)
  refine ev_ite (fun h => Ev.step (fun k => impl_IsNetwork.j0.eq_2 n l true k) (ev_pos rfl (ev_some (no (by omega))))) (fun h1 => ?_)
  refine Ev.step (fun k => impl_IsNetwork.j0.eq_2 n l _ k) (ev_ite (fun h2 => ev_some (no ?_)) (fun h2 => ?_))
  · simp only [decide_eq_true_eq] at h2; omega
  · simp only [decide_eq_true_eq] at h2
    rw [decide_eq_true (by omega), Bool.true_and]; exact IsNetwork_l0 n l hl l.length 0 (by omega)
theorem areBlocks_l0 (l : List Int) (hl : l.length ≤ maxLen) (n : Int) : ∀ (d i : Nat), i + d = l.length → Ev (fun k => impl_areBlocks.l0 k l n l (l.length : Int) (i : Int)) (allR (ascAt l n) i l.length) := by
  have hl := maxLen_le hl
  intro d
  induction d with
  | zero =>
    intro i hi
    exact Ev.step (fun k => impl_areBlocks.l0.eq_2 l n l l.length i k) (ev_neg (by omega) (ev_some (allR_end (by omega)).symm))
  | succ d ih =>
    intro i hi
    refine Ev.step (fun k => impl_areBlocks.l0.eq_2 l n l l.length i k) ?_
    rw [allR_step (by omega), w_succ (n := l.length) (by omega) (by omega), rd_nat]
    refine ev_pos (by omega) (ev_pos (by omega) (ev_pos (by omega) ?_))
    have no : ¬ (0 ≤ l.getD i 0 ∧ l.getD i 0 < n ∧ (0 < i → l.getD (i - 1) 0 < l.getD i 0)) → false = (ascAt l n i && allR (ascAt l n) (i + 1) l.length) := by
      intro h
      have : ascAt l n i = false := by unfold ascAt; simp only [decide_eq_false_iff_not]; exact h
      rw [this]; rfl
    have yes : (0 ≤ l.getD i 0 ∧ l.getD i 0 < n ∧ (0 < i → l.getD (i - 1) 0 < l.getD i 0)) → Ev (fun k => impl_areBlocks.l0 k l n l (l.length : Int) ((i + 1 : Nat) : Int)) (ascAt l n i && allR (ascAt l n) (i + 1) l.length) := by
      intro h
      have : ascAt l n i = true := by unfold ascAt; simp only [decide_eq_true_eq]; exact h
      rw [this]; exact ih (i + 1) (by omega)
    refine ev_ite (fun h => ev_some (no (by omega))) (fun h => ?_)
    refine ev_ite (fun h1 => ev_some (no (by omega))) (fun h1 => ?_)
    refine ev_ite (fun h0 => ?_) (fun h0 => yes ⟨by omega, by omega, fun _ => by omega⟩)
    rw [w64 (x := (i : Int) - 1) (by omega) (by omega), show (i : Int) - 1 = ((i - 1 : Nat) : Int) by omega, rd_nat]
    refine ev_pos (by omega) (ev_pos (by omega) ?_)
    refine ev_ite (fun h2 => ev_some (no (fun hc => by have := hc.2.2 (by omega); omega))) (fun h2 => yes ⟨by omega, by omega, fun _ => by omega⟩)
theorem areBlocks_ev (l : List Int) (hl : l.length ≤ maxLen) (n : Int) : Ev (fun k => impl_areBlocks.f k l n) (asc l n) := by
  unfold impl_areBlocks.f asc
  exact areBlocks_l0 l hl n l.length 0 (by omega)
theorem markOf_l0 (l : List Int) (hl : l.length ≤ maxLen) : ∀ (d i : Nat) (m : List Bool), i + d = l.length → (∀ x ∈ l, 0 ≤ x ∧ x < m.length) → Ev (fun k => impl_markOf.l0 k m l (l.length : Int) (i : Int)) (foldR (setAt l) i l.length m) := by
  have hl := maxLen_le hl
  intro d
  induction d with
  | zero =>
    intro i m hi hm
    exact Ev.step (fun k => impl_markOf.l0.eq_2 m l l.length i k) (ev_neg (by omega) (ev_some (foldR_end (by omega)).symm))
  | succ d ih =>
    intro i m hi hm
    refine Ev.step (fun k => impl_markOf.l0.eq_2 m l l.length i k) ?_
    have hx := hm _ (getD_mem (z := 0) (show i < l.length by omega))
    rw [foldR_step (by omega), w_succ (n := l.length) (by omega) (by omega), rd_nat]
    refine ev_pos (by omega) (ev_pos (by omega) (ev_pos (by omega) (ev_pos (by omega) (ev_pos (by omega) ?_))))
    exact ih (i + 1) _ (by omega) (by intro x h; have := hm x h; simpa using this)
theorem markOf_ev (n : Nat) (hn : n ≤ 1048576) (l : List Int) (hl : l.length ≤ maxLen) (h : ∀ x ∈ l, 0 ≤ x ∧ x < n) : Ev (fun k => impl_markOf.f k (n : Int) l) (mk n l) := by
  unfold impl_markOf.f mk setAll
  refine ev_pos (by omega) (ev_pos (by omega) ?_)
  rw [toNat_nat]
  exact markOf_l0 l hl l.length 0 _ (by omega) (by simpa using h)
theorem iCutValue_l0 (n : Nat) (l : List S99) (hl : l.length ≤ 2000) (hb : ∀ j, j < l.length → okE n (l.getD j z99) = true) (m : List Bool) (hm : m.length = n) : ∀ (d i : Nat), i + d = l.length →
    Ev (fun k => impl_CutValue.l0 k m (foldR (cutAt m l) 0 i 0) l (l.length : Int) (i : Int)) (cutSum m l, true) := by
  intro d
  induction d with
  | zero =>
    intro i hi
    obtain rfl : i = l.length := by omega
    exact Ev.step (fun k => impl_CutValue.l0.eq_2 m _ l l.length l.length k) (ev_neg (by omega) (ev_some rfl))
  | succ d ih =>
    intro i hi
    have ih := ih (i + 1) (by omega)
    rw [foldR_last (Nat.zero_le _)] at ih
    have hok := hb i (by omega)
    have h1 := cutAt_bd (m := m) hb i (by omega)
    have h2 := cutTerm_bd (m := m) hok
    rw [okE_iff] at hok
    refine Ev.step (fun k => impl_CutValue.l0.eq_2 m _ l l.length i k) ?_
    rw [w_succ (n := l.length) (by omega) (by omega), rdE]
    generalize hs : foldR (cutAt m l) 0 i 0 = s at *
    unfold cutAt cutTerm at ih
    generalize l.getD i z99 = e at *
    rw [rdB, rdB]
    refine ev_pos (by omega) (ev_pos (by omega) (ev_pos (by omega) (ev_pos (by omega) (ev_pos (by omega) (ev_ite (fun h => ?_) (fun h => ?_))))))
    · refine ev_pos (by omega) (ev_pos (by omega) (ev_ite (fun h3 => ?_) (fun h3 => ?_)))
      · rw [if_pos h, if_pos h3, Int.add_zero] at ih; exact ih
      · rw [if_pos h, if_neg h3] at ih
        rw [w64 (by omega) (by omega)]
        exact ih
    · rw [if_neg h, Int.add_zero] at ih; exact ih
theorem iCutValue_ev (n : Int) (l : List S99) (hl : l.length ≤ maxLen) (c : List Int) (hcl : c.length ≤ maxLen) :
    Ev (fun k => impl_CutValue.f k n l c) (if netOk n l && cutOk n.toNat c then (cutSum (mk n.toNat c) l, true) else (0, false)) := by
  unfold impl_CutValue.f
  refine Ev.bind (IsNetwork_ev n l hl) (ev_ite (fun h => ?_) (fun h => ?_))
  · rw [h, Bool.true_and]
    rw [netOk_iff] at h
    obtain ⟨n, rfl⟩ : ∃ m : Nat, n = m := ⟨n.toNat, by omega⟩
    rw [toNat_nat]
    refine Ev.bind (areBlocks_ev c hcl _) (Ev.step (fun k => impl_CutValue.j0.eq_2 n l c _ k) ?_)
    unfold cutOk
    cases h1 : asc c n with
    | false => exact ev_pos rfl (ev_some rfl)
    | true =>
      refine ev_neg (by simp) (Ev.bind (markOf_ev n (by omega) c hcl (fun x hx => asc_mem h1 hx)) ?_)
      rw [mk_len]
      refine ev_pos (by omega) ?_
      rw [rdB, rdB, w64 (by omega) (by omega), Bool.true_and]
      have fin : ∀ b : Bool, Ev (fun k => impl_CutValue.j1 k l (mk n c) b) (if (!b) = true then (cutSum (mk n c) l, true) else (0, false)) := by
        intro b
        refine Ev.step (fun k => impl_CutValue.j1.eq_2 l (mk n c) b k) ?_
        cases b with
        | true => exact ev_pos rfl (ev_some rfl)
        | false =>
          refine ev_neg (by simp) ?_
          have := iCutValue_l0 n l h.2.2.1 h.2.2.2 (mk n c) mk_len l.length 0 (by omega)
          rwa [foldR_end (Nat.le_refl _)] at this
      refine ev_ite (fun h2 => ?_) (fun h2 => ?_)
      · rw [h2, Bool.true_and]
        exact ev_pos (by omega) (ev_pos (by omega) (fin _))
      · rw [Bool.not_eq_true] at h2; rw [h2, Bool.false_and]
        exact fin true
  · rw [Bool.not_eq_true] at h; rw [h]
    exact Ev.step (fun k => impl_CutValue.j0.eq_2 n l c _ k) (ev_pos rfl (ev_some rfl))
theorem l1In_eq (a b c : Int) : spec_l1In.f a b c = some (decide (b ≤ a ∧ a ≤ c)) := by
  unfold spec_l1In.f
  by_cases h : a ≥ b
  · rw [if_pos h]; simp [show b ≤ a from h]
  · rw [if_neg h]; simp [show ¬ b ≤ a from h]
theorem mfGood_l0 (n : Int) (hn : -9223372036854775808 ≤ n ∧ n ≤ 9223372036854775807) (l : List S99) (hl : l.length ≤ maxLen) : ∀ (d i : Nat), i + d = l.length →
    Ev (fun k => spec_mfGood.l0 k n l l (l.length : Int) (i : Int)) (decide (2 ≤ n ∧ n ≤ 130 ∧ l.length ≤ 2000) && allR (fun j => okE n (l.getD j z99)) i l.length) := by
  have hl := maxLen_le hl
  intro d
  induction d with
  | zero =>
    intro i hi
    refine Ev.step (fun k => spec_mfGood.l0.eq_2 n l l l.length i k) (ev_neg (by omega) (ev_bindc (l1In_eq _ _ _) (ev_ite (fun h => ev_some ?_) (fun h => ev_some ?_))))
    · rw [allR_end (by omega), Bool.and_true, decide_eq_decide]; simp only [decide_eq_true_eq] at h; omega
    · simp only [decide_eq_true_eq] at h; rw [decide_eq_false (by omega), Bool.false_and]
  | succ d ih =>
    intro i hi
    refine Ev.step (fun k => spec_mfGood.l0.eq_2 n l l l.length i k) ?_
    have hx : rd_T99 l (i : Int) = l.getD i z99 := by unfold rd_T99; rw [toNat_nat]
    rw [allR_step (by omega), w_succ (n := l.length) (by omega) (by omega), hx]
    generalize l.getD i z99 = e
    have no : (¬ (2 ≤ n ∧ n ≤ 130) ∨ okE n e = false) → false = (decide (2 ≤ n ∧ n ≤ 130 ∧ l.length ≤ 2000) && (okE n e && allR (fun j => okE n (l.getD j z99)) (i + 1) l.length)) := by
      rintro (h | h)
      · rw [decide_eq_false (by omega), Bool.false_and]
      · rw [h, Bool.false_and, Bool.and_false]
    by_cases hn0 : n = -9223372036854775808
    · subst hn0
      have hw : wrap64 (-9223372036854775808 - 1) = 9223372036854775807 := by unfold wrap64; omega
      have fin : Ev (fun k => spec_mfGood.l0 k (-9223372036854775808) l l (l.length : Int) ((i + 1 : Nat) : Int)) false := by
        have := ih (i + 1) (by omega)
        rwa [decide_eq_false (by omega), Bool.false_and] at this
      rw [hw]
      refine ev_pos (by omega) (ev_pos (by omega) (ev_pos (by omega) (ev_bindc (l1In_eq _ _ _) (ev_eq (no (.inl (by omega))) ?_))))
      refine ev_ite (fun h => ?_) (fun _ => ev_some rfl)
      refine ev_bindc (l1In_eq _ _ _) (ev_ite (fun h => ?_) (fun _ => ev_some rfl))
      exact ev_bindc (l1In_eq _ _ _) (ev_ite (fun h => fin) (fun _ => ev_some rfl))
    · rw [w64 (x := n - 1) (by omega) (by omega)]
      refine ev_pos (by omega) (ev_pos (by omega) (ev_pos (by omega) (ev_bindc (l1In_eq _ _ _) ?_)))
      refine ev_ite (fun h => ?_) (fun h => ev_some (no (.inr (by unfold okE; simp only [decide_eq_true_eq] at h; simp only [decide_eq_false_iff_not]; omega))))
      refine ev_bindc (l1In_eq _ _ _) (ev_ite (fun h1 => ?_) (fun h1 => ev_some (no (.inr (by unfold okE; simp only [decide_eq_true_eq] at h1; simp only [decide_eq_false_iff_not]; omega)))))
      refine ev_bindc (l1In_eq _ _ _) (ev_ite (fun h2 => ?_) (fun h2 => ev_some (no (.inr (by unfold okE; simp only [decide_eq_true_eq] at h2; simp only [decide_eq_false_iff_not]; omega)))))
      simp only [decide_eq_true_eq] at h h1 h2
      have : okE n e = true := by unfold okE; simp only [decide_eq_true_eq]; omega
      rw [this, Bool.true_and]; exact ih (i + 1) (by omega)
theorem mfGood_ev (n : Int) (hn : -9223372036854775808 ≤ n ∧ n ≤ 9223372036854775807) (l : List S99) (hl : l.length ≤ maxLen) : Ev (fun k => spec_mfGood.f k n l) (netOk n l) := by
  unfold spec_mfGood.f netOk
  exact mfGood_l0 n hn l hl l.length 0 (by omega)
theorem l1Rising_l0 (l : List Int) (hl : l.length ≤ maxLen) (n : Int) : ∀ (d i : Nat), i + d = l.length → Ev (fun k => spec_l1Rising.l0 k l 0 (n - 1) l (l.length : Int) (i : Int)) (allR (ascAt l n) i l.length) := by
  have hl := maxLen_le hl
  intro d
  induction d with
  | zero =>
    intro i hi
    exact Ev.step (fun k => spec_l1Rising.l0.eq_2 l 0 (n - 1) l l.length i k) (ev_neg (by omega) (ev_some (allR_end (by omega)).symm))
  | succ d ih =>
    intro i hi
    refine Ev.step (fun k => spec_l1Rising.l0.eq_2 l 0 (n - 1) l l.length i k) ?_
    rw [allR_step (by omega), w_succ (n := l.length) (by omega) (by omega), rd_nat]
    refine ev_pos (by omega) (ev_pos (by omega) (ev_pos (by omega) (ev_bindc (l1In_eq _ _ _) ?_)))
    refine ev_ite (fun h => ?_) (fun h => ?_)
    · simp only [decide_eq_true_eq] at h
      refine ev_ite (fun h0 => ?_) (fun h0 => ?_)
      · rw [w64 (x := (i : Int) - 1) (by omega) (by omega), show (i : Int) - 1 = ((i - 1 : Nat) : Int) by omega, rd_nat]
        refine ev_pos (by omega) (ev_pos (by omega) ?_)
        refine ev_ite (fun h1 => ?_) (fun h1 => ?_)
        · refine ev_some ?_
          have : ascAt l n i = false := by unfold ascAt; simp only [decide_eq_false_iff_not]; intro hc; have := hc.2.2 (by omega); omega
          rw [this]; rfl
        · have : ascAt l n i = true := by unfold ascAt; simp only [decide_eq_true_eq]; exact ⟨by omega, by omega, fun _ => by omega⟩
          rw [this]; exact ih (i + 1) (by omega)
      · have : ascAt l n i = true := by unfold ascAt; simp only [decide_eq_true_eq]; exact ⟨by omega, by omega, fun _ => by omega⟩
        rw [this]; exact ih (i + 1) (by omega)
    · refine ev_some ?_
      have : ascAt l n i = false := by
        unfold ascAt; simp only [decide_eq_true_eq] at h; simp only [decide_eq_false_iff_not]; intro hc; exact h ⟨hc.1, by omega⟩
      rw [this]; rfl
theorem l1Rising_ev (l : List Int) (hl : l.length ≤ maxLen) (n : Int) : Ev (fun k => spec_l1Rising.f k l 0 (n - 1)) (asc l n) := by
  unfold spec_l1Rising.f asc
  exact l1Rising_l0 l hl n l.length 0 (by omega)
theorem l1Has_l0 (l : List Int) (hl : l.length ≤ maxLen) (x : Int) : ∀ (d i : Nat), i + d = l.length → Ev (fun k => spec_l1Has.l0 k x l (l.length : Int) (i : Int)) (decide (x ∈ l.drop i)) := by
  have hl := maxLen_le hl
  intro d
  induction d with
  | zero =>
    intro i hi
    refine Ev.step (fun k => spec_l1Has.l0.eq_2 x l l.length i k) (ev_neg (by omega) (ev_some ?_))
    rw [List.drop_of_length_le (by omega)]; simp
  | succ d ih =>
    intro i hi
    refine Ev.step (fun k => spec_l1Has.l0.eq_2 x l l.length i k) ?_
    have hd : l.drop i = l.getD i 0 :: l.drop (i + 1) := by
      rw [List.drop_eq_getElem_cons (by omega)]; congr 1; simp [List.getD_eq_getElem?_getD, show i < l.length by omega]
    rw [w_succ (n := l.length) (by omega) (by omega), rd_nat, hd]
    refine ev_pos (by omega) (ev_pos (by omega) (ev_pos (by omega) (ev_ite (fun h => ev_some ?_) (fun h => ?_))))
    · symm; rw [decide_eq_true_eq]; rw [← h]; exact List.mem_cons_self
    · refine ev_eq ?_ (ih (i + 1) (by omega))
      rw [decide_eq_decide, List.mem_cons]
      exact ⟨.inr, fun h1 => h1.resolve_left (fun e => h e.symm)⟩
theorem l1Has_ev (l : List Int) (hl : l.length ≤ maxLen) (x : Int) : Ev (fun k => spec_l1Has.f k l x) (decide (x ∈ l)) := by
  unfold spec_l1Has.f
  have := l1Has_l0 l hl x l.length 0 (by omega)
  rwa [List.drop_zero] at this
theorem mfCut_ev (n : Nat) (hn : 2 ≤ n ∧ n ≤ 130) (l : List Int) (hl : l.length ≤ maxLen) : Ev (fun k => spec_mfCut.f k (n : Int) l) (cutOk n l) := by
  unfold spec_mfCut.f
  rw [w64 (by omega) (by omega), show (n : Int) - 2 = ((n : Int) - 1) - 1 by omega]
  have hc := cutOk_iff (l := l) hn.1
  refine Ev.bind (l1Rising_ev l hl _) (ev_ite (fun h => ?_) (fun h => ev_some ?_))
  · refine ev_ite (fun h1 => ev_pos (by omega) (ev_some ?_)) (fun h1 => ev_some ?_)
    · show (l.getD 0 0 == 0) = _
      rw [Bool.eq_iff_iff, beq_iff_eq, hc]
      exact ⟨fun h2 => ⟨h, by omega, h2⟩, fun h2 => h2.2.2⟩
    · symm; rw [← Bool.not_eq_true, hc]; rintro ⟨_, h2, _⟩; omega
  · symm; rw [← Bool.not_eq_true, hc]; rintro ⟨h1, _⟩; exact h h1
theorem mfCutValue_l0 (n : Nat) (l : List S99) (hl : l.length ≤ 2000) (hb : ∀ j, j < l.length → okE n (l.getD j z99) = true) (c : List Int) (hc : asc c n = true) (hcl : c.length ≤ maxLen) : ∀ (d i : Nat), i + d = l.length →
    Ev (fun k => spec_mfCutValue.l0 k c (foldR (cutAt (mk n c) l) 0 i 0) l (l.length : Int) (i : Int)) (cutSum (mk n c) l) := by
  intro d
  induction d with
  | zero =>
    intro i hi
    obtain rfl : i = l.length := by omega
    exact Ev.step (fun k => spec_mfCutValue.l0.eq_2 c _ l l.length l.length k) (ev_neg (by omega) (ev_some rfl))
  | succ d ih =>
    intro i hi
    have ih := ih (i + 1) (by omega)
    rw [foldR_last (Nat.zero_le _)] at ih
    have hok := hb i (by omega)
    have h1 := cutAt_bd (m := mk n c) hb i (by omega)
    have h2 := cutTerm_bd (m := mk n c) hok
    rw [okE_iff] at hok
    refine Ev.step (fun k => spec_mfCutValue.l0.eq_2 c _ l l.length i k) ?_
    rw [w_succ (n := l.length) (by omega) (by omega), rdE]
    have m0 := cutOk_mark hc hok.1
    have m1 := cutOk_mark hc hok.2.2.1
    unfold cutAt at ih
    unfold cutAt at h1
    unfold cutTerm at ih h2
    generalize l.getD i z99 = e at *
    refine ev_pos (by omega) (ev_pos (by omega) (ev_pos (by omega) (Ev.bind (l1Has_ev c hcl _) (ev_ite (fun h => ?_) (fun h => ?_)))))
    · refine Ev.bind (l1Has_ev c hcl _) (ev_ite (fun h3 => ?_) (fun h3 => ?_))
      · rw [if_pos (m0.trans h), if_pos (m1.trans h3), Int.add_zero] at ih; exact ih
      · rw [if_pos (m0.trans h), if_neg (by rw [m1]; exact h3)] at ih
        unfold cutAt cutTerm
        rw [w64 (by unfold cutTerm at h1; omega) (by unfold cutTerm at h1; omega)]
        exact ih
    · rw [if_neg (by rw [m0]; exact h), Int.add_zero] at ih; exact ih
theorem sCutValue_ev (n : Int) (hn : -9223372036854775808 ≤ n ∧ n ≤ 9223372036854775807) (l : List S99) (hl : l.length ≤ maxLen) (c : List Int) (hcl : c.length ≤ maxLen) :
    Ev (fun k => spec_CutValue.f k n l c) (if netOk n l && cutOk n.toNat c then (cutSum (mk n.toNat c) l, true) else (0, false)) := by
  unfold spec_CutValue.f
  refine Ev.bind (mfGood_ev n hn l hl) (ev_ite (fun h => ?_) (fun h => ev_some ?_))
  · rw [h, Bool.true_and]
    rw [netOk_iff] at h
    obtain ⟨n, rfl⟩ : ∃ m : Nat, n = m := ⟨n.toNat, by omega⟩
    rw [toNat_nat]
    refine Ev.bind (mfCut_ev n (by omega) c hcl) (ev_ite (fun h1 => ?_) (fun h1 => ev_some ?_))
    · rw [if_pos h1]
      have hc : asc c n = true := by unfold cutOk at h1; rw [Bool.and_eq_true] at h1; exact h1.1
      unfold spec_mfCutValue.f
      have := mfCutValue_l0 n l h.2.2.1 h.2.2.2 c hc hcl l.length 0 (by omega)
      rw [foldR_end (Nat.le_refl _)] at this
      exact Ev.bind this (ev_some rfl)
    · rw [if_neg h1]
  · rw [Bool.not_eq_true] at h; rw [h]; rfl
theorem cutL_mem (d : List Int) (u : Int) : u ∈ OwnLeast.cutL d ↔ 0 ≤ u ∧ u < d.length ∧ 0 ≤ rd d u := by
  have key : ∀ i, u ∈ foldR (OwnLeast.cutAt d) 0 i [] ↔ ∃ j : Nat, j < i ∧ 0 ≤ d.getD j 0 ∧ u = j := by
    intro i
    induction i with
    | zero => rw [foldR_end (Nat.le_refl _)]; exact ⟨fun h => by simp at h, fun ⟨j, h, _⟩ => by omega⟩
    | succ i ih =>
      rw [foldR_last (Nat.zero_le _)]
      unfold OwnLeast.cutAt at ih ⊢
      split
      · rename_i h
        rw [List.mem_append, List.mem_singleton, ih]
        constructor
        · rintro (⟨j, h1, h2, h3⟩ | rfl)
          · exact ⟨j, by omega, h2, h3⟩
          · exact ⟨i, by omega, h, rfl⟩
        · rintro ⟨j, h1, h2, h3⟩
          by_cases e : j = i
          · subst e; exact Or.inr h3
          · exact Or.inl ⟨j, by omega, h2, h3⟩
      · rename_i h
        rw [ih]
        constructor
        · rintro ⟨j, h1, h2, h3⟩
          exact ⟨j, by omega, h2, h3⟩
        · rintro ⟨j, h1, h2, h3⟩
          by_cases e : j = i
          · subst e; exact absurd h2 h
          · exact ⟨j, by omega, h2, h3⟩
  unfold OwnLeast.cutL
  rw [key]
  constructor
  · rintro ⟨j, h1, h2, rfl⟩
    exact ⟨by omega, by omega, by rw [rd_def, toNat_nat]; exact h2⟩
  · rintro ⟨h0, h1, h2⟩
    exact ⟨u.toNat, by omega, by rw [rd_def] at h2; exact h2, by omega⟩
theorem cutL_len (d : List Int) : (OwnLeast.cutL d).length ≤ d.length := OwnLeast.cutAt_len d d.length
theorem most_mem {b : List Int} {u : Int} (h0 : 0 ≤ u) (h1 : u < b.length) : u ∈ listOf (PitMath.outB b) ↔ Mo b u = true := by
  rw [listOf_mem]
  unfold at_ Mo
  rw [PitMath.outB_at b u.toNat (by omega), rd_def]
  constructor
  · rintro ⟨_, h⟩
    rw [decide_eq_true_eq] at h
    rw [Bool.not_eq_true', decide_eq_false_iff_not]
    omega
  · intro h
    rw [Bool.not_eq_true', decide_eq_false_iff_not] at h
    exact ⟨h0, decide_eq_true (by omega)⟩
theorem most_len {b : List Int} : (listOf (PitMath.outB b)).length ≤ b.length := by
  have := listOf_len (m := PitMath.outB b)
  rwa [PitMath.outB_len] at this
theorem least_mem {d : List Int} {u : Int} (h0 : 0 ≤ u) (h1 : u < d.length) : u ∈ OwnLeast.cutL d ↔ R d u = true := by
  rw [cutL_mem]
  unfold R
  rw [decide_eq_true_eq]
  exact ⟨fun h => h.2.2, fun h => ⟨h0, h1, h⟩⟩
theorem edge_law (n : Int) (l : List S99) (k : Int) (hn : -1 ≤ n ∧ n ≤ 200) (hl : l.length ≤ 2100) : ∃ (m ok b one : Bool), (OwnMendsFlow.mbS n l k (m, ok) ∧ OwnMendsFlow.mbR n l k (m, ok)) ∧ (OwnBlocksFlow.mbS n l k (b, one) ∧ OwnBlocksFlow.mbR n l k (b, one)) ∧
    (ok = true → (0 ≤ k ∧ k < l.length) ∧ ∃ least most : List Int, (OwnLeastCut.lcS n l (least, true) ∧ OwnLeastCut.lcR n l (least, true)) ∧ (OwnGreatestCut.gcS n l (most, true) ∧ OwnGreatestCut.gcR n l (most, true)) ∧ (least.length ≤ 1000 ∧ most.length ≤ 1000) ∧
      m = (decide ((l.getD k.toNat z99).f0 ∈ least) && !(decide ((l.getD k.toNat z99).f1 ∈ most)))) ∧
    (ok = true → one = true → m = true → b = true) := by
  have hr : -9223372036854775808 ≤ n ∧ n ≤ 9223372036854775807 := by omega
  by_cases hN : OwnGreatestCut.netOk n l = true
  · obtain ⟨p, rfl⟩ : ∃ p : Nat, n = (p : Int) := ⟨n.toNat, by have := OwnGreatestCut.netOk_iff.1 hN; omega⟩
    have hE := OwnGreatestCut.edges_ok hN
    obtain ⟨x, hx⟩ := ran_ends p l hE.1.1 hE.2.2
    obtain ⟨y, hy⟩ := ran_ends p (OwnTurn.turnL p l) hE.1.1 (OwnTurn.turn_edges hE.1.2 hE.2.2)
    have D := done hE.1.1 hE.2.2 hx
    have h0 := lev0 (left := flipL x.2.1) D.net (o := (p : Int) - 1) (by omega) (by omega)
    obtain ⟨b, hb⟩ := bfs_ends D.net p _ _ h0.2 h0.1
    obtain ⟨kb, hb⟩ := hb.rounds
    have hs := OwnGreatestCut.same_most hE.1 hE.2.2 hx hy ⟨kb, hb⟩
    have B := back_of D ⟨kb, hb⟩
    have hbl := (bfs_told D.net kb _ _ b hb h0.1).len
    have hdl := D.lev.len
    have hlr : OwnLeastCut.lcR p l (OwnLeast.cutL x.2.2, true) := by
      unfold OwnLeastCut.lcR
      rw [if_pos (show OwnLeastCut.netOk p l = true from hN), Int.toNat_natCast]
      exact ⟨x, hx, rfl⟩
    have hgr : OwnGreatestCut.gcR p l (listOf (PitMath.outB b), true) := by
      unfold OwnGreatestCut.gcR
      rw [if_pos hN, Int.toNat_natCast]
      exact ⟨x, b, hx, ⟨kb, hb⟩, rfl⟩
    have hgs : OwnGreatestCut.gcS p l (listOf (PitMath.outB b), true) := by
      refine ⟨hr, ?_⟩
      rw [if_pos hN, Int.toNat_natCast]
      exact ⟨y, hy, by rw [hs.1]⟩
    obtain ⟨m, ok, hm, hmk⟩ : ∃ m ok : Bool, OwnMendsFlow.mbR p l k (m, ok) ∧ (ok = true → (0 ≤ k ∧ k < l.length) ∧ (m = true ↔ R x.2.2 (l.getD k.toNat z99).f0 = true ∧ Mo b (l.getD k.toNat z99).f1 = false)) := by
      by_cases hM : OwnMendsFlow.mayBe p l k
      · obtain ⟨x', hx'⟩ := ran_ends p (setCap l k 1) hE.1.1 (OwnMendsFlow.changed_ok hM)
        have Y := done hE.1.1 (OwnMendsFlow.changed_ok hM) hx'
        refine ⟨decide (x.1 < x'.1), true, ?_, fun _ => ⟨hM.2.1, ?_⟩⟩
        · unfold OwnMendsFlow.mbR
          rw [if_pos hM, Int.toNat_natCast]
          exact ⟨x', x, hx', hx, rfl⟩
        · rw [decide_eq_true_eq]
          exact mends hM.2.1 D B Y (hE.2.2 k.toNat (by have := hM.2.1; omega))
      · exact ⟨false, false, by unfold OwnMendsFlow.mbR; rw [if_neg hM], fun h => by cases h⟩
    obtain ⟨c, one, hc, hck⟩ : ∃ c one : Bool, OwnBlocksFlow.mbR p l k (c, one) ∧ (one = true → R x.2.2 (l.getD k.toNat z99).f0 = true → Mo b (l.getD k.toNat z99).f1 = false → c = true) := by
      by_cases hM : OwnBlocksFlow.mayBe p l k
      · obtain ⟨x', hx'⟩ := ran_ends p (setCap l k (-1)) hE.1.1 (OwnBlocksFlow.changed_ok hM)
        have Y := done hE.1.1 (OwnBlocksFlow.changed_ok hM) hx'
        refine ⟨decide (x'.1 < x.1), true, ?_, fun _ h1 h2 => ?_⟩
        · unfold OwnBlocksFlow.mbR
          rw [if_pos hM, Int.toNat_natCast]
          exact ⟨x', x, hx', hx, rfl⟩
        · rw [decide_eq_true_eq]
          exact hurts hM.2.1 D B Y (hE.2.2 k.toNat (by have := hM.2.1; omega)) h1 h2
      · exact ⟨false, false, by unfold OwnBlocksFlow.mbR; rw [if_neg hM], fun h => by cases h⟩
    refine ⟨m, ok, c, one, ⟨⟨hr, hm⟩, hm⟩, ⟨⟨hr, hc⟩, hc⟩, fun h => ⟨(hmk h).1, _, _, ⟨⟨hr, hlr⟩, hlr⟩, ⟨hgs, hgr⟩, ⟨?_, ?_⟩, ?_⟩, fun h1 h2 h3 => ?_⟩
    · have := cutL_len x.2.2; omega
    · have := most_len (b := b); omega
    · have hk := (hmk h).1
      have he := hE.2.2 k.toNat (by omega)
      unfold edgeOk at he
      have e1 := least_mem (d := x.2.2) he.1 (by omega)
      have e2 := most_mem (b := b) he.2.2.1 (by omega)
      rw [Bool.eq_iff_iff, (hmk h).2, Bool.and_eq_true, Bool.not_eq_true', decide_eq_true_eq, decide_eq_false_iff_not, e1, e2, Bool.not_eq_true]
    · have := (hmk h1).2.1 h3
      exact hck h2 this.1 this.2
  · have h1 : ¬ OwnMendsFlow.mayBe n l k := fun h => hN h.1
    have h2 : ¬ OwnBlocksFlow.mayBe n l k := fun h => hN h.1
    have h3 : OwnMendsFlow.mbR n l k (false, false) := by unfold OwnMendsFlow.mbR; rw [if_neg h1]
    have h4 : OwnBlocksFlow.mbR n l k (false, false) := by unfold OwnBlocksFlow.mbR; rw [if_neg h2]
    exact ⟨false, false, false, false, ⟨⟨hr, h3⟩, h3⟩, ⟨⟨hr, h4⟩, h4⟩, (fun h => by cases h), (fun h => by cases h)⟩
theorem cross_term (m : List Bool) (e : S99) : (if crosses (fun u => at_ m u) e then e.f2 else 0) = cutTerm m e := by
  unfold cutTerm
  by_cases h1 : at_ m e.f0 = true
  · by_cases h2 : at_ m e.f1 = true
    · rw [if_pos h1, if_pos h2, if_neg (fun h : crosses (fun u => at_ m u) e => by have h3 : at_ m e.f1 = false := h.2; rw [h2] at h3; cases h3)]
    · rw [if_pos h1, if_neg h2, if_pos (show crosses (fun u => at_ m u) e from ⟨h1, by simpa using h2⟩)]
  · rw [if_neg h1, if_neg (fun h : crosses (fun u => at_ m u) e => h1 h.1)]
theorem cutF_sum (m : List Bool) (l : List S99) (i : Nat) (hi : i ≤ l.length) : cutF (tosL l) (leftL l) (fun u => at_ m u) i = foldR (cutAt m l) 0 i 0 := by
  induction i with
  | zero => rw [foldR_end (Nat.le_refl _)]; rfl
  | succ i ih => rw [foldR_last (Nat.zero_le _), cutF_step _ _ _ (by omega), ih (by omega), cross_term]; rfl
theorem cut_law (n : Int) (l : List S99) (c : List Int) (hn : -1 ≤ n ∧ n ≤ 200) (hl : l.length ≤ 2100) (hc : c.length ≤ 1000) : ∃ (v : Int) (three : Bool), Ev (fun k => spec_CutValue.f k n l c) (v, three) ∧ Ev (fun k => impl_CutValue.f k n l c) (v, three) ∧
    (three = true → ∃ f : Int, OwnGreatestFlow.gfR n l (f, true) ∧ f ≤ v) := by
  have h1 := iCutValue_ev n l (maxLen_val (by omega)) c (maxLen_val (by omega))
  have h2 := sCutValue_ev n (by omega) l (maxLen_val (by omega)) c (maxLen_val (by omega))
  obtain ⟨v, three, hq⟩ : ∃ v three, (if (netOk n l && cutOk n.toNat c) = true then (cutSum (mk n.toNat c) l, true) else (0, false)) = ((v, three) : Int × Bool) := ⟨_, _, rfl⟩
  rw [hq] at h1 h2
  refine ⟨v, three, h2, h1, fun h => ?_⟩
  subst h
  split at hq
  · rename_i hh
    rw [Bool.and_eq_true] at hh
    injection hq with hv _
    have hN := hh.1
    obtain ⟨p, rfl⟩ : ∃ p : Nat, n = (p : Int) := ⟨n.toNat, by have := netOk_iff.1 hN; omega⟩
    rw [toNat_nat] at hh hv
    have hE := OwnGreatestCut.edges_ok (show OwnGreatestCut.netOk (p : Int) l = true from hN)
    obtain ⟨x, hx⟩ := ran_ends p l hE.1.1 hE.2.2
    have D := done hE.1.1 hE.2.2 hx
    have hk := hh.2
    unfold cutOk at hk
    rw [Bool.and_eq_true, Bool.and_eq_true, Bool.not_eq_true'] at hk
    have := D.le (C := fun u => at_ (mk p c) u) hk.2.1 hk.2.2
    rw [cutF_sum _ _ _ (Nat.le_refl _)] at this
    refine ⟨x.1, ?_, by rw [← hv]; exact this⟩
    unfold OwnGreatestFlow.gfR
    rw [if_pos (show OwnGreatestFlow.netOk (p : Int) l = true from hN), Int.toNat_natCast]
    exact ⟨x, hx, rfl⟩
  · injection hq with _ h
    cases h
theorem has_l0 (l : List Int) (hl : l.length ≤ maxLen) (u : Int) : ∀ (d i : Nat), i + d = l.length → (∀ j, j < i → l.getD j 0 ≠ u) → Ev (fun k => laws_qHas.l0 k u l (l.length : Int) (i : Int)) (decide (u ∈ l)) := by
  have hl := maxLen_le hl
  intro d
  induction d with
  | zero =>
    intro i hi hb
    refine Ev.step (fun k => laws_qHas.l0.eq_2 u l l.length i k) (ev_neg (by omega) (ev_some ?_))
    refine (decide_eq_false (fun h => ?_)).symm
    obtain ⟨j, hj, he⟩ := mem_getD (z := 0) h
    exact hb j (by omega) he
  | succ d ih =>
    intro i hi hb
    refine Ev.step (fun k => laws_qHas.l0.eq_2 u l l.length i k) ?_
    rw [w_succ (n := l.length) (by omega) (by omega), rd_nat]
    refine ev_pos (by omega) (ev_pos (by omega) (ev_pos (by omega) (ev_ite (fun h => ev_some ?_) (fun h => ih (i + 1) (by omega) (fun j hj => ?_)))))
    · exact (decide_eq_true (by rw [← h]; exact getD_mem (by omega))).symm
    · by_cases e : j = i
      · subst e; exact h
      · exact hb j (by omega)
theorem has_calls (l : List Int) (hl : l.length ≤ maxLen) (u : Int) (A : Option Addr) (c : Nat) (w : World) (h1 : Kd.C (Kd.int .i64) w A l.length l) (e1 : l.length ≤ c) :
    Calls Try.prog 58 #[.slice A l.length c, .int .i64 u] w fun e w' => e = .returned (.bool (decide (u ∈ l))) ∧ Below w.heap.size w w' := by
  have h : Ev (fun k => laws_qHas.f k l u) (decide (u ∈ l)) := by
    unfold laws_qHas.f
    exact has_l0 l hl u l.length 0 (by omega) (fun j hj => by omega)
  obtain ⟨k, hk⟩ := h.rounds
  refine (laws_qHas.calls k A c l u _ w h1 e1 hk).mono ?_
  rintro e w' ⟨h, m, rfl⟩
  exact ⟨h, pw_below_drewN (Below.refl _ _) m⟩
theorem ints_l0 (l : List Int) (hl : l.length ≤ maxLen) : ∀ (d i : Nat), i + d = l.length → Ev (fun k => laws_qInts.l0 k l l (l.length : Int) (i : Int)) true := by
  have hl := maxLen_le hl
  intro d
  induction d with
  | zero =>
    intro i hi
    exact Ev.step (fun k => laws_qInts.l0.eq_2 l l l.length i k) (ev_neg (by omega) (ev_some rfl))
  | succ d ih =>
    intro i hi
    refine Ev.step (fun k => laws_qInts.l0.eq_2 l l l.length i k) ?_
    rw [w_succ (n := l.length) (by omega) (by omega)]
    exact ev_pos (by omega) (ev_pos (by omega) (ev_pos (by omega) (ev_pos (by omega) (ev_pos rfl (ih (i + 1) (by omega))))))
theorem ints_calls (l : List Int) (hl : l.length ≤ maxLen) (A : Option Addr) (c : Nat) (A' : Option Addr) (c' : Nat) (w : World) (h1 : Kd.C (Kd.int .i64) w A l.length l) (e1 : l.length ≤ c) (h2 : Kd.C (Kd.int .i64) w A' l.length l) (e2 : l.length ≤ c') :
    Calls Try.prog 55 #[.slice A l.length c, .slice A' l.length c'] w fun e w' => e = .returned (.bool true) ∧ Below w.heap.size w w' := by
  have h : Ev (fun k => laws_qInts.f k l l) true := by
    unfold laws_qInts.f
    exact ev_pos rfl (ints_l0 l hl l.length 0 (by omega))
  obtain ⟨k, hk⟩ := h.rounds
  refine (laws_qInts.calls k A c l A' c' l true w h1 e1 h2 e2 hk).mono ?_
  rintro e w' ⟨h, m, rfl⟩
  exact ⟨h, pw_below_drewN (Below.refl _ _) m⟩
end Go.Proofs.Ytomfjhpiemipkaa.EdgeLaw
end
