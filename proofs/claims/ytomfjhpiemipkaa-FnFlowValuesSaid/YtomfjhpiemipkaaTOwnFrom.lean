/- The contract of fromSource of impl's residual network, by hand: it does what bfsL says. -/
import Derived.Test.YtomfjhpiemipkaaTOwnLevels
namespace Go.Proofs.Ytomfjhpiemipkaa.OwnFrom
open Go.RowKit Go.Proofs.YtomfjhpiemipkaaW.PrintWords Go.Proofs.YtomfjhpiemipkaaW.PrintLast Go.Proofs.YtomfjhpiemipkaaW.PrintMore Go.Proofs.Ytomfjhpiemipkaa.B Go.Proofs.Ytomfjhpiemipkaa.Flow Go.Proofs.Ytomfjhpiemipkaa.OwnPush Go.Proofs.Ytomfjhpiemipkaa.OwnLevels
set_option linter.unusedVariables false
set_option linter.unusedSimpArgs false
theorem inf4 : (Try.prog.info? 4).map (fun i => (i.zero, i.size, i.bytes)) = some (some (.bool false), 1, 1) := by kernel_rfl
def inB (d : List Int) : List Bool := d.map fun x => decide (0 ≤ x)
def lvB (d : List Int) : List Int := d.map fun x => max 0 x
theorem inB_len (d : List Int) : (inB d).length = d.length := by unfold inB; rw [List.length_map]
theorem inB_at (d : List Int) (u : Int) (h0 : 0 ≤ u) (h : u < d.length) : rdOf false (inB d) u = decide (0 ≤ rd d u) := by
 unfold inB
 rw [rd_def]
 show (List.map (fun x => decide (0 ≤ x)) d).getD u.toNat false = _
 rw [List.getD_eq_getElem?_getD, List.getElem?_map, List.getD_eq_getElem?_getD, List.getElem?_eq_getElem (by omega)]
 rfl
theorem lvB_at (d : List Int) (u : Int) (h0 : 0 ≤ u) (h : u < d.length) : rd (lvB d) u = max 0 (rd d u) := by
 unfold lvB
 rw [rd_def, rd_def, List.getD_eq_getElem?_getD, List.getElem?_map, List.getD_eq_getElem?_getD, List.getElem?_eq_getElem (by omega)]
 rfl
theorem inB_put (d : List Int) (u x : Int) (h : 0 ≤ x) : inB (put d u x) = (inB d).set u.toNat true := by
 unfold inB put
 rw [List.map_set, decide_eq_true h]
theorem lvB_put (d : List Int) (u x : Int) (h : 0 ≤ x) : lvB (put d u x) = (lvB d).set u.toNat x := by
 unfold lvB put
 rw [List.map_set, show max 0 x = x by omega]
theorem inB_d0 (n : Nat) : inB (d0 n 0) = (List.replicate n false).set 0 true := by
 unfold d0
 rw [inB_put _ _ _ (Int.le_refl 0)]
 unfold inB
 rw [List.map_replicate]; rfl
theorem lvB_d0 (n : Nat) : lvB (d0 n 0) = List.replicate n 0 := by
 unfold d0 lvB put
 rw [List.map_set, List.map_replicate]
 apply List.ext_getElem?
 intro i
 rw [List.getElem?_set, List.length_replicate]
 simp only [List.getElem?_replicate]
 split
 ·rename_i h
  split
  ·rw [if_pos (by omega)]; rfl
  ·rw [if_neg (by omega)]
 ·rfl
theorem rows_foot {w : World} {Ae : Addr} {n : Nat} {adj : List (List Int)} {S : Nat → Prop} (hE : ∀ W, Kept w W S → Kd.C kRows W (some Ae) n adj) (u : Int) (h0 : 0 ≤ u) (h1 : u < n) :
  ∃ A0 c0, (row adj u).length ≤ c0 ∧ ∀ W, Kept w W S → W.cell? (Ae.add u.toNat) = some (.slice A0 (row adj u).length c0) ∧ Kd.C (Kd.int .i64) W A0 (row adj u).length (row adj u) := by
 obtain ⟨ad, A0, c0, e, hc, hl, hr⟩ := at_rows (hE w (Kept.refl _ _)) u h0 h1
 injection e with e
 subst e
 refine ⟨A0, c0, hl, fun W hk => ?_⟩
 have hne := Kd.foot_neS hE (by omega) (by decide)
 have hc2 := cell_kept hc hk (by first | exact hne | (simp only [Addr.add]; exact hne) | (unfold Addr.add; split <;> exact hne))
 obtain ⟨ad2, A2, c2, e2, hc3, _, hr2⟩ := at_rows (hE W hk) u h0 h1
 injection e2 with e2
 subst e2
 rw [hc2] at hc3
 injection hc3 with hc3
 injection hc3 with hA _ hcc
 subst hA
 exact ⟨hc2, hr2⟩
def impl_residual_fromSource_T13 : Bool × List (List Nat × List Nat) := (true, [([], []), ([0], [0]), ([1], [1]), ([2], [2]), ([], []), ([4], [4]), ([5], [5]), ([6], [6]), ([], []), ([7, 8], [7, 8]), ([9], [9]), ([], []), ([11], [11]), ([12], [12]), ([13], [13]), ([], []), ([14, 15], [14, 15]), ([16], [16]), ([17], [17]), ([3, 10, 0, 1, 2, 3, 4, 5, 6, 7, 8, 9, 10, 11, 12, 13, 14, 15, 16, 17, 18], [3, 10]), ([19, 18, 0, 1, 2, 3, 4, 5, 6, 7, 8, 9, 10, 11, 12, 13, 14, 15, 16, 17, 18], [18, 19])])
def impl_residual_fromSource_B13 : List Nat := [0, 1, 3, 7, 0, 16, 48, 112, 0, 496, 1008, 0, 2048, 6144, 14336, 0, 63488, 129024, 260096, 524287, 1048575]
theorem impl_residual_fromSource_tab13 : rtab .any (opsOf Try.f148 13) = impl_residual_fromSource_T13 := by kernel_rfl
theorem impl_residual_fromSource_bits13 : waitsOk impl_residual_fromSource_T13.2 impl_residual_fromSource_B13 = true := by kernel_rfl
set_option maxHeartbeats 8000000 in
set_option maxRecDepth 100000 in
theorem from_calls {n m L : Nat} {tos left : List Int} {adj : List (List Int)} {w : World} {p : Nat} {Ae : Addr} {At Al : Option Addr} {ce ct cl : Nat} {vV vX : Value}
  (N : Net n m tos adj) (hn : n ≤ 130) (hm : m ≤ 8000) (hL : L = 2 * m) (hg : Flow.Good m left)
  (hp : w.heap[p]? = some (.cells #[.slice (some Ae) n ce, .slice At L ct, .slice Al L cl, vV, vX] 195 (0, 0)))
  (hE : ∀ W, Kept w W (fun k => k = p) → Kd.C kRows W (some Ae) n adj) (hT : ∀ W, Kept w W (fun k => k = p) → Kd.C (Kd.int .i64) W At L tos) (hl : ∀ W, Kept w W (fun k => k = p) → Kd.C (Kd.int .i64) W Al L left) (k : Nat) (r : List Int) (h : bfsL tos adj left k (d0 n 0) [0] = some r) :
  Calls Try.prog 148 #[.pointer (some ⟨p, 0, none⟩)] w fun e w' => ∃ (gi ci gv cv : Nat), e = .returned (.slice (some ⟨gi, 0, none⟩) n ci) ∧ Kd.R Kd.bool 4 w' w.heap.size (fun k => k = gi) (.slice (some ⟨gi, 0, none⟩) n ci) (inB r) ∧ Kd.R (Kd.int .i64) 3 w' w.heap.size (fun k => k = gv) (.slice (some ⟨gv, 0, none⟩) n cv) (lvB r) ∧
   w'.heap[p]? = some (.cells #[.slice (some Ae) n ce, .slice At L ct, .slice Al L cl, .slice (some ⟨gv, 0, none⟩) n cv, vX] 195 (0, 0)) ∧ gi ≠ gv ∧ Kp w w' (fun k => k = p) := by
 have hu97 := Try.underlying195
 have NN := Aside0.mk N
 have HG := Aside0.mk hg
 have HB0 := Aside0.mk (And.intro (And.intro hn hm) hL)
 have HE := Aside0.mk hE
 have HT := Aside0.mk hT
 have HL := Aside0.mk hl
 have HH := Aside0.mk h
 have hn2 := N.nd
 have HN2 := Aside0.mk hn2
 have BK := Aside0.mk hp
 have HPL := Aside0.mk (blk_lt hp)
 have HK := Aside0.mk (Kp.refl w (fun k => k = p))
 have hc0 : w.cell? ⟨p, 0, none⟩ = some (.slice (some Ae) n ce) := (blk_cell hp 0).trans rfl
 have n0 := eq_true (show 0 ≤ (n : Int) by omega)
 have n1 : decide (0 ≤ (n : Int)) = true := decide_eq_true (by omega)
 have n2 : decide ((n : Int).toNat ≤ 35184372088832) = true := decide_eq_true (by omega)
 have n3 := eq_true (show (n : Int).toNat ≤ 35184372088832 by omega)
 have q1 := eq_true (show (0 : Int) < (n : Int) by omega)
 have q1' := eq_true (show 0 < n by omega)
 clear hp hE hT hl h N hn hm hL hg hn2
 go_enter Try.func148, Try.ntmps148
 go_wp2_with (first
  | ((with_reducible refine gate_dst (N := 14) rfl ?_); refine Kd.R_make (Kd.int .i64) _ 3 rfl (N := 14) rfl 24 _ _ rfl (n : Int) rfl rfl Try.underlying24 (.int .i64 0) 8 inf3 rfl (by decide) (by omega) 0 (ok := fun _ => True) (okp := fun _ => True) rfl (fun _ hk => hk) trivial (of_decide_eq_true (by first | (with_reducible assumption) | assumption)) (Nat.le_trans (Nat.mul_le_mul_right _ (of_decide_eq_true (by first | (with_reducible assumption) | assumption) : (n : Int).toNat ≤ 35184372088832)) (by omega)) (Below.refl _ _) (Nat.le_refl _) ?_; intro vb w1 ho8 hb hg_ hnew_; clear hg_ hnew_ hc0; rw [Int.toNat_natCast] at ho8; obtain ⟨gv, cv, eo, gb, gl_, cl_, HG_⟩ := Kd.R_form ho8 (by rw [List.length_replicate]; have := HN2.out; omega); rw [List.length_replicate] at eo; subst eo; have HGV := Aside0.mk gb; have n1_ := Aside0.mk (HK.out.below hb); have n2_ := Aside0.mk (blk_below BK.out hb); have n3_ : Aside0 (Kd.R (Kd.int .i64) 3 (w1.setCell ⟨p, 3, none⟩ (.slice (some ⟨gv, 0, none⟩) n cv)) w.heap.size (fun k => k = gv) (.slice (some ⟨gv, 0, none⟩) n cv) (List.replicate n 0)) := ⟨Kd.R_far (Kd.R_mono (Kd.R_tight rfl ho8) (fun k hk => Option.some.inj hk)) (fun k hk e_ => by have h1_ := HPL.out; have h2_ := HGV.out; rw [hk] at e_; replace e_ : gv = p := e_; omega) _⟩; have hc3 := (blk_cell n2_.out 3).trans (show _ = some _ from rfl); have hf3 := blk_frozen n2_.out 3; have n4_ : Aside0 ((w1.setCell ⟨p, 3, none⟩ (.slice (some ⟨gv, 0, none⟩) n cv)).heap[p]? = some (.cells #[.slice (some Ae) n ce, .slice At L ct, .slice Al L cl, .slice (some ⟨gv, 0, none⟩) n cv, vX] 195 (0, 0))) := ⟨blk_put n2_.out 3 _ rfl⟩; have n5_ := Aside0.mk (Kp.setCell (p := ⟨p, 3, none⟩) n1_.out (Or.inl rfl) (.slice (some ⟨gv, 0, none⟩) n cv)); have hc0 := (blk_cell n4_.out 0).trans (show _ = some _ from rfl); clear HK BK n1_ n2_; have HK := n5_; have BK := n4_; have HV := n3_; clear n3_ n4_ n5_ gb gl_ cl_ HG_ hb ho8)
  | ((with_reducible refine gate_dst (N := 22) rfl ?_); refine Kd.R_make Kd.bool _ 4 rfl (N := 22) rfl 157 _ _ rfl (n : Int) rfl rfl Try.underlying157 (.bool false) 1 inf4 rfl (by decide) (by omega) false (ok := fun _ => True) (okp := fun _ => True) rfl (fun _ hk => hk) trivial (of_decide_eq_true (by first | (with_reducible assumption) | assumption)) (Nat.le_trans (Nat.mul_le_mul_right _ (of_decide_eq_true (by first | (with_reducible assumption) | assumption) : (n : Int).toNat ≤ 35184372088832)) (by omega)) (Below.refl _ _) (Nat.le_refl _) ?_; intro vb w2 ho8 hb hg_ hnew_; clear hg_ hnew_ hc0 hc3 hf3; rw [Int.toNat_natCast] at ho8; obtain ⟨gi, ci, eo, gb, gl_, cl_, HG_⟩ := Kd.R_form ho8 (by rw [List.length_replicate]; have := HN2.out; omega); rw [List.length_replicate] at eo; subst eo; have HGI := Aside0.mk gb; have hgvl := Kd.R_lt HV.out gv rfl; have HGN : Aside0 (gi ≠ gv) := ⟨by omega⟩; have HGP : Aside0 (gi ≠ p ∧ gv ≠ p) := ⟨by have h1_ := blk_lt BK.out; have h2_ := HGV.out; have h3_ := HPL.out; omega⟩; obtain ⟨hczi, hfzi⟩ := Kd.R_celln false ho8 0 (Int.le_refl 0) (by have := HN2.out; omega); replace hczi : w2.cell? ⟨gi, 0, none⟩ = some (.bool (rdOf false (List.replicate n false) 0)) := hczi; replace hfzi : w2.frozen? ⟨gi, 0, none⟩ = false := hfzi; have n0_ := Aside0.mk (Kp.setCell (p := ⟨gi, 0, none⟩) (HK.out.below hb) (Or.inr (Nat.le_trans HK.out.1.1 HGI.out)) (.bool true)); have n1_ := Aside0.mk (blk_far (p := ⟨gi, 0, none⟩) (blk_below BK.out hb) (fun e_ => HGP.out.1 e_.symm) (.bool true)); have n2_ := Aside0.mk (Kd.R_far (p := ⟨gi, 0, none⟩) (Kd.R_below HV.out hb) (fun k hk e_ => HGN.out (by rw [← hk]; exact e_.symm)) (.bool true)); have n3_ : Aside0 (Kd.R Kd.bool 4 (w2.setCell ⟨gi, 0, none⟩ (.bool true)) w.heap.size (fun k => k = gi) (.slice (some ⟨gi, 0, none⟩) n ci) ((List.replicate n false).set 0 true)) := ⟨Kd.R_mono (Kd.R_tight rfl (Kd.R_lower (Kd.R_putn ho8 0 true) HK.out.1.1)) (fun k hk => Option.some.inj hk)⟩; clear HK BK HV; have HK := n0_; have BK := n1_; have HV := n2_; have HI := n3_; clear n0_ n1_ n2_ n3_ gb gl_ cl_ HG_ hb ho8 hgvl)
  | ((with_reducible refine gate_dst (N := 25) rfl ?_); refine Kd.R_lit (Kd.int .i64) _ 3 ?hg (N := 25) ?hd (xs := [(0 : Int)]) (inner := [.int .i64 0]) (ok := fun _ => True) (okp := fun _ => False) ?hr ?hp (fun _ hk => hk.elim) trivial (Below.refl _ _) (Nat.le_refl _) (by simp) ?_; (case hd => rfl); (case hg => rfl); (case hr => first | (go_simp; done) | (go_simp; rfl)); (case hp => exact Kd.reps_scalar [(0 : Int)]); intro vq w3 ho3 hb hg_ hnew_; clear hg_ hnew_ hczi hfzi; have n0_ := Aside0.mk (HK.out.below hb); have n1_ := Aside0.mk (blk_below BK.out hb); have n2_ := Aside0.mk (Kd.R_elder HV.out ho3 hb); have n3_ := Aside0.mk (Kd.R_elder HI.out ho3 hb); have n4_ : Aside0 (Kd.Q (Kd.int .i64) 3 w3 w.heap.size (fun k => (k ≠ gi ∧ k ≠ gv) ∧ k ≠ p) vq [0]) := ⟨Kd.Q_of_R (Kd.R_lower (Kd.R_mono (Kd.R_bound ho3) (fun k hk => ⟨⟨by have := Kd.R_lt HI.out gi rfl; omega, by have := Kd.R_lt HV.out gv rfl; omega⟩, by have := blk_lt BK.out; omega⟩)) HK.out.1.1)⟩; clear HK BK HV HI; have HK := n0_; have BK := n1_; have HV := n2_; have HI := n3_; have HQ := n4_; clear n0_ n1_ n2_ n3_ n4_ hb ho3))
 have HV0 : Aside0 (Kd.R (Kd.int .i64) 3 w3 w.heap.size (fun k => k = gv ∧ some k ≠ vq.ownBlock) (.slice (some ⟨gv, 0, none⟩) n cv) (lvB (d0 n 0))) := ⟨by rw [lvB_d0]; exact HV.out⟩
 have HI0 : Aside0 (Kd.R Kd.bool 4 w3 w.heap.size (fun k => k = gi ∧ some k ≠ vq.ownBlock) (.slice (some ⟨gi, 0, none⟩) n ci) (inB (d0 n 0))) := ⟨by rw [inB_d0]; exact HI.out⟩
 clear HV HI
 go_loopg [4] (k) (fun c v4 wr => ∃ (d q : List Int), Aside0 (bfsL tos adj left c d q = some r) ∧ Aside0 (Lev n m tos adj 0 left d q (-1) 0) ∧ Aside0 (q.length + unre d ≤ n) ∧ Aside0 (wr.heap[p]? = some (.cells #[.slice (some Ae) n ce, .slice At L ct, .slice Al L cl, .slice (some ⟨gv, 0, none⟩) n cv, vX] 195 (0, 0))) ∧ Aside0 (Kd.R (Kd.int .i64) 3 wr w.heap.size (fun k => k = gv ∧ some k ≠ v4.ownBlock) (.slice (some ⟨gv, 0, none⟩) n cv) (lvB d)) ∧ Aside0 (Kd.R Kd.bool 4 wr w.heap.size (fun k => k = gi ∧ some k ≠ v4.ownBlock) (.slice (some ⟨gi, 0, none⟩) n ci) (inB d)) ∧ Aside0 (Kd.Q (Kd.int .i64) 3 wr w.heap.size (fun k => (k ≠ gi ∧ k ≠ gv) ∧ k ≠ p) v4 q) ∧ Aside0 (Kp w wr (fun k => k = p)))
 case atStart =>
  have hl0 := lev0 (left := left) NN.out (o := 0) (by omega) (by have := HN2.out; omega)
  exact ⟨d0 n 0, [0], HH, ⟨hl0.1⟩, ⟨hl0.2⟩, BK, HV0, HI0, HQ, HK⟩
 case round =>
  clear HK BK HQ HH HV0 HI0
  obtain ⟨d, q, HBF, HLV, HUN, BK, HV, HI, HQ, HK⟩ := hrel
  obtain ⟨A4, c4, e4, hc4⟩ := Kd.Q_slice HQ.out
  subst e4
  cases gk with
  | zero => have := HBF.out; cases this
  | succ c =>
   cases q with
   | nil =>
    obtain ⟨ql, eql⟩ : ∃ z, z = ([] : List Int).length := ⟨_, rfl⟩
    have t1 : decide ((0 : Int) < (ql : Int)) = false := by rw [eql]; rfl
    have t1' : decide (0 < ql) = false := by rw [eql]; rfl
    have q3 := eq_false (show ¬ 0 < ql by rw [eql]; exact Nat.lt_irrefl 0)
    have q4 := eq_false (show ¬ (0 : Int) < (ql : Int) by rw [eql]; decide)
    rw [← eql]
    clear eql
    have h := HBF.out
    injection h with h
    subst h
    go_wp2_with fail
    go_ret
    exact ⟨gi, ci, gv, cv, rfl, Kd.R_mono HI.out (fun _ hk => hk.1), Kd.R_mono HV.out (fun _ hk => hk.1), BK.out, HGN.out, HK.out⟩
   | cons u q' =>
    obtain ⟨ql, eql⟩ : ∃ z, z = (u :: q').length := ⟨_, rfl⟩
    have t1 : decide ((0 : Int) < (ql : Int)) = true := decide_eq_true (by rw [eql, List.length_cons]; omega)
    have t1' : decide (0 < ql) = true := decide_eq_true (by rw [eql, List.length_cons]; omega)
    have q3 := eq_true (show 0 < ql by rw [eql, List.length_cons]; omega)
    have q4 := eq_true (show (0 : Int) < (ql : Int) by rw [eql, List.length_cons]; omega)
    have hlev := HLV.out
    have hu := hlev.wait u (List.mem_cons_self ..)
    have HLQ := Aside0.mk hlev
    have HLU : Aside0 (Lev n m tos adj 0 left d q' u 0) := ⟨⟨hlev.len, hlev.lo, hlev.hi, fun v hv => hlev.wait v (List.mem_cons_of_mem _ hv), hlev.org, hlev.src, hlev.zero, hlev.pred, fun v v0 v1 hv hq hx => hlev.clos v v0 v1 hv (by rw [List.mem_cons]; exact fun e => e.elim hx hq) (by omega), fun i hi => by omega⟩⟩
    have HBQ : Aside0 (bfsL tos adj left c (scan tos left (rd d u + 1) (row adj u) d q').1 (scan tos left (rd d u + 1) (row adj u) d q').2 = some r) := ⟨HBF.out⟩
    have HU := Aside0.mk hu
    have HTOT : Aside0 (q'.length + 1 + unre d ≤ n) := HUN
    have q0 := eq_true hu.1.1
    have q2 := eq_true hu.1.2
    obtain ⟨aq, eA, hcq⟩ := Kd.at_int (Kd.Q_reads' HQ.out).2.2 0 (Int.le_refl 0) (by show (0 : Int) < (((u :: q').length : Nat) : Int); rw [List.length_cons]; omega)
    subst eA
    have hcq : wr.cell? aq = some (.int .i64 u) := by rw [show aq.add (0 : Int).toNat = aq from rfl] at hcq; exact hcq
    obtain ⟨i0, hi0, _, hsz, _⟩ := info_parts inf3
    have hcut := cut_from (P := Try.prog) 24 3 .i64 Try.underlying24 hi0 1 hsz (some aq) (u :: q').length c4 1 (by omega) (by rw [List.length_cons]; omega)
    have hr := Kd.Q_drop (k := (1 : Int).toNat) HQ.out (by show 1 ≤ (u :: q').length; rw [List.length_cons]; omega)
    obtain ⟨A5, hA5⟩ : ∃ A1, A1 = (if c4 = (1 : Int).toNat then some aq else (some aq : Option Addr).map (·.add ((1 : Int).toNat * 1))) := ⟨_, rfl⟩
    obtain ⟨c5, hc5⟩ : ∃ c1, c1 = c4 - (1 : Int).toNat := ⟨_, rfl⟩
    have hy : q'.length = (u :: q').length - (1 : Int).toNat := rfl
    rw [← hy, ← hA5, ← hc5] at hcut
    have hr : Kd.Q (Kd.int .i64) 3 wr w.heap.size (fun k => (k ≠ gi ∧ k ≠ gv) ∧ k ≠ p) (.slice A5 q'.length c5) q' := by rw [hA5, hc5, hy]; exact hr
    have HEO : Aside0 ((Value.slice A5 q'.length c5).ownBlock = (Value.slice (some aq) (u :: q').length c4).ownBlock) := ⟨by rw [hA5]; split <;> rfl⟩
    clear hy hi0 hsz HQ hA5 hc5 hlev HLV HBF
    have HQ := Aside0.mk hr
    have n0_ := Aside0.mk (Kd.R_mono (ok' := fun k => k = gv ∧ some k ≠ (Value.slice A5 q'.length c5).ownBlock) HV.out (fun k hk => ⟨hk.1, by rw [HEO.out]; exact hk.2⟩))
    have n1_ := Aside0.mk (Kd.R_mono (ok' := fun k => k = gi ∧ some k ≠ (Value.slice A5 q'.length c5).ownBlock) HI.out (fun k hk => ⟨hk.1, by rw [HEO.out]; exact hk.2⟩))
    clear HV HI hr
    have HV := n0_
    have HI := n1_
    clear n0_ n1_ HEO hu
    obtain ⟨A0, c0, hlc, hrf⟩ := rows_foot HE.out u HU.out.1.1 HU.out.1.2
    have hch := (hrf _ HK.out.1).1
    have hrow := (hrf _ HK.out.1).2
    have hc0 := (blk_cell BK.out 0).trans (show _ = some _ from rfl)
    rw [← eql] at hcut ⊢
    obtain ⟨len, elen⟩ : ∃ z, z = (row adj u).length := ⟨_, rfl⟩
    have hm1 := Kd.C_max hrow
    rw [← elen] at hch hm1
    have HROW := Aside0.mk hrf
    have HLEN := Aside0.mk elen
    have HLB := Aside0.mk hm1
    clear hrow elen hm1 eql hlc hrf
    obtain ⟨lv, elv⟩ : ∃ z, z = rd d u + 1 := ⟨_, rfl⟩
    have HLVL := Aside0.mk elv
    clear elv
    go_wp2_with fail
    clear hcq hcut hc0 hch q3 q4 t1 t1'
    go_loopg [4, 42] (len) (fun c2 v4 v42 w2 => ∃ (j : Int) (d2 q2 : List Int), v42 = .int .i64 j ∧ Aside0 (0 ≤ j ∧ j + c2 = len) ∧ Aside0 (foldR (scanAt tos left lv (row adj u)) 0 j.toNat (d, q') = (d2, q2)) ∧ Aside0 (w2.heap[p]? = some (.cells #[.slice (some Ae) n ce, .slice At L ct, .slice Al L cl, .slice (some ⟨gv, 0, none⟩) n cv, vX] 195 (0, 0))) ∧ Aside0 (Kd.R (Kd.int .i64) 3 w2 w.heap.size (fun k => k = gv ∧ some k ≠ v4.ownBlock) (.slice (some ⟨gv, 0, none⟩) n cv) (lvB d2)) ∧ Aside0 (Kd.R Kd.bool 4 w2 w.heap.size (fun k => k = gi ∧ some k ≠ v4.ownBlock) (.slice (some ⟨gi, 0, none⟩) n ci) (inB d2)) ∧ Aside0 (Kd.Q (Kd.int .i64) 3 w2 w.heap.size (fun k => (k ≠ gi ∧ k ≠ gv) ∧ k ≠ p) v4 q2) ∧ Aside0 (Kp w w2 (fun k => k = p)))
    case atStart => exact ⟨0, d, q', rfl, ⟨by omega⟩, ⟨by rw [show (0 : Int).toNat = 0 from rfl, foldR_end (Nat.le_refl _)]⟩, BK, HV, HI, HQ, HK⟩
    case round =>
     clear HK BK HQ HV HI
     obtain ⟨j, d2, q2, rfl, HJ, HF2, BK, HV, HI, HQ, HK⟩ := hrel
     obtain ⟨A6, c6, e6, hc6⟩ := Kd.Q_slice HQ.out
     subst e6
     have hjn := HJ.out
     cases gk with
     | zero =>
      have t2 : decide (j < (len : Int)) = false := decide_eq_false (by omega)
      clear hjn
      go_wp2_with fail
      go_roundg c
      case measure => omega
      case rel =>
       have hjn := HJ.out
       have hsc : scan tos left lv (row adj u) d q' = (d2, q2) := by
        unfold scan
        rw [← HLEN.out, ← HF2.out]
        congr 1; omega
       have hup := scan_told (adj := adj) NN.out (u := u) (d := d) (q := q') HLQ.out
       rw [← HLVL.out, hsc] at hup
       have hh := HBQ.out
       rw [← HLVL.out, hsc] at hh
       have htot := HTOT.out
       have h2 := hup.2
       replace h2 : q2.length + unre d2 = q'.length + unre d := h2
       exact ⟨d2, q2, ⟨hh⟩, ⟨hup.1⟩, ⟨by omega⟩, BK, HV, HI, HQ, HK⟩
     | succ c2 =>
      have t2 : decide (j < (len : Int)) = true := decide_eq_true (by omega)
      obtain ⟨e, ee⟩ : ∃ z, z = rd (row adj u) j := ⟨_, rfl⟩
      have hmem : e ∈ row adj u := by rw [ee]; exact row_mem hjn.1 (by rw [← HLEN.out]; omega)
      have hE := NN.out.row u HU.out.1.1 HU.out.1.2 e hmem
      have hTe := NN.out.rng e hE.1.1 hE.1.2
      obtain ⟨te, et⟩ : ∃ z, z = rd tos e := ⟨_, rfl⟩
      obtain ⟨le, el⟩ : ∃ z, z = rd left e := ⟨_, rfl⟩
      rw [← et] at hTe
      have heL : e < (L : Int) := by rw [HB0.out.2]; have := hE.1.2; omega
      obtain ⟨dt, edt⟩ : ∃ z, z = rd d2 te := ⟨_, rfl⟩
      have hup := scan_upto NN.out HU.out.1.1 HU.out.1.2 HU.out.2 HLU.out j.toNat (by rw [← HLEN.out]; omega)
      rw [← HLVL.out, HF2.out] at hup
      have hdlen : d2.length = n := hup.1.len
      have hdu : rd d2 u = rd d u := hup.2.1
      have hhi := hup.1.hi u HU.out.1.1 HU.out.1.2
      replace hhi : rd d2 u + unre d2 ≤ (n : Int) - 1 := hhi
      have hn130 := HB0.out.1.1
      have hud := HU.out.2
      obtain ⟨du, edu⟩ : ∃ z, z = rd d2 u := ⟨_, rfl⟩
      have HDU := Aside0.mk (show max 0 (rd d2 u) = du by omega)
      have HWL := Aside0.mk (show wrap64 (du + 1) = lv by rw [w64 (by omega) (by omega), HLVL.out]; omega)
      have q3 := eq_true hjn.1
      have q4 := eq_true (show j < (len : Int) by omega)
      have q5 := eq_true hE.1.1
      have q6 := eq_true heL
      have q7 := eq_true hTe.1
      have q8 := eq_true hTe.2
      obtain ⟨ar, eR, hce⟩ := Kd.at_int (HROW.out _ HK.out.1).2 j hjn.1 (by rw [← HLEN.out]; omega)
      subst eR
      rw [← ee] at hce
      have hc2 := (blk_cell BK.out 2).trans (show _ = some _ from rfl)
      have hc1 := (blk_cell BK.out 1).trans (show _ = some _ from rfl)
      obtain ⟨al_, eL, hcle⟩ := Kd.at_int (HL.out _ HK.out.1) e hE.1.1 heL
      subst eL
      rw [← el] at hcle
      obtain ⟨at_, eT, hcto⟩ := Kd.at_int (HT.out _ HK.out.1) e hE.1.1 heL
      subst eT
      rw [← et] at hcto
      obtain ⟨hcd, hfd⟩ := Kd.R_celln false HI.out te hTe.1 hTe.2
      rw [inB_at d2 te hTe.1 (by rw [hdlen]; exact hTe.2), ← edt] at hcd
      have HSA : Aside0 (scanAt tos left lv (row adj u) (d2, q2) j.toNat = if 0 < le ∧ dt < 0 then (put d2 te lv, q2 ++ [te]) else (d2, q2)) := ⟨by unfold scanAt; rw [show ((j.toNat : Nat) : Int) = j by omega, ← ee, ← el, ← et, ← edt]⟩
      have HTE := Aside0.mk hTe
      have HEL := Aside0.mk (And.intro hE.1.1 heL)
      have HTO := Aside0.mk et
      have HDL := Aside0.mk hdlen
      have HLV0 : Aside0 (0 ≤ lv) := ⟨by rw [HLVL.out]; omega⟩
      have HQL : Aside0 (q2.length ≤ 130) := ⟨by have h2 := hup.2.2; replace h2 : q2.length + unre d2 = q'.length + unre d := h2; have := HTOT.out; omega⟩
      by_cases z1 : 0 < le
      ·have t3 : decide (0 < le) = true := decide_eq_true z1
       by_cases z2 : dt < 0
       ·have t4 : decide (0 ≤ dt) = false := decide_eq_false (by omega)
        have t5 : (0 ≤ dt) = False := eq_false (by omega)
        have Z := Aside0.mk (And.intro z1 z2)
        clear z1 z2 hjn hmem hE hTe et el edt hup hdu hhi hn130 hud heL ee edu hdlen
        go_wp2_with fail
        clear hce hcle hcto hc1 hc2 hcd hfd
        have n0_ := Aside0.mk (blk_far (p := ⟨gi, te.toNat, none⟩) BK.out (fun e_ => HGP.out.1 e_.symm) (.bool true))
        have n1_ := Aside0.mk (Kd.R_far (p := ⟨gi, te.toNat, none⟩) HV.out (fun k hk e_ => HGN.out (by rw [← hk.1]; exact e_.symm)) (.bool true))
        have n2_ : Aside0 (Kd.R Kd.bool 4 (wr.setCell ⟨gi, te.toNat, none⟩ (.bool true)) w.heap.size (fun k => k = gi ∧ some k ≠ (Value.slice A6 q2.length c6).ownBlock) (.slice (some ⟨gi, 0, none⟩) n ci) ((inB d2).set te.toNat true)) := ⟨Kd.R_putn HI.out te true⟩
        have n3_ := Aside0.mk (Kd.Q_far (p := ⟨gi, te.toNat, none⟩) HQ.out (fun k hk => hk.1.1) (.bool true))
        have n4_ := Aside0.mk (Kp.setCell (p := ⟨gi, te.toNat, none⟩) HK.out (Or.inr (Kd.R_base HI.out gi rfl)) (.bool true))
        clear BK HV HI HQ HK
        generalize wr.setCell ⟨gi, te.toNat, none⟩ (.bool true) = wx at n0_ n1_ n2_ n3_ n4_ ⊢
        have BK := Aside0.mk (blk_drew n0_.out)
        have HV := Aside0.mk (Kd.R_drew n1_.out)
        have HI := Aside0.mk (Kd.R_drew n2_.out)
        have HQ := Aside0.mk (Kd.Q_drew n3_.out)
        have HK := Aside0.mk (Kp.drew n4_.out)
        clear n0_ n1_ n2_ n3_ n4_
        have hc3 := (blk_cell BK.out 3).trans (show _ = some _ from rfl)
        have hc1 := (blk_cell BK.out 1).trans (show _ = some _ from rfl)
        obtain ⟨at2_, eT, hcto⟩ := Kd.at_int (HT.out _ HK.out.1) e HEL.out.1 HEL.out.2
        injection eT with eT
        subst eT
        rw [← HTO.out] at hcto
        obtain ⟨hcu, hfu⟩ := Kd.R_celln 0 HV.out u HU.out.1.1 HU.out.1.2
        rw [show rdOf 0 (lvB d2) u = du from (lvB_at d2 u HU.out.1.1 (by rw [HDL.out]; exact HU.out.1.2)).trans HDU.out] at hcu
        obtain ⟨hcv, hfv⟩ := Kd.R_celln 0 HV.out te HTE.out.1 HTE.out.2
        refine start_ (n := 21) (S := fun w' => w'.cell? ⟨p, 3, none⟩ = some (.slice (some ⟨gv, 0, none⟩) n cv) ∧ w'.cell? ⟨p, 1, none⟩ = some (.slice (some at_) L ct) ∧ w'.cell? (at_.add e.toNat) = some (.int .i64 te) ∧ w'.cell? ⟨gv, u.toNat, none⟩ = some (.int .i64 du)) (ds := [20]) (fl 21 0) (by kernel_rfl) rfl rfl ⟨hc3, hc1, hcto, hcu⟩ (fun hHeld => ?_)
        refine with_tabW impl_residual_fromSource_tab13 impl_residual_fromSource_bits13 (fun HT_ HW_ => ?_)
        generalize wx.drew = wy at BK HV HI HQ HK hcv hfv hHeld ⊢
        refine wp_in [(0, 76, 1, 0), (1, 77, 3, 0), (2, 78, 7, 0), (4, 80, 23, 0), (5, 81, 55, 0), (6, 82, 119, 0), (8, 84, 375, 0), (11, 87, 2423, 0), (12, 88, 6519, 0), (13, 89, 14711, 0), (15, 91, 47479, 0), (3, 79, 47487, 1), (7, 83, 47615, 1), (9, 85, 48127, 0), (10, 86, 49151, 1), (14, 90, 65535, 1), (16, 92, 131071, 0), (17, 93, 262143, 1), (18, 94, 524287, 0), (19, 95, 1048575, 0)] 21 ?_
        iterate 20 (first | (refine pn_ (oi := ?_) (v := ?_) (a' := ?_) HT_.out ?_ ?_ ?_ ?_ ?_ ?_ ?_ ?_; rotate_left 3; rfl; rfl; kernel_rfl; exact fun _ _ _ h => h; rfl; intro w'; go_simp; with_reducible rfl; simp only [Act.put, List.setIfInBounds_toArray, List.set_cons_zero, List.set_cons_succ, i64_w, i32_w]; rfl) | (refine tn_ (oi := ?_) (v := ?_) (a' := ?_) HT_.out HW_.out hHeld ?_ ?_ ?_ ?_ ?_ ?_ ?_ ?_; rotate_left 3; rfl; rfl; kernel_rfl; exact fun _ _ _ h => h; rfl; rintro w' ⟨s0, s1, s2, s3⟩; go_simp; with_reducible rfl; simp only [Act.put, List.setIfInBounds_toArray, List.set_cons_zero, List.set_cons_succ, i64_w, i32_w]; rfl))
        refine wp_out ?_
        refine last_ (i := 20) (N := none) (fl 21 2097151) rfl rfl (one_of HT_.out (by kernel_rfl)) (by decide) (fun K hK => ?_)
        refine skip_ (w1 := ?_) (by rfl) rfl ?_ ?_
        rotate_left
        ·go_simp
         rfl
        refine hK.out _ _ ?_
        clear hK K
        refine done_ (done_of HT_.out (by kernel_rfl)) ?_
        clear hc3 hc1 hcto hcu hfu hcv hfv
        have n0_ := Aside0.mk (blk_far (p := ⟨gv, te.toNat, none⟩) BK.out (fun e_ => HGP.out.2 e_.symm) (.int .i64 (wrap64 (du + 1))))
        have n1_ : Aside0 (Kd.R (Kd.int .i64) 3 (wy.setCell ⟨gv, te.toNat, none⟩ (.int .i64 (wrap64 (du + 1)))) w.heap.size (fun k => k = gv ∧ some k ≠ (Value.slice A6 q2.length c6).ownBlock) (.slice (some ⟨gv, 0, none⟩) n cv) (lvB (put d2 te lv))) := ⟨by rw [lvB_put _ _ _ HLV0.out, HWL.out]; exact Kd.R_putn HV.out te lv⟩
        have n2_ := Aside0.mk (Kd.R_far (p := ⟨gv, te.toNat, none⟩) HI.out (fun k hk e_ => HGN.out (by rw [← hk.1]; exact e_)) (.int .i64 (wrap64 (du + 1))))
        have n3_ := Aside0.mk (Kd.Q_far (p := ⟨gv, te.toNat, none⟩) HQ.out (fun k hk => hk.1.2) (.int .i64 (wrap64 (du + 1))))
        have n4_ := Aside0.mk (Kp.setCell (p := ⟨gv, te.toNat, none⟩) HK.out (Or.inr (Kd.R_base HV.out gv rfl)) (.int .i64 (wrap64 (du + 1))))
        clear BK HV HI HQ HK
        generalize wy.setCell ⟨gv, te.toNat, none⟩ (.int .i64 (wrap64 (du + 1))) = wz at n0_ n1_ n2_ n3_ n4_ ⊢
        have BK := n0_
        have HV := n1_
        have HI := n2_
        have HQ := n3_
        have HK := n4_
        clear n0_ n1_ n2_ n3_ n4_
        have hc1 := (blk_cell BK.out 1).trans (show _ = some _ from rfl)
        obtain ⟨at3_, eT, hcto⟩ := Kd.at_int (HT.out _ HK.out.1) e HEL.out.1 HEL.out.2
        injection eT with eT
        subst eT
        rw [← HTO.out] at hcto
        go_wp2_with (first | ((with_reducible refine gate_builtin (b := .append) (xs := #[.tmp 96, .tmp 104]) rfl ?_); at_builtin; refine Kd.Q_append (Kd.int .i64) (w0 := wz) w.heap.size rfl (.tmp 96) (.tmp 104) 24 3 (.int .i64 0) 8 rfl Try.underlying24 inf3 rfl (by decide) (by omega) (.slice A6 q2.length c6) q2 te [.int .i64 te] (fun k => (k ≠ gi ∧ k ≠ gv) ∧ k ≠ p) (fun _ => False) rfl rfl ?aP (fun _ hk => hk.elim) ?aF ?aO ?aB ?aS ?aL ?_; (case aP => exact rfl); (case aB => exact Below.refl _ _); (case aF => exact (fun k hk => ⟨⟨by have h1_ := Kd.R_lt HI.out gi rfl; omega, by have h1_ := Kd.R_lt HV.out gv rfl; omega⟩, by have h1_ := blk_lt BK.out; omega⟩)); (case aO => exact HQ.out); (case aS => exact HK.out.1.1); (case aL => have h1_ := HQL.out; omega); intro v229 w10 ho hb hg hat; have n0_ := Aside0.mk ((hb.block p HPL.out).trans BK.out); have n1_ := Aside0.mk (Kd.R_after HV.out hg hat); have n2_ := Aside0.mk (Kd.R_after HI.out hg hat); have n3_ := Aside0.mk ho; have n4_ : Aside0 (Kp w w10 (fun k => k = p)) := ⟨⟨⟨Nat.le_trans HK.out.1.1 hb.size, fun i hi hn => (hb.block i hi).trans (HK.out.1.2 i hi hn)⟩, below0 HK.out.2 hb⟩⟩; clear BK HV HI HQ HK; have BK := n0_; have HV := n1_; have HI := n2_; have HQ := n3_; have HK := n4_; clear n0_ n1_ n2_ n3_ n4_; clear ho hb hg hat hc1 hcto))
        go_roundg c2
        case measure => omega
        case rel =>
         have hjn := HJ.out
         have HI2 : Aside0 (Kd.R Kd.bool 4 w10 w.heap.size (fun k => k = gi ∧ some k ≠ v229.ownBlock) (.slice (some ⟨gi, 0, none⟩) n ci) (inB (put d2 te lv))) := ⟨by rw [inB_put _ _ _ HLV0.out]; exact HI.out⟩
         refine ⟨j + 1, put d2 te lv, q2 ++ [te], by rw [w64 (by omega) (by have := HLB.out; omega)], ⟨by omega⟩, ⟨?_⟩, BK, HV, HI2, HQ, HK⟩
         rw [show (j + 1).toNat = j.toNat + 1 by omega, foldR_last (Nat.zero_le _), HF2.out, HSA.out, if_pos Z.out]
       ·have t4 : decide (0 ≤ dt) = true := decide_eq_true (by omega)
        have t5 : (0 ≤ dt) = True := eq_true (by omega)
        have Z : Aside0 (¬ (0 < le ∧ dt < 0)) := ⟨fun h => z2 h.2⟩
        clear z1 z2 hjn hmem hE hTe et el edt hup hdu hhi hn130 hud heL ee edu hdlen
        go_wp2_with fail
        go_roundg c2
        case measure => omega
        case rel =>
         have hjn := HJ.out
         refine ⟨j + 1, d2, q2, by rw [w64 (by omega) (by have := HLB.out; omega)], ⟨by omega⟩, ⟨?_⟩, BK, HV, HI, HQ, HK⟩
         rw [show (j + 1).toNat = j.toNat + 1 by omega, foldR_last (Nat.zero_le _), HF2.out, HSA.out, if_neg Z.out]
      ·have t3 : decide (0 < le) = false := decide_eq_false z1
       have Z : Aside0 (¬ (0 < le ∧ dt < 0)) := ⟨fun h => z1 h.1⟩
       clear z1 hjn hmem hE hTe et el edt hup hdu hhi hn130 hud heL ee edu hdlen
       go_wp2_with fail
       go_roundg c2
       case measure => omega
       case rel =>
        have hjn := HJ.out
        refine ⟨j + 1, d2, q2, by rw [w64 (by omega) (by have := HLB.out; omega)], ⟨by omega⟩, ⟨?_⟩, BK, HV, HI, HQ, HK⟩
        rw [show (j + 1).toNat = j.toNat + 1 by omega, foldR_last (Nat.zero_le _), HF2.out, HSA.out, if_neg Z.out]
end Go.Proofs.Ytomfjhpiemipkaa.OwnFrom
