/- The contract of levels of spec's state, by hand: it does what bfsL says. -/
import Derived.Test.YtomfjhpiemipkaaTOwnPush
namespace Go.Proofs.Ytomfjhpiemipkaa.OwnLevels
open Go.RowKit Go.Proofs.YtomfjhpiemipkaaW.PrintWords Go.Proofs.YtomfjhpiemipkaaW.PrintLast Go.Proofs.YtomfjhpiemipkaaW.PrintMore Go.Proofs.Ytomfjhpiemipkaa.B Go.Proofs.Ytomfjhpiemipkaa.Flow Go.Proofs.Ytomfjhpiemipkaa.OwnPush
set_option linter.unusedVariables false
set_option linter.unusedSimpArgs false
theorem inf3 : (Try.prog.info? 3).map (fun i => (i.zero, i.size, i.bytes)) = some (some (.int .i64 0), 1, 8) := by kernel_rfl
theorem rep_of {l : List Int} {n : Nat} {x : Int} (hl : l.length = n) (h : ∀ j : Nat, j < n → l.getD j 0 = x) : l = List.replicate n x := by
 apply List.ext_getElem
 ·rw [hl, List.length_replicate]
 ·intro i h1 h2
  have := h i (by omega)
  rw [List.getD_eq_getElem?_getD, List.getElem?_eq_getElem h1] at this
  rw [List.getElem_replicate]; exact this
def spec_mfState_levels_T12 : Bool × List (List Nat × List Nat) := (true, [([], []), ([0], [0]), ([1], [1]), ([2], [2]), ([], []), ([], []), ([4, 5], [4, 5]), ([6], [6]), ([3, 7], [3, 7]), ([8], [8]), ([9], [9]), ([], [])])
def spec_mfState_levels_B12 : List Nat := [0, 1, 3, 7, 0, 0, 48, 112, 255, 511, 1023, 0]
theorem spec_mfState_levels_tab12 : rtab .any (opsOf Try.f190 12) = spec_mfState_levels_T12 := by kernel_rfl
theorem spec_mfState_levels_bits12 : waitsOk spec_mfState_levels_T12.2 spec_mfState_levels_B12 = true := by kernel_rfl
def spec_mfState_levels_T16 : Bool × List (List Nat × List Nat) := (true, [([], []), ([], []), ([1], [1]), ([2], [2]), ([3], [3]), ([], []), ([4, 5], [4, 5]), ([6], [6]), ([], []), ([], []), ([], []), ([9, 10], [9, 10]), ([11], [11]), ([8, 12], [8, 12]), ([13], [13]), ([14], [14]), ([0, 7, 0, 1, 2, 3, 4, 5, 6, 7, 8, 9, 10, 11, 12, 13, 14, 15], [0, 7]), ([16, 15, 0, 1, 2, 3, 4, 5, 6, 7, 8, 9, 10, 11, 12, 13, 14, 15], [15, 16])])
def spec_mfState_levels_B16 : List Nat := [0, 0, 2, 6, 14, 0, 62, 126, 0, 0, 0, 1536, 3584, 7936, 16128, 32512, 65535, 131071]
theorem spec_mfState_levels_tab16 : rtab .any (opsOf Try.f190 16) = spec_mfState_levels_T16 := by kernel_rfl
theorem spec_mfState_levels_bits16 : waitsOk spec_mfState_levels_T16.2 spec_mfState_levels_B16 = true := by kernel_rfl
set_option maxHeartbeats 8000000 in
set_option maxRecDepth 100000 in
theorem levels_calls {n m L : Nat} {tos left : List Int} {adj : List (List Int)} {w : World} {p : Nat} {Ae : Addr} {At Al : Option Addr} {ce ct cl : Nat}
  (N : Net n m tos adj) (hn : n ≤ 130) (hm : m ≤ 8000) (hL : L = 2 * m) (hg : Flow.Good m left)
  (hp : w.heap[p]? = some (.cells #[.int .i64 n, .slice At L ct, .slice Al L cl, .slice (some Ae) n ce] 198 (0, 0)))
  (hE : Kd.C kRows w (some Ae) n adj) (hT : Kd.C (Kd.int .i64) w At L tos) (hl : Kd.C (Kd.int .i64) w Al L left) (k : Nat) (r : List Int) (h : bfsL tos adj left k (d0 n 0) [0] = some r) :
  Calls Try.prog 190 #[.pointer (some ⟨p, 0, none⟩)] w fun e w' => ∃ v : Value, e = .returned v ∧ Kd.R (Kd.int .i64) 3 w' w.heap.size (fun _ => True) v r ∧ Below w.heap.size w w' := by
 have hu115 := Try.underlying198
 have NN := Aside0.mk N
 have HG := Aside0.mk hg
 have HB0 := Aside0.mk (And.intro (And.intro hn hm) hL)
 have HP := Aside0.mk hp
 have HE := Aside0.mk hE
 have HT := Aside0.mk hT
 have HL := Aside0.mk hl
 have HH := Aside0.mk h
 have hn2 := N.nd
 have HN2 := Aside0.mk hn2
 have HB := Aside0.mk (Below.refl w.heap.size w)
 have hc0 : w.cell? ⟨p, 0, none⟩ = some (.int .i64 n) := (blk_cell hp 0).trans rfl
 have n0 := eq_true (show 0 ≤ (n : Int) by omega)
 have n1 : decide (0 ≤ (n : Int)) = true := decide_eq_true (by omega)
 have n2 : decide ((n : Int).toNat ≤ 35184372088832) = true := decide_eq_true (by omega)
 have n3 := eq_true (show (n : Int).toNat ≤ 35184372088832 by omega)
 clear hp hE hT hl h N hn hm hL hg hn2
 go_enter Try.func190, Try.ntmps190
 go_wp2_with (first | ((with_reducible refine gate_dst (N := 13) rfl ?_); refine Kd.R_make (Kd.int .i64) _ 3 rfl (N := 13) rfl 24 _ _ rfl (n : Int) rfl rfl Try.underlying24 (.int .i64 0) 8 inf3 rfl (by decide) (by omega) 0 (ok := fun _ => True) (okp := fun _ => True) rfl (fun _ hk => hk) trivial (of_decide_eq_true (by first | (with_reducible assumption) | assumption)) (Nat.le_trans (Nat.mul_le_mul_right _ (of_decide_eq_true (by first | (with_reducible assumption) | assumption) : (n : Int).toNat ≤ 35184372088832)) (by omega)) (Below.refl _ _) (Nat.le_refl _) ?_; intro vb w7 ho8 hb hg_ hnew_; clear hg_ hnew_; obtain ⟨gd, cd, eo, gb, gl_, cl_, HG_⟩ := Kd.R_form ho8 (by rw [List.length_replicate]; have := HN2.out; omega); rw [List.length_replicate, Int.toNat_natCast] at eo; subst eo; have GB := Aside0.mk gb; have GL := Aside0.mk gl_; clear gb gl_ HG_ cl_; have n0_ := Aside0.mk ho8; have n1_ := Aside0.mk (below_step HB.out hb); clear HB; have HO := n0_; have HB := n1_; clear n0_ n1_; clear hb ho8))
 clear hc0
 go_loopg [16] (n) (fun q v16 wr => ∃ (i : Int) (b : List Int), v16 = .int .i64 i ∧ Aside0 (0 ≤ i ∧ i + q = n) ∧ Aside0 (b.length = n ∧ ∀ j : Nat, j < i.toNat → b.getD j 0 = -1) ∧ Aside0 (Kd.R (Kd.int .i64) 3 wr w.heap.size (fun _ => True) (.slice (some ⟨gd, 0, none⟩) n cd) b) ∧ Aside0 (Below w.heap.size w wr))
 case atStart => exact ⟨0, List.replicate (n : Int).toNat 0, rfl, ⟨by omega⟩, ⟨by rw [List.length_replicate]; omega, fun j hj => by omega⟩, ⟨HO.out⟩, ⟨HB.out⟩⟩
 case round =>
  clear HO HB
  obtain ⟨i, b, rfl, HI, HF, HO, HB⟩ := hrel
  cases gk with
  | succ d =>
   have hi := HI.out
   have t0 : decide (i < (n : Int)) = true := decide_eq_true (by omega)
   have q0 := eq_true hi.1
   have q1 := eq_true (show i < (n : Int) by omega)
   obtain ⟨hcz, hfz⟩ := Kd.R_celln 0 HO.out i hi.1 (by omega)
   clear hi
   go_wp2_with fail
   go_roundg d
   case measure => omega
   case rel =>
    have hi := HI.out
    refine ⟨i + 1, b.set i.toNat (-1), by rw [w64 (by omega) (by have := HB0.out.1.1; omega)], ⟨by omega⟩, ⟨by rw [List.length_set]; exact HF.out.1, ?_⟩, ⟨Kd.R_putn HO.out i (-1)⟩, ⟨below_set HB.out GB.out⟩⟩
    intro j hj
    rw [List.getD_eq_getElem?_getD, List.getElem?_set]
    have hl := HF.out.1
    split
    ·rw [if_pos (by omega)]; rfl
    ·rw [← List.getD_eq_getElem?_getD]; exact HF.out.2 j (by omega)
  | zero =>
   have hi := HI.out
   have t0 : decide (i < (n : Int)) = false := decide_eq_false (by omega)
   have eb : b = List.replicate n (-1) := rep_of HF.out.1 (fun j hj => HF.out.2 j (by omega))
   subst eb
   have q1 := eq_true (show (0 : Int) < (n : Int) by have := HN2.out; omega)
   have q1' := eq_true (show 0 < n by have := HN2.out; omega)
   have HX0 := HO
   obtain ⟨hcz, hfz⟩ := Kd.R_celln 0 HO.out 0 (Int.le_refl 0) (by have := HN2.out; omega)
   have hcz : wr.cell? ⟨gd, 0, none⟩ = _ := hcz
   have hfz : wr.frozen? ⟨gd, 0, none⟩ = false := hfz
   have HD : Aside0 (Kd.R (Kd.int .i64) 3 (wr.setCell ⟨gd, 0, none⟩ (.int .i64 0)) w.heap.size (fun k => k = gd) (.slice (some ⟨gd, 0, none⟩) n cd) (d0 n 0)) := ⟨Kd.R_mono (Kd.R_tight rfl (Kd.R_putn HO.out 0 0)) (fun k hk => Option.some.inj hk)⟩
   have HB1 := Aside0.mk (below_set (g := gd) (j := 0) (v := .int .i64 0) HB.out GB.out)
   clear hi HX0 HO HB HF
   have HB := HB1
   clear HB1
   go_wp2_with (first | ((with_reducible refine gate_dst (N := 25) rfl ?_); refine Kd.R_lit (Kd.int .i64) _ 3 ?hg (N := 25) ?hd (xs := [(0 : Int)]) (inner := [.int .i64 0]) (ok := fun k => k ≠ gd) (okp := fun _ => False) ?hr ?hp (fun _ hk => hk.elim) ?hf (Below.refl _ _) (Nat.le_refl _) (by simp) ?_; (case hd => rfl); (case hg => rfl); (case hr => first | (go_simp; done) | (go_simp; rfl)); (case hp => exact Kd.reps_scalar [(0 : Int)]); (case hf => have := Kd.R_lt HD.out gd rfl; omega); intro v225 w2 ho3 hb hg_ hnew_; clear hg_ hnew_; have n0_ := Aside0.mk (Kd.R_lower ho3 (below_size HB.out)); have n1_ := Aside0.mk (below_step HB.out hb); have n2_ := Aside0.mk (Kd.R_elder HD.out ho3 hb); clear HB HD; have HLS := n0_; have HB := n1_; have HD := n2_; clear n0_ n1_ n2_; clear hb ho3))
   go_loopg [5, 6] (k) (fun q v5 v6 wr => ∃ (i : Int) (Ls d : List Int), v6 = .int .i64 i ∧ Aside0 (bfsL tos adj left q d (Ls.drop i.toNat) = some r) ∧ Aside0 (0 ≤ i ∧ i ≤ Ls.length ∧ Ls.length + unre d = n) ∧ Aside0 (Lev n m tos adj 0 left d (Ls.drop i.toNat) (-1) 0) ∧ Aside0 (Kd.R (Kd.int .i64) 3 wr w.heap.size (fun k => k = gd ∧ some k ≠ v5.ownBlock) (.slice (some ⟨gd, 0, none⟩) n cd) d) ∧ Aside0 (Kd.R (Kd.int .i64) 3 wr w.heap.size (fun k => k ≠ gd) v5 Ls) ∧ Aside0 (Below w.heap.size w wr))
   case atStart =>
    have hl0 := lev0 (left := left) NN.out (o := 0) (by omega) (by have := HN2.out; omega)
    have hun : [(0 : Int)].length + unre (d0 n 0) = n := by
     have := unre_put (d := List.replicate n (-1)) (u := 0) (x := 0) (by omega) (by rw [List.length_replicate]; have := HN2.out; omega) (by rw [rd_rep (by omega) (by have := HN2.out; omega)]; omega) (by omega)
     rw [unre_rep] at this
     show 1 + unre (d0 n 0) = n
     unfold d0; omega
    exact ⟨0, [0], d0 n 0, rfl, ⟨HH.out⟩, ⟨by omega, by simp, hun⟩, ⟨hl0.1⟩, ⟨HD.out⟩, ⟨HLS.out⟩, ⟨HB.out⟩⟩
   case round =>
    clear HB HD HLS
    obtain ⟨i, Ls, d, rfl, HBF, HI, HLV, HD, HLS, HB⟩ := hrel
    obtain ⟨A5, c5, rfl⟩ := Kd.R_slice HLS.out
    cases gk with
    | zero => have := HBF.out; cases this
    | succ q =>
     have hp := blk_below HP.out HB.out
     cases hq : Ls.drop i.toNat with
     | nil =>
      have hlen : Ls.length ≤ i.toNat := List.drop_eq_nil_iff.1 hq
      have t1 : decide (i < (Ls.length : Int)) = false := decide_eq_false (by have := HI.out; omega)
      have h := HBF.out
      rw [hq] at h
      injection h with h
      subst h
      clear hq hlen hp
      go_wp2_with fail
      go_ret
      exact ⟨_, rfl, Kd.R_mono HD.out (fun _ _ => trivial), HB.out⟩
     | cons u q' =>
      have hi := HI.out
      have hlt : i.toNat < Ls.length := by
       have := congrArg List.length hq
       rw [List.length_drop, List.length_cons] at this; omega
      have t1 : decide (i < (Ls.length : Int)) = true := decide_eq_true (by omega)
      have hlev := HLV.out
      rw [hq] at hlev
      have h := HBF.out
      rw [hq] at h
      have hu := hlev.wait u (List.mem_cons_self ..)
      have hru : rd Ls i = u := by
       have := congrArg List.head? hq
       rw [List.head?_drop] at this
       rw [rd_def, List.getD_eq_getElem?_getD, this]; rfl
      have hdq : q' = Ls.drop (i.toNat + 1) := by
       have := congrArg List.tail hq
       rw [List.tail_drop] at this; exact this.symm
      have HQ := Aside0.mk (And.intro hru hdq)
      have HBQ : Aside0 (bfsL tos adj left q (scan tos left (rd d u + 1) (row adj u) d q').1 (scan tos left (rd d u + 1) (row adj u) d q').2 = some r) := ⟨h⟩
      have HLQ := Aside0.mk hlev
      have HLU : Aside0 (Lev n m tos adj 0 left d q' u 0) := ⟨⟨hlev.len, hlev.lo, hlev.hi, fun v hv => hlev.wait v (List.mem_cons_of_mem _ hv), hlev.org, hlev.src, hlev.zero, hlev.pred, fun v v0 v1 hv hq hx => hlev.clos v v0 v1 hv (by rw [List.mem_cons]; exact fun e => e.elim hx hq) (by omega), fun i hi => by omega⟩⟩
      have HU := Aside0.mk hu
      have q0 := eq_true hu.1.1
      have q1 := eq_true hu.1.2
      obtain ⟨g5, c5', e5, gb5, gl5, _, _⟩ := Kd.R_form HLS.out (by omega)
      injection e5 with e5 _ e5c
      subst e5
      subst e5c
      obtain ⟨hcl, hfl⟩ := Kd.R_celln 0 HLS.out i hi.1 (by omega)
      rw [show rdOf 0 Ls i = u from hru] at hcl
      have q2 := eq_true hi.1
      have q3 := eq_true (show i < (Ls.length : Int) by omega)
      obtain ⟨ad_, A0, c0, eA, hch0, hlc, hrow⟩ := at_rows HE.out u hu.1.1 hu.1.2
      injection eA with eA
      subst eA
      have HROW := Aside0.mk hrow
      have HLB0 := Aside0.mk (Kd.C_max hrow)
      have HCH := Aside0.mk hch0
      have HIL := Aside0.mk (And.intro hi.1 hlt)
      clear hq hlt hlev h hru hdq hu gb5 gl5 hrow hi hch0 hlc hp HBF HLV
      go_wp2_with fail
      have HB := Aside0.mk (below_drew1 HB.out)
      have HD := Aside0.mk (Kd.R_drew HD.out)
      have HLS := Aside0.mk (Kd.R_drew HLS.out)
      have hp := blk_below HP.out HB.out
      have hc3 := (blk_cell hp 3).trans (show _ = some _ from rfl)
      have hch := (HB.out.cell (World.block_lt_of_cell? w _ HCH.out)).trans HCH.out
      refine start_ (n := 12) (S := fun w' => w'.cell? ⟨p, 3, none⟩ = some (.slice (some Ae) n ce) ∧ w'.cell? ⟨g5, i.toNat, none⟩ = some (.int .i64 u) ∧ w'.cell? (Ae.add u.toNat) = some (.slice A0 (row adj u).length c0)) (ds := []) (fl 12 0) (by kernel_rfl) rfl rfl ⟨hc3, hcl, hch⟩ (fun hHeld => ?_)
      refine with_tabW spec_mfState_levels_tab12 spec_mfState_levels_bits12 (fun HT_ HW_ => ?_)
      generalize wr.drew = wa at HB HD HLS hHeld ⊢
      refine wp_in [(0, 32, 1, 0), (1, 33, 3, 0), (2, 34, 7, 0), (4, 36, 23, 0), (5, 37, 55, 0), (6, 38, 119, 0), (11, 43, 2167, 0), (3, 35, 2175, 1), (7, 39, 2303, 1), (8, 40, 2559, 0), (9, 41, 3071, 1), (10, 42, 4095, 0)] 12 ?_
      iterate 12 (first | (refine pn_ (oi := ?_) (v := ?_) (a' := ?_) HT_.out ?_ ?_ ?_ ?_ ?_ ?_ ?_ ?_; rotate_left 3; rfl; rfl; kernel_rfl; exact fun _ _ _ h => h; rfl; intro w'; go_simp; with_reducible rfl; simp only [Act.put, List.setIfInBounds_toArray, List.set_cons_zero, List.set_cons_succ, i64_w, i32_w]; rfl) | (refine tn_ (oi := ?_) (v := ?_) (a' := ?_) HT_.out HW_.out hHeld ?_ ?_ ?_ ?_ ?_ ?_ ?_ ?_; rotate_left 3; rfl; rfl; kernel_rfl; exact fun _ _ _ h => h; rfl; rintro w' ⟨s0, s1, s2⟩; go_simp; with_reducible rfl; simp only [Act.put, List.setIfInBounds_toArray, List.set_cons_zero, List.set_cons_succ, i64_w, i32_w]; rfl))
      refine wp_out ?_
      refine done_ (done_of HT_.out (by kernel_rfl)) ?_
      clear hc3 hcl hfl hch hp q2 q3
      obtain ⟨len, elen⟩ : ∃ z, z = (row adj u).length := ⟨_, rfl⟩
      rw [← elen]
      have HLEN := Aside0.mk elen
      have HLB : Aside0 (len ≤ 9223372036854775807) := ⟨by rw [elen]; exact HLB0.out⟩
      obtain ⟨lv, elv⟩ : ∃ z, z = rd d u + 1 := ⟨_, rfl⟩
      have HLVL := Aside0.mk elv
      have HTOT := Aside0.mk (show Ls.length + unre d = n from HI.out.2.2)
      clear elen elv HI
      go_wp2_with fail
      go_loopg [5, 43] (len) (fun c v5 v43 w2 => ∃ (j : Int) (L2 d2 : List Int), v43 = .int .i64 j ∧ Aside0 (0 ≤ j ∧ j + c = len) ∧ Aside0 ((L2.length + unre d2 = n ∧ i < L2.length) ∧ rd L2 i = u) ∧ Aside0 (foldR (scanAt tos left lv (row adj u)) 0 j.toNat (d, q') = (d2, L2.drop (i.toNat + 1))) ∧ Aside0 (Kd.R (Kd.int .i64) 3 w2 w.heap.size (fun k => k = gd ∧ some k ≠ v5.ownBlock) (.slice (some ⟨gd, 0, none⟩) n cd) d2) ∧ Aside0 (Kd.R (Kd.int .i64) 3 w2 w.heap.size (fun k => k ≠ gd) v5 L2) ∧ Aside0 (Below w.heap.size w w2))
      case atStart => exact ⟨0, Ls, d, rfl, ⟨by omega⟩, ⟨⟨HTOT.out, by have := HIL.out; omega⟩, HQ.out.1⟩, ⟨by rw [show (0 : Int).toNat = 0 from rfl, foldR_end (Nat.le_refl _), ← HQ.out.2]⟩, ⟨HD.out⟩, ⟨HLS.out⟩, ⟨HB.out⟩⟩
      case round =>
       clear HB HD HLS
       obtain ⟨j, L2, d2, rfl, HJ, HT2, HF2, HD, HLS, HB⟩ := hrel
       obtain ⟨A6, c6, rfl⟩ := Kd.R_slice HLS.out
       have hjn := HJ.out
       cases gk with
       | zero =>
        have t2 : decide (j < (len : Int)) = false := decide_eq_false (by omega)
        clear hjn
        go_wp2_with fail
        go_roundg q
        case measure => omega
        case rel =>
         have hjn := HJ.out
         have hil := HIL.out
         have hsc : scan tos left lv (row adj u) d q' = (d2, L2.drop (i.toNat + 1)) := by
          unfold scan
          rw [← HLEN.out, ← HF2.out]
          congr 1; omega
         have hup := scan_told (adj := adj) NN.out (u := u) (d := d) (q := q') HLQ.out
         rw [← HLVL.out, hsc] at hup
         have hh := HBQ.out
         rw [← HLVL.out, hsc] at hh
         have h130 := HB0.out.1.1
         have ht2 := HT2.out.1
         refine ⟨i + 1, L2, d2, by rw [w64 (by omega) (by omega)], ⟨?_⟩, ⟨by omega, by omega, HT2.out.1.1⟩, ⟨?_⟩, ⟨HD.out⟩, ⟨HLS.out⟩, ⟨HB.out⟩⟩
         ·rw [show (i + 1).toNat = i.toNat + 1 by omega]; exact hh
         ·rw [show (i + 1).toNat = i.toNat + 1 by omega]; exact hup.1
       | succ c =>
        have t2 : decide (j < (len : Int)) = true := decide_eq_true (by omega)
        obtain ⟨g6, c6', e6, gb6, gl6, _, _⟩ := Kd.R_form HLS.out (by have := HT2.out.1.2; have := HIL.out; omega)
        injection e6 with e6 _ e6c
        subst e6
        subst e6c
        obtain ⟨e, ee⟩ : ∃ z, z = rd (row adj u) j := ⟨_, rfl⟩
        have hmem : e ∈ row adj u := by rw [ee]; exact row_mem hjn.1 (by rw [← HLEN.out]; omega)
        have hE := NN.out.row u HU.out.1.1 HU.out.1.2 e hmem
        have hTe := NN.out.rng e hE.1.1 hE.1.2
        obtain ⟨te, et⟩ : ∃ z, z = rd tos e := ⟨_, rfl⟩
        obtain ⟨le, el⟩ : ∃ z, z = rd left e := ⟨_, rfl⟩
        rw [← et] at hTe
        have heL : e < (L : Int) := by rw [HB0.out.2]; have := hE.1.2; omega
        obtain ⟨dt, edt⟩ : ∃ z, z = rd d2 te := ⟨_, rfl⟩
        obtain ⟨du, edu⟩ : ∃ z, z = rd d2 u := ⟨_, rfl⟩
        have hup := scan_upto NN.out HU.out.1.1 HU.out.1.2 HU.out.2 HLU.out j.toNat (by rw [← HLEN.out]; omega)
        rw [← HLVL.out, HF2.out] at hup
        have hdu : du = rd d u := by rw [edu]; exact hup.2.1
        have hlow := hup.1.lo te hTe.1 hTe.2
        have hhi := hup.1.hi u HU.out.1.1 HU.out.1.2
        replace hlow : -1 ≤ rd d2 te := hlow
        replace hhi : rd d2 u + unre d2 ≤ (n : Int) - 1 := hhi
        have hn130 := HB0.out.1.1
        have hud := HU.out.2
        have HWL := Aside0.mk (show wrap64 (du + 1) = du + 1 from w64 (by omega) (by omega))
        have hlv2 : du + 1 = lv := by rw [HLVL.out, hdu]
        have q2 := eq_true hjn.1
        have q3 := eq_true (show j < (len : Int) by omega)
        have q4 := eq_true hE.1.1
        have q5 := eq_true heL
        have q6 := eq_true hTe.1
        have q7 := eq_true hTe.2
        obtain ⟨ar, eR, hce⟩ := Kd.at_int HROW.out j hjn.1 (by rw [← HLEN.out]; omega)
        subst eR
        rw [← ee] at hce
        have hce := (HB.out.cell (World.block_lt_of_cell? w _ hce)).trans hce
        have hp := blk_below HP.out HB.out
        have hc2 := (blk_cell hp 2).trans (show _ = some _ from rfl)
        have hc1 := (blk_cell hp 1).trans (show _ = some _ from rfl)
        obtain ⟨al_, eL, hcle⟩ := Kd.at_int HL.out e hE.1.1 heL
        subst eL
        rw [← el] at hcle
        have hcle := (HB.out.cell (World.block_lt_of_cell? w _ hcle)).trans hcle
        obtain ⟨at_, eT, hcto⟩ := Kd.at_int HT.out e hE.1.1 heL
        subst eT
        rw [← et] at hcto
        have hcto := (HB.out.cell (World.block_lt_of_cell? w _ hcto)).trans hcto
        obtain ⟨hcd, hfd⟩ := Kd.R_celln 0 HD.out te hTe.1 hTe.2
        rw [show rdOf 0 d2 te = dt from edt.symm] at hcd
        obtain ⟨hcu, hfu⟩ := Kd.R_celln 0 HD.out u HU.out.1.1 HU.out.1.2
        rw [show rdOf 0 d2 u = du from edu.symm] at hcu
        obtain ⟨hcl, hfl⟩ := Kd.R_celln 0 HLS.out i HIL.out.1 (by have := HT2.out.1.2; exact this)
        rw [show rdOf 0 L2 i = u from HT2.out.2] at hcl
        have q8 := eq_true HIL.out.1
        have q9 := eq_true (show i < (L2.length : Int) from HT2.out.1.2)
        have HSA : Aside0 (scanAt tos left lv (row adj u) (d2, L2.drop (i.toNat + 1)) j.toNat = if 0 < le ∧ dt < 0 then (put d2 te lv, L2.drop (i.toNat + 1) ++ [te]) else (d2, L2.drop (i.toNat + 1))) := ⟨by unfold scanAt; rw [show ((j.toNat : Nat) : Int) = j by omega, ← ee, ← el, ← et, ← edt]⟩
        have HDT := Aside0.mk (And.intro edt (And.intro hTe hlv2))
        have HDL := Aside0.mk hup.1.len
        have HUN := Aside0.mk (And.intro hud hn130)
        by_cases z1 : 0 < le
        ·have t3 : decide (0 < le) = true := decide_eq_true z1
         by_cases z2 : dt < 0
         ·have t4 : decide (dt < 0) = true := decide_eq_true z2
          have Z := Aside0.mk (And.intro z1 z2)
          have HEB := Aside0.mk (And.intro hE.1.1 heL)
          have HTO := Aside0.mk et
          clear z1 z2 hjn hmem hE hTe et el edt edu hup hdu hlow hhi hn130 hud hlv2 heL gb6 gl6 ee
          go_wp2_with fail
          have HB := Aside0.mk (below_drew1 HB.out)
          have HD := Aside0.mk (Kd.R_drew HD.out)
          have HLS := Aside0.mk (Kd.R_drew HLS.out)
          clear hce hcle hc2 hcd hfd
          obtain ⟨hcd, hfd⟩ := Kd.R_celln 0 HD.out te HDT.out.2.1.1 HDT.out.2.1.2
          refine start_ (n := 18) (S := fun w' => w'.cell? ⟨p, 1, none⟩ = some (.slice (some at_) L ct) ∧ w'.cell? (at_.add e.toNat) = some (.int .i64 te) ∧ w'.cell? ⟨g6, i.toNat, none⟩ = some (.int .i64 u) ∧ w'.cell? ⟨gd, u.toNat, none⟩ = some (.int .i64 du)) (ds := [17]) (fl 18 0) (by kernel_rfl) rfl rfl ⟨hc1, hcto, hcl, hcu⟩ (fun hHeld => ?_)
          refine with_tabW spec_mfState_levels_tab16 spec_mfState_levels_bits16 (fun HT_ HW_ => ?_)
          generalize wr.drew = wb at HB HD HLS hcd hfd hHeld ⊢
          refine wp_in [(0, 68, 1, 0), (1, 69, 3, 0), (2, 70, 7, 0), (3, 71, 15, 0), (5, 73, 47, 0), (8, 76, 303, 0), (9, 77, 815, 0), (10, 78, 1839, 0), (11, 79, 3887, 0), (4, 72, 3903, 1), (6, 74, 3967, 0), (7, 75, 4095, 1), (12, 80, 8191, 1), (13, 81, 16383, 0), (14, 82, 32767, 1), (15, 83, 65535, 0), (16, 84, 131071, 0)] 18 ?_
          iterate 17 (first | (refine pn_ (oi := ?_) (v := ?_) (a' := ?_) HT_.out ?_ ?_ ?_ ?_ ?_ ?_ ?_ ?_; rotate_left 3; rfl; rfl; kernel_rfl; exact fun _ _ _ h => h; rfl; intro w'; go_simp; with_reducible rfl; simp only [Act.put, List.setIfInBounds_toArray, List.set_cons_zero, List.set_cons_succ, i64_w, i32_w]; rfl) | (refine tn_ (oi := ?_) (v := ?_) (a' := ?_) HT_.out HW_.out hHeld ?_ ?_ ?_ ?_ ?_ ?_ ?_ ?_; rotate_left 3; rfl; rfl; kernel_rfl; exact fun _ _ _ h => h; rfl; rintro w' ⟨s0, s1, s2, s3⟩; go_simp; with_reducible rfl; simp only [Act.put, List.setIfInBounds_toArray, List.set_cons_zero, List.set_cons_succ, i64_w, i32_w]; rfl))
          refine wp_out ?_
          refine last_ (i := 17) (N := none) (fl 18 262143) rfl rfl (one_of HT_.out (by kernel_rfl)) (by decide) (fun K hK => ?_)
          refine skip_ (w1 := ?_) (by rfl) rfl ?_ ?_
          rotate_left
          ·go_simp
           rfl
          refine hK.out _ _ ?_
          clear hK K
          refine done_ (done_of HT_.out (by kernel_rfl)) ?_
          clear hc1 hcto hcl hfl hcu hfu hp hcd hfd
          have n0_ : Aside0 (Kd.R (Kd.int .i64) 3 (wb.setCell ⟨gd, te.toNat, none⟩ (.int .i64 (wrap64 (du + 1)))) w.heap.size (fun k => k = gd ∧ some k ≠ (Value.slice (some ⟨g6, 0, none⟩) L2.length c6).ownBlock) (.slice (some ⟨gd, 0, none⟩) n cd) (put d2 te lv)) := ⟨by rw [HWL.out, HDT.out.2.2]; exact Kd.R_putn HD.out te lv⟩
          have n1_ : Aside0 (Kd.R (Kd.int .i64) 3 (wb.setCell ⟨gd, te.toNat, none⟩ (.int .i64 (wrap64 (du + 1)))) w.heap.size (fun k => k ≠ gd) (.slice (some ⟨g6, 0, none⟩) L2.length c6) L2) := ⟨Kd.R_far HLS.out (fun k hk => hk) _⟩
          have n2_ : Aside0 (Below w.heap.size w (wb.setCell ⟨gd, te.toNat, none⟩ (.int .i64 (wrap64 (du + 1))))) := ⟨below_set HB.out GB.out⟩
          clear HB HD HLS
          generalize wb.setCell ⟨gd, te.toNat, none⟩ (.int .i64 (wrap64 (du + 1))) = wc at n0_ n1_ n2_ ⊢
          have HD := n0_
          have HLS := n1_
          have HB := n2_
          clear n0_ n1_ n2_
          have hp := blk_below HP.out HB.out
          have hc1 := (blk_cell hp 1).trans (show _ = some _ from rfl)
          obtain ⟨at2_, eT, hcto⟩ := Kd.at_int HT.out e HEB.out.1 HEB.out.2
          injection eT with eT
          subst eT
          rw [← HTO.out] at hcto
          have hcto := (HB.out.cell (World.block_lt_of_cell? w _ hcto)).trans hcto
          clear hp
          go_wp2_with (first | ((with_reducible refine gate_builtin (b := .append) (xs := #[.tmp 85, .tmp 93]) rfl ?_); at_builtin; refine Kd.R_append (Kd.int .i64) (w0 := w) w.heap.size rfl (.tmp 85) (.tmp 93) 24 3 (.int .i64 0) 8 rfl Try.underlying24 inf3 rfl (by decide) (by omega) (.slice (some ⟨g6, 0, none⟩) L2.length c6) L2 te [.int .i64 te] (fun k => k ≠ gd) (fun _ => False) rfl rfl ?aP (fun _ hk => hk.elim) ?aF ?aO ?aB ?aS ?aL ?_; (case aP => exact rfl); (case aB => exact HB.out); (case aF => exact (fun k hk => by have h1_ := Kd.R_lt HD.out gd rfl; omega)); (case aO => exact HLS.out); (case aS => exact (below_size HB.out)); (case aL => have h1_ := HT2.out.1.1; have h2_ := HB0.out.1.1; omega); intro v229 w10 ho hb hg hat; have n0_ := Aside0.mk hb; have n1_ := Aside0.mk ho; have n2_ := Aside0.mk (Kd.R_after HD.out hg hat); clear HB HLS HD; have HB := n0_; have HLS := n1_; have HD := n2_; clear n0_ n1_ n2_; clear ho hb hg hat hc1 hcto))
          go_roundg c
          case measure => omega
          case rel =>
           have hjn := HJ.out
           have ht2 := HT2.out
           have hdt := HDT.out
           have hlen := HDL.out
           have hil := HIL.out
           replace hlen : d2.length = n := hlen
           refine ⟨j + 1, L2 ++ [te], put d2 te lv, by rw [w64 (by omega) (by have := HLB.out; omega)], ⟨by omega⟩, ⟨⟨?_, ?_⟩, ?_⟩, ⟨?_⟩, ⟨HD.out⟩, ⟨HLS.out⟩, ⟨HB.out⟩⟩
           ·have := unre_put (d := d2) (u := te) (x := lv) hdt.2.1.1 (by rw [hlen]; exact hdt.2.1.2) (by rw [← hdt.1]; exact Z.out.2) (by have h1 := hdt.2.2; have h2 := HUN.out.1; have h3 := HLVL.out; omega)
            rw [List.length_append]
            show L2.length + 1 + _ = n
            omega
           ·rw [List.length_append]
            show i < ((L2.length + 1 : Nat) : Int)
            omega
           ·rw [rd_def, List.getD_eq_getElem?_getD, List.getElem?_append_left (by omega), ← List.getD_eq_getElem?_getD]; exact ht2.2
           ·rw [show (j + 1).toNat = j.toNat + 1 by omega, foldR_last (Nat.zero_le _), HF2.out, HSA.out, if_pos Z.out, List.drop_append_of_le_length (by omega)]
         ·have t4 : decide (dt < 0) = false := decide_eq_false z2
          have Z : Aside0 (¬ (0 < le ∧ dt < 0)) := ⟨fun h => z2 h.2⟩
          clear z1 z2 hjn hmem hE hTe et el edt edu hup hdu hlow hhi hn130 hud hlv2 heL gb6 gl6 ee
          go_wp2_with fail
          go_roundg c
          case measure => omega
          case rel =>
           have hjn := HJ.out
           refine ⟨j + 1, L2, d2, by rw [w64 (by omega) (by have := HLB.out; omega)], ⟨by omega⟩, HT2, ⟨?_⟩, ⟨HD.out⟩, ⟨HLS.out⟩, ⟨HB.out⟩⟩
           rw [show (j + 1).toNat = j.toNat + 1 by omega, foldR_last (Nat.zero_le _), HF2.out, HSA.out, if_neg Z.out]
        ·have t3 : decide (0 < le) = false := decide_eq_false z1
         have Z : Aside0 (¬ (0 < le ∧ dt < 0)) := ⟨fun h => z1 h.1⟩
         clear z1 hjn hmem hE hTe et el edt edu hup hdu hlow hhi hn130 hud hlv2 heL gb6 gl6 ee
         go_wp2_with fail
         go_roundg c
         case measure => omega
         case rel =>
          have hjn := HJ.out
          refine ⟨j + 1, L2, d2, by rw [w64 (by omega) (by have := HLB.out; omega)], ⟨by omega⟩, HT2, ⟨?_⟩, ⟨HD.out⟩, ⟨HLS.out⟩, ⟨HB.out⟩⟩
          rw [show (j + 1).toNat = j.toNat + 1 by omega, foldR_last (Nat.zero_le _), HF2.out, HSA.out, if_neg Z.out]
end Go.Proofs.Ytomfjhpiemipkaa.OwnLevels
