/- The contract of impl.newResidual, by hand. -/
import Derived.Test.YtomfjhpiemipkaaTOwnRows
import Derived.Test.YtomfjhpiemipkaaTOwnPush
namespace Go.Proofs.Ytomfjhpiemipkaa.OwnStartI
open Go.RowKit Go.Proofs.Ytomfjhpiemipkaa.PFnFlowValues Go.Proofs.YtomfjhpiemipkaaW.PrintWords Go.Proofs.YtomfjhpiemipkaaW.PrintLast Go.Proofs.YtomfjhpiemipkaaW.PrintMore Go.Proofs.Ytomfjhpiemipkaa.B Go.Proofs.Ytomfjhpiemipkaa.Flow Go.Proofs.Ytomfjhpiemipkaa.OwnPush Go.Proofs.Ytomfjhpiemipkaa.OwnLevels Go.Proofs.Ytomfjhpiemipkaa.OwnRows
set_option linter.unusedVariables false
set_option linter.unusedSimpArgs false
def okE (n : Int) (e : S99) : Prop := 0 ≤ e.f0 ∧ e.f0 < n ∧ 0 ≤ e.f1 ∧ e.f1 < n ∧ 0 ≤ e.f2 ∧ e.f2 ≤ 1000000000
def impl_newResidual_T5 : Bool × List (List Nat × List Nat) := (true, [([], []), ([0], [0]), ([1], [1]), ([2], [2]), ([], []), ([4], [4]), ([], []), ([6], [6]), ([7], [7]), ([8], [8]), ([], []), ([10], [10]), ([9, 11], [9, 11]), ([12], [12]), ([], []), ([14], [14]), ([15], [15]), ([16], [16]), ([17], [17]), ([18], [18]), ([13, 19], [13, 19]), ([3, 5, 0, 1, 2, 3, 4, 5, 6, 7, 8, 9, 10, 11, 12, 13, 14, 15, 16, 17, 18, 19, 20], [3, 5]), ([21, 20, 20, 0, 1, 2, 3, 4, 5, 6, 7, 8, 9, 10, 11, 12, 13, 14, 15, 16, 17, 18, 19, 20], [20, 21])])
def impl_newResidual_B5 : List Nat := [0, 1, 3, 7, 0, 16, 0, 64, 192, 448, 0, 1024, 4032, 8128, 0, 16384, 49152, 114688, 245760, 507904, 1048512, 2097151, 4194303]
theorem impl_newResidual_tab5 : rtab .any (opsOf Try.f145 5) = impl_newResidual_T5 := by kernel_rfl
theorem impl_newResidual_bits5 : waitsOk impl_newResidual_T5.2 impl_newResidual_B5 = true := by kernel_rfl
def impl_newResidual_T6 : Bool × List (List Nat × List Nat) := (true, [([], []), ([0], [0]), ([1], [1]), ([2], [2]), ([], []), ([4], [4]), ([], []), ([6], [6]), ([7], [7]), ([8], [8]), ([], []), ([10], [10]), ([9, 11], [9, 11]), ([12], [12]), ([], []), ([14], [14]), ([15], [15]), ([16], [16]), ([17], [17]), ([18], [18]), ([19], [19]), ([13, 20], [13, 20]), ([3, 5, 0, 1, 2, 3, 4, 5, 6, 7, 8, 9, 10, 11, 12, 13, 14, 15, 16, 17, 18, 19, 20, 21], [3, 5]), ([22, 21, 21, 0, 1, 2, 3, 4, 5, 6, 7, 8, 9, 10, 11, 12, 13, 14, 15, 16, 17, 18, 19, 20, 21], [21, 22])])
def impl_newResidual_B6 : List Nat := [0, 1, 3, 7, 0, 16, 0, 64, 192, 448, 0, 1024, 4032, 8128, 0, 16384, 49152, 114688, 245760, 507904, 1032192, 2097088, 4194303, 8388607]
theorem impl_newResidual_tab6 : rtab .any (opsOf Try.f145 6) = impl_newResidual_T6 := by kernel_rfl
theorem impl_newResidual_bits6 : waitsOk impl_newResidual_T6.2 impl_newResidual_B6 = true := by kernel_rfl
def impl_newResidual_T7 : Bool × List (List Nat × List Nat) := (true, [([], []), ([], []), ([1], [1]), ([2], [2]), ([3], [3]), ([], []), ([5], [5]), ([], []), ([7], [7]), ([6, 8], [6, 8]), ([4, 9], [4, 9]), ([0, 0, 1, 2, 3, 4, 5, 6, 7, 8, 9, 10], [0]), ([11, 0, 1, 2, 3, 4, 5, 6, 7, 8, 9, 10], [11]), ([12, 10, 10, 0, 1, 2, 3, 4, 5, 6, 7, 8, 9, 10], [10, 12])])
def impl_newResidual_B7 : List Nat := [0, 0, 2, 6, 14, 0, 32, 0, 128, 480, 1022, 2047, 4095, 8191]
theorem impl_newResidual_tab7 : rtab .any (opsOf Try.f145 7) = impl_newResidual_T7 := by kernel_rfl
theorem impl_newResidual_bits7 : waitsOk impl_newResidual_T7.2 impl_newResidual_B7 = true := by kernel_rfl
def impl_newResidual_T8 : Bool × List (List Nat × List Nat) := (true, [([], []), ([], []), ([1], [1]), ([2], [2]), ([3], [3]), ([], []), ([5], [5]), ([6], [6]), ([4, 7], [4, 7]), ([0, 0, 1, 2, 3, 4, 5, 6, 7, 8], [0]), ([9, 0, 1, 2, 3, 4, 5, 6, 7, 8], [9]), ([10, 8, 8, 0, 1, 2, 3, 4, 5, 6, 7, 8], [8, 10])])
def impl_newResidual_B8 : List Nat := [0, 0, 2, 6, 14, 0, 32, 96, 254, 511, 1023, 2047]
theorem impl_newResidual_tab8 : rtab .any (opsOf Try.f145 8) = impl_newResidual_T8 := by kernel_rfl
theorem impl_newResidual_bits8 : waitsOk impl_newResidual_T8.2 impl_newResidual_B8 = true := by kernel_rfl
set_option maxHeartbeats 16000000 in
set_option maxRecDepth 100000 in
theorem start_callsI (n : Nat) (A : Option Addr) (c : Nat) (l : List S99) (w : World) (h1 : Kd.C k99 w A l.length l) (e1 : l.length ≤ c) (hn : 2 ≤ n ∧ n ≤ 130) (hl : l.length ≤ 8000) (hE : ∀ j, j < l.length → okE n (l.getD j z99)) :
  Calls Try.prog 145 #[.int .i64 n, .slice A l.length c] w fun e w' => ∃ (p gf cf : Nat) (vT vL : Value), e = .returned (.pointer (some ⟨p, 0, none⟩)) ∧ w.heap.size ≤ p ∧ w'.heap[p]? = some (.cells #[.slice (some ⟨gf, 0, none⟩) n cf, vT, vL, .slice none 0 0, .slice none 0 0] 195 (0, 0)) ∧
   Kd.R (Kd.int .i64) 3 w' w.heap.size (fun k => k ≠ p ∧ some k ≠ vL.ownBlock) vT (tosL l) ∧ Kd.R (Kd.int .i64) 3 w' w.heap.size (fun k => k ≠ p ∧ some k ≠ vT.ownBlock) vL (leftL l) ∧ Kd.S kRows 24 w' w.heap.size (fun k => (k ≠ p ∧ some k ≠ vL.ownBlock) ∧ some k ≠ vT.ownBlock) (.slice (some ⟨gf, 0, none⟩) n cf) (adjL l n l.length) ∧ Below w.heap.size w w' := by
 have hu97 := Try.underlying195
 have hu68 := Try.underlying99
 have H1 := Aside0.mk h1
 have HN := Aside0.mk hn
 have HLL := Aside0.mk hl
 have HE := Aside0.mk hE
 have HB := Aside0.mk (Below.refl w.heap.size w)
 have n0 := eq_true (show 0 ≤ (n : Int) by omega)
 have n1 : decide (0 ≤ (n : Int)) = true := decide_eq_true (by omega)
 have n2 : decide ((n : Int).toNat ≤ 35184372088832) = true := decide_eq_true (by omega)
 have n3 := eq_true (show (n : Int).toNat ≤ 35184372088832 by omega)
 clear h1 e1 hn hl hE
 go_enter Try.func145, Try.ntmps145
 go_wp2_with (first | ((with_reducible refine gate_dst (N := 9) rfl ?_); refine Kd.S_make kRows _ 24 rfl (N := 9) rfl 182 _ _ rfl (n : Int) rfl rfl Try.underlying182 (.slice none 0 0) 24 inf33 rfl (by decide) (by omega) [] (ok := fun _ => True) (okp := fun _ => True) ⟨_, rfl, Kd.R_nil _ _ _ _ _⟩ (fun _ hk => hk) trivial (of_decide_eq_true (by first | (with_reducible assumption) | assumption)) (Nat.le_trans (Nat.mul_le_mul_right _ (Nat.le_of_eq (Int.toNat_natCast n))) (by have := HN.out; omega)) (Below.refl _ _) (Nat.le_refl _) ?_; intro vb w7 ho8 hb hg_ hnew_; clear hg_ hnew_; rw [Int.toNat_natCast] at ho8; obtain ⟨gf, cf, eo, gb, gl_, cl_, HG_⟩ := Kd.S_form ho8 (by rw [List.length_replicate]; have := HN.out; omega); rw [List.length_replicate] at eo; subst eo; have n0_ := Aside0.mk ho8; have n1_ := Aside0.mk (below_step HB.out hb); clear HB; have HS := n0_; have HB := n1_; clear n0_ n1_ gb gl_ cl_ HG_ hb ho8))
 obtain ⟨p, ep⟩ : ∃ z, z = w7.heap.size := ⟨_, rfl⟩
 have HPW : Aside0 (w.heap.size ≤ p) := ⟨by rw [ep]; exact below_size HB.out⟩
 have BK : Aside0 ((w7.alloc (Obj.cells #[.slice (some ⟨gf, 0, none⟩) n cf, .slice none 0 0, .slice none 0 0, .slice none 0 0, .slice none 0 0] 195)).heap[p]? = some (.cells #[.slice (some ⟨gf, 0, none⟩) n cf, .slice none 0 0, .slice none 0 0, .slice none 0 0, .slice none 0 0] 195 (0, 0))) := ⟨by rw [ep]; exact blk_new w7 _⟩
 have HS1 : Aside0 (Kd.S kRows 24 (w7.alloc (Obj.cells #[.slice (some ⟨gf, 0, none⟩) n cf, .slice none 0 0, .slice none 0 0, .slice none 0 0, .slice none 0 0] 195)) w.heap.size (fun k => (k ≠ p ∧ some k ≠ (Value.slice none 0 0).ownBlock) ∧ some k ≠ (Value.slice none 0 0).ownBlock) (.slice (some ⟨gf, 0, none⟩) n cf) (List.replicate n [])) := ⟨Kd.S_below (Kd.S_mono (Kd.S_bound HS.out) (fun k hk => ⟨⟨by have := hk.2.2.1; omega, by simp [Value.ownBlock]⟩, by simp [Value.ownBlock]⟩)) (below_alloc (Below.refl _ _) _)⟩
 have HB1 := Aside0.mk (below_alloc HB.out (Obj.cells #[.slice (some ⟨gf, 0, none⟩) n cf, .slice none 0 0, .slice none 0 0, .slice none 0 0, .slice none 0 0] 195))
 rw [← ep]
 clear HS HB ep
 generalize w7.alloc (Obj.cells #[.slice (some ⟨gf, 0, none⟩) n cf, .slice none 0 0, .slice none 0 0, .slice none 0 0, .slice none 0 0] 195) = w8 at BK HS1 HB1 ⊢
 go_loopg [14] (l.length) (fun q v14 wr => ∃ (i : Int) (vT vL : Value), v14 = .int .i64 i ∧ Aside0 (0 ≤ i ∧ i + q = l.length) ∧ Aside0 (wr.heap[p]? = some (.cells #[.slice (some ⟨gf, 0, none⟩) n cf, vT, vL, .slice none 0 0, .slice none 0 0] 195 (0, 0))) ∧ Aside0 (Kd.R (Kd.int .i64) 3 wr w.heap.size (fun k => k ≠ p ∧ some k ≠ vL.ownBlock) vT (tosL (l.take i.toNat))) ∧ Aside0 (Kd.R (Kd.int .i64) 3 wr w.heap.size (fun k => k ≠ p ∧ some k ≠ vT.ownBlock) vL (leftL (l.take i.toNat))) ∧ Aside0 (Kd.S kRows 24 wr w.heap.size (fun k => (k ≠ p ∧ some k ≠ vL.ownBlock) ∧ some k ≠ vT.ownBlock) (.slice (some ⟨gf, 0, none⟩) n cf) (adjL l n i.toNat)) ∧ Aside0 (Below w.heap.size w wr))
 case atStart => exact ⟨0, .slice none 0 0, .slice none 0 0, rfl, ⟨by omega⟩, BK, ⟨Kd.R_nil _ _ _ _ _⟩, ⟨Kd.R_nil _ _ _ _ _⟩, ⟨by rw [show (0 : Int).toNat = 0 from rfl]; unfold adjL; rw [foldR_end (Nat.le_refl _)]; exact HS1.out⟩, HB1⟩
 case round =>
  clear BK HS1 HB1
  obtain ⟨i, vT, vL, rfl, HI, BK, HT, HL, HS, HB⟩ := hrel
  cases gk with
  | zero =>
   have hi := HI.out
   have t1 : decide (i < (l.length : Int)) = false := decide_eq_false (by omega)
   have ei : i.toNat = l.length := by omega
   rw [ei, List.take_length] at HT HL
   rw [ei] at HS
   clear hi ei
   go_wp2_with fail
   go_ret
   exact ⟨p, gf, cf, vT, vL, rfl, HPW.out, BK.out, HT.out, HL.out, HS.out, HB.out⟩
  | succ q =>
   have hi := HI.out
   have hlt : i < (l.length : Int) := by omega
   have t1 : decide (i < (l.length : Int)) = true := decide_eq_true hlt
   have q0 := eq_true hi.1
   have q1 := eq_true hlt
   obtain ⟨ad, eA, hx0, hx1, hx2⟩ := at_T99 H1.out i hi.1 hlt
   subst eA
   replace hx0 := (HB.out.cell (World.block_lt_of_cell? w _ hx0)).trans hx0
   replace hx1 := (HB.out.cell (World.block_lt_of_cell? w _ hx1)).trans hx1
   replace hx2 := (HB.out.cell (World.block_lt_of_cell? w _ hx2)).trans hx2
   obtain ⟨x, ex⟩ : ∃ x, x = rd_T99 l i := ⟨_, rfl⟩
   rw [← ex] at hx0 hx1 hx2
   have EX : Aside0 (x = l.getD i.toNat z99) := ⟨ex⟩
   have hxk := HE.out i.toNat (by omega)
   rw [← EX.out] at hxk
   obtain ⟨At_, ct_, ev_⟩ := Kd.R_slice HT.out
   obtain ⟨mt, emt⟩ : ∃ z, z = (tosL (l.take i.toNat)).length := ⟨_, rfl⟩
   rw [← emt] at ev_
   subst ev_
   rw [tosL_len, List.length_take] at emt
   have HMT : Aside0 ((mt : Int) = 2 * i) := ⟨by omega⟩
   have hw3 : wrap64 ((mt : Int) + 1) = (mt : Int) + 1 := w64 (by omega) (by have := HLL.out; omega)
   clear emt
   have q2 := eq_true hxk.1
   have q3 := eq_true hxk.2.1
   have q4 := eq_true hxk.2.2.1
   have q5 := eq_true hxk.2.2.2.1
   have HXK := Aside0.mk hxk
   have HLEN : Aside0 (i.toNat ≤ 8000 ∧ i.toNat < l.length) := ⟨by have := HLL.out; omega⟩
   have HIT := Aside0.mk hi.1
   clear hi hlt ex hxk
   go_wp2_with fail
   obtain ⟨g9, e9⟩ : ∃ z, z = wr.heap.size := ⟨_, rfl⟩
   have n0_ := Aside0.mk (blk_alloc BK.out (Obj.cells #[.int .i64 x.f0, .int .i64 x.f1, .int .i64 x.f2] 99))
   have n1_ := Aside0.mk (Kd.R_alloc HT.out (Obj.cells #[.int .i64 x.f0, .int .i64 x.f1, .int .i64 x.f2] 99))
   have n2_ := Aside0.mk (Kd.R_alloc HL.out (Obj.cells #[.int .i64 x.f0, .int .i64 x.f1, .int .i64 x.f2] 99))
   have n3_ := Aside0.mk (Kd.S_below HS.out (below_alloc (Below.refl _ _) (Obj.cells #[.int .i64 x.f0, .int .i64 x.f1, .int .i64 x.f2] 99)))
   have n4_ : Aside0 ((wr.alloc (Obj.cells #[.int .i64 x.f0, .int .i64 x.f1, .int .i64 x.f2] 99)).heap[g9]? = some (.cells #[.int .i64 x.f0, .int .i64 x.f1, .int .i64 x.f2] 99 (0, 0))) := ⟨by rw [e9]; exact blk_new wr _⟩
   have n5_ := Aside0.mk (below_alloc HB.out (Obj.cells #[.int .i64 x.f0, .int .i64 x.f1, .int .i64 x.f2] 99))
   have HP9 : Aside0 (p ≠ g9) := ⟨by have := blk_lt BK.out; omega⟩
   rw [← e9]
   clear BK HT HL HS HB e9 hx0 hx1 hx2
   generalize wr.alloc (Obj.cells #[.int .i64 x.f0, .int .i64 x.f1, .int .i64 x.f2] 99) = wx at n0_ n1_ n2_ n3_ n4_ n5_ ⊢
   have BK := n0_
   have HT := n1_
   have HL := n2_
   have HS := n3_
   have BE := n4_
   have HB := n5_
   clear n0_ n1_ n2_ n3_ n4_ n5_
   have BK := Aside0.mk (blk_drew BK.out)
   have HT := Aside0.mk (Kd.R_drew HT.out)
   have HL := Aside0.mk (Kd.R_drew HL.out)
   have HS := Aside0.mk (Kd.S_drew HS.out)
   have BE := Aside0.mk (blk_drew BE.out)
   have HB := Aside0.mk (below_drew1 HB.out)
   obtain ⟨vr_, hcr, hfr, ⟨oki, hoki, hrr⟩, hrp⟩ := row_push HS.out x.f0 HXK.out.1 HXK.out.2.1 (fun k hk => ⟨⟨by have := blk_lt BK.out; omega, fun e_ => by have := Kd.R_lt HL.out k e_.symm; omega⟩, fun e_ => by have := Kd.R_lt HT.out k e_.symm; omega⟩)
   have HRR := Aside0.mk hrr
   have HRP := Aside0.mk hrp
   have HOK := Aside0.mk hoki
   clear hrr hrp hoki
   refine start_ (n := 23) (S := fun w' => w'.cell? ⟨p, 0, none⟩ = some (.slice (some ⟨gf, 0, none⟩) n cf) ∧ w'.cell? ⟨g9, 0, none⟩ = some (.int .i64 x.f0) ∧ w'.cell? ⟨gf, x.f0.toNat, none⟩ = some (vr_) ∧ w'.cell? ⟨p, 1, none⟩ = some ((Value.slice At_ mt ct_))) (ds := [22]) (fl 23 0) (by kernel_rfl) rfl rfl ⟨(blk_cell BK.out 0).trans rfl, (blk_cell BE.out 0).trans rfl, hcr, (blk_cell BK.out 1).trans rfl⟩ (fun hHeld => ?_)
   refine with_tabW impl_newResidual_tab5 impl_newResidual_bits5 (fun HT_ HW_ => ?_)
   generalize wx.drew = wa at BK HT HL HS BE HB hcr hfr HRR HRP hHeld ⊢
   refine wp_in [(0, 18, 1, 0), (1, 19, 3, 0), (2, 20, 7, 0), (4, 22, 23, 0), (6, 24, 87, 0), (7, 25, 215, 0), (8, 26, 471, 0), (10, 28, 1495, 0), (14, 32, 17879, 0), (15, 33, 50647, 0), (16, 34, 116183, 0), (3, 21, 116191, 1), (5, 23, 116223, 1), (9, 27, 116735, 1), (11, 29, 118783, 1), (12, 30, 122879, 0), (13, 31, 131071, 1), (17, 35, 262143, 1), (18, 36, 524287, 0)] 23 ?_
   iterate 19 (first | (refine pn_ (oi := ?_) (v := ?_) (a' := ?_) HT_.out ?_ ?_ ?_ ?_ ?_ ?_ ?_ ?_; rotate_left 3; rfl; rfl; kernel_rfl; exact fun _ _ _ h => h; rfl; intro w'; go_simp; with_reducible rfl; simp only [Act.put, List.setIfInBounds_toArray, List.set_cons_zero, List.set_cons_succ, i64_w, i32_w]; rfl) | (refine tn_ (oi := ?_) (v := ?_) (a' := ?_) HT_.out HW_.out hHeld ?_ ?_ ?_ ?_ ?_ ?_ ?_ ?_; rotate_left 3; rfl; rfl; kernel_rfl; exact fun _ _ _ h => h; rfl; rintro w' ⟨s0, s1, s2, s3⟩; go_simp; with_reducible rfl; simp only [Act.put, List.setIfInBounds_toArray, List.set_cons_zero, List.set_cons_succ, i64_w, i32_w]; rfl))
   refine wp_out ?_
   refine one_ (i := 19) (N := some 37) (fl 23 1048575) rfl rfl (one_of HT_.out (by kernel_rfl)) (by decide) (fun K hK => ?_)
   refine Kd.R_lit_step (Kd.int .i64) _ 3 (by rfl) (N := 37) rfl (xs := [(mt : Int)]) (inner := [.int .i64 ((mt : Int))]) (ok := fun _ => True) (okp := fun _ => False) ?hr (Kd.reps_scalar [(mt : Int)]) (fun _ hk => hk.elim) trivial (Below.refl _ _) (Nat.le_refl _) (by simp) ?_
   (case hr => first | (go_simp; done) | (go_simp; rfl))
   intro vN wn hon hbn hgn_ hnn_
   obtain ⟨gn, cn, eN, gbn, _, _, _⟩ := Kd.R_form hon (by simp)
   subst eN
   have HNW := Aside0.mk hon
   have HBN := Aside0.mk hbn
   have n0_ := Aside0.mk (blk_below BK.out hbn)
   have n1_ := Aside0.mk (Kd.R_below HT.out hbn)
   have n2_ := Aside0.mk (Kd.R_below HL.out hbn)
   have n3_ := Aside0.mk (Kd.S_below HS.out hbn)
   have n4_ := Aside0.mk (blk_below BE.out hbn)
   have n5_ := Aside0.mk (below_step HB.out hbn)
   clear BK HT HL HS BE HB hon hbn hgn_ hnn_ gbn
   have BK := n0_
   have HT := n1_
   have HL := n2_
   have HS := n3_
   have BE := n4_
   have HB := n5_
   clear n0_ n1_ n2_ n3_ n4_ n5_
   have hcr := (HBN.out.cell (World.block_lt_of_cell? wa _ hcr)).trans hcr
   have HR2 := Aside0.mk (Kd.R_below HRR.out HBN.out)
   refine hK.out _ _ ⟨(blk_cell BK.out 0).trans rfl, (blk_cell BE.out 0).trans rfl, hcr, (blk_cell BK.out 1).trans rfl⟩ (fun hHeld => ?_)
   clear hK K
   refine norm_ (a' := ?_) ?_ ?_
   rotate_left
   ·show Act.put _ (some 37) _ = _
    simp only [Act.put, List.setIfInBounds_toArray, List.set_cons_zero, List.set_cons_succ, i64_w, i32_w]
    rfl
   refine one_ (i := 20) (N := some 38) (fl 23 2097151) rfl rfl (one_of HT_.out (by kernel_rfl)) (by decide) (fun K hK => ?_)
   refine Kd.R_append_rows_step (Kd.int .i64) (Rr := (Kd.int .i64).K wn) (w0 := w) w.heap.size (by rfl) (.tmp 31) (.tmp 37) 24 3 (.int .i64 0) 8 rfl Try.underlying24 inf3 rfl (by decide) (by omega) vr_ (row (adjL l n i.toNat) x.f0) [(mt : Int)] (some ⟨gn, 0, none⟩) 1 cn (fun _ => True) (fun _ => False) (by rfl) (by rfl) (Kd.R_mono HR2.out (fun _ _ => trivial)) (Kd.R_reads' HNW.out).2.2 (fun _ _ h => h) (fun _ hk => hk.elim) (fun _ _ => trivial) HB.out (below_size HB.out) ?hl ?_
   (case hl => have h1_ := HLEN.out; have h2_ := adjL_row l n i.toNat x.f0; omega)
   intro v1 w1 ho1 hb1 hg1 hat1
   obtain ⟨Ad_, cd_, ev1⟩ := Kd.R_slice ho1
   generalize List.length (_ ++ _) = md_ at ev1
   subst ev1
   have hrb : ∀ k, vr_.ownBlock = some k → oki k := fun k hk => HRR.out.1 k hk
   have hpT : some p ≠ vr_.ownBlock := fun e_ => ((HOK.out p (hrb p e_.symm)).1.1.1) rfl
   have h9T := Kd.R_ne HR2.out BE.out (by decide)
   obtain ⟨hcp, hfp, hS1⟩ := HRP.out w1 (Value.slice Ad_ md_ cd_) (row (adjL l n i.toNat) x.f0 ++ [(mt : Int)]) (fun k h1_ h2_ => (hg1.block k (Nat.lt_of_lt_of_le h1_ HBN.out.size) h2_).trans (HBN.out.block k h1_)) (hat1.elim (fun h => Or.inl h) (fun ⟨k, h1_, h2_⟩ => Or.inr ⟨k, h1_, Nat.le_trans HBN.out.size h2_⟩)) (Kd.R_mono ho1 (fun _ _ => trivial))
   have n0_ := Aside0.mk ((hg1.block p (blk_lt BK.out) hpT).trans BK.out)
   have n4_ := Aside0.mk ((hg1.block g9 (blk_lt BE.out) h9T).trans BE.out)
   have n1_ := Aside0.mk (Kd.R_grown2 HT.out rfl hg1 (fun k hk e_ => (HOK.out k (hrb k hk)).1.2 e_))
   have n2_ := Aside0.mk (Kd.R_grown2 HL.out rfl hg1 (fun k hk e_ => (HOK.out k (hrb k hk)).1.1.2 e_))
   have n5_ := Aside0.mk hb1
   have HS1 := Aside0.mk hS1
   have HGF : Aside0 ((gf ≠ p ∧ some gf ≠ vL.ownBlock) ∧ some gf ≠ (Value.slice At_ mt ct_).ownBlock) := ⟨(Kd.S_R HS.out).1 gf rfl⟩
   have HGW : Aside0 (w.heap.size ≤ gf) := ⟨Kd.S_base HS.out gf rfl⟩
   have h9g : g9 ≠ gf := fun e_ => Kd.S_ne HS.out BE.out (by decide) (by rw [e_]; rfl)
   have H9G := Aside0.mk h9g
   clear BK HT HL HS BE HB ho1 hb1 hg1 hat1 hpT h9T HNW HBN hS1 hrb HRR HRP HOK HR2 h9g hcr hfr
   have BK := n0_
   have HT := n1_
   have HL := n2_
   have BE := n4_
   have HB := n5_
   clear n0_ n1_ n2_ n4_ n5_
   refine hK.out _ _ ⟨(blk_cell BK.out 0).trans rfl, (blk_cell BE.out 0).trans rfl, hcp, (blk_cell BK.out 1).trans rfl⟩ (fun hHeld => ?_)
   clear hK K
   refine norm_ (a' := ?_) ?_ ?_
   rotate_left
   ·show Act.put _ (some 38) _ = _
    simp only [Act.put, List.setIfInBounds_toArray, List.set_cons_zero, List.set_cons_succ, i64_w, i32_w]
    rfl
   refine wp_in [(21, 39, 4194303, 0)] 23 ?_
   iterate 1 ((refine pn_ (oi := ?_) (v := ?_) (a' := ?_) HT_.out ?_ ?_ ?_ ?_ ?_ ?_ ?_ ?_; rotate_left 3; rfl; rfl; kernel_rfl; exact fun _ _ _ h => h; rfl; intro w'; go_simp; with_reducible rfl; simp only [Act.put, List.setIfInBounds_toArray, List.set_cons_zero, List.set_cons_succ, i64_w, i32_w]; rfl))
   refine wp_out ?_
   refine last_ (i := 22) (N := none) (fl 23 8388607) rfl rfl (one_of HT_.out (by kernel_rfl)) (by decide) (fun K hK => ?_)
   refine skip_ (w1 := ?_) (by rfl) rfl ?_ ?_
   rotate_left
   ·go_simp
    rfl
   refine hK.out _ _ ?_
   clear hK K
   refine done_ (done_of HT_.out (by kernel_rfl)) ?_
   clear hcp hfp
   have n0_ := Aside0.mk (blk_far (p := ⟨gf, x.f0.toNat, none⟩) BK.out (fun e_ => HGF.out.1.1 e_.symm) (Value.slice Ad_ md_ cd_))
   have n1_ := Aside0.mk (Kd.R_mono (Kd.R_far (p := ⟨gf, x.f0.toNat, none⟩) (Kd.R_tight2 rfl HT.out) (fun k hk e_ => HGF.out.2 (by rw [← hk.1, e_])) (Value.slice Ad_ md_ cd_)) (ok' := (fun k => k ≠ p ∧ some k ≠ vL.ownBlock)) (fun k hk => hk.2))
   have n2_ := Aside0.mk (Kd.R_mono (Kd.R_far (p := ⟨gf, x.f0.toNat, none⟩) (Kd.R_tight2 rfl HL.out) (fun k hk e_ => HGF.out.1.2 (by rw [← hk.1, e_])) (Value.slice Ad_ md_ cd_)) (ok' := (fun k => k ≠ p ∧ some k ≠ (Value.slice At_ mt ct_).ownBlock)) (fun k hk => hk.2))
   have n3_ := HS1
   have n4_ := Aside0.mk (blk_far (p := ⟨gf, x.f0.toNat, none⟩) BE.out (fun e_ => H9G.out e_) (Value.slice Ad_ md_ cd_))
   have n5_ := Aside0.mk (below_set (g := gf) (j := x.f0.toNat) (v := (Value.slice Ad_ md_ cd_)) HB.out HGW.out)
   obtain ⟨rwd, erwd⟩ : ∃ z, z = List.set (adjL l n i.toNat) x.f0.toNat (row (adjL l n i.toNat) x.f0 ++ [(mt : Int)]) := ⟨_, rfl⟩
   rw [← erwd] at n3_
   have Hrwd := Aside0.mk erwd
   clear BK HT HL BE HB HS1 HGF HGW H9G erwd
   generalize (w1.setCell ⟨gf, x.f0.toNat, none⟩ (Value.slice Ad_ md_ cd_)) = wb at n0_ n1_ n2_ n3_ n4_ n5_ ⊢
   have BK := n0_
   have HT := n1_
   have HL := n2_
   have HS := n3_
   have BE := n4_
   have HB := n5_
   clear n0_ n1_ n2_ n3_ n4_ n5_
   go_wp2_with fail
   have BK := Aside0.mk (blk_drew BK.out)
   have HT := Aside0.mk (Kd.R_drew HT.out)
   have HL := Aside0.mk (Kd.R_drew HL.out)
   have HS := Aside0.mk (Kd.S_drew HS.out)
   have BE := Aside0.mk (blk_drew BE.out)
   have HB := Aside0.mk (below_drew1 HB.out)
   obtain ⟨vr_, hcr, hfr, ⟨oki, hoki, hrr⟩, hrp⟩ := row_push HS.out x.f1 HXK.out.2.2.1 HXK.out.2.2.2.1 (fun k hk => ⟨⟨by have := blk_lt BK.out; omega, fun e_ => by have := Kd.R_lt HL.out k e_.symm; omega⟩, fun e_ => by have := Kd.R_lt HT.out k e_.symm; omega⟩)
   have HRR := Aside0.mk hrr
   have HRP := Aside0.mk hrp
   have HOK := Aside0.mk hoki
   clear hrr hrp hoki
   refine start_ (n := 24) (S := fun w' => w'.cell? ⟨p, 0, none⟩ = some (.slice (some ⟨gf, 0, none⟩) n cf) ∧ w'.cell? ⟨g9, 1, none⟩ = some (.int .i64 x.f1) ∧ w'.cell? ⟨gf, x.f1.toNat, none⟩ = some (vr_) ∧ w'.cell? ⟨p, 1, none⟩ = some ((Value.slice At_ mt ct_))) (ds := [23]) (fl 24 0) (by kernel_rfl) rfl rfl ⟨(blk_cell BK.out 0).trans rfl, (blk_cell BE.out 1).trans rfl, hcr, (blk_cell BK.out 1).trans rfl⟩ (fun hHeld => ?_)
   refine with_tabW impl_newResidual_tab6 impl_newResidual_bits6 (fun HT_ HW_ => ?_)
   generalize wb.drew = wc at BK HT HL HS BE HB hcr hfr HRR HRP hHeld ⊢
   refine wp_in [(0, 40, 1, 0), (1, 41, 3, 0), (2, 42, 7, 0), (4, 44, 23, 0), (6, 46, 87, 0), (7, 47, 215, 0), (8, 48, 471, 0), (10, 50, 1495, 0), (14, 54, 17879, 0), (15, 55, 50647, 0), (16, 56, 116183, 0), (3, 43, 116191, 1), (5, 45, 116223, 1), (9, 49, 116735, 1), (11, 51, 118783, 1), (12, 52, 122879, 0), (13, 53, 131071, 1), (17, 57, 262143, 1), (18, 58, 524287, 0), (19, 59, 1048575, 0)] 24 ?_
   iterate 20 (first | (refine pn_ (oi := ?_) (v := ?_) (a' := ?_) HT_.out ?_ ?_ ?_ ?_ ?_ ?_ ?_ ?_; rotate_left 3; rfl; rfl; kernel_rfl; exact fun _ _ _ h => h; rfl; intro w'; go_simp; with_reducible rfl; simp only [Act.put, List.setIfInBounds_toArray, List.set_cons_zero, List.set_cons_succ, i64_w, i32_w]; rfl) | (refine tn_ (oi := ?_) (v := ?_) (a' := ?_) HT_.out HW_.out hHeld ?_ ?_ ?_ ?_ ?_ ?_ ?_ ?_; rotate_left 3; rfl; rfl; kernel_rfl; exact fun _ _ _ h => h; rfl; rintro w' ⟨s0, s1, s2, s3⟩; go_simp; with_reducible rfl; simp only [Act.put, List.setIfInBounds_toArray, List.set_cons_zero, List.set_cons_succ, i64_w, i32_w]; rfl))
   refine wp_out ?_
   refine one_ (i := 20) (N := some 60) (fl 24 2097151) rfl rfl (one_of HT_.out (by kernel_rfl)) (by decide) (fun K hK => ?_)
   refine Kd.R_lit_step (Kd.int .i64) _ 3 (by rfl) (N := 60) rfl (xs := [(mt : Int) + 1]) (inner := [.int .i64 ((mt : Int) + 1)]) (ok := fun _ => True) (okp := fun _ => False) ?hr (Kd.reps_scalar [(mt : Int) + 1]) (fun _ hk => hk.elim) trivial (Below.refl _ _) (Nat.le_refl _) (by simp) ?_
   (case hr => first | (go_simp; done) | (go_simp; rfl))
   intro vN wn hon hbn hgn_ hnn_
   obtain ⟨gn, cn, eN, gbn, _, _, _⟩ := Kd.R_form hon (by simp)
   subst eN
   have HNW := Aside0.mk hon
   have HBN := Aside0.mk hbn
   have n0_ := Aside0.mk (blk_below BK.out hbn)
   have n1_ := Aside0.mk (Kd.R_below HT.out hbn)
   have n2_ := Aside0.mk (Kd.R_below HL.out hbn)
   have n3_ := Aside0.mk (Kd.S_below HS.out hbn)
   have n4_ := Aside0.mk (blk_below BE.out hbn)
   have n5_ := Aside0.mk (below_step HB.out hbn)
   clear BK HT HL HS BE HB hon hbn hgn_ hnn_ gbn
   have BK := n0_
   have HT := n1_
   have HL := n2_
   have HS := n3_
   have BE := n4_
   have HB := n5_
   clear n0_ n1_ n2_ n3_ n4_ n5_
   have hcr := (HBN.out.cell (World.block_lt_of_cell? wc _ hcr)).trans hcr
   have HR2 := Aside0.mk (Kd.R_below HRR.out HBN.out)
   refine hK.out _ _ ⟨(blk_cell BK.out 0).trans rfl, (blk_cell BE.out 1).trans rfl, hcr, (blk_cell BK.out 1).trans rfl⟩ (fun hHeld => ?_)
   clear hK K
   refine norm_ (a' := ?_) ?_ ?_
   rotate_left
   ·show Act.put _ (some 60) _ = _
    simp only [Act.put, List.setIfInBounds_toArray, List.set_cons_zero, List.set_cons_succ, i64_w, i32_w]
    rfl
   refine one_ (i := 21) (N := some 61) (fl 24 4194303) rfl rfl (one_of HT_.out (by kernel_rfl)) (by decide) (fun K hK => ?_)
   refine Kd.R_append_rows_step (Kd.int .i64) (Rr := (Kd.int .i64).K wn) (w0 := w) w.heap.size (by rfl) (.tmp 53) (.tmp 60) 24 3 (.int .i64 0) 8 rfl Try.underlying24 inf3 rfl (by decide) (by omega) vr_ (row (rwd) x.f1) [(mt : Int) + 1] (some ⟨gn, 0, none⟩) 1 cn (fun _ => True) (fun _ => False) (by rfl) (by rfl) (Kd.R_mono HR2.out (fun _ _ => trivial)) (Kd.R_reads' HNW.out).2.2 (fun _ _ h => h) (fun _ hk => hk.elim) (fun _ _ => trivial) HB.out (below_size HB.out) ?hl ?_
   (case hl => have h1_ := HLEN.out; have h2_ := row_set_len (b := 2 * i.toNat) (b' := 2 * i.toNat + 1) (k := x.f0.toNat) (r := row (adjL l n i.toNat) x.f0 ++ [(mt : Int)]) (adjL_row l n i.toNat) (by rw [List.length_append]; have := adjL_row l n i.toNat x.f0; show _ + 1 ≤ _; omega) (by omega) x.f1; rw [← Hrwd.out] at h2_; omega)
   intro v1 w1 ho1 hb1 hg1 hat1
   obtain ⟨Ae_, ce_, ev1⟩ := Kd.R_slice ho1
   generalize List.length (_ ++ _) = me_ at ev1
   subst ev1
   have hrb : ∀ k, vr_.ownBlock = some k → oki k := fun k hk => HRR.out.1 k hk
   have hpT : some p ≠ vr_.ownBlock := fun e_ => ((HOK.out p (hrb p e_.symm)).1.1.1) rfl
   have h9T := Kd.R_ne HR2.out BE.out (by decide)
   obtain ⟨hcp, hfp, hS1⟩ := HRP.out w1 (Value.slice Ae_ me_ ce_) (row (rwd) x.f1 ++ [(mt : Int) + 1]) (fun k h1_ h2_ => (hg1.block k (Nat.lt_of_lt_of_le h1_ HBN.out.size) h2_).trans (HBN.out.block k h1_)) (hat1.elim (fun h => Or.inl h) (fun ⟨k, h1_, h2_⟩ => Or.inr ⟨k, h1_, Nat.le_trans HBN.out.size h2_⟩)) (Kd.R_mono ho1 (fun _ _ => trivial))
   have n0_ := Aside0.mk ((hg1.block p (blk_lt BK.out) hpT).trans BK.out)
   have n4_ := Aside0.mk ((hg1.block g9 (blk_lt BE.out) h9T).trans BE.out)
   have n1_ := Aside0.mk (Kd.R_grown2 HT.out rfl hg1 (fun k hk e_ => (HOK.out k (hrb k hk)).1.2 e_))
   have n2_ := Aside0.mk (Kd.R_grown2 HL.out rfl hg1 (fun k hk e_ => (HOK.out k (hrb k hk)).1.1.2 e_))
   have n5_ := Aside0.mk hb1
   have HS1 := Aside0.mk hS1
   have HGF : Aside0 ((gf ≠ p ∧ some gf ≠ vL.ownBlock) ∧ some gf ≠ (Value.slice At_ mt ct_).ownBlock) := ⟨(Kd.S_R HS.out).1 gf rfl⟩
   have HGW : Aside0 (w.heap.size ≤ gf) := ⟨Kd.S_base HS.out gf rfl⟩
   have h9g : g9 ≠ gf := fun e_ => Kd.S_ne HS.out BE.out (by decide) (by rw [e_]; rfl)
   have H9G := Aside0.mk h9g
   clear BK HT HL HS BE HB ho1 hb1 hg1 hat1 hpT h9T HNW HBN hS1 hrb HRR HRP HOK HR2 h9g hcr hfr
   have BK := n0_
   have HT := n1_
   have HL := n2_
   have BE := n4_
   have HB := n5_
   clear n0_ n1_ n2_ n4_ n5_
   refine hK.out _ _ ⟨(blk_cell BK.out 0).trans rfl, (blk_cell BE.out 1).trans rfl, hcp, (blk_cell BK.out 1).trans rfl⟩ (fun hHeld => ?_)
   clear hK K
   refine norm_ (a' := ?_) ?_ ?_
   rotate_left
   ·show Act.put _ (some 61) _ = _
    simp only [Act.put, List.setIfInBounds_toArray, List.set_cons_zero, List.set_cons_succ, i64_w, i32_w]
    rfl
   refine wp_in [(22, 62, 8388607, 0)] 24 ?_
   iterate 1 ((refine pn_ (oi := ?_) (v := ?_) (a' := ?_) HT_.out ?_ ?_ ?_ ?_ ?_ ?_ ?_ ?_; rotate_left 3; rfl; rfl; kernel_rfl; exact fun _ _ _ h => h; rfl; intro w'; go_simp; with_reducible rfl; simp only [Act.put, List.setIfInBounds_toArray, List.set_cons_zero, List.set_cons_succ, i64_w, i32_w]; rfl))
   refine wp_out ?_
   refine last_ (i := 23) (N := none) (fl 24 16777215) rfl rfl (one_of HT_.out (by kernel_rfl)) (by decide) (fun K hK => ?_)
   refine skip_ (w1 := ?_) (by rfl) rfl ?_ ?_
   rotate_left
   ·go_simp
    rfl
   refine hK.out _ _ ?_
   clear hK K
   refine done_ (done_of HT_.out (by kernel_rfl)) ?_
   clear hcp hfp
   have n0_ := Aside0.mk (blk_far (p := ⟨gf, x.f1.toNat, none⟩) BK.out (fun e_ => HGF.out.1.1 e_.symm) (Value.slice Ae_ me_ ce_))
   have n1_ := Aside0.mk (Kd.R_mono (Kd.R_far (p := ⟨gf, x.f1.toNat, none⟩) (Kd.R_tight2 rfl HT.out) (fun k hk e_ => HGF.out.2 (by rw [← hk.1, e_])) (Value.slice Ae_ me_ ce_)) (ok' := (fun k => k ≠ p ∧ some k ≠ vL.ownBlock)) (fun k hk => hk.2))
   have n2_ := Aside0.mk (Kd.R_mono (Kd.R_far (p := ⟨gf, x.f1.toNat, none⟩) (Kd.R_tight2 rfl HL.out) (fun k hk e_ => HGF.out.1.2 (by rw [← hk.1, e_])) (Value.slice Ae_ me_ ce_)) (ok' := (fun k => k ≠ p ∧ some k ≠ (Value.slice At_ mt ct_).ownBlock)) (fun k hk => hk.2))
   have n3_ := HS1
   have n4_ := Aside0.mk (blk_far (p := ⟨gf, x.f1.toNat, none⟩) BE.out (fun e_ => H9G.out e_) (Value.slice Ae_ me_ ce_))
   have n5_ := Aside0.mk (below_set (g := gf) (j := x.f1.toNat) (v := (Value.slice Ae_ me_ ce_)) HB.out HGW.out)
   obtain ⟨rwe, erwe⟩ : ∃ z, z = List.set (rwd) x.f1.toNat (row (rwd) x.f1 ++ [(mt : Int) + 1]) := ⟨_, rfl⟩
   rw [← erwe] at n3_
   have Hrwe := Aside0.mk erwe
   clear BK HT HL BE HB HS1 HGF HGW H9G erwe
   generalize (w1.setCell ⟨gf, x.f1.toNat, none⟩ (Value.slice Ae_ me_ ce_)) = wd at n0_ n1_ n2_ n3_ n4_ n5_ ⊢
   have BK := n0_
   have HT := n1_
   have HL := n2_
   have HS := n3_
   have BE := n4_
   have HB := n5_
   clear n0_ n1_ n2_ n3_ n4_ n5_
   go_wp2_with fail
   have BK := Aside0.mk (blk_drew BK.out)
   have HT := Aside0.mk (Kd.R_drew HT.out)
   have HL := Aside0.mk (Kd.R_drew HL.out)
   have HS := Aside0.mk (Kd.S_drew HS.out)
   have BE := Aside0.mk (blk_drew BE.out)
   have HB := Aside0.mk (below_drew1 HB.out)
   refine start_ (n := 14) (S := fun w' => w'.cell? ⟨p, 1, none⟩ = some ((Value.slice At_ mt ct_)) ∧ w'.cell? ⟨g9, 1, none⟩ = some (.int .i64 x.f1) ∧ w'.cell? ⟨g9, 0, none⟩ = some (.int .i64 x.f0)) (ds := [13]) (fl 14 0) (by kernel_rfl) rfl rfl ⟨(blk_cell BK.out 1).trans rfl, (blk_cell BE.out 1).trans rfl, (blk_cell BE.out 0).trans rfl⟩ (fun hHeld => ?_)
   refine with_tabW impl_newResidual_tab7 impl_newResidual_bits7 (fun HT_ HW_ => ?_)
   generalize wd.drew = we at BK HT HL HS BE HB hHeld ⊢
   refine wp_in [(0, 63, 1, 0), (1, 64, 3, 0), (2, 65, 7, 0), (3, 66, 15, 0), (5, 68, 47, 0), (7, 70, 175, 0), (4, 67, 191, 1), (6, 69, 255, 1), (8, 71, 511, 1)] 14 ?_
   iterate 9 (first | (refine pn_ (oi := ?_) (v := ?_) (a' := ?_) HT_.out ?_ ?_ ?_ ?_ ?_ ?_ ?_ ?_; rotate_left 3; rfl; rfl; kernel_rfl; exact fun _ _ _ h => h; rfl; intro w'; go_simp; with_reducible rfl; simp only [Act.put, List.setIfInBounds_toArray, List.set_cons_zero, List.set_cons_succ, i64_w, i32_w]; rfl) | (refine tn_ (oi := ?_) (v := ?_) (a' := ?_) HT_.out HW_.out hHeld ?_ ?_ ?_ ?_ ?_ ?_ ?_ ?_; rotate_left 3; rfl; rfl; kernel_rfl; exact fun _ _ _ h => h; rfl; rintro w' ⟨s0, s1, s2⟩; go_simp; with_reducible rfl; simp only [Act.put, List.setIfInBounds_toArray, List.set_cons_zero, List.set_cons_succ, i64_w, i32_w]; rfl))
   refine wp_out ?_
   refine one_ (i := 9) (N := some 72) (fl 14 1023) rfl rfl (one_of HT_.out (by kernel_rfl)) (by decide) (fun K hK => ?_)
   refine Kd.R_lit_step (Kd.int .i64) _ 3 (by rfl) (N := 72) rfl (xs := [x.f1, x.f0]) (inner := [.int .i64 x.f1, .int .i64 x.f0]) (ok := fun _ => True) (okp := fun _ => False) ?hr (Kd.reps_scalar [x.f1, x.f0]) (fun _ hk => hk.elim) trivial (Below.refl _ _) (Nat.le_refl _) (by simp) ?_
   (case hr => first | (go_simp; done) | (go_simp; rfl))
   intro vN wn hon hbn hgn_ hnn_
   obtain ⟨gn, cn, eN, gbn, _, _, _⟩ := Kd.R_form hon (by simp)
   subst eN
   have HNW := Aside0.mk hon
   have HBN := Aside0.mk hbn
   have n0_ := Aside0.mk (blk_below BK.out hbn)
   have n1_ := Aside0.mk (Kd.R_below HT.out hbn)
   have n2_ := Aside0.mk (Kd.R_below HL.out hbn)
   have n3_ := Aside0.mk (Kd.S_below HS.out hbn)
   have n4_ := Aside0.mk (blk_below BE.out hbn)
   have n5_ := Aside0.mk (below_step HB.out hbn)
   clear BK HT HL HS BE HB hon hbn hgn_ hnn_ gbn
   have BK := n0_
   have HT := n1_
   have HL := n2_
   have HS := n3_
   have BE := n4_
   have HB := n5_
   clear n0_ n1_ n2_ n3_ n4_ n5_
   refine hK.out _ _ ⟨(blk_cell BK.out 1).trans rfl, (blk_cell BE.out 1).trans rfl, (blk_cell BE.out 0).trans rfl⟩ (fun hHeld => ?_)
   clear hK K
   refine norm_ (a' := ?_) ?_ ?_
   rotate_left
   ·show Act.put _ (some 72) _ = _
    simp only [Act.put, List.setIfInBounds_toArray, List.set_cons_zero, List.set_cons_succ, i64_w, i32_w]
    rfl
   refine one_ (i := 10) (N := some 73) (fl 14 2047) rfl rfl (one_of HT_.out (by kernel_rfl)) (by decide) (fun K hK => ?_)
   refine Kd.R_append_rows_step (Kd.int .i64) (Rr := (Kd.int .i64).K wn) (w0 := w) w.heap.size (by rfl) (.tmp 67) (.tmp 72) 24 3 (.int .i64 0) 8 rfl Try.underlying24 inf3 rfl (by decide) (by omega) (Value.slice At_ mt ct_) (tosL (l.take i.toNat)) [x.f1, x.f0] (some ⟨gn, 0, none⟩) 2 cn (fun k => k ≠ p ∧ some k ≠ vL.ownBlock) (fun _ => False) (by rfl) (by rfl) HT.out (Kd.R_reads' HNW.out).2.2 (fun _ _ h => h) (fun _ hk => hk.elim) ?hf HB.out (below_size HB.out) ?hl ?_
   (case hf => exact fun k hk => ⟨by have := blk_lt BK.out; omega, fun e_ => by have := Kd.R_lt HL.out k e_.symm; omega⟩)
   (case hl => have h1_ := HLEN.out; rw [show (tosL (l.take i.toNat)).length = 2 * i.toNat from by rw [tosL_len, List.length_take]; omega]; omega)
   intro v1 w1 ho1 hb1 hg1 hat1
   obtain ⟨Aa_, ca_, ev1⟩ := Kd.R_slice ho1
   generalize List.length (_ ++ _) = ma_ at ev1
   subst ev1
   have hpT : some p ≠ (Value.slice At_ mt ct_).ownBlock := fun e_ => (HT.out.1 p e_.symm).1 rfl
   have h9T := Kd.R_ne HT.out BE.out (by decide)
   have n0_ := Aside0.mk ((hg1.block p (blk_lt BK.out) hpT).trans BK.out)
   have n4_ := Aside0.mk ((hg1.block g9 (blk_lt BE.out) h9T).trans BE.out)
   have n1_ := Aside0.mk ho1
   have n2_ := Aside0.mk (Kd.R_after HL.out hg1 hat1)
   have n3_ := Aside0.mk (Kd.S_after HS.out hg1 hat1)
   have n5_ := Aside0.mk hb1
   clear BK HT HL HS BE HB ho1 hb1 hg1 hat1 hpT h9T HNW HBN
   have BK := n0_
   have HT := n1_
   have HL := n2_
   have HS := n3_
   have BE := n4_
   have HB := n5_
   clear n0_ n1_ n2_ n3_ n4_ n5_
   have hcp := (blk_cell BK.out 1).trans (show _ = some _ from rfl)
   have hfp := blk_frozen BK.out 1
   refine hK.out _ _ ⟨(blk_cell BK.out 1).trans rfl, (blk_cell BE.out 1).trans rfl, (blk_cell BE.out 0).trans rfl⟩ (fun hHeld => ?_)
   clear hK K
   refine norm_ (a' := ?_) ?_ ?_
   rotate_left
   ·show Act.put _ (some 73) _ = _
    simp only [Act.put, List.setIfInBounds_toArray, List.set_cons_zero, List.set_cons_succ, i64_w, i32_w]
    rfl
   refine wp_in [(11, 74, 4095, 0), (12, 75, 8191, 0)] 14 ?_
   iterate 2 ((refine pn_ (oi := ?_) (v := ?_) (a' := ?_) HT_.out ?_ ?_ ?_ ?_ ?_ ?_ ?_ ?_; rotate_left 3; rfl; rfl; kernel_rfl; exact fun _ _ _ h => h; rfl; intro w'; go_simp; with_reducible rfl; simp only [Act.put, List.setIfInBounds_toArray, List.set_cons_zero, List.set_cons_succ, i64_w, i32_w]; rfl))
   refine wp_out ?_
   refine last_ (i := 13) (N := none) (fl 14 16383) rfl rfl (one_of HT_.out (by kernel_rfl)) (by decide) (fun K hK => ?_)
   refine skip_ (w1 := ?_) (by rfl) rfl ?_ ?_
   rotate_left
   ·go_simp
    rfl
   refine hK.out _ _ ?_
   clear hK K
   refine done_ (done_of HT_.out (by kernel_rfl)) ?_
   clear hcp hfp
   have n0_ : Aside0 ((w1.setCell ⟨p, 1, none⟩ (Value.slice Aa_ ma_ ca_)).heap[p]? = some (.cells #[.slice (some ⟨gf, 0, none⟩) n cf, (Value.slice Aa_ ma_ ca_), vL, .slice none 0 0, .slice none 0 0] 195 (0, 0))) := ⟨blk_put BK.out 1 (Value.slice Aa_ ma_ ca_) rfl⟩
   have n1_ := Aside0.mk (Kd.R_far (p := ⟨p, 1, none⟩) HT.out (fun k hk => hk.1) (Value.slice Aa_ ma_ ca_))
   have n2_ := Aside0.mk (Kd.R_far (p := ⟨p, 1, none⟩) HL.out (fun k hk => hk.1) (Value.slice Aa_ ma_ ca_))
   have n3_ := Aside0.mk (Kd.S_far (p := ⟨p, 1, none⟩) HS.out (fun k hk => hk.1.1) (Value.slice Aa_ ma_ ca_))
   have n4_ := Aside0.mk (blk_far (p := ⟨p, 1, none⟩) BE.out (fun e_ => HP9.out e_.symm) (Value.slice Aa_ ma_ ca_))
   have n5_ := Aside0.mk (below_set (g := p) (j := 1) (v := (Value.slice Aa_ ma_ ca_)) HB.out HPW.out)
   clear BK HT HL HS BE HB
   generalize (w1.setCell ⟨p, 1, none⟩ (Value.slice Aa_ ma_ ca_)) = wf at n0_ n1_ n2_ n3_ n4_ n5_ ⊢
   have BK := n0_
   have HT := n1_
   have HL := n2_
   have HS := n3_
   have BE := n4_
   have HB := n5_
   clear n0_ n1_ n2_ n3_ n4_ n5_
   go_wp2_with fail
   have BK := Aside0.mk (blk_drew BK.out)
   have HT := Aside0.mk (Kd.R_drew HT.out)
   have HL := Aside0.mk (Kd.R_drew HL.out)
   have HS := Aside0.mk (Kd.S_drew HS.out)
   have BE := Aside0.mk (blk_drew BE.out)
   have HB := Aside0.mk (below_drew1 HB.out)
   refine start_ (n := 12) (S := fun w' => w'.cell? ⟨p, 2, none⟩ = some (vL) ∧ w'.cell? ⟨g9, 2, none⟩ = some (.int .i64 x.f2)) (ds := [11]) (fl 12 0) (by kernel_rfl) rfl rfl ⟨(blk_cell BK.out 2).trans rfl, (blk_cell BE.out 2).trans rfl⟩ (fun hHeld => ?_)
   refine with_tabW impl_newResidual_tab8 impl_newResidual_bits8 (fun HT_ HW_ => ?_)
   generalize wf.drew = wg at BK HT HL HS BE HB hHeld ⊢
   refine wp_in [(0, 76, 1, 0), (1, 77, 3, 0), (2, 78, 7, 0), (3, 79, 15, 0), (5, 81, 47, 0), (4, 80, 63, 1), (6, 82, 127, 1)] 12 ?_
   iterate 7 (first | (refine pn_ (oi := ?_) (v := ?_) (a' := ?_) HT_.out ?_ ?_ ?_ ?_ ?_ ?_ ?_ ?_; rotate_left 3; rfl; rfl; kernel_rfl; exact fun _ _ _ h => h; rfl; intro w'; go_simp; with_reducible rfl; simp only [Act.put, List.setIfInBounds_toArray, List.set_cons_zero, List.set_cons_succ, i64_w, i32_w]; rfl) | (refine tn_ (oi := ?_) (v := ?_) (a' := ?_) HT_.out HW_.out hHeld ?_ ?_ ?_ ?_ ?_ ?_ ?_ ?_; rotate_left 3; rfl; rfl; kernel_rfl; exact fun _ _ _ h => h; rfl; rintro w' ⟨s0, s1⟩; go_simp; with_reducible rfl; simp only [Act.put, List.setIfInBounds_toArray, List.set_cons_zero, List.set_cons_succ, i64_w, i32_w]; rfl))
   refine wp_out ?_
   refine one_ (i := 7) (N := some 83) (fl 12 255) rfl rfl (one_of HT_.out (by kernel_rfl)) (by decide) (fun K hK => ?_)
   refine Kd.R_lit_step (Kd.int .i64) _ 3 (by rfl) (N := 83) rfl (xs := [x.f2, 0]) (inner := [.int .i64 x.f2, .int .i64 0]) (ok := fun _ => True) (okp := fun _ => False) ?hr (Kd.reps_scalar [x.f2, 0]) (fun _ hk => hk.elim) trivial (Below.refl _ _) (Nat.le_refl _) (by simp) ?_
   (case hr => first | (go_simp; done) | (go_simp; rfl))
   intro vN wn hon hbn hgn_ hnn_
   obtain ⟨gn, cn, eN, gbn, _, _, _⟩ := Kd.R_form hon (by simp)
   subst eN
   have HNW := Aside0.mk hon
   have HBN := Aside0.mk hbn
   have n0_ := Aside0.mk (blk_below BK.out hbn)
   have n1_ := Aside0.mk (Kd.R_below HT.out hbn)
   have n2_ := Aside0.mk (Kd.R_below HL.out hbn)
   have n3_ := Aside0.mk (Kd.S_below HS.out hbn)
   have n4_ := Aside0.mk (blk_below BE.out hbn)
   have n5_ := Aside0.mk (below_step HB.out hbn)
   clear BK HT HL HS BE HB hon hbn hgn_ hnn_ gbn
   have BK := n0_
   have HT := n1_
   have HL := n2_
   have HS := n3_
   have BE := n4_
   have HB := n5_
   clear n0_ n1_ n2_ n3_ n4_ n5_
   refine hK.out _ _ ⟨(blk_cell BK.out 2).trans rfl, (blk_cell BE.out 2).trans rfl⟩ (fun hHeld => ?_)
   clear hK K
   refine norm_ (a' := ?_) ?_ ?_
   rotate_left
   ·show Act.put _ (some 83) _ = _
    simp only [Act.put, List.setIfInBounds_toArray, List.set_cons_zero, List.set_cons_succ, i64_w, i32_w]
    rfl
   refine one_ (i := 8) (N := some 84) (fl 12 511) rfl rfl (one_of HT_.out (by kernel_rfl)) (by decide) (fun K hK => ?_)
   refine Kd.R_append_rows_step (Kd.int .i64) (Rr := (Kd.int .i64).K wn) (w0 := w) w.heap.size (by rfl) (.tmp 80) (.tmp 83) 24 3 (.int .i64 0) 8 rfl Try.underlying24 inf3 rfl (by decide) (by omega) vL (leftL (l.take i.toNat)) [x.f2, 0] (some ⟨gn, 0, none⟩) 2 cn (fun k => k ≠ p ∧ some k ≠ (Value.slice Aa_ ma_ ca_).ownBlock) (fun _ => False) (by rfl) (by rfl) HL.out (Kd.R_reads' HNW.out).2.2 (fun _ _ h => h) (fun _ hk => hk.elim) ?hf HB.out (below_size HB.out) ?hl ?_
   (case hf => exact fun k hk => ⟨by have := blk_lt BK.out; omega, fun e_ => by have := Kd.R_lt HT.out k e_.symm; omega⟩)
   (case hl => have h1_ := HLEN.out; rw [show (leftL (l.take i.toNat)).length = 2 * i.toNat from by rw [leftL_len, List.length_take]; omega]; omega)
   intro v1 w1 ho1 hb1 hg1 hat1
   obtain ⟨Ab_, cb_, ev1⟩ := Kd.R_slice ho1
   generalize List.length (_ ++ _) = mb_ at ev1
   subst ev1
   have hpT : some p ≠ vL.ownBlock := fun e_ => (HL.out.1 p e_.symm).1 rfl
   have h9T := Kd.R_ne HL.out BE.out (by decide)
   have n0_ := Aside0.mk ((hg1.block p (blk_lt BK.out) hpT).trans BK.out)
   have n4_ := Aside0.mk ((hg1.block g9 (blk_lt BE.out) h9T).trans BE.out)
   have n2_ := Aside0.mk ho1
   have n1_ := Aside0.mk (Kd.R_after HT.out hg1 hat1)
   have n3_ := Aside0.mk (Kd.S_mono (Kd.S_after (Kd.S_mono HS.out (ok' := fun k => (k ≠ p ∧ some k ≠ (Value.slice Aa_ ma_ ca_).ownBlock) ∧ some k ≠ vL.ownBlock) (fun k hk => ⟨⟨hk.1.1, hk.2⟩, hk.1.2⟩)) hg1 hat1) (ok' := (fun k => (k ≠ p ∧ some k ≠ (Value.slice Ab_ mb_ cb_).ownBlock) ∧ some k ≠ (Value.slice Aa_ ma_ ca_).ownBlock)) (fun k hk => ⟨⟨hk.1.1, hk.2⟩, hk.1.2⟩))
   have n5_ := Aside0.mk hb1
   clear BK HT HL HS BE HB ho1 hb1 hg1 hat1 hpT h9T HNW HBN
   have BK := n0_
   have HT := n1_
   have HL := n2_
   have HS := n3_
   have BE := n4_
   have HB := n5_
   clear n0_ n1_ n2_ n3_ n4_ n5_
   have hcp := (blk_cell BK.out 2).trans (show _ = some _ from rfl)
   have hfp := blk_frozen BK.out 2
   refine hK.out _ _ ⟨(blk_cell BK.out 2).trans rfl, (blk_cell BE.out 2).trans rfl⟩ (fun hHeld => ?_)
   clear hK K
   refine norm_ (a' := ?_) ?_ ?_
   rotate_left
   ·show Act.put _ (some 84) _ = _
    simp only [Act.put, List.setIfInBounds_toArray, List.set_cons_zero, List.set_cons_succ, i64_w, i32_w]
    rfl
   refine wp_in [(9, 85, 1023, 0), (10, 86, 2047, 0)] 12 ?_
   iterate 2 ((refine pn_ (oi := ?_) (v := ?_) (a' := ?_) HT_.out ?_ ?_ ?_ ?_ ?_ ?_ ?_ ?_; rotate_left 3; rfl; rfl; kernel_rfl; exact fun _ _ _ h => h; rfl; intro w'; go_simp; with_reducible rfl; simp only [Act.put, List.setIfInBounds_toArray, List.set_cons_zero, List.set_cons_succ, i64_w, i32_w]; rfl))
   refine wp_out ?_
   refine last_ (i := 11) (N := none) (fl 12 4095) rfl rfl (one_of HT_.out (by kernel_rfl)) (by decide) (fun K hK => ?_)
   refine skip_ (w1 := ?_) (by rfl) rfl ?_ ?_
   rotate_left
   ·go_simp
    rfl
   refine hK.out _ _ ?_
   clear hK K
   refine done_ (done_of HT_.out (by kernel_rfl)) ?_
   clear hcp hfp
   have n0_ : Aside0 ((w1.setCell ⟨p, 2, none⟩ (Value.slice Ab_ mb_ cb_)).heap[p]? = some (.cells #[.slice (some ⟨gf, 0, none⟩) n cf, (Value.slice Aa_ ma_ ca_), (Value.slice Ab_ mb_ cb_), .slice none 0 0, .slice none 0 0] 195 (0, 0))) := ⟨blk_put BK.out 2 (Value.slice Ab_ mb_ cb_) rfl⟩
   have n1_ := Aside0.mk (Kd.R_far (p := ⟨p, 2, none⟩) HT.out (fun k hk => hk.1) (Value.slice Ab_ mb_ cb_))
   have n2_ := Aside0.mk (Kd.R_far (p := ⟨p, 2, none⟩) HL.out (fun k hk => hk.1) (Value.slice Ab_ mb_ cb_))
   have n3_ := Aside0.mk (Kd.S_far (p := ⟨p, 2, none⟩) HS.out (fun k hk => hk.1.1) (Value.slice Ab_ mb_ cb_))
   have n4_ := Aside0.mk (blk_far (p := ⟨p, 2, none⟩) BE.out (fun e_ => HP9.out e_.symm) (Value.slice Ab_ mb_ cb_))
   have n5_ := Aside0.mk (below_set (g := p) (j := 2) (v := (Value.slice Ab_ mb_ cb_)) HB.out HPW.out)
   clear BK HT HL HS BE HB
   generalize (w1.setCell ⟨p, 2, none⟩ (Value.slice Ab_ mb_ cb_)) = wh at n0_ n1_ n2_ n3_ n4_ n5_ ⊢
   have BK := n0_
   have HT := n1_
   have HL := n2_
   have HS := n3_
   have BE := n4_
   have HB := n5_
   clear n0_ n1_ n2_ n3_ n4_ n5_
   go_wp2_with fail
   go_roundg q
   case measure => omega
   case rel =>
    have hi := HI.out
    have hl := HLL.out
    have hlen := HLEN.out
    have eT : tosL (l.take i.toNat) ++ [x.f1, x.f0] = tosL (l.take (i.toNat + 1)) := by rw [EX.out, tosL_snoc l i.toNat hlen.2]
    have eL : leftL (l.take i.toNat) ++ [x.f2, 0] = leftL (l.take (i.toNat + 1)) := by rw [EX.out, leftL_snoc l i.toNat hlen.2]
    have eA : rwe = adjL l n (i.toNat + 1) := by
     unfold adjL
     rw [foldR_last (Nat.zero_le _)]
     unfold adjAt
     rw [← EX.out, show ((i.toNat : Nat) : Int) = i by omega, Hrwe.out, Hrwd.out, HMT.out]
     rfl
    rw [eT] at HT
    rw [eL] at HL
    rw [eA] at HS
    refine ⟨i + 1, (Value.slice Aa_ ma_ ca_), (Value.slice Ab_ mb_ cb_), by rw [w64 (by omega) (by omega)], ⟨by omega⟩, BK, ?_, ?_, ?_, HB⟩
    ·rw [show (i + 1).toNat = i.toNat + 1 by omega]; exact HT
    ·rw [show (i + 1).toNat = i.toNat + 1 by omega]; exact HL
    ·rw [show (i + 1).toNat = i.toNat + 1 by omega]; exact HS
end Go.Proofs.Ytomfjhpiemipkaa.OwnStartI
