/- The contract of push of spec's state, by hand: it does what pushL says. -/
import Derived.Test.YtomfjhpiemipkaaTBaseJ
import Derived.Test.YtomfjhpiemipkaaTOwnPush
import Derived.Test.YtomfjhpiemipkaaTMFnFlowValuesx0
import Derived.Test.YtomfjhpiemipkaaTWKept
import Derived.Test.YtomfjhpiemipkaaTWAt
import Derived.Test.YtomfjhpiemipkaaTStep
import Derived.Laws.Bits64
namespace Go.Proofs.Ytomfjhpiemipkaa.OwnPushS
open Go.RowKit Go.Proofs.Ytomfjhpiemipkaa.PFnFlowValues Go.Proofs.Ytomfjhpiemipkaa.OwnPush Go.Proofs.YtomfjhpiemipkaaW.PrintWords Go.Proofs.YtomfjhpiemipkaaW.PrintLast Go.Proofs.YtomfjhpiemipkaaW.PrintMore Go.Proofs.Ytomfjhpiemipkaa.B Go.Proofs.Ytomfjhpiemipkaa.Flow
attribute [local go_sem] max2_int min2_int max_two min_two
set_option linter.unusedVariables false
set_option linter.unusedSimpArgs false
/-- The state at block p as the base world w0 has it, for as long as only the blocks of what is left and of next are written. -/
structure ResS (w0 : World) (p n L : Nat) (Ae At Av : Addr) (ce ct cl cv cx gl gx : Nat) (adj : List (List Int)) (tos lev : List Int) : Prop where
 blk : ∀ W, Kp w0 W (fun k => k = gl ∨ k = gx) → W.heap[p]? = some (.cells #[.int .i64 n, .slice (some At) L ct, .slice (some ⟨gl, 0, none⟩) L cl, .slice (some Ae) n ce] 198 (0, 0))
 E : ∀ W, Kp w0 W (fun k => k = gl ∨ k = gx) → Kd.C kRows W (some Ae) n adj
 T : ∀ W, Kp w0 W (fun k => k = gl ∨ k = gx) → Kd.C (Kd.int .i64) W (some At) L tos
 V : ∀ W, Kp w0 W (fun k => k = gl ∨ k = gx) → Kd.C (Kd.int .i64) W (some Av) n lev
 sep : (gl ≠ gx ∧ p ≠ gl) ∧ p ≠ gx
 cap : (n ≤ ce ∧ L ≤ ct) ∧ n ≤ cv
def spec_mfState_push_T3 : Bool × List (List Nat × List Nat) := (true, [([], []), ([], []), ([0, 1], [0, 1]), ([2], [2]), ([], []), ([4], [4]), ([5], [5]), ([6], [6]), ([], []), ([7, 8], [7, 8]), ([9], [9]), ([10], [10]), ([3, 11], [3, 11])])
def spec_mfState_push_B3 : List Nat := [0, 0, 3, 7, 0, 16, 48, 112, 0, 496, 1008, 2032, 4095]
theorem spec_mfState_push_tab3 : rtab .any (opsOf Try.f206 3) = spec_mfState_push_T3 := by kernel_rfl
theorem spec_mfState_push_bits3 : waitsOk spec_mfState_push_T3.2 spec_mfState_push_B3 = true := by kernel_rfl
def spec_mfState_push_T5 : Bool × List (List Nat × List Nat) := (true, [([], []), ([0], [0]), ([1], [1]), ([2], [2]), ([], []), ([3, 4], [3, 4]), ([5], [5]), ([], []), ([], []), ([7, 8], [7, 8]), ([9], [9]), ([6, 10], [6, 10]), ([11], [11]), ([12, 0, 1, 2, 3, 4, 5, 6, 7, 8, 9, 10, 11, 12], [12])])
def spec_mfState_push_B5 : List Nat := [0, 1, 3, 7, 0, 31, 63, 0, 0, 384, 896, 2047, 4095, 8191]
theorem spec_mfState_push_tab5 : rtab .any (opsOf Try.f206 5) = spec_mfState_push_T5 := by kernel_rfl
theorem spec_mfState_push_bits5 : waitsOk spec_mfState_push_T5.2 spec_mfState_push_B5 = true := by kernel_rfl
def spec_mfState_push_T6 : Bool × List (List Nat × List Nat) := (true, [([], []), ([0], [0]), ([1], [1]), ([2], [2]), ([], []), ([3, 4], [3, 4]), ([5], [5]), ([6], [6]), ([7], [7]), ([8], [8]), ([8], [8]), ([10, 8], [8, 10]), ([11, 8], [8, 11]), ([12, 8], [8, 12]), ([8], [8]), ([13, 14, 8], [8, 13, 14]), ([15, 8], [8, 15]), ([9, 16, 8], [8, 9, 16]), ([17, 8], [8, 17]), ([8], [8]), ([8], [8]), ([19, 20, 8], [8, 19, 20]), ([21, 8], [8, 21]), ([22, 8], [8, 22]), ([18, 23, 8], [8, 18, 23]), ([8, 24], [8, 24])])
def spec_mfState_push_B6 : List Nat := [0, 1, 3, 7, 0, 31, 63, 127, 255, 511, 511, 1535, 3583, 7679, 511, 32255, 65023, 131071, 262143, 511, 511, 1573375, 3670527, 7864831, 16777215, 33554431]
theorem spec_mfState_push_tab6 : rtab .any (opsOf Try.f206 6) = spec_mfState_push_T6 := by kernel_rfl
theorem spec_mfState_push_bits6 : waitsOk spec_mfState_push_T6.2 spec_mfState_push_B6 = true := by kernel_rfl
def spec_mfState_push_T7 : Bool × List (List Nat × List Nat) := (true, [([], []), ([], []), ([1], [1]), ([2], [2]), ([3], [3]), ([], []), ([4, 5], [4, 5]), ([6], [6]), ([], []), ([], []), ([9], [9]), ([10], [10]), ([11], [11]), ([], []), ([12, 13], [12, 13]), ([14], [14]), ([8, 15], [8, 15]), ([], []), ([], []), ([0, 7, 16, 17, 18, 16], [0, 7, 16, 17, 18]), ([19, 19, 0, 1, 2, 3, 4, 5, 6, 7, 8, 9, 10, 11, 12, 13, 14, 15, 16, 17, 18, 19], [19])])
def spec_mfState_push_B7 : List Nat := [0, 0, 2, 6, 14, 0, 62, 126, 0, 0, 512, 1536, 3584, 0, 15872, 32256, 65280, 0, 0, 524287, 1048575]
theorem spec_mfState_push_tab7 : rtab .any (opsOf Try.f206 7) = spec_mfState_push_T7 := by kernel_rfl
theorem spec_mfState_push_bits7 : waitsOk spec_mfState_push_T7.2 spec_mfState_push_B7 = true := by kernel_rfl
theorem drawn_below0 {w w' : World} (h : Drawn0 w w') : Below w.heap.size w w' := by
 obtain ⟨n, rfl⟩ := h
 exact pw_below_drewN (Below.refl _ _) n
set_option maxHeartbeats 8000000 in
set_option maxRecDepth 100000 in
theorem push_callsS {n m L : Nat} {tos lev d : List Int} {adj : List (List Int)} {w0 : World} {p : Nat} {Ae At Av : Addr} {ce ct cl cv cx gl gx b : Nat}
  (N : Net n m tos adj) (hn : n ≤ 130) (hm : m ≤ 8000) (hL : L = 2 * m) (hdn : ∀ v : Int, 0 ≤ v → v < n → -1 ≤ rd d v ∧ rd d v ≤ 130) (hlev : ∀ v : Int, 0 ≤ v → v < n → rd lev v = rd d v) (O : ResS w0 p n L Ae At Av ce ct cl cv cx gl gx adj tos lev) :
  ∀ (k : Nat) (u most : Int) (left next : List Int) (r : Int × List Int × List Int) (w : World), (if u = (n : Int) - 1 then some (most, left, next) else pushL tos adj d ((n : Int) - 1) k u most left next) = some r →
   0 ≤ u → u < n → 0 ≤ rd d u → 0 < most → most ≤ 2305843009213693952 → Flow.Good m left → NextOk n adj next → Kp w0 w (fun k => k = gl ∨ k = gx) → RI b w gl L cl left → RI b w gx n cx next →
   Calls Try.prog 206 #[.pointer (some ⟨p, 0, none⟩), .int .i64 u, .int .i64 most, .slice (some Av) n cv, .slice (some ⟨gx, 0, none⟩) n cx] w fun e w' => e = .returned (.int .i64 r.1) ∧ Kp w0 w' (fun k => k = gl ∨ k = gx) ∧ RI b w' gl L cl r.2.1 ∧ RI b w' gx n cx r.2.2 := by
 have hu115 := Try.underlying198
 intro k
 induction k using Nat.strongRecOn with
 | ind k ih =>
  intro u most left next r w h u0 u1 ud m0 m1 hg hx hk hl hnx
  have IH := Aside0.mk ih
  have HD := Aside0.mk hdn
  have HLV := Aside0.mk hlev
  have NN := Aside0.mk N
  have OO := Aside0.mk O
  have hn2 := N.nd
  have HB := Aside0.mk (And.intro (And.intro hn hm) hL)
  have HK := Aside0.mk hk
  have hp := O.blk w hk
  have hc0 : w.cell? ⟨p, 0, none⟩ = some (.int .i64 n) := (blk_cell hp 0).trans rfl
  have hw : wrap64 ((n : Int) - 1) = (n : Int) - 1 := w64 (by omega) (by omega)
  clear ih hdn hlev N O hn hm hp
  by_cases us : u = (n : Int) - 1
  ·rw [if_pos us] at h
   injection h with h
   subst h
   have t0 : (u == (n : Int) - 1) = true := beq_iff_eq.mpr us
   have HL := Aside0.mk hl
   have HX := Aside0.mk hnx
   clear us hl hnx hk hg hx hL
   go_enter Try.func206, Try.ntmps206
   go_wp2_with fail
   go_ret
   exact ⟨rfl, HK.out, HL.out, HX.out⟩
  ·rw [if_neg us] at h
   have t0 : (u == (n : Int) - 1) = false := beq_eq_false_iff_ne.mpr us
   have HH := Aside0.mk h
   have HL := Aside0.mk hl
   have HX := Aside0.mk hnx
   have HG := Aside0.mk (And.intro hg hx)
   have HM := Aside0.mk (And.intro m0 m1)
   have HU := Aside0.mk (And.intro (And.intro u0 u1) (And.intro ud us))
   have q0 := eq_true u0
   have q1 := eq_true u1
   clear us hl hnx hk hg hx h m0 m1 u0 u1 ud hL
   go_enter Try.func206, Try.ntmps206
   go_wp2_with fail
   clear hc0 hw
   go_loopg [10] (k) (fun fu v10 wr => ∃ (lf nx : List Int), v10 = .int .i64 0 ∧ Aside0 (pushL tos adj d ((n : Int) - 1) fu u most lf nx = some r) ∧ Aside0 (fu ≤ k) ∧ Aside0 (Flow.Good m lf ∧ NextOk n adj nx) ∧ Aside0 (Kp w0 wr (fun k => k = gl ∨ k = gx)) ∧ Aside0 (RI b wr gl L cl lf) ∧ Aside0 (RI b wr gx n cx nx))
   case atStart => exact ⟨left, next, rfl, ⟨HH.out⟩, ⟨Nat.le_refl _⟩, ⟨HG.out⟩, ⟨HK.out⟩, ⟨HL.out⟩, ⟨HX.out⟩⟩
   case round =>
    clear HH HG HK HL HX
    obtain ⟨lf, nx, rfl, HH, HF, HG, HK, HL, HX⟩ := hrel
    cases gk with
    | zero => have := HH.out; cases this
    | succ fu =>
     obtain ⟨j, ej⟩ : ∃ j, j = rd nx u := ⟨_, rfl⟩
     have hj := HG.out.2.2 u HU.out.1.1 HU.out.1.2
     have HJ := Aside0.mk ej
     obtain ⟨len, elen⟩ : ∃ q, q = (row adj u).length := ⟨_, rfl⟩
     rw [← ej, ← elen] at hj
     have HLEN := Aside0.mk elen
     clear elen ej
     by_cases c1 : j < (len : Int)
     ·have hd : decide (j < (len : Int)) = true := decide_eq_true c1
      have q2 := eq_true hj.1
      have q3 := eq_true c1
      have HJB := Aside0.mk (And.intro hj.1 c1)
      obtain ⟨e, ee⟩ : ∃ q, q = rd (row adj u) j := ⟨_, rfl⟩
      have hmem : e ∈ row adj u := by rw [ee]; exact row_mem hj.1 (by rw [← HLEN.out]; exact c1)
      have hE := NN.out.row u HU.out.1.1 HU.out.1.2 e hmem
      have hT := NN.out.rng e hE.1.1 hE.1.2
      have hLL := HB.out.2
      have hLm := HB.out.1
      have q4 := eq_true hE.1.1
      have he2 : e < (L : Int) := by rw [hLL]; have := hE.1.2; omega
      have q5 := eq_true he2
      have HEB := Aside0.mk (And.intro hE.1.1 he2)
      have HLL := Aside0.mk (show len ≤ 9223372036854775807 by
       have h := OO.out.E w0 (Kp.refl _ _)
       obtain ⟨_, A0, c0, _, _, _, hrow⟩ := at_rows h u HU.out.1.1 HU.out.1.2
       rw [HLEN.out]; exact Kd.C_max hrow)
      have HEE := Aside0.mk ee
      obtain ⟨le, el⟩ : ∃ q, q = rd lf e := ⟨_, rfl⟩
      obtain ⟨te, et⟩ : ∃ q, q = rd tos e := ⟨_, rfl⟩
      rw [← et] at hT
      have q6 := eq_true hT.1
      have q7 := eq_true hT.2
      have HTB := Aside0.mk hT
      obtain ⟨ly, ey⟩ : ∃ q, q = rd lev te := ⟨_, rfl⟩
      obtain ⟨lu, eu⟩ : ∃ q, q = rd lev u := ⟨_, rfl⟩
      have hge := HG.out.1.2 e hE.1.1 hE.1.2
      have hgp := HG.out.1.2 (par e) (par_bd hE.1.1 hE.1.2).1 (par_bd hE.1.1 hE.1.2).2
      rw [par_par] at hgp
      rw [← el] at hge hgp
      have hdu := HD.out u HU.out.1.1 HU.out.1.2
      have hdt := HD.out te hT.1 hT.2
      have hlu : lu = rd d u := by rw [eu, HLV.out u HU.out.1.1 HU.out.1.2]
      have hly : ly = rd d te := by rw [ey]; exact HLV.out te hT.1 hT.2
      have hwl : wrap64 (lu + 1) = lu + 1 := w64 (by omega) (by omega)
      have HLE := Aside0.mk el
      have HTE := Aside0.mk et
      have HLY := Aside0.mk ey
      have HLU := Aside0.mk eu
      have HTL := Aside0.mk hE.2
      have hh := HH.out
      unfold pushL at hh
      rw [← HJ.out, ← HLEN.out, if_pos c1, ← ee, ← el, ← et] at hh
      have HUD := Aside0.mk HU.out.2.1
      by_cases z1 : le = 0
      ·have t1 : (le == 0) = true := beq_iff_eq.mpr z1
       rw [if_pos (Or.inl z1)] at hh
       have HN := Aside0.mk hh
       clear hh z1 hdt hdu hlu hly hgp hge eu ey hT et el ee he2 hLL hLm hE hmem c1 hj
       go_wp2_with fail
       have HK := Aside0.mk (Kp.drew HK.out)
       have HL := Aside0.mk (Kd.R_drew HL.out)
       have HX := Aside0.mk (Kd.R_drew HX.out)
       have hp := OO.out.blk _ HK.out
       have hc3 := (blk_cell hp 3).trans (show _ = some _ from rfl)
       obtain ⟨hcx, hfx⟩ := Kd.R_celln 0 HX.out u HU.out.1.1 HU.out.1.2
       rw [show rdOf 0 nx u = j from HJ.out.symm] at hcx
       obtain ⟨ad_, A0, c0, eA, hch, hlc, hrow⟩ := at_rows (OO.out.E _ HK.out) u HU.out.1.1 HU.out.1.2
       injection eA with eA
       subst eA
       rw [← HLEN.out] at hch hlc hrow
       refine start_ (n := 13) (S := fun w' => w'.cell? ⟨gx, u.toNat, none⟩ = some (.int .i64 j) ∧ w'.cell? ⟨p, 3, none⟩ = some (.slice (some Ae) n ce) ∧ w'.cell? (Ae.add u.toNat) = some (.slice A0 len c0)) (ds := []) (fl 13 0) (by kernel_rfl) rfl rfl ⟨hcx, hc3, hch⟩ (fun hHeld => ?_)
       refine with_tabW spec_mfState_push_tab3 spec_mfState_push_bits3 (fun HT_ HW_ => ?_)
       generalize wr.drew = wa at HK HL HX hHeld ⊢
       refine wp_in [(0, 21, 1, 0), (1, 22, 3, 0), (2, 23, 7, 0), (4, 25, 23, 0), (5, 26, 55, 0), (6, 27, 119, 0), (8, 29, 375, 0), (3, 24, 383, 1), (7, 28, 511, 1), (9, 30, 1023, 0), (10, 31, 2047, 1), (11, 32, 4095, 0), (12, 33, 8191, 0)] 13 ?_
       iterate 13 (first | (refine pn_ (oi := ?_) (v := ?_) (a' := ?_) HT_.out ?_ ?_ ?_ ?_ ?_ ?_ ?_ ?_; rotate_left 3; rfl; rfl; kernel_rfl; exact fun _ _ _ h => h; rfl; intro w'; go_simp; with_reducible rfl; simp only [Act.put, List.setIfInBounds_toArray, List.set_cons_zero, List.set_cons_succ, i64_w, i32_w]; rfl) | (refine tn_ (oi := ?_) (v := ?_) (a' := ?_) HT_.out HW_.out hHeld ?_ ?_ ?_ ?_ ?_ ?_ ?_ ?_; rotate_left 3; rfl; rfl; kernel_rfl; exact fun _ _ _ h => h; rfl; rintro w' ⟨s0, s1, s2⟩; go_simp; with_reducible rfl; simp only [Act.put, List.setIfInBounds_toArray, List.set_cons_zero, List.set_cons_succ, i64_w, i32_w]; rfl))
       refine wp_out ?_
       refine done_ (done_of HT_.out (by kernel_rfl)) ?_
       clear hc3 hcx hfx hch hlc hrow hp
       go_wp2_with fail
       have HK := Aside0.mk (Kp.drew HK.out)
       have HL := Aside0.mk (Kd.R_drew HL.out)
       have HX := Aside0.mk (Kd.R_drew HX.out)
       have hp := OO.out.blk _ HK.out
       have hc3 := (blk_cell hp 3).trans (show _ = some _ from rfl)
       obtain ⟨hcx, hfx⟩ := Kd.R_celln 0 HX.out u HU.out.1.1 HU.out.1.2
       rw [show rdOf 0 nx u = j from HJ.out.symm] at hcx
       obtain ⟨ad_, A0, c0, eA, hch, hlc, hrow⟩ := at_rows (OO.out.E _ HK.out) u HU.out.1.1 HU.out.1.2
       injection eA with eA
       subst eA
       rw [← HLEN.out] at hch hlc hrow
       obtain ⟨ar, eR, hce⟩ := Kd.at_int hrow j HJB.out.1 HJB.out.2
       subst eR
       rw [show rd (row adj u) j = e from HEE.out.symm] at hce
       refine start_ (n := 14) (S := fun w' => w'.cell? ⟨p, 3, none⟩ = some (.slice (some Ae) n ce) ∧ w'.cell? (Ae.add u.toNat) = some (.slice (some ar) len c0) ∧ w'.cell? ⟨gx, u.toNat, none⟩ = some (.int .i64 j) ∧ w'.cell? (ar.add j.toNat) = some (.int .i64 e)) (ds := []) (fl 14 0) (by kernel_rfl) rfl rfl ⟨hc3, hch, hcx, hce⟩ (fun hHeld => ?_)
       refine with_tabW spec_mfState_push_tab5 spec_mfState_push_bits5 (fun HT_ HW_ => ?_)
       generalize wa.drew = wb at HK HL HX hHeld ⊢
       refine wp_in [(0, 40, 1, 0), (1, 41, 3, 0), (2, 42, 7, 0), (4, 44, 23, 0), (7, 47, 151, 0), (8, 48, 407, 0), (9, 49, 919, 0), (3, 43, 927, 1), (5, 45, 959, 0), (6, 46, 1023, 1), (10, 50, 2047, 1), (11, 51, 4095, 0), (12, 52, 8191, 1), (13, 11, 16383, 0)] 14 ?_
       iterate 14 (first | (refine pn_ (oi := ?_) (v := ?_) (a' := ?_) HT_.out ?_ ?_ ?_ ?_ ?_ ?_ ?_ ?_; rotate_left 3; rfl; rfl; kernel_rfl; exact fun _ _ _ h => h; rfl; intro w'; go_simp; with_reducible rfl; simp only [Act.put, List.setIfInBounds_toArray, List.set_cons_zero, List.set_cons_succ, i64_w, i32_w]; rfl) | (refine tn_ (oi := ?_) (v := ?_) (a' := ?_) HT_.out HW_.out hHeld ?_ ?_ ?_ ?_ ?_ ?_ ?_ ?_; rotate_left 3; rfl; rfl; kernel_rfl; exact fun _ _ _ h => h; rfl; rintro w' ⟨s0, s1, s2, s3⟩; go_simp; with_reducible rfl; simp only [Act.put, List.setIfInBounds_toArray, List.set_cons_zero, List.set_cons_succ, i64_w, i32_w]; rfl))
       refine wp_out ?_
       refine done_ (done_of HT_.out (by kernel_rfl)) ?_
       clear hc3 hcx hfx hch hlc hrow hp hce
       go_wp2_with fail
       have HK := Aside0.mk (Kp.drew HK.out)
       have HL := Aside0.mk (Kd.R_drew HL.out)
       have HX := Aside0.mk (Kd.R_drew HX.out)
       have hp := OO.out.blk _ HK.out
       have hc2 := (blk_cell hp 2).trans (show _ = some _ from rfl)
       obtain ⟨hcl, hfl⟩ := Kd.R_celln 0 HL.out e HEB.out.1 HEB.out.2
       rw [show rdOf 0 lf e = le from HLE.out.symm] at hcl
       refine start_ (n := 26) (S := fun w' => w'.cell? ⟨p, 2, none⟩ = some (.slice (some ⟨gl, 0, none⟩) L cl) ∧ w'.cell? ⟨gl, e.toNat, none⟩ = some (.int .i64 le)) (ds := []) (fl 26 0) (by kernel_rfl) rfl rfl ⟨hc2, hcl⟩ (fun hHeld => ?_)
       refine with_tabW spec_mfState_push_tab6 spec_mfState_push_bits6 (fun HT_ HW_ => ?_)
       generalize wb.drew = wc at HK HL HX hHeld ⊢
       refine wp_in [(0, 53, 1, 0), (1, 54, 3, 0), (2, 55, 7, 0), (4, 57, 23, 0), (3, 56, 31, 1), (5, 58, 63, 0), (6, 59, 127, 1), (7, 60, 255, 0), (8, 61, 511, 0), (9, 62, 1023, 2), (10, 63, 2047, 2), (11, 64, 4095, 2), (12, 65, 8191, 2), (14, 67, 24575, 2), (19, 72, 548863, 2), (20, 73, 1597439, 2), (21, 74, 3694591, 2), (13, 66, 3702783, 2), (15, 68, 3735551, 2), (16, 69, 3801087, 2), (17, 70, 3932159, 2), (18, 71, 4194303, 2), (22, 75, 8388607, 2), (23, 76, 16777215, 2), (24, 77, 33554431, 2), (25, 78, 67108863, 0)] 26 ?_
       iterate 26 (first | (refine pn_ (oi := ?_) (v := ?_) (a' := ?_) HT_.out ?_ ?_ ?_ ?_ ?_ ?_ ?_ ?_; rotate_left 3; rfl; rfl; kernel_rfl; exact fun _ _ _ h => h; rfl; intro w'; go_simp; with_reducible rfl; simp only [Act.put, List.setIfInBounds_toArray, List.set_cons_zero, List.set_cons_succ, i64_w, i32_w]; rfl) | (refine tn_ (oi := ?_) (v := ?_) (a' := ?_) HT_.out HW_.out hHeld ?_ ?_ ?_ ?_ ?_ ?_ ?_ ?_; rotate_left 3; rfl; rfl; kernel_rfl; exact fun _ _ _ h => h; rfl; rintro w' ⟨s0, s1⟩; go_simp; with_reducible rfl; simp only [Act.put, List.setIfInBounds_toArray, List.set_cons_zero, List.set_cons_succ, i64_w, i32_w]; rfl) | (refine on_ (oi := ?_) (a' := ?_) HT_.out ?_ ?_ ?_ ?_ ?_ ?_ ?_; rotate_left 2; rfl; rfl; kernel_rfl; exact fun _ _ _ h => h; rfl; simp only [Act.put, List.setIfInBounds_toArray, List.set_cons_zero, List.set_cons_succ, i64_w, i32_w]; rfl))
       refine wp_out ?_
       refine done_ (done_of HT_.out (by kernel_rfl)) ?_
       clear hc2 hcl hfl hp
       have hp := OO.out.blk _ HK.out
       obtain ⟨hcx, hfx⟩ := Kd.R_celln 0 HX.out u HU.out.1.1 HU.out.1.2
       rw [show rdOf 0 nx u = j from HJ.out.symm] at hcx
       go_wp2_with fail
       go_roundg fu
       case measure => omega
       case rel =>
        have ei : inc nx u = List.set nx u.toNat (wrap64 (j + 1)) := by
         have hj := HJB.out
         have hlen := HLL.out
         unfold inc put
         rw [w64 (by omega) (by omega), HJ.out]
        refine ⟨lf, inc nx u, rfl, ⟨HN.out⟩, ⟨by have := HF.out; omega⟩, ⟨HG.out.1, ?_⟩, ⟨Kp.setCell HK.out (Or.inl (Or.inr rfl)) _⟩, ⟨Kd.R_far HL.out (fun k_ hk_ => by rw [hk_]; exact OO.out.sep.1.1) _⟩, ⟨by rw [ei]; exact Kd.R_putn HX.out u (wrap64 (j + 1))⟩⟩
        exact inc_ok HG.out.2 HU.out.1.1 HU.out.1.2 (by rw [← HJ.out, ← HLEN.out]; exact HJB.out.2)
      ·have t1 : (le == 0) = false := beq_eq_false_iff_ne.mpr z1
       by_cases z2 : rd d te = rd d u + 1
       ·have t2 : (ly != lu + 1) = false := bne_eq_false_iff_eq.mpr (by have := HUD.out; omega)
        rw [if_neg (by intro h; rcases h with h | h; exact z1 h; exact h z2)] at hh
        obtain ⟨r1, h1, h2⟩ : ∃ r1, (if te = (n : Int) - 1 then some (min most le, lf, nx) else pushL tos adj d ((n : Int) - 1) fu te (min most le) lf nx) = some r1 ∧ (if 0 < r1.1 then some (r1.1, give r1.2.1 e r1.1, r1.2.2) else pushL tos adj d ((n : Int) - 1) fu u most r1.2.1 (inc r1.2.2 u)) = some r := by
         cases hc : (if te = (n : Int) - 1 then some (min most le, lf, nx) else pushL tos adj d ((n : Int) - 1) fu te (min most le) lf nx) with
         | none => rw [hc] at hh; cases hh
         | some r1 => rw [hc] at hh; exact ⟨r1, rfl, hh⟩
        have hm0 := HM.out
        have hmn : 0 < min most le ∧ min most le ≤ 2305843009213693952 := by omega
        have hq := push_or NN.out h1 hT.1 hT.2 hmn.1 HG.out.1 HG.out.2
        have hq1 := hq.2.2.2.1 u HU.out.1.1 HU.out.1.2 (by omega)
        have hq2 := hq.2.2.2.2 e hE.1.1 hE.1.2 (by rw [hE.2]; omega)
        have hmin : min most le = (if most < le then most else le) := by split <;> omega
        rw [hmin] at h1 hmn
        have C7 := Aside0.mk h1
        have hdt0 : 0 ≤ rd d te := by omega
        have C8 := Aside0.mk (And.intro hmn hdt0)
        obtain ⟨s1, lf1, nx1⟩ := r1
        have HJ1 : Aside0 (j = rd nx1 u) := ⟨by rw [HJ.out]; exact hq1.symm⟩
        have HLE1 : Aside0 (le = rd lf1 e) := ⟨by rw [el]; exact hq2.symm⟩
        have HG1 : Aside0 (Flow.Good m lf1 ∧ NextOk n adj nx1) := ⟨hq.2.1, hq.2.2.1⟩
        have HS1 : Aside0 (0 ≤ s1 ∧ s1 ≤ le) := ⟨by have := hq.1; replace this : 0 ≤ s1 ∧ s1 ≤ min most le := this; omega⟩
        replace h2 : (if 0 < s1 then some (s1, give lf1 e s1, nx1) else pushL tos adj d ((n : Int) - 1) fu u most lf1 (inc nx1 u)) = some r := h2
        have HN := Aside0.mk h2
        have PB := Aside0.mk (par_bd hE.1.1 hE.1.2)
        have EBD : Aside0 (e < 1000000) := ⟨by have := hE.1.2; omega⟩
        have EBD2 := Aside0.mk hE.1.2
        have HLE9 := Aside0.mk (show 0 ≤ le ∧ le ≤ 1000000000 by omega)
        clear hh z1 z2 h1 h2 hdt hdu hlu hly hgp hge eu ey hT et el ee he2 hLL hLm hE hmem c1 hj hm0 hmn hq hq1 hq2 hdt0 hmin
        go_wp2_with fail
        have HK := Aside0.mk (Kp.drew HK.out)
        have HL := Aside0.mk (Kd.R_drew HL.out)
        have HX := Aside0.mk (Kd.R_drew HX.out)
        have hp := OO.out.blk _ HK.out
        have hc3 := (blk_cell hp 3).trans (show _ = some _ from rfl)
        obtain ⟨hcx, hfx⟩ := Kd.R_celln 0 HX.out u HU.out.1.1 HU.out.1.2
        rw [show rdOf 0 nx u = j from HJ.out.symm] at hcx
        obtain ⟨ad_, A0, c0, eA, hch, hlc, hrow⟩ := at_rows (OO.out.E _ HK.out) u HU.out.1.1 HU.out.1.2
        injection eA with eA
        subst eA
        rw [← HLEN.out] at hch hlc hrow
        refine start_ (n := 13) (S := fun w' => w'.cell? ⟨gx, u.toNat, none⟩ = some (.int .i64 j) ∧ w'.cell? ⟨p, 3, none⟩ = some (.slice (some Ae) n ce) ∧ w'.cell? (Ae.add u.toNat) = some (.slice A0 len c0)) (ds := []) (fl 13 0) (by kernel_rfl) rfl rfl ⟨hcx, hc3, hch⟩ (fun hHeld => ?_)
        refine with_tabW spec_mfState_push_tab3 spec_mfState_push_bits3 (fun HT_ HW_ => ?_)
        generalize wr.drew = wa at HK HL HX hHeld ⊢
        refine wp_in [(0, 21, 1, 0), (1, 22, 3, 0), (2, 23, 7, 0), (4, 25, 23, 0), (5, 26, 55, 0), (6, 27, 119, 0), (8, 29, 375, 0), (3, 24, 383, 1), (7, 28, 511, 1), (9, 30, 1023, 0), (10, 31, 2047, 1), (11, 32, 4095, 0), (12, 33, 8191, 0)] 13 ?_
        iterate 13 (first | (refine pn_ (oi := ?_) (v := ?_) (a' := ?_) HT_.out ?_ ?_ ?_ ?_ ?_ ?_ ?_ ?_; rotate_left 3; rfl; rfl; kernel_rfl; exact fun _ _ _ h => h; rfl; intro w'; go_simp; with_reducible rfl; simp only [Act.put, List.setIfInBounds_toArray, List.set_cons_zero, List.set_cons_succ, i64_w, i32_w]; rfl) | (refine tn_ (oi := ?_) (v := ?_) (a' := ?_) HT_.out HW_.out hHeld ?_ ?_ ?_ ?_ ?_ ?_ ?_ ?_; rotate_left 3; rfl; rfl; kernel_rfl; exact fun _ _ _ h => h; rfl; rintro w' ⟨s0, s1, s2⟩; go_simp; with_reducible rfl; simp only [Act.put, List.setIfInBounds_toArray, List.set_cons_zero, List.set_cons_succ, i64_w, i32_w]; rfl))
        refine wp_out ?_
        refine done_ (done_of HT_.out (by kernel_rfl)) ?_
        clear hc3 hcx hfx hch hlc hrow hp
        go_wp2_with fail
        have HK := Aside0.mk (Kp.drew HK.out)
        have HL := Aside0.mk (Kd.R_drew HL.out)
        have HX := Aside0.mk (Kd.R_drew HX.out)
        have hp := OO.out.blk _ HK.out
        have hc3 := (blk_cell hp 3).trans (show _ = some _ from rfl)
        obtain ⟨hcx, hfx⟩ := Kd.R_celln 0 HX.out u HU.out.1.1 HU.out.1.2
        rw [show rdOf 0 nx u = j from HJ.out.symm] at hcx
        obtain ⟨ad_, A0, c0, eA, hch, hlc, hrow⟩ := at_rows (OO.out.E _ HK.out) u HU.out.1.1 HU.out.1.2
        injection eA with eA
        subst eA
        rw [← HLEN.out] at hch hlc hrow
        obtain ⟨ar, eR, hce⟩ := Kd.at_int hrow j HJB.out.1 HJB.out.2
        subst eR
        rw [show rd (row adj u) j = e from HEE.out.symm] at hce
        refine start_ (n := 14) (S := fun w' => w'.cell? ⟨p, 3, none⟩ = some (.slice (some Ae) n ce) ∧ w'.cell? (Ae.add u.toNat) = some (.slice (some ar) len c0) ∧ w'.cell? ⟨gx, u.toNat, none⟩ = some (.int .i64 j) ∧ w'.cell? (ar.add j.toNat) = some (.int .i64 e)) (ds := []) (fl 14 0) (by kernel_rfl) rfl rfl ⟨hc3, hch, hcx, hce⟩ (fun hHeld => ?_)
        refine with_tabW spec_mfState_push_tab5 spec_mfState_push_bits5 (fun HT_ HW_ => ?_)
        generalize wa.drew = wb at HK HL HX hHeld ⊢
        refine wp_in [(0, 40, 1, 0), (1, 41, 3, 0), (2, 42, 7, 0), (4, 44, 23, 0), (7, 47, 151, 0), (8, 48, 407, 0), (9, 49, 919, 0), (3, 43, 927, 1), (5, 45, 959, 0), (6, 46, 1023, 1), (10, 50, 2047, 1), (11, 51, 4095, 0), (12, 52, 8191, 1), (13, 11, 16383, 0)] 14 ?_
        iterate 14 (first | (refine pn_ (oi := ?_) (v := ?_) (a' := ?_) HT_.out ?_ ?_ ?_ ?_ ?_ ?_ ?_ ?_; rotate_left 3; rfl; rfl; kernel_rfl; exact fun _ _ _ h => h; rfl; intro w'; go_simp; with_reducible rfl; simp only [Act.put, List.setIfInBounds_toArray, List.set_cons_zero, List.set_cons_succ, i64_w, i32_w]; rfl) | (refine tn_ (oi := ?_) (v := ?_) (a' := ?_) HT_.out HW_.out hHeld ?_ ?_ ?_ ?_ ?_ ?_ ?_ ?_; rotate_left 3; rfl; rfl; kernel_rfl; exact fun _ _ _ h => h; rfl; rintro w' ⟨s0, s1, s2, s3⟩; go_simp; with_reducible rfl; simp only [Act.put, List.setIfInBounds_toArray, List.set_cons_zero, List.set_cons_succ, i64_w, i32_w]; rfl))
        refine wp_out ?_
        refine done_ (done_of HT_.out (by kernel_rfl)) ?_
        clear hc3 hcx hfx hch hlc hrow hp hce
        go_wp2_with fail
        have HK := Aside0.mk (Kp.drew HK.out)
        have HL := Aside0.mk (Kd.R_drew HL.out)
        have HX := Aside0.mk (Kd.R_drew HX.out)
        have hp := OO.out.blk _ HK.out
        have hc1 := (blk_cell hp 1).trans (show _ = some _ from rfl)
        have hc2 := (blk_cell hp 2).trans (show _ = some _ from rfl)
        obtain ⟨hcl, hfl⟩ := Kd.R_celln 0 HL.out e HEB.out.1 HEB.out.2
        rw [show rdOf 0 lf e = le from HLE.out.symm] at hcl
        obtain ⟨at_, eT, hct⟩ := Kd.at_int (OO.out.T _ HK.out) e HEB.out.1 HEB.out.2
        injection eT with eT
        subst eT
        rw [show rd tos e = te from HTE.out.symm] at hct
        obtain ⟨av_, eV, hcv⟩ := Kd.at_int (OO.out.V _ HK.out) te HTB.out.1 HTB.out.2
        injection eV with eV
        subst eV
        rw [show rd lev te = ly from HLY.out.symm] at hcv
        obtain ⟨aw_, eV, hcu⟩ := Kd.at_int (OO.out.V _ HK.out) u HU.out.1.1 HU.out.1.2
        injection eV with eV
        subst eV
        rw [show rd lev u = lu from HLU.out.symm] at hcu
        refine start_ (n := 26) (S := fun w' => w'.cell? ⟨p, 2, none⟩ = some (.slice (some ⟨gl, 0, none⟩) L cl) ∧ w'.cell? ⟨gl, e.toNat, none⟩ = some (.int .i64 le) ∧ w'.cell? ⟨p, 1, none⟩ = some (.slice (some At) L ct) ∧ w'.cell? (At.add e.toNat) = some (.int .i64 te) ∧ w'.cell? (Av.add te.toNat) = some (.int .i64 ly) ∧ w'.cell? (Av.add u.toNat) = some (.int .i64 lu)) (ds := []) (fl 26 0) (by kernel_rfl) rfl rfl ⟨hc2, hcl, hc1, hct, hcv, hcu⟩ (fun hHeld => ?_)
        refine with_tabW spec_mfState_push_tab6 spec_mfState_push_bits6 (fun HT_ HW_ => ?_)
        generalize wb.drew = wc at HK HL HX hHeld ⊢
        refine wp_in [(0, 53, 1, 0), (1, 54, 3, 0), (2, 55, 7, 0), (4, 57, 23, 0), (3, 56, 31, 1), (5, 58, 63, 0), (6, 59, 127, 1), (7, 60, 255, 0), (8, 61, 511, 0), (9, 62, 1023, 0), (10, 63, 2047, 0), (11, 64, 4095, 0), (12, 65, 8191, 0), (14, 67, 24575, 0), (19, 72, 548863, 0), (20, 73, 1597439, 0), (21, 74, 3694591, 0), (13, 66, 3702783, 1), (15, 68, 3735551, 0), (16, 69, 3801087, 1), (17, 70, 3932159, 0), (18, 71, 4194303, 1), (22, 75, 8388607, 1), (23, 76, 16777215, 0), (24, 77, 33554431, 0), (25, 78, 67108863, 0)] 26 ?_
        iterate 26 (first | (refine pn_ (oi := ?_) (v := ?_) (a' := ?_) HT_.out ?_ ?_ ?_ ?_ ?_ ?_ ?_ ?_; rotate_left 3; rfl; rfl; kernel_rfl; exact fun _ _ _ h => h; rfl; intro w'; go_simp; with_reducible rfl; simp only [Act.put, List.setIfInBounds_toArray, List.set_cons_zero, List.set_cons_succ, i64_w, i32_w]; rfl) | (refine tn_ (oi := ?_) (v := ?_) (a' := ?_) HT_.out HW_.out hHeld ?_ ?_ ?_ ?_ ?_ ?_ ?_ ?_; rotate_left 3; rfl; rfl; kernel_rfl; exact fun _ _ _ h => h; rfl; rintro w' ⟨s0, s1, s2, s3, s4, s5⟩; go_simp; with_reducible rfl; simp only [Act.put, List.setIfInBounds_toArray, List.set_cons_zero, List.set_cons_succ, i64_w, i32_w]; rfl))
        refine wp_out ?_
        refine done_ (done_of HT_.out (by kernel_rfl)) ?_
        clear hc1 hc2 hcl hfl hct hcv hcu hp
        go_wp2_with fail
        have HK := Aside0.mk (Kp.drew HK.out)
        have HL := Aside0.mk (Kd.R_drew HL.out)
        have HX := Aside0.mk (Kd.R_drew HX.out)
        have hp := OO.out.blk _ HK.out
        have hc1 := (blk_cell hp 1).trans (show _ = some _ from rfl)
        have hc2 := (blk_cell hp 2).trans (show _ = some _ from rfl)
        obtain ⟨hcl, hfl⟩ := Kd.R_celln 0 HL.out e HEB.out.1 HEB.out.2
        rw [show rdOf 0 lf e = le from HLE.out.symm] at hcl
        obtain ⟨at_, eT, hct⟩ := Kd.at_int (OO.out.T _ HK.out) e HEB.out.1 HEB.out.2
        injection eT with eT
        subst eT
        rw [show rd tos e = te from HTE.out.symm] at hct
        refine start_ (n := 21) (S := fun w' => w'.cell? ⟨p, 1, none⟩ = some (.slice (some At) L ct) ∧ w'.cell? (At.add e.toNat) = some (.int .i64 te) ∧ w'.cell? ⟨p, 2, none⟩ = some (.slice (some ⟨gl, 0, none⟩) L cl) ∧ w'.cell? ⟨gl, e.toNat, none⟩ = some (.int .i64 le)) (ds := []) (fl 21 0) (by kernel_rfl) rfl rfl ⟨hc1, hct, hc2, hcl⟩ (fun hHeld => ?_)
        refine with_tabW spec_mfState_push_tab7 spec_mfState_push_bits7 (fun HT_ HW_ => ?_)
        generalize wc.drew = wd at HK HL HX hHeld ⊢
        refine wp_in [(0, 79, 1, 0), (1, 80, 3, 0), (2, 81, 7, 0), (3, 82, 15, 0), (5, 84, 47, 0), (8, 87, 303, 0), (9, 88, 815, 0), (10, 89, 1839, 0), (11, 90, 3887, 0), (13, 92, 12079, 0), (17, 96, 143151, 0), (18, 97, 405295, 0), (4, 83, 405311, 1), (6, 85, 405375, 0), (7, 86, 405503, 1), (12, 91, 409599, 1), (14, 93, 425983, 0), (15, 94, 458751, 1)] 21 ?_
        iterate 18 (first | (refine pn_ (oi := ?_) (v := ?_) (a' := ?_) HT_.out ?_ ?_ ?_ ?_ ?_ ?_ ?_ ?_; rotate_left 3; rfl; rfl; kernel_rfl; exact fun _ _ _ h => h; rfl; intro w'; go_simp; with_reducible rfl; simp only [Act.put, List.setIfInBounds_toArray, List.set_cons_zero, List.set_cons_succ, i64_w, i32_w]; rfl) | (refine tn_ (oi := ?_) (v := ?_) (a' := ?_) HT_.out HW_.out hHeld ?_ ?_ ?_ ?_ ?_ ?_ ?_ ?_; rotate_left 3; rfl; rfl; kernel_rfl; exact fun _ _ _ h => h; rfl; rintro w' ⟨s0, s1, s2, s3⟩; go_simp; with_reducible rfl; simp only [Act.put, List.setIfInBounds_toArray, List.set_cons_zero, List.set_cons_succ, i64_w, i32_w]; rfl))
        refine wp_out ?_
        refine one_ (i := 16) (N := some 95) (fl 21 524287) rfl rfl (one_of HT_.out (by kernel_rfl)) (by decide) (fun K hK => ?_)
        refine goes_ Try.func212 (by kernel_rfl) rfl #[.int .i64 most, .int .i64 le] (by rfl) rfl rfl (by (try simp only [List.map_toArray, List.map_cons, List.map_nil]); first | done | rfl | (simp only [List.length_drop, List.length_take]; rfl)) ?_
        refine (spec_l1Least.calls most le (if most < le then most else le) _ (by unfold spec_l1Least.f; split <;> rfl)).mono ?_
        rintro e_ wf ⟨rfl, hb⟩
        refine ⟨_, rfl, ?_⟩
        have n0_ := Aside0.mk (HK.out.below (drawn_below0 hb))
        have n1_ := Aside0.mk (Kd.R_below HL.out (drawn_below0 hb))
        have n2_ := Aside0.mk (Kd.R_below HX.out (drawn_below0 hb))
        clear HK HL HX hb
        have HK := n0_
        have HL := n1_
        have HX := n2_
        clear n0_ n1_ n2_
        have hp := OO.out.blk _ HK.out
        have hc1 := (blk_cell hp 1).trans (show _ = some _ from rfl)
        have hc2 := (blk_cell hp 2).trans (show _ = some _ from rfl)
        obtain ⟨hcl, hfl⟩ := Kd.R_celln 0 HL.out e HEB.out.1 HEB.out.2
        rw [show rdOf 0 lf e = le from HLE.out.symm] at hcl
        obtain ⟨at_, eT, hct⟩ := Kd.at_int (OO.out.T _ HK.out) e HEB.out.1 HEB.out.2
        injection eT with eT
        subst eT
        rw [show rd tos e = te from HTE.out.symm] at hct
        refine hK.out _ _ ⟨hc1, hct, hc2, hcl⟩ (fun hHeld => ?_)
        clear hc1 hct hc2 hcl hfl hp
        clear hK K
        refine one_ (i := 19) (N := some 98) (fl 21 1048575) rfl rfl (one_of HT_.out (by kernel_rfl)) (by decide) (fun K hK => ?_)
        refine goes_ Try.func206 (by kernel_rfl) rfl #[.pointer (some ⟨p, 0, none⟩), .int .i64 te, .int .i64 (if most < le then most else le), .slice (some Av) n cv, .slice (some ⟨gx, 0, none⟩) n cx] (by rfl) rfl rfl (by (try simp only [List.map_toArray, List.map_cons, List.map_nil]); first | done | rfl | (simp only [List.length_drop, List.length_take]; rfl)) ?_
        refine (IH.out fu (by have := HF.out; omega) te (if most < le then most else le) lf nx (s1, lf1, nx1) _ C7.out HTB.out.1 HTB.out.2 C8.out.2 C8.out.1.1 C8.out.1.2 HG.out.1 HG.out.2 HK.out HL.out HX.out).mono ?_
        rintro e_ we ⟨rfl, hk2, hl2, hx2⟩
        refine ⟨_, rfl, ?_⟩
        clear HK HL HX
        have HK := Aside0.mk hk2
        have HL := Aside0.mk hl2
        have HX := Aside0.mk hx2
        clear hk2 hl2 hx2
        have hp := OO.out.blk _ HK.out
        have hc1 := (blk_cell hp 1).trans (show _ = some _ from rfl)
        have hc2 := (blk_cell hp 2).trans (show _ = some _ from rfl)
        obtain ⟨hcl, hfl⟩ := Kd.R_celln 0 HL.out e HEB.out.1 HEB.out.2
        rw [show rdOf 0 lf1 e = le from HLE1.out.symm] at hcl
        obtain ⟨at_, eT, hct⟩ := Kd.at_int (OO.out.T _ HK.out) e HEB.out.1 HEB.out.2
        injection eT with eT
        subst eT
        rw [show rd tos e = te from HTE.out.symm] at hct
        refine hK.out _ _ ⟨hc1, hct, hc2, hcl⟩ (fun hHeld => ?_)
        clear hc1 hct hc2 hcl hfl hp
        clear hK K
        refine wp_in [(20, 12, 2097151, 0)] 21 ?_
        iterate 1 ((refine pn_ (oi := ?_) (v := ?_) (a' := ?_) HT_.out ?_ ?_ ?_ ?_ ?_ ?_ ?_ ?_; rotate_left 3; rfl; rfl; kernel_rfl; exact fun _ _ _ h => h; rfl; intro w'; go_simp; with_reducible rfl; simp only [Act.put, List.setIfInBounds_toArray, List.set_cons_zero, List.set_cons_succ, i64_w, i32_w]; rfl))
        refine wp_out ?_
        refine done_ (done_of HT_.out (by kernel_rfl)) ?_
        clear hc1 hc2 hcl hfl hct hp
        generalize (if most < le then most else le) = mn_
        by_cases z3 : 0 < s1
        ·have t3 : decide (0 < s1) = true := decide_eq_true z3
         have h2 := HN.out
         rw [if_pos z3] at h2
         injection h2 with h2
         subst h2
         have hw1 : wrap64 (le - s1) = le - s1 := by have := HS1.out; have := HLE9.out; exact w64 (by omega) (by omega)
         obtain ⟨pe, epe⟩ : ∃ q, q = par e := ⟨_, rfl⟩
         have hpb := PB.out
         rw [← epe] at hpb
         have hbits : bits .xor .i64 e 1 = pe := by rw [epe]; exact bits_par HEB.out.1 EBD.out
         obtain ⟨y2, ey2⟩ : ∃ q, q = rd (put lf1 e (le - s1)) pe := ⟨_, rfl⟩
         have hgy : 0 ≤ y2 ∧ y2 ≤ 1000000000 := by
          have h1 := HG1.out.1.2 pe hpb.1 hpb.2
          have h2 := HG1.out.1.2 e HEB.out.1 (by have := EBD2.out; omega)
          rw [← epe] at h2
          rw [ey2, rd_put_ne _ _ HEB.out.1 hpb.1 (by rw [epe]; exact Ne.symm par_ne)]
          omega
         have hw2 : wrap64 (y2 + s1) = y2 + s1 := by have := HS1.out; have := HLE9.out; exact w64 (by omega) (by omega)
         have q8 := eq_true hpb.1
         have hpL : pe < (L : Int) := by rw [HB.out.2]; omega
         have q9 := eq_true hpL
         have HGY := Aside0.mk (And.intro ey2 epe)
         clear hgy ey2 epe
         have hp := OO.out.blk _ HK.out
         have hc2 := (blk_cell hp 2).trans (show _ = some _ from rfl)
         obtain ⟨hcl, hfl⟩ := Kd.R_celln 0 HL.out e HEB.out.1 HEB.out.2
         rw [show rdOf 0 lf1 e = le from HLE1.out.symm] at hcl
         have HK1 := Aside0.mk (Kp.setCell (p := ⟨gl, e.toNat, none⟩) HK.out (Or.inl (Or.inl rfl)) (.int .i64 (le - s1)))
         have HL1 : Aside0 (RI b (we.setCell ⟨gl, e.toNat, none⟩ (.int .i64 (le - s1))) gl L cl (put lf1 e (le - s1))) := ⟨Kd.R_putn HL.out e (le - s1)⟩
         have hp1 := OO.out.blk _ HK1.out
         have hc21 := (blk_cell hp1 2).trans (show _ = some _ from rfl)
         obtain ⟨hcl1, hfl1⟩ := Kd.R_celln 0 HL1.out pe hpb.1 hpL
         rw [show rdOf 0 (put lf1 e (le - s1)) pe = y2 from HGY.out.1.symm] at hcl1
         clear hp hp1
         skip
         go_wp2_with fail
         go_ret
         refine ⟨rfl, Kp.setCell HK1.out (Or.inl (Or.inl rfl)) _, ?_, ?_⟩
         ·have e9 : give lf1 e s1 = List.set (put lf1 e (le - s1)) pe.toNat (y2 + s1) := by
           unfold give
           rw [← HLE1.out, ← HGY.out.2, ← HGY.out.1]; rfl
          rw [e9]
          exact Kd.R_putn HL1.out pe (y2 + s1)
         ·exact Kd.R_far (Kd.R_far HX.out (fun k_ hk_ => by rw [hk_]; exact fun h => OO.out.sep.1.1 h.symm) _) (fun k_ hk_ => by rw [hk_]; exact fun h => OO.out.sep.1.1 h.symm) _
        ·have t3 : decide (0 < s1) = false := decide_eq_false z3
         have h2 := HN.out
         rw [if_neg z3] at h2
         have HN2 := Aside0.mk h2
         clear h2 z3
         have hp := OO.out.blk _ HK.out
         obtain ⟨hcx, hfx⟩ := Kd.R_celln 0 HX.out u HU.out.1.1 HU.out.1.2
         rw [show rdOf 0 nx1 u = j from HJ1.out.symm] at hcx
         go_wp2_with fail
         go_roundg fu
         case measure => omega
         case rel =>
          have ei : inc nx1 u = List.set nx1 u.toNat (wrap64 (j + 1)) := by
           have hj := HJB.out
           have hlen := HLL.out
           unfold inc put
           rw [w64 (by omega) (by omega), HJ1.out]
          refine ⟨lf1, inc nx1 u, rfl, ⟨HN2.out⟩, ⟨by have := HF.out; omega⟩, ⟨HG1.out.1, ?_⟩, ⟨Kp.setCell HK.out (Or.inl (Or.inr rfl)) _⟩, ⟨Kd.R_far HL.out (fun k_ hk_ => by rw [hk_]; exact OO.out.sep.1.1) _⟩, ⟨by rw [ei]; exact Kd.R_putn HX.out u (wrap64 (j + 1))⟩⟩
          exact inc_ok HG1.out.2 HU.out.1.1 HU.out.1.2 (by rw [← HJ1.out, ← HLEN.out]; exact HJB.out.2)
       ·have t2 : (ly != lu + 1) = true := bne_iff_ne.mpr (by have := HUD.out; omega)
        rw [if_pos (Or.inr z2)] at hh
        have HN := Aside0.mk hh
        clear hh z1 z2 hdt hdu hlu hly hgp hge eu ey hT et el ee he2 hLL hLm hE hmem c1 hj
        go_wp2_with fail
        have HK := Aside0.mk (Kp.drew HK.out)
        have HL := Aside0.mk (Kd.R_drew HL.out)
        have HX := Aside0.mk (Kd.R_drew HX.out)
        have hp := OO.out.blk _ HK.out
        have hc3 := (blk_cell hp 3).trans (show _ = some _ from rfl)
        obtain ⟨hcx, hfx⟩ := Kd.R_celln 0 HX.out u HU.out.1.1 HU.out.1.2
        rw [show rdOf 0 nx u = j from HJ.out.symm] at hcx
        obtain ⟨ad_, A0, c0, eA, hch, hlc, hrow⟩ := at_rows (OO.out.E _ HK.out) u HU.out.1.1 HU.out.1.2
        injection eA with eA
        subst eA
        rw [← HLEN.out] at hch hlc hrow
        refine start_ (n := 13) (S := fun w' => w'.cell? ⟨gx, u.toNat, none⟩ = some (.int .i64 j) ∧ w'.cell? ⟨p, 3, none⟩ = some (.slice (some Ae) n ce) ∧ w'.cell? (Ae.add u.toNat) = some (.slice A0 len c0)) (ds := []) (fl 13 0) (by kernel_rfl) rfl rfl ⟨hcx, hc3, hch⟩ (fun hHeld => ?_)
        refine with_tabW spec_mfState_push_tab3 spec_mfState_push_bits3 (fun HT_ HW_ => ?_)
        generalize wr.drew = wa at HK HL HX hHeld ⊢
        refine wp_in [(0, 21, 1, 0), (1, 22, 3, 0), (2, 23, 7, 0), (4, 25, 23, 0), (5, 26, 55, 0), (6, 27, 119, 0), (8, 29, 375, 0), (3, 24, 383, 1), (7, 28, 511, 1), (9, 30, 1023, 0), (10, 31, 2047, 1), (11, 32, 4095, 0), (12, 33, 8191, 0)] 13 ?_
        iterate 13 (first | (refine pn_ (oi := ?_) (v := ?_) (a' := ?_) HT_.out ?_ ?_ ?_ ?_ ?_ ?_ ?_ ?_; rotate_left 3; rfl; rfl; kernel_rfl; exact fun _ _ _ h => h; rfl; intro w'; go_simp; with_reducible rfl; simp only [Act.put, List.setIfInBounds_toArray, List.set_cons_zero, List.set_cons_succ, i64_w, i32_w]; rfl) | (refine tn_ (oi := ?_) (v := ?_) (a' := ?_) HT_.out HW_.out hHeld ?_ ?_ ?_ ?_ ?_ ?_ ?_ ?_; rotate_left 3; rfl; rfl; kernel_rfl; exact fun _ _ _ h => h; rfl; rintro w' ⟨s0, s1, s2⟩; go_simp; with_reducible rfl; simp only [Act.put, List.setIfInBounds_toArray, List.set_cons_zero, List.set_cons_succ, i64_w, i32_w]; rfl))
        refine wp_out ?_
        refine done_ (done_of HT_.out (by kernel_rfl)) ?_
        clear hc3 hcx hfx hch hlc hrow hp
        go_wp2_with fail
        have HK := Aside0.mk (Kp.drew HK.out)
        have HL := Aside0.mk (Kd.R_drew HL.out)
        have HX := Aside0.mk (Kd.R_drew HX.out)
        have hp := OO.out.blk _ HK.out
        have hc3 := (blk_cell hp 3).trans (show _ = some _ from rfl)
        obtain ⟨hcx, hfx⟩ := Kd.R_celln 0 HX.out u HU.out.1.1 HU.out.1.2
        rw [show rdOf 0 nx u = j from HJ.out.symm] at hcx
        obtain ⟨ad_, A0, c0, eA, hch, hlc, hrow⟩ := at_rows (OO.out.E _ HK.out) u HU.out.1.1 HU.out.1.2
        injection eA with eA
        subst eA
        rw [← HLEN.out] at hch hlc hrow
        obtain ⟨ar, eR, hce⟩ := Kd.at_int hrow j HJB.out.1 HJB.out.2
        subst eR
        rw [show rd (row adj u) j = e from HEE.out.symm] at hce
        refine start_ (n := 14) (S := fun w' => w'.cell? ⟨p, 3, none⟩ = some (.slice (some Ae) n ce) ∧ w'.cell? (Ae.add u.toNat) = some (.slice (some ar) len c0) ∧ w'.cell? ⟨gx, u.toNat, none⟩ = some (.int .i64 j) ∧ w'.cell? (ar.add j.toNat) = some (.int .i64 e)) (ds := []) (fl 14 0) (by kernel_rfl) rfl rfl ⟨hc3, hch, hcx, hce⟩ (fun hHeld => ?_)
        refine with_tabW spec_mfState_push_tab5 spec_mfState_push_bits5 (fun HT_ HW_ => ?_)
        generalize wa.drew = wb at HK HL HX hHeld ⊢
        refine wp_in [(0, 40, 1, 0), (1, 41, 3, 0), (2, 42, 7, 0), (4, 44, 23, 0), (7, 47, 151, 0), (8, 48, 407, 0), (9, 49, 919, 0), (3, 43, 927, 1), (5, 45, 959, 0), (6, 46, 1023, 1), (10, 50, 2047, 1), (11, 51, 4095, 0), (12, 52, 8191, 1), (13, 11, 16383, 0)] 14 ?_
        iterate 14 (first | (refine pn_ (oi := ?_) (v := ?_) (a' := ?_) HT_.out ?_ ?_ ?_ ?_ ?_ ?_ ?_ ?_; rotate_left 3; rfl; rfl; kernel_rfl; exact fun _ _ _ h => h; rfl; intro w'; go_simp; with_reducible rfl; simp only [Act.put, List.setIfInBounds_toArray, List.set_cons_zero, List.set_cons_succ, i64_w, i32_w]; rfl) | (refine tn_ (oi := ?_) (v := ?_) (a' := ?_) HT_.out HW_.out hHeld ?_ ?_ ?_ ?_ ?_ ?_ ?_ ?_; rotate_left 3; rfl; rfl; kernel_rfl; exact fun _ _ _ h => h; rfl; rintro w' ⟨s0, s1, s2, s3⟩; go_simp; with_reducible rfl; simp only [Act.put, List.setIfInBounds_toArray, List.set_cons_zero, List.set_cons_succ, i64_w, i32_w]; rfl))
        refine wp_out ?_
        refine done_ (done_of HT_.out (by kernel_rfl)) ?_
        clear hc3 hcx hfx hch hlc hrow hp hce
        go_wp2_with fail
        have HK := Aside0.mk (Kp.drew HK.out)
        have HL := Aside0.mk (Kd.R_drew HL.out)
        have HX := Aside0.mk (Kd.R_drew HX.out)
        have hp := OO.out.blk _ HK.out
        have hc1 := (blk_cell hp 1).trans (show _ = some _ from rfl)
        have hc2 := (blk_cell hp 2).trans (show _ = some _ from rfl)
        obtain ⟨hcl, hfl⟩ := Kd.R_celln 0 HL.out e HEB.out.1 HEB.out.2
        rw [show rdOf 0 lf e = le from HLE.out.symm] at hcl
        obtain ⟨at_, eT, hct⟩ := Kd.at_int (OO.out.T _ HK.out) e HEB.out.1 HEB.out.2
        injection eT with eT
        subst eT
        rw [show rd tos e = te from HTE.out.symm] at hct
        obtain ⟨av_, eV, hcv⟩ := Kd.at_int (OO.out.V _ HK.out) te HTB.out.1 HTB.out.2
        injection eV with eV
        subst eV
        rw [show rd lev te = ly from HLY.out.symm] at hcv
        obtain ⟨aw_, eV, hcu⟩ := Kd.at_int (OO.out.V _ HK.out) u HU.out.1.1 HU.out.1.2
        injection eV with eV
        subst eV
        rw [show rd lev u = lu from HLU.out.symm] at hcu
        refine start_ (n := 26) (S := fun w' => w'.cell? ⟨p, 2, none⟩ = some (.slice (some ⟨gl, 0, none⟩) L cl) ∧ w'.cell? ⟨gl, e.toNat, none⟩ = some (.int .i64 le) ∧ w'.cell? ⟨p, 1, none⟩ = some (.slice (some At) L ct) ∧ w'.cell? (At.add e.toNat) = some (.int .i64 te) ∧ w'.cell? (Av.add te.toNat) = some (.int .i64 ly) ∧ w'.cell? (Av.add u.toNat) = some (.int .i64 lu)) (ds := []) (fl 26 0) (by kernel_rfl) rfl rfl ⟨hc2, hcl, hc1, hct, hcv, hcu⟩ (fun hHeld => ?_)
        refine with_tabW spec_mfState_push_tab6 spec_mfState_push_bits6 (fun HT_ HW_ => ?_)
        generalize wb.drew = wc at HK HL HX hHeld ⊢
        refine wp_in [(0, 53, 1, 0), (1, 54, 3, 0), (2, 55, 7, 0), (4, 57, 23, 0), (3, 56, 31, 1), (5, 58, 63, 0), (6, 59, 127, 1), (7, 60, 255, 0), (8, 61, 511, 0), (9, 62, 1023, 0), (10, 63, 2047, 0), (11, 64, 4095, 0), (12, 65, 8191, 0), (14, 67, 24575, 0), (19, 72, 548863, 0), (20, 73, 1597439, 0), (21, 74, 3694591, 0), (13, 66, 3702783, 1), (15, 68, 3735551, 0), (16, 69, 3801087, 1), (17, 70, 3932159, 0), (18, 71, 4194303, 1), (22, 75, 8388607, 1), (23, 76, 16777215, 0), (24, 77, 33554431, 0), (25, 78, 67108863, 0)] 26 ?_
        iterate 26 (first | (refine pn_ (oi := ?_) (v := ?_) (a' := ?_) HT_.out ?_ ?_ ?_ ?_ ?_ ?_ ?_ ?_; rotate_left 3; rfl; rfl; kernel_rfl; exact fun _ _ _ h => h; rfl; intro w'; go_simp; with_reducible rfl; simp only [Act.put, List.setIfInBounds_toArray, List.set_cons_zero, List.set_cons_succ, i64_w, i32_w]; rfl) | (refine tn_ (oi := ?_) (v := ?_) (a' := ?_) HT_.out HW_.out hHeld ?_ ?_ ?_ ?_ ?_ ?_ ?_ ?_; rotate_left 3; rfl; rfl; kernel_rfl; exact fun _ _ _ h => h; rfl; rintro w' ⟨s0, s1, s2, s3, s4, s5⟩; go_simp; with_reducible rfl; simp only [Act.put, List.setIfInBounds_toArray, List.set_cons_zero, List.set_cons_succ, i64_w, i32_w]; rfl))
        refine wp_out ?_
        refine done_ (done_of HT_.out (by kernel_rfl)) ?_
        clear hc1 hc2 hcl hfl hct hcv hcu hp
        have hp := OO.out.blk _ HK.out
        obtain ⟨hcx, hfx⟩ := Kd.R_celln 0 HX.out u HU.out.1.1 HU.out.1.2
        rw [show rdOf 0 nx u = j from HJ.out.symm] at hcx
        go_wp2_with fail
        go_roundg fu
        case measure => omega
        case rel =>
         have ei : inc nx u = List.set nx u.toNat (wrap64 (j + 1)) := by
          have hj := HJB.out
          have hlen := HLL.out
          unfold inc put
          rw [w64 (by omega) (by omega), HJ.out]
         refine ⟨lf, inc nx u, rfl, ⟨HN.out⟩, ⟨by have := HF.out; omega⟩, ⟨HG.out.1, ?_⟩, ⟨Kp.setCell HK.out (Or.inl (Or.inr rfl)) _⟩, ⟨Kd.R_far HL.out (fun k_ hk_ => by rw [hk_]; exact OO.out.sep.1.1) _⟩, ⟨by rw [ei]; exact Kd.R_putn HX.out u (wrap64 (j + 1))⟩⟩
         exact inc_ok HG.out.2 HU.out.1.1 HU.out.1.2 (by rw [← HJ.out, ← HLEN.out]; exact HJB.out.2)
     ·have hd : decide (j < (len : Int)) = false := decide_eq_false c1
      have h := HH.out
      unfold pushL at h
      rw [if_neg (by rw [← HJ.out, ← HLEN.out]; exact c1)] at h
      injection h with h
      subst h
      go_wp2_with fail
      have HK := Aside0.mk (Kp.drew HK.out)
      have HL := Aside0.mk (Kd.R_drew HL.out)
      have HX := Aside0.mk (Kd.R_drew HX.out)
      have hp := OO.out.blk _ HK.out
      have hc3 := (blk_cell hp 3).trans (show _ = some _ from rfl)
      obtain ⟨hcx, hfx⟩ := Kd.R_celln 0 HX.out u HU.out.1.1 HU.out.1.2
      rw [show rdOf 0 nx u = j from HJ.out.symm] at hcx
      obtain ⟨ad_, A0, c0, eA, hch, hlc, hrow⟩ := at_rows (OO.out.E _ HK.out) u HU.out.1.1 HU.out.1.2
      injection eA with eA
      subst eA
      rw [← HLEN.out] at hch hlc hrow
      refine start_ (n := 13) (S := fun w' => w'.cell? ⟨gx, u.toNat, none⟩ = some (.int .i64 j) ∧ w'.cell? ⟨p, 3, none⟩ = some (.slice (some Ae) n ce) ∧ w'.cell? (Ae.add u.toNat) = some (.slice A0 len c0)) (ds := []) (fl 13 0) (by kernel_rfl) rfl rfl ⟨hcx, hc3, hch⟩ (fun hHeld => ?_)
      refine with_tabW spec_mfState_push_tab3 spec_mfState_push_bits3 (fun HT_ HW_ => ?_)
      generalize wr.drew = wa at HK HL HX hHeld ⊢
      refine wp_in [(0, 21, 1, 0), (1, 22, 3, 0), (2, 23, 7, 0), (4, 25, 23, 0), (5, 26, 55, 0), (6, 27, 119, 0), (8, 29, 375, 0), (3, 24, 383, 1), (7, 28, 511, 1), (9, 30, 1023, 0), (10, 31, 2047, 1), (11, 32, 4095, 0), (12, 33, 8191, 0)] 13 ?_
      iterate 13 (first | (refine pn_ (oi := ?_) (v := ?_) (a' := ?_) HT_.out ?_ ?_ ?_ ?_ ?_ ?_ ?_ ?_; rotate_left 3; rfl; rfl; kernel_rfl; exact fun _ _ _ h => h; rfl; intro w'; go_simp; with_reducible rfl; simp only [Act.put, List.setIfInBounds_toArray, List.set_cons_zero, List.set_cons_succ, i64_w, i32_w]; rfl) | (refine tn_ (oi := ?_) (v := ?_) (a' := ?_) HT_.out HW_.out hHeld ?_ ?_ ?_ ?_ ?_ ?_ ?_ ?_; rotate_left 3; rfl; rfl; kernel_rfl; exact fun _ _ _ h => h; rfl; rintro w' ⟨s0, s1, s2⟩; go_simp; with_reducible rfl; simp only [Act.put, List.setIfInBounds_toArray, List.set_cons_zero, List.set_cons_succ, i64_w, i32_w]; rfl))
      refine wp_out ?_
      refine done_ (done_of HT_.out (by kernel_rfl)) ?_
      clear hc3 hcx hfx hch hlc hrow hp
      go_wp2_with fail
      go_ret
      exact ⟨rfl, HK.out, HL.out, HX.out⟩
end Go.Proofs.Ytomfjhpiemipkaa.OwnPushS
