/- The law FnOre, walked by hand over its callees' contracts: for all bytes it returns true. -/
import Derived.Test.YtomfjhpiemipkaaTOreLaw
import Derived.Test.YtomfjhpiemipkaaTDrawOre
namespace Go.Proofs.Ytomfjhpiemipkaa.WalkFnOre
open Go.RowKit Go.Proofs.Ytomfjhpiemipkaa.PFnOre Go.Proofs.YtomfjhpiemipkaaW.PrintWords Go.Proofs.YtomfjhpiemipkaaW.PrintLast Go.Proofs.YtomfjhpiemipkaaW.PrintMore Go.Proofs.Ytomfjhpiemipkaa.B Go.Proofs.Ytomfjhpiemipkaa.OreLaw Go.Proofs.Ytomfjhpiemipkaa.DrawOre
set_option linter.unusedVariables false
set_option linter.unusedSimpArgs false
theorem drawn_below' {w w' : World} (h : Drawn0 w w') : Below w.heap.size w w' := by
 obtain ⟨n, rfl⟩ := h
 exact pw_below_drewN (Below.refl _ _) n
theorem small_all (a b : Nat) (h : a + b ≤ 1048576) : wrap64 ((a : Int) + (b : Int)) = (a : Int) + (b : Int) ∧ decide (1048576 < (a : Int) + (b : Int)) = false :=
 ⟨w64 (by omega) (by omega), decide_eq_false (by omega)⟩
theorem sum_all (l b : List Int) (hl : l.length ≤ maxLen) (hb : b.length ≤ maxLen) : ∃ (S : Int) (ok : Bool), Ev (fun k => impl_SumOfValues.f k l b) (S, ok) ∧ Ev (fun k => spec_SumOfValues.f k l b) (S, ok) ∧ (ok = true → valsOk l = true ∧ asc b l.length = true ∧ S = valSum l b) := by
 have h1 := iSum_ev l b hl hb
 have h2 := sSum_ev l b hl hb
 by_cases h : (valsOk l && asc b l.length) = true
 ·rw [if_pos h] at h1 h2
  rw [Bool.and_eq_true] at h
  exact ⟨_, _, h1, h2, fun _ => ⟨h.1, h.2, rfl⟩⟩
 ·rw [if_neg h] at h1 h2
  exact ⟨_, _, h1, h2, fun h => by cases h⟩
theorem ore_all (v : List Int) (hv : v.length ≤ 1048576) : ∃ (o : List Int) (one : Bool), Ev (fun k => impl_OreBlocks.f k v) (o, one) ∧ Ev (fun k => spec_OreBlocks.f k v) (o, one) ∧ o.length ≤ v.length ∧ (one = true → valsOk v = true ∧ (∀ i : Int, 0 ≤ i → i < v.length → decide (i ∈ o) = decide (0 < rd v i)) ∧ Ev (fun k => impl_SumOfValues.f k v o) (posTo v v.length, true)) := by
 have h1 := iOre_ev v hv
 have h2 := sOre_ev v hv
 by_cases h : valsOk v = true
 ·rw [if_pos h] at h1 h2
  refine ⟨_, _, h1, h2, asc_len (ore_asc v), fun _ => ⟨h, fun i h0 hi => ?_, ?_⟩⟩
  ·have := ore_mem v i.toNat (by omega)
   rw [Int.toNat_of_nonneg h0] at this
   exact decide_eq_decide.mpr this
  ·have h3 := iSum_ev v (oreL v) (by unfold maxLen; omega) (by have := asc_len (ore_asc v); unfold maxLen; omega)
   rw [h, ore_asc v, ore_val v] at h3
   exact h3
 ·rw [if_neg h] at h1 h2
  exact ⟨_, _, h1, h2, Nat.zero_le _, fun h => by cases h⟩
theorem u8_wf {x : Int} (h : (Lit.int .u8 x).wf = true) : 0 ≤ x ∧ x < 256 := by
 have e0 : IntKind.u8.min = 0 := rfl
 have e1 : IntKind.u8.max = 255 := rfl
 simp only [Lit.wf, Bool.and_eq_true, decide_eq_true_eq, e0, e1] at h
 omega
set_option maxRecDepth 100000 in
theorem walk_big (s0 s1 : List Int) (q0 : s0.length ≤ maxLen) (q1 : s1.length ≤ maxLen) (hs : ¬ s0.length + s1.length ≤ 1048576) (m0 : s0.length * 1 ≤ 140737488351232) (m1 : s1.length * 1 ≤ 140737488351232) (A0 : Option Addr) (c0 : Nat) (A1 : Option Addr) (c1 : Nat) (w : World) :
  Calls Try.prog 10 #[.slice A0 s0.length c0, .slice A1 s1.length c1] w fun e w' => e = .returned (.bool true) ∧ Below w.heap.size w w' := by
 have hw : wrap64 ((s0.length : Int) + (s1.length : Int)) = (s0.length : Int) + (s1.length : Int) := w64 (by omega) (by omega)
 have t1 : decide (1048576 < (s0.length : Int) + (s1.length : Int)) = true := decide_eq_true (by omega)
 clear hs m0 m1 q0 q1
 go_enter Try.func10, Try.ntmps10
 go_wp2_with fail
 go_ret
 exact ⟨rfl, Below.refl _ _⟩
set_option maxHeartbeats 16000000 in
set_option maxRecDepth 100000 in
theorem walk (s0 s1 : List Int) (hs0 : Bytes s0) (hs1 : Bytes s1) (hs : s0.length + s1.length ≤ 1048576) (A0 : Option Addr) (c0 : Nat) (A1 : Option Addr) (c1 : Nat) (w : World) (h0 : Kd.C (Kd.int .u8) w A0 s0.length s0) (e0 : s0.length ≤ c0) (h1 : Kd.C (Kd.int .u8) w A1 s1.length s1) (e1 : s1.length ≤ c1) :
  Calls Try.prog 10 #[.slice A0 s0.length c0, .slice A1 s1.length c1] w fun e w' => e = .returned (.bool true) ∧ Below w.heap.size w w' := by
 obtain ⟨l, b, ⟨hl, hbk⟩, ds⟩ := drawSum s0 hs0
 obtain ⟨v, hv, dd⟩ := drawOre s1 hs1
 obtain ⟨x, y, z, t, g, r, u, bl, ⟨ht, hg, hr, hu, hbl⟩, dt⟩ := drawStrip s1 hs1
 obtain ⟨xs, nn, ⟨hxs, _⟩, dv⟩ := drawVals s1 hs1
 obtain ⟨hw, t1⟩ := small_all _ _ hs
 have m1 : l.length ≤ maxLen := maxLen_val (by omega)
 have m2 : b.length ≤ maxLen := maxLen_val (by omega)
 have m3 : v.length ≤ 1048576 := by omega
 have m4 : t.length ≤ maxLen := maxLen_val (by omega)
 have m5 : g.length ≤ maxLen := maxLen_val (by omega)
 have m6 : r.length ≤ maxLen := maxLen_val (by omega)
 have m7 : u.length ≤ maxLen := maxLen_val (by omega)
 have m8 : bl.length ≤ maxLen := maxLen_val (by omega)
 have m9 : xs.length ≤ maxLen := maxLen_val (by omega)
 obtain ⟨S, ok, p1, p2, hS⟩ := sum_all l b m1 m2
 obtain ⟨o, one, p3, p4, hol, hO⟩ := ore_all v m3
 obtain ⟨⟨top, bot, three⟩, ⟨p5, p6⟩, hT⟩ := strip_law x y z u t g r bl m7 m4 m5 m6 m8
 simp only at hT
 have p7 := iAre_ev xs nn m9
 have p8 := sAre_ev xs nn m9
 clear m1 m2 m3 m4 m5 m6 m7 m8 m9
 obtain ⟨ar, ear⟩ : ∃ a, a = (decide ((xs.length : Int) = nn) && valsOk xs) := ⟨_, rfl⟩
 rw [← ear] at p7 p8
 clear ear
 obtain ⟨k1, q1⟩ := p1.rounds
 have P1 := Aside0.mk q1
 obtain ⟨k2, q2⟩ := p2.rounds
 have P2 := Aside0.mk q2
 obtain ⟨k3, q3⟩ := p3.rounds
 have P3 := Aside0.mk q3
 obtain ⟨k4, q4⟩ := p4.rounds
 have P4 := Aside0.mk q4
 obtain ⟨k5, q5⟩ := p5.rounds
 have P5 := Aside0.mk q5
 obtain ⟨k6, q6⟩ := p6.rounds
 have P6 := Aside0.mk q6
 obtain ⟨k7, q7⟩ := p7.rounds
 have P7 := Aside0.mk q7
 obtain ⟨k8, q8⟩ := p8.rounds
 have P8 := Aside0.mk q8
 have HS := Aside0.mk hS
 have HO := Aside0.mk hO
 have HT := Aside0.mk hT
 have DS := Aside0.mk ds
 have DD := Aside0.mk dd
 have DT := Aside0.mk dt
 have DV := Aside0.mk dv
 have H0 := Aside0.mk h0
 have E0 := Aside0.mk e0
 have H1 := Aside0.mk h1
 have E1 := Aside0.mk e1
 have LO := Aside0.mk hol
 have LV := Aside0.mk hv
 have LL := Aside0.mk hl
 have LB := Aside0.mk hbk
 have LT := Aside0.mk ht
 have LU := Aside0.mk hu
 have LK := Aside0.mk hbl
 clear hS hO hT ds dd dt dv h0 e0 h1 e1 hol hv hl hbk ht hg hr hu hbl hxs hs0 hs1 p1 p2 p3 p4 p5 p6 p7 p8 q1 q2 q3 q4 q5 q6 q7 q8
 have hum := Try.underlying34
 go_enter Try.func10, Try.ntmps10
 go_wp2_with fail
 refine (DS.out A0 c0 w H0.out E0.out).mono ?_
 rintro e w1 ⟨A_l, c_l, A_b, c_b, rfl, ⟨hC0, hE0⟩, ⟨hC1, hE1⟩, hb⟩
 clear hw t1
 have Cl_0 := Aside0.mk hC0
 have El_0 := Aside0.mk hE0
 clear hC0 hE0
 have Cb_0 := Aside0.mk hC1
 have Eb_0 := Aside0.mk hE1
 clear hC1 hE1
 have Bw1 := Aside0.mk hb
 have Cs1_w1 := Aside0.mk (Kd.C_below H1.out hb)
 clear H1
 clear hb
 go_wp2_with fail
 refine (impl_SumOfValues.calls k1 A_l c_l l A_b c_b b S ok w1 Cl_0.out El_0.out Cb_0.out Eb_0.out P1.out).mono ?_
 rintro e w2 ⟨rfl, hd⟩
 have hb := drawn_below' hd
 clear hd
 have Bw2 := Aside0.mk (below_step Bw1.out hb)
 have Cs1_w2 := Aside0.mk (Kd.C_below Cs1_w1.out hb)
 clear Cs1_w1
 have Cl_w2 := Aside0.mk (Kd.C_below Cl_0.out hb)
 clear Cl_0
 have Cb_w2 := Aside0.mk (Kd.C_below Cb_0.out hb)
 clear Cb_0
 clear Bw1
 clear hb
 go_wp2_with fail
 refine (spec_SumOfValues.calls k2 A_l c_l l A_b c_b b S ok w2 Cl_w2.out El_0.out Cb_w2.out Eb_0.out P2.out).mono ?_
 rintro e w3 ⟨rfl, hd⟩
 have hb := drawn_below' hd
 clear hd
 have Bw3 := Aside0.mk (below_step Bw2.out hb)
 have Cs1_w3 := Aside0.mk (Kd.C_below Cs1_w2.out hb)
 clear Cs1_w2
 have Cl_w3 := Aside0.mk (Kd.C_below Cl_w2.out hb)
 clear Cl_w2
 have Cb_w3 := Aside0.mk (Kd.C_below Cb_w2.out hb)
 clear Cb_w2
 clear Bw2
 clear hb
 go_wp2_with fail
 refine (DD.out A1 c1 w3 Cs1_w3.out E1.out).mono ?_
 rintro e w4 ⟨A_v, c_v, rfl, ⟨hC0, hE0⟩, hb⟩
 have Cv_0 := Aside0.mk hC0
 have Ev_0 := Aside0.mk hE0
 clear hC0 hE0
 have Bw4 := Aside0.mk (below_step Bw3.out hb)
 have Cs1_w4 := Aside0.mk (Kd.C_below Cs1_w3.out hb)
 clear Cs1_w3
 have Cl_w4 := Aside0.mk (Kd.C_below Cl_w3.out hb)
 clear Cl_w3
 have Cb_w4 := Aside0.mk (Kd.C_below Cb_w3.out hb)
 clear Cb_w3
 clear Bw3
 clear hb
 go_wp2_with fail
 refine (impl_OreBlocks.calls k3 A_v c_v v o one w4 Cv_0.out Ev_0.out P3.out).mono ?_
 rintro e w5 ⟨v_, rfl, ho, hb⟩
 obtain ⟨A_oiw5, c_oiw5, rfl⟩ := Kd.R_slice ho
 have Coi_w5 := Aside0.mk (Kd.R_reads' ho).2.2
 have Eoi_w5 := Aside0.mk (Kd.R_reads' ho).2.1
 clear ho
 have Bw5 := Aside0.mk (below_step Bw4.out hb)
 have Cs1_w5 := Aside0.mk (Kd.C_below Cs1_w4.out hb)
 clear Cs1_w4
 have Cl_w5 := Aside0.mk (Kd.C_below Cl_w4.out hb)
 clear Cl_w4
 have Cb_w5 := Aside0.mk (Kd.C_below Cb_w4.out hb)
 clear Cb_w4
 have Cv_w5 := Aside0.mk (Kd.C_below Cv_0.out hb)
 clear Cv_0
 clear Bw4
 clear hb
 go_wp2_with fail
 refine (spec_OreBlocks.calls k4 A_v c_v v o one w5 Cv_w5.out Ev_0.out P4.out).mono ?_
 rintro e w6 ⟨v_, rfl, ho, hb⟩
 obtain ⟨A_osw6, c_osw6, rfl⟩ := Kd.R_slice ho
 have Cos_w6 := Aside0.mk (Kd.R_reads' ho).2.2
 have Eos_w6 := Aside0.mk (Kd.R_reads' ho).2.1
 clear ho
 have Bw6 := Aside0.mk (below_step Bw5.out hb)
 have Cs1_w6 := Aside0.mk (Kd.C_below Cs1_w5.out hb)
 clear Cs1_w5
 have Cl_w6 := Aside0.mk (Kd.C_below Cl_w5.out hb)
 clear Cl_w5
 have Cb_w6 := Aside0.mk (Kd.C_below Cb_w5.out hb)
 clear Cb_w5
 have Cv_w6 := Aside0.mk (Kd.C_below Cv_w5.out hb)
 clear Cv_w5
 have Coi_w6 := Aside0.mk (Kd.C_below Coi_w5.out hb)
 clear Coi_w5
 clear Bw5
 clear hb
 go_wp2_with fail
 refine (DT.out A1 c1 w6 Cs1_w6.out E1.out).mono ?_
 rintro e w7 ⟨A_t, c_t, A_g, c_g, A_r, c_r, A_u, c_u, A_k, c_k, rfl, ⟨hC0, hE0⟩, ⟨hC1, hE1⟩, ⟨hC2, hE2⟩, ⟨hC3, hE3⟩, ⟨hC4, hE4⟩, hb⟩
 have Ct_0 := Aside0.mk hC0
 have Et_0 := Aside0.mk hE0
 clear hC0 hE0
 have Cg_0 := Aside0.mk hC1
 have Eg_0 := Aside0.mk hE1
 clear hC1 hE1
 have Cr_0 := Aside0.mk hC2
 have Er_0 := Aside0.mk hE2
 clear hC2 hE2
 have Cu_0 := Aside0.mk hC3
 have Eu_0 := Aside0.mk hE3
 clear hC3 hE3
 have Ck_0 := Aside0.mk hC4
 have Ek_0 := Aside0.mk hE4
 clear hC4 hE4
 have Bw7 := Aside0.mk (below_step Bw6.out hb)
 have Cs1_w7 := Aside0.mk (Kd.C_below Cs1_w6.out hb)
 clear Cs1_w6
 have Cl_w7 := Aside0.mk (Kd.C_below Cl_w6.out hb)
 clear Cl_w6
 have Cb_w7 := Aside0.mk (Kd.C_below Cb_w6.out hb)
 clear Cb_w6
 have Cv_w7 := Aside0.mk (Kd.C_below Cv_w6.out hb)
 clear Cv_w6
 have Coi_w7 := Aside0.mk (Kd.C_below Coi_w6.out hb)
 clear Coi_w6
 have Cos_w7 := Aside0.mk (Kd.C_below Cos_w6.out hb)
 clear Cos_w6
 clear Bw6
 clear hb
 go_wp2_with fail
 have hb := below_alloc (Below.refl w7.heap.size w7) (Obj.cells #[.int .i64 x, .int .i64 y, .int .i64 z, .slice A_t t.length c_t, .slice A_g g.length c_g, .slice A_r r.length c_r] 34)
 have K16 : Aside0 ((w7.alloc (Obj.cells #[.int .i64 x, .int .i64 y, .int .i64 z, .slice A_t t.length c_t, .slice A_g g.length c_g, .slice A_r r.length c_r] 34)).heap[w7.heap.size]? = some (.cells #[.int .i64 x, .int .i64 y, .int .i64 z, .slice A_t t.length c_t, .slice A_g g.length c_g, .slice A_r r.length c_r] 34 (0, 0))) := ⟨blk_new w7 _⟩
 generalize w7.alloc (Obj.cells #[.int .i64 x, .int .i64 y, .int .i64 z, .slice A_t t.length c_t, .slice A_g g.length c_g, .slice A_r r.length c_r] 34) = wq at hb K16 ⊢
 have Bwq := Aside0.mk (below_step Bw7.out hb)
 have Cs1_wq := Aside0.mk (Kd.C_below Cs1_w7.out hb)
 clear Cs1_w7
 have Cl_wq := Aside0.mk (Kd.C_below Cl_w7.out hb)
 clear Cl_w7
 have Cb_wq := Aside0.mk (Kd.C_below Cb_w7.out hb)
 clear Cb_w7
 have Cv_wq := Aside0.mk (Kd.C_below Cv_w7.out hb)
 clear Cv_w7
 have Coi_wq := Aside0.mk (Kd.C_below Coi_w7.out hb)
 clear Coi_w7
 have Cos_wq := Aside0.mk (Kd.C_below Cos_w7.out hb)
 clear Cos_w7
 have Ct_wq := Aside0.mk (Kd.C_below Ct_0.out hb)
 clear Ct_0
 have Cg_wq := Aside0.mk (Kd.C_below Cg_0.out hb)
 clear Cg_0
 have Cr_wq := Aside0.mk (Kd.C_below Cr_0.out hb)
 clear Cr_0
 have Cu_wq := Aside0.mk (Kd.C_below Cu_0.out hb)
 clear Cu_0
 have Ck_wq := Aside0.mk (Kd.C_below Ck_0.out hb)
 clear Ck_0
 clear Bw7
 clear hb
 obtain ⟨g16, hg16⟩ : ∃ g16, g16 = w7.heap.size := ⟨_, rfl⟩
 rw [← hg16] at K16 ⊢
 clear hg16
 refine (impl_StripRatio.calls k6 x y z A_t c_t t A_g c_g g A_r c_r r A_u c_u u A_k c_k bl top bot three wq Ct_wq.out Et_0.out Cg_wq.out Eg_0.out Cr_wq.out Er_0.out Cu_wq.out Eu_0.out Ck_wq.out Ek_0.out P6.out).mono ?_
 rintro e w8 ⟨rfl, hb⟩
 have n_ := Aside0.mk (blk_below K16.out hb)
 clear K16
 have K16 := n_
 clear n_
 have Bw8 := Aside0.mk (below_step Bwq.out hb)
 have Cs1_w8 := Aside0.mk (Kd.C_below Cs1_wq.out hb)
 clear Cs1_wq
 have Cl_w8 := Aside0.mk (Kd.C_below Cl_wq.out hb)
 clear Cl_wq
 have Cb_w8 := Aside0.mk (Kd.C_below Cb_wq.out hb)
 clear Cb_wq
 have Cv_w8 := Aside0.mk (Kd.C_below Cv_wq.out hb)
 clear Cv_wq
 have Coi_w8 := Aside0.mk (Kd.C_below Coi_wq.out hb)
 clear Coi_wq
 have Cos_w8 := Aside0.mk (Kd.C_below Cos_wq.out hb)
 clear Cos_wq
 have Ct_w8 := Aside0.mk (Kd.C_below Ct_wq.out hb)
 clear Ct_wq
 have Cg_w8 := Aside0.mk (Kd.C_below Cg_wq.out hb)
 clear Cg_wq
 have Cr_w8 := Aside0.mk (Kd.C_below Cr_wq.out hb)
 clear Cr_wq
 have Cu_w8 := Aside0.mk (Kd.C_below Cu_wq.out hb)
 clear Cu_wq
 have Ck_w8 := Aside0.mk (Kd.C_below Ck_wq.out hb)
 clear Ck_wq
 clear Bwq
 clear hb
 have hc0 : w8.cell? ⟨g16, 0, none⟩ = some (.int .i64 x) := (blk_cell K16.out 0).trans rfl
 have hc1 : w8.cell? ⟨g16, 1, none⟩ = some (.int .i64 y) := (blk_cell K16.out 1).trans rfl
 have hc2 : w8.cell? ⟨g16, 2, none⟩ = some (.int .i64 z) := (blk_cell K16.out 2).trans rfl
 have hc3 : w8.cell? ⟨g16, 3, none⟩ = some (.slice A_t t.length c_t) := (blk_cell K16.out 3).trans rfl
 have hc4 : w8.cell? ⟨g16, 4, none⟩ = some (.slice A_g g.length c_g) := (blk_cell K16.out 4).trans rfl
 have hc5 : w8.cell? ⟨g16, 5, none⟩ = some (.slice A_r r.length c_r) := (blk_cell K16.out 5).trans rfl
 go_wp2_with fail
 refine (spec_StripRatio.calls k5 x y z A_t c_t t A_g c_g g A_r c_r r A_u c_u u A_k c_k bl top bot three w8 Ct_w8.out Et_0.out Cg_w8.out Eg_0.out Cr_w8.out Er_0.out Cu_w8.out Eu_0.out Ck_w8.out Ek_0.out P5.out).mono ?_
 rintro e w9 ⟨rfl, hb⟩
 clear hc0 hc1 hc2 hc3 hc4 hc5
 have n_ := Aside0.mk (blk_below K16.out hb)
 clear K16
 have K16 := n_
 clear n_
 have Bw9 := Aside0.mk (below_step Bw8.out hb)
 have Cs1_w9 := Aside0.mk (Kd.C_below Cs1_w8.out hb)
 clear Cs1_w8
 have Cl_w9 := Aside0.mk (Kd.C_below Cl_w8.out hb)
 clear Cl_w8
 have Cb_w9 := Aside0.mk (Kd.C_below Cb_w8.out hb)
 clear Cb_w8
 have Cv_w9 := Aside0.mk (Kd.C_below Cv_w8.out hb)
 clear Cv_w8
 have Coi_w9 := Aside0.mk (Kd.C_below Coi_w8.out hb)
 clear Coi_w8
 have Cos_w9 := Aside0.mk (Kd.C_below Cos_w8.out hb)
 clear Cos_w8
 have Ct_w9 := Aside0.mk (Kd.C_below Ct_w8.out hb)
 clear Ct_w8
 have Cg_w9 := Aside0.mk (Kd.C_below Cg_w8.out hb)
 clear Cg_w8
 have Cr_w9 := Aside0.mk (Kd.C_below Cr_w8.out hb)
 clear Cr_w8
 have Cu_w9 := Aside0.mk (Kd.C_below Cu_w8.out hb)
 clear Cu_w8
 have Ck_w9 := Aside0.mk (Kd.C_below Ck_w8.out hb)
 clear Ck_w8
 clear Bw8
 clear hb
 go_wp2_with fail
 refine (DV.out A1 c1 w9 Cs1_w9.out E1.out).mono ?_
 rintro e w10 ⟨A_x, c_x, rfl, ⟨hC0, hE0⟩, hb⟩
 have Cx_0 := Aside0.mk hC0
 have Ex_0 := Aside0.mk hE0
 clear hC0 hE0
 have n_ := Aside0.mk (blk_below K16.out hb)
 clear K16
 have K16 := n_
 clear n_
 have Bw10 := Aside0.mk (below_step Bw9.out hb)
 have Cl_w10 := Aside0.mk (Kd.C_below Cl_w9.out hb)
 clear Cl_w9
 have Cb_w10 := Aside0.mk (Kd.C_below Cb_w9.out hb)
 clear Cb_w9
 have Cv_w10 := Aside0.mk (Kd.C_below Cv_w9.out hb)
 clear Cv_w9
 have Coi_w10 := Aside0.mk (Kd.C_below Coi_w9.out hb)
 clear Coi_w9
 have Cos_w10 := Aside0.mk (Kd.C_below Cos_w9.out hb)
 clear Cos_w9
 have Ct_w10 := Aside0.mk (Kd.C_below Ct_w9.out hb)
 clear Ct_w9
 have Cu_w10 := Aside0.mk (Kd.C_below Cu_w9.out hb)
 clear Cu_w9
 have Ck_w10 := Aside0.mk (Kd.C_below Ck_w9.out hb)
 clear Ck_w9
 clear Bw9
 clear hb
 have hv1 : (S != S) = false := by simp
 have hv2 : (top != top) = false := by simp
 have hv3 : (bot != bot) = false := by simp
 have hv4 : (ok != ok) = false := by simp
 have hv5 : (one != one) = false := by simp
 have hv6 : (three != three) = false := by simp
 have hv7 : (ar != ar) = false := by simp
 go_wp2_with fail
 refine (ints_calls o (maxLen_val (by have := LO.out; have := LV.out; omega)) A_oiw5 c_oiw5 A_osw6 c_osw6 w10 Coi_w10.out Eoi_w5.out Cos_w10.out Eos_w6.out).mono ?_
 rintro e w11 ⟨rfl, hb⟩
 have n_ := Aside0.mk (blk_below K16.out hb)
 clear K16
 have K16 := n_
 clear n_
 have Bw11 := Aside0.mk (below_step Bw10.out hb)
 have Cl_w11 := Aside0.mk (Kd.C_below Cl_w10.out hb)
 clear Cl_w10
 have Cb_w11 := Aside0.mk (Kd.C_below Cb_w10.out hb)
 clear Cb_w10
 have Cv_w11 := Aside0.mk (Kd.C_below Cv_w10.out hb)
 clear Cv_w10
 have Coi_w11 := Aside0.mk (Kd.C_below Coi_w10.out hb)
 clear Coi_w10
 have Cos_w11 := Aside0.mk (Kd.C_below Cos_w10.out hb)
 clear Cos_w10
 have Ct_w11 := Aside0.mk (Kd.C_below Ct_w10.out hb)
 clear Ct_w10
 have Cu_w11 := Aside0.mk (Kd.C_below Cu_w10.out hb)
 clear Cu_w10
 have Ck_w11 := Aside0.mk (Kd.C_below Ck_w10.out hb)
 clear Ck_w10
 have Cx_w11 := Aside0.mk (Kd.C_below Cx_0.out hb)
 clear Cx_0
 clear Bw10
 clear hb
 go_wp2_with fail
 refine (impl_AreValues.calls k7 A_x c_x xs nn ar w11 Cx_w11.out Ex_0.out P7.out).mono ?_
 rintro e w12 ⟨rfl, hd⟩
 have hb := drawn_below' hd
 clear hd
 have n_ := Aside0.mk (blk_below K16.out hb)
 clear K16
 have K16 := n_
 clear n_
 have Bw12 := Aside0.mk (below_step Bw11.out hb)
 have Cl_w12 := Aside0.mk (Kd.C_below Cl_w11.out hb)
 clear Cl_w11
 have Cb_w12 := Aside0.mk (Kd.C_below Cb_w11.out hb)
 clear Cb_w11
 have Cv_w12 := Aside0.mk (Kd.C_below Cv_w11.out hb)
 clear Cv_w11
 have Coi_w12 := Aside0.mk (Kd.C_below Coi_w11.out hb)
 clear Coi_w11
 have Cos_w12 := Aside0.mk (Kd.C_below Cos_w11.out hb)
 clear Cos_w11
 have Ct_w12 := Aside0.mk (Kd.C_below Ct_w11.out hb)
 clear Ct_w11
 have Cu_w12 := Aside0.mk (Kd.C_below Cu_w11.out hb)
 clear Cu_w11
 have Ck_w12 := Aside0.mk (Kd.C_below Ck_w11.out hb)
 clear Ck_w11
 have Cx_w12 := Aside0.mk (Kd.C_below Cx_w11.out hb)
 clear Cx_w11
 clear Bw11
 clear hb
 go_wp2_with fail
 refine (spec_AreValues.calls k8 A_x c_x xs nn ar w12 Cx_w12.out Ex_0.out P8.out).mono ?_
 rintro e w13 ⟨rfl, hd⟩
 have hb := drawn_below' hd
 clear hd
 have n_ := Aside0.mk (blk_below K16.out hb)
 clear K16
 have K16 := n_
 clear n_
 have Bw13 := Aside0.mk (below_step Bw12.out hb)
 have Cl_w13 := Aside0.mk (Kd.C_below Cl_w12.out hb)
 clear Cl_w12
 have Cb_w13 := Aside0.mk (Kd.C_below Cb_w12.out hb)
 clear Cb_w12
 have Cv_w13 := Aside0.mk (Kd.C_below Cv_w12.out hb)
 clear Cv_w12
 have Coi_w13 := Aside0.mk (Kd.C_below Coi_w12.out hb)
 clear Coi_w12
 have Cos_w13 := Aside0.mk (Kd.C_below Cos_w12.out hb)
 clear Cos_w12
 have Ct_w13 := Aside0.mk (Kd.C_below Ct_w12.out hb)
 clear Ct_w12
 have Cu_w13 := Aside0.mk (Kd.C_below Cu_w12.out hb)
 clear Cu_w12
 have Ck_w13 := Aside0.mk (Kd.C_below Ck_w12.out hb)
 clear Ck_w12
 have Cx_w13 := Aside0.mk (Kd.C_below Cx_w12.out hb)
 clear Cx_w12
 clear Bw12
 clear hb
 go_upto_if 143 with fail
 clear hv1 hv2 hv3 hv4 hv5 hv6 hv7
 go_cut [] (fun wc => Aside0 (Kd.C (Kd.int .i64) wc A_l l.length l) ∧ Aside0 (Kd.C (Kd.int .i64) wc A_b b.length b) ∧ Aside0 (Kd.C (Kd.int .i64) wc A_t t.length t) ∧ Aside0 (Kd.C (Kd.int .i64) wc A_u u.length u) ∧ Aside0 (Kd.C (Kd.int .i64) wc A_k bl.length bl) ∧ Aside0 (wc.heap[g16]? = some (.cells #[.int .i64 x, .int .i64 y, .int .i64 z, .slice A_t t.length c_t, .slice A_g g.length c_g, .slice A_r r.length c_r] 34 (0, 0))) ∧ Aside0 (Below w.heap.size w wc))
 case first =>
  cases one with
  | false =>
   go_wp2
   go_meet
   case rel => exact ⟨Cl_w13, Cb_w13, Ct_w13, Cu_w13, Ck_w13, K16, Bw13⟩
  | true =>
   obtain ⟨hvo, hmem, hsm⟩ := HO.out rfl
   obtain ⟨k9, q9⟩ := hsm.rounds
   have P9 := Aside0.mk q9
   have HV := Aside0.mk hvo
   have HM := Aside0.mk hmem
   clear hvo hmem hsm q9
   go_wp2_with fail
   refine (impl_SumOfValues.calls k9 A_v c_v v A_oiw5 c_oiw5 o (posTo v v.length) true w13 Cv_w13.out Ev_0.out Coi_w13.out Eoi_w5.out P9.out).mono ?_
   rintro e w14 ⟨rfl, hd⟩
   have hb := drawn_below' hd
   clear hd
   have n_ := Aside0.mk (blk_below K16.out hb)
   clear K16
   have K16 := n_
   clear n_
   have Bw14 := Aside0.mk (below_step Bw13.out hb)
   have Cl_w14 := Aside0.mk (Kd.C_below Cl_w13.out hb)
   clear Cl_w13
   have Cb_w14 := Aside0.mk (Kd.C_below Cb_w13.out hb)
   clear Cb_w13
   have Cv_w14 := Aside0.mk (Kd.C_below Cv_w13.out hb)
   clear Cv_w13
   have Coi_w14 := Aside0.mk (Kd.C_below Coi_w13.out hb)
   clear Coi_w13
   have Cos_w14 := Aside0.mk (Kd.C_below Cos_w13.out hb)
   clear Cos_w13
   have Ct_w14 := Aside0.mk (Kd.C_below Ct_w13.out hb)
   clear Ct_w13
   have Cu_w14 := Aside0.mk (Kd.C_below Cu_w13.out hb)
   clear Cu_w13
   have Ck_w14 := Aside0.mk (Kd.C_below Ck_w13.out hb)
   clear Ck_w13
   clear Bw13
   clear hb
   go_wp2_with fail
   have e0 : posTo v v.length - posTo v (0 : Int).toNat = posTo v v.length := by rw [show posTo v (0 : Int).toNat = 0 from rfl, Int.sub_zero]
   have EZ := Aside0.mk e0
   clear e0
   go_loopg [27, 154] (v.length) (fun d v27 v154 wr => ∃ i : Int, v154 = .int .i64 i ∧ v27 = .int .i64 (posTo v v.length - posTo v i.toNat) ∧ Aside0 (0 ≤ i ∧ i + d = v.length) ∧ Aside0 (Kd.C (Kd.int .i64) wr A_l l.length l) ∧ Aside0 (Kd.C (Kd.int .i64) wr A_b b.length b) ∧ Aside0 (Kd.C (Kd.int .i64) wr A_t t.length t) ∧ Aside0 (Kd.C (Kd.int .i64) wr A_u u.length u) ∧ Aside0 (Kd.C (Kd.int .i64) wr A_k bl.length bl) ∧ Aside0 (Kd.C (Kd.int .i64) wr A_v v.length v) ∧ Aside0 (Kd.C (Kd.int .i64) wr A_osw6 o.length o) ∧ Aside0 (wr.heap[g16]? = some (.cells #[.int .i64 x, .int .i64 y, .int .i64 z, .slice A_t t.length c_t, .slice A_g g.length c_g, .slice A_r r.length c_r] 34 (0, 0))) ∧ Aside0 (Below w.heap.size w wr))
   case atStart => exact ⟨0, rfl, congrArg _ EZ.out.symm, ⟨by omega⟩, Cl_w14, Cb_w14, Ct_w14, Cu_w14, Ck_w14, Cv_w14, Cos_w14, K16, Bw14⟩
   case round =>
    clear EZ Cl_w14 Cb_w14 Ct_w14 Cu_w14 Ck_w14 Cv_w14 Cos_w14 Bw14
    clear K16
    obtain ⟨i, rfl, rfl, HI, Cl_r, Cb_r, Ct_r, Cu_r, Ck_r, Cv_r, Cos_r, K16, B_r⟩ := hrel
    have h0 := HI.out.1
    cases gk with
    | succ d =>
     have hlt : i < (v.length : Int) := by have := HI.out.2; omega
     have hd_ : decide (i < (v.length : Int)) = true := decide_eq_true hlt
     have hc1 := has_calls o (maxLen_val (by have := LO.out; have := LV.out; omega)) i A_osw6 c_osw6 wr Cos_r.out Eos_w6.out
     rw [HM.out i h0 hlt] at hc1
     have HC1 := Aside0.mk hc1
     clear hc1
     obtain ⟨ad, eA, hcell⟩ := Kd.at_int Cv_r.out i h0 hlt
     subst eA
     obtain ⟨kv, ekv⟩ : ∃ kv, kv = rd v i := ⟨_, rfl⟩
     rw [← ekv] at hcell HC1
     have EKV := Aside0.mk ekv
     have q0 := eq_true h0
     have q1 := eq_true hlt
     have HLT := Aside0.mk hlt
     have hbx : (decide (0 < kv) != decide (0 < kv)) = false := by simp
     clear h0 hlt ekv
     go_wp2_with fail
     refine (HC1.out).mono ?_
     rintro e w15 ⟨rfl, hb⟩
     clear hcell HC1
     have n_ := Aside0.mk (blk_below K16.out hb)
     clear K16
     have K16 := n_
     clear n_
     have Bw15 := Aside0.mk (below_step B_r.out hb)
     have Cl_w15 := Aside0.mk (Kd.C_below Cl_r.out hb)
     clear Cl_r
     have Cb_w15 := Aside0.mk (Kd.C_below Cb_r.out hb)
     clear Cb_r
     have Cv_w15 := Aside0.mk (Kd.C_below Cv_r.out hb)
     clear Cv_r
     have Cos_w15 := Aside0.mk (Kd.C_below Cos_r.out hb)
     clear Cos_r
     have Ct_w15 := Aside0.mk (Kd.C_below Ct_r.out hb)
     clear Ct_r
     have Cu_w15 := Aside0.mk (Kd.C_below Cu_r.out hb)
     clear Cu_r
     have Ck_w15 := Aside0.mk (Kd.C_below Ck_r.out hb)
     clear Ck_r
     clear B_r
     clear hb
     obtain ⟨bq, ebq⟩ : ∃ bq : Bool, bq = decide (0 < kv) := ⟨_, rfl⟩
     have hbq := ebq.symm
     have EBQ := Aside0.mk ebq
     clear ebq
     cases bq
     all_goals
      go_wp2_with fail
      go_roundg d
      case measure => omega
      case rel =>
       have hI := HI.out
       have hlt := HLT.out
       have hl := LV.out
       have hb1 := posTo_bd HV.out v.length (Nat.le_refl _)
       have hb2 := posTo_bd HV.out i.toNat (by omega)
       have hn := (valsOk_iff.1 HV.out).2.1
       have hv := (valsOk_iff.1 HV.out).2.2 i.toNat (by omega)
       have hr : v.getD i.toNat 0 = kv := EKV.out.symm
       have ei : wrap64 (i + 1) = i + 1 := by rw [w64 (by omega) (by omega)]
       have hq := EBQ.out
       rw [hr] at hv
       refine ⟨i + 1, by rw [ei], congrArg _ ?_, ⟨by omega⟩, Cl_w15, Cb_w15, Ct_w15, Cu_w15, Ck_w15, Cv_w15, Cos_w15, K16, Bw15⟩
       rw [show (i + 1).toNat = i.toNat + 1 by omega, posTo_succ, hr]
       first
        | (rw [if_neg (by have := of_decide_eq_false hq.symm; omega)])
        | (rw [if_pos (by have := of_decide_eq_true hq.symm; omega), w64 (by omega) (by omega)]; omega)
    | zero =>
     have hd_ : decide (i < (v.length : Int)) = false := decide_eq_false (by have := HI.out.2; omega)
     have hps : posTo v v.length - posTo v i.toNat = 0 := by rw [show i.toNat = v.length by have := HI.out; omega, Int.sub_self]
     rw [hps]
     clear h0 hps
     go_wp2
     go_meet
     case rel => exact ⟨Cl_r, Cb_r, Ct_r, Cu_r, Ck_r, K16, B_r⟩
 case rest =>
  clear K16
  obtain ⟨Cl_c, Cb_c, Ct_c, Cu_c, Ck_c, K16, B_c⟩ := hcut
  go_upto_if 173 with fail
  go_cut [] (fun wc => Aside0 (Kd.C (Kd.int .i64) wc A_l l.length l) ∧ Aside0 (Kd.C (Kd.int .i64) wc A_b b.length b) ∧ Aside0 (Below w.heap.size w wc))
  case first =>
   cases three with
   | false =>
    go_wp2
    go_meet
    case rel => exact ⟨Cl_c, Cb_c, B_c⟩
   | true =>
    obtain ⟨f1, f2, f3, f4, f5, f6, f7, f8⟩ := HT.out rfl
    have F1 := Aside0.mk f1
    have F2 := Aside0.mk f2
    have F3 := Aside0.mk f3
    have F4 := Aside0.mk f4
    have F5 := Aside0.mk f5
    have F6 := Aside0.mk f6
    clear f1 f2 f3 f4 f5 f6 f7 f8
    obtain ⟨wz, ewz⟩ : ∃ wz, wz = wc := ⟨_, rfl⟩
    go_wp2_with fail
    have e0 : foldR (stripAt u t bl) 0 (0 : Int).toNat (0, 0) = (0, 0) := foldR_end (Nat.le_refl _)
    have EZ := Aside0.mk e0
    clear e0
    go_loopg [31, 32, 176] (bl.length) (fun d v31 v32 v176 wr => ∃ i : Int, v176 = .int .i64 i ∧ v31 = .int .i64 (foldR (stripAt u t bl) 0 i.toNat (0, 0)).1 ∧ v32 = .int .i64 (foldR (stripAt u t bl) 0 i.toNat (0, 0)).2 ∧ Aside0 (0 ≤ i ∧ i + d = bl.length) ∧ wr = wz)
    case atStart => exact ⟨0, rfl, by rw [EZ.out], by rw [EZ.out], ⟨by omega⟩, ewz.symm⟩
    case round =>
     subst ewz
     clear EZ
     obtain ⟨i, rfl, rfl, rfl, HI, rfl⟩ := hrel
     have h0 := HI.out.1
     cases gk with
     | succ d =>
      have hlt : i < (bl.length : Int) := by have := HI.out.2; omega
      have hd_ : decide (i < (bl.length : Int)) = true := decide_eq_true hlt
      have hj := asc_at F2.out (j := i.toNat) (by omega)
      obtain ⟨ad, eA, hcell⟩ := Kd.at_int Ck_c.out i h0 hlt
      subst eA
      obtain ⟨j, ej⟩ : ∃ j, j = rd bl i := ⟨_, rfl⟩
      rw [← ej] at hcell
      have hj' : 0 ≤ j ∧ j < (t.length : Int) := by rw [ej]; exact hj
      obtain ⟨ad2, eA, hcell2⟩ := Kd.at_int Cu_c.out j hj'.1 (by rw [F4.out]; exact hj'.2)
      subst eA
      obtain ⟨ad3, eA, hcell3⟩ := Kd.at_int Ct_c.out j hj'.1 hj'.2
      subst eA
      obtain ⟨uv, euv⟩ : ∃ q, q = rd u j := ⟨_, rfl⟩
      obtain ⟨tv, etv⟩ : ∃ q, q = rd t j := ⟨_, rfl⟩
      rw [← euv] at hcell2
      rw [← etv] at hcell3
      have EJ := Aside0.mk ej
      have EU := Aside0.mk euv
      have ET := Aside0.mk etv
      have q0 := eq_true h0
      have q1 := eq_true hlt
      have q2 := eq_true hj'.1
      have q3 : (j < (u.length : Int)) = True := eq_true (by rw [F4.out]; exact hj'.2)
      have q4 := eq_true hj'.2
      have HLT := Aside0.mk hlt
      have HJ := Aside0.mk hj'
      have hc3 : wr.cell? ⟨g16, 3, none⟩ = some (.slice (some ad3) t.length c_t) := (blk_cell K16.out 3).trans rfl
      clear h0 hlt ej euv etv hj hj'
      obtain ⟨bq, ebq⟩ : ∃ bq : Bool, bq = decide (0 < uv) := ⟨_, rfl⟩
      have hbq := ebq.symm
      have EBQ := Aside0.mk ebq
      clear ebq
      cases bq
      all_goals
       go_wp2_with fail
       go_roundg d
       case measure => omega
       case rel =>
        have hI := HI.out
        have hlt := HLT.out
        have hl := LK.out
        have hm := (modelOk_iff.1 F1.out).2.2
        have hlen := asc_len F2.out
        have hbd := strip_bd (v := u) (t := t) (l := bl) (by rw [F4.out]; exact F2.out) (fun q hq => (hm q (by have := F4.out; omega)).1) i.toNat (by omega)
        have hv := (hm j.toNat (by have := HJ.out; omega)).1
        have r1 : bl.getD i.toNat 0 = j := EJ.out.symm
        have r2 : u.getD j.toNat 0 = uv := EU.out.symm
        have r3 : t.getD j.toNat 0 = tv := ET.out.symm
        have ei : wrap64 (i + 1) = i + 1 := by rw [w64 (by omega) (by omega)]
        have hq := EBQ.out
        rw [r3] at hv
        have hlt1 := LT.out
        have hstep : foldR (stripAt u t bl) 0 (i + 1).toNat (0, 0) = (if uv > 0 then ((foldR (stripAt u t bl) 0 i.toNat (0, 0)).1, (foldR (stripAt u t bl) 0 i.toNat (0, 0)).2 + tv) else ((foldR (stripAt u t bl) 0 i.toNat (0, 0)).1 + tv, (foldR (stripAt u t bl) 0 i.toNat (0, 0)).2)) := by
         rw [show (i + 1).toNat = i.toNat + 1 by omega, foldR_last (Nat.zero_le _)]
         generalize foldR (stripAt u t bl) 0 i.toNat (0, 0) = s
         unfold stripAt
         rw [r1, r2, r3]
        generalize foldR (stripAt u t bl) 0 i.toNat (0, 0) = s at *
        first
         | (rw [if_neg (by have := of_decide_eq_false hq.symm; omega)] at hstep; refine ⟨i + 1, by rw [ei], congrArg _ ?_, congrArg _ ?_, ⟨by omega⟩, rfl⟩ <;> rw [hstep] <;> first | rfl | exact w64 (by omega) (by omega))
         | (rw [if_pos (by have := of_decide_eq_true hq.symm; omega)] at hstep; refine ⟨i + 1, by rw [ei], congrArg _ ?_, congrArg _ ?_, ⟨by omega⟩, rfl⟩ <;> rw [hstep] <;> first | rfl | exact w64 (by omega) (by omega))
     | zero =>
      have hd_ : decide (i < (bl.length : Int)) = false := decide_eq_false (by have := HI.out.2; omega)
      have f5 := F5.out
      rw [show bl.length = i.toNat by have := HI.out; omega] at f5
      generalize foldR (stripAt u t bl) 0 i.toNat (0, 0) = s at f5 ⊢
      obtain ⟨sa, sb⟩ := s
      simp only at f5 ⊢
      have hne : (wrap64 (top * sb) != wrap64 (sa * bot)) = false := by rw [f5]; simp
      have hb1 : decide (bot < 1) = false := decide_eq_false (by have := F6.out; omega)
      clear h0 f5
      go_wp2
      go_meet
      case rel => exact ⟨Cl_c, Cb_c, B_c⟩
  case rest =>
   clear Cl_c Cb_c Ct_c Cu_c Ck_c B_c K16
   obtain ⟨Cl_d, Cb_d, B_d⟩ := hcut
   cases ok with
   | false =>
    go_wp2_with fail
    go_ret
    exact ⟨rfl, B_d.out⟩
   | true =>
    obtain ⟨f1, f2, f3⟩ := HS.out rfl
    have F1 := Aside0.mk f1
    have F2 := Aside0.mk f2
    have F3 := Aside0.mk f3
    clear f1 f2 f3
    obtain ⟨wz, ewz⟩ : ∃ wz, wz = wc := ⟨_, rfl⟩
    go_wp2_with fail
    have e0 : foldR (sumAt l b) 0 (0 : Int).toNat 0 = 0 := foldR_end (Nat.le_refl _)
    have EZ := Aside0.mk e0
    clear e0
    go_loopg [35, 215] (b.length) (fun d v35 v215 wr => ∃ i : Int, v215 = .int .i64 i ∧ v35 = .int .i64 (foldR (sumAt l b) 0 i.toNat 0) ∧ Aside0 (0 ≤ i ∧ i + d = b.length) ∧ wr = wz)
    case atStart => exact ⟨0, rfl, by rw [EZ.out], ⟨by omega⟩, ewz.symm⟩
    case round =>
     subst ewz
     clear EZ
     obtain ⟨i, rfl, rfl, HI, rfl⟩ := hrel
     have h0 := HI.out.1
     cases gk with
     | succ d =>
      have hlt : i < (b.length : Int) := by have := HI.out.2; omega
      have hd_ : decide (i < (b.length : Int)) = true := decide_eq_true hlt
      have hj := asc_at F2.out (j := i.toNat) (by omega)
      obtain ⟨ad, eA, hcell⟩ := Kd.at_int Cb_d.out i h0 hlt
      subst eA
      obtain ⟨j, ej⟩ : ∃ j, j = rd b i := ⟨_, rfl⟩
      rw [← ej] at hcell
      have hj' : 0 ≤ j ∧ j < (l.length : Int) := by rw [ej]; exact hj
      obtain ⟨ad2, eA, hcell2⟩ := Kd.at_int Cl_d.out j hj'.1 hj'.2
      subst eA
      obtain ⟨uv, euv⟩ : ∃ q, q = rd l j := ⟨_, rfl⟩
      rw [← euv] at hcell2
      have EJ := Aside0.mk ej
      have EU := Aside0.mk euv
      have q0 := eq_true h0
      have q1 := eq_true hlt
      have q2 := eq_true hj'.1
      have q3 := eq_true hj'.2
      have HLT := Aside0.mk hlt
      have HJ := Aside0.mk hj'
      clear h0 hlt ej euv hj hj'
      go_wp2_with fail
      go_roundg d
      case measure => omega
      case rel =>
       have hI := HI.out
       have hlt := HLT.out
       have hl := LB.out
       have hbd := sum_bd F1.out F2.out i.toNat (by omega)
       have hv := (valsOk_iff.1 F1.out).2.2 j.toNat (by have := HJ.out; omega)
       have r1 : b.getD i.toNat 0 = j := EJ.out.symm
       have r2 : l.getD j.toNat 0 = uv := EU.out.symm
       have ei : wrap64 (i + 1) = i + 1 := by rw [w64 (by omega) (by omega)]
       rw [r2] at hv
       refine ⟨i + 1, by rw [ei], congrArg _ ?_, ⟨by omega⟩, rfl⟩
       rw [show (i + 1).toNat = i.toNat + 1 by omega, foldR_last (Nat.zero_le _), w64 (by omega) (by omega)]
       show _ = _ + l.getD (b.getD i.toNat 0).toNat 0
       rw [r1, r2]
     | zero =>
      have hd_ : decide (i < (b.length : Int)) = false := decide_eq_false (by have := HI.out.2; omega)
      have hS : foldR (sumAt l b) 0 i.toNat 0 = S := by rw [show i.toNat = b.length by have := HI.out; omega, F3.out]; rfl
      rw [hS]
      have hee : (S == S) = true := by simp
      clear h0 hS
      go_wp2_with fail
      go_ret
      exact ⟨rfl, B_d.out⟩
theorem law (a0 a1 : List Int) (ha0 : a0.length ≤ maxLen) (sa0 : a0.length * 1 ≤ 140737488351232) (ga0 : ∀ x ∈ a0, (Lit.int .u8 x).wf = true) (ha1 : a1.length ≤ maxLen) (sa1 : a1.length * 1 ≤ 140737488351232) (ga1 : ∀ x ∈ a1, (Lit.int .u8 x).wf = true)
  (A0 : Option Addr) (c0 : Nat) (A1 : Option Addr) (c1 : Nat) (w : World) (h0 : Kd.C (Kd.int .u8) w A0 a0.length a0) (e0 : a0.length ≤ c0) (h1 : Kd.C (Kd.int .u8) w A1 a1.length a1) (e1 : a1.length ≤ c1) :
  Calls Try.prog 10 #[.slice A0 a0.length c0, .slice A1 a1.length c1] w fun e w' => e = .returned (.bool true) ∧ Below w.heap.size w w' := by
 by_cases hs : a0.length + a1.length ≤ 1048576
 ·exact walk a0 a1 ⟨fun x hx => u8_wf (ga0 x hx), by omega⟩ ⟨fun x hx => u8_wf (ga1 x hx), by omega⟩ hs A0 c0 A1 c1 w h0 e0 h1 e1
 ·exact walk_big a0 a1 ha0 ha1 hs sa0 sa1 A0 c0 A1 c1 w
end Go.Proofs.Ytomfjhpiemipkaa.WalkFnOre
