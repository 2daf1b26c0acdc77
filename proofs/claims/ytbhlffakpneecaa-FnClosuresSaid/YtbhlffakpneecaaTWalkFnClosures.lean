/- The law FnClosures, walked by hand over its callees' contracts: for all bytes it returns true. -/
import Derived.Test.YtbhlffakpneecaaTClosLaw
import Derived.Test.YtbhlffakpneecaaTDrawClos
import Derived.Test.YtbhlffakpneecaaTMFnClosuresx5
namespace Go.Proofs.Ytbhlffakpneecaa.WalkFnClosures
open Go.RowKit Go.Proofs.Ytbhlffakpneecaa.PFnClosures Go.Proofs.YtbhlffakpneecaaW.PrintWords Go.Proofs.YtbhlffakpneecaaW.PrintLast Go.Proofs.YtbhlffakpneecaaW.PrintMore Go.Proofs.Ytbhlffakpneecaa.B Go.Proofs.Ytbhlffakpneecaa.DrawArcs Go.Proofs.Ytbhlffakpneecaa.DrawAny Go.Proofs.Ytbhlffakpneecaa.DrawClos Go.Proofs.Ytbhlffakpneecaa.ClosLaw
set_option linter.unusedVariables false
set_option linter.unusedSimpArgs false
theorem aMs:type_of% @Aside0.mk:=@Aside0.mk
theorem big_eq (s t : List Int) (hs : s.length ≤ maxLen) (ht : t.length ≤ maxLen) : laws_big.f s t = some (decide (1048576 < s.length + t.length)) := by
 have hs := maxLen_le hs
 have ht := maxLen_le ht
 unfold laws_big.f
 by_cases h : (s.length : Int) > 1048576
 ·rw [if_pos h]; exact congrArg some (decide_eq_true (by omega)).symm
 ·rw [if_neg h, w64 (by omega) (by omega)]
  exact congrArg some (by rw [decide_eq_decide]; omega)
theorem u8_wf {x : Int} (h : (Lit.int .u8 x).wf = true) : 0 ≤ x ∧ x < 256 := by
 have e0 : IntKind.u8.min = 0 := rfl
 have e1 : IntKind.u8.max = 255 := rfl
 simp only [Lit.wf, Bool.and_eq_true, decide_eq_true_eq, e0, e1] at h
 omega
set_option maxRecDepth 100000 in
theorem walk_big (s0 s1 : List Int) (q0 : s0.length ≤ maxLen) (q1 : s1.length ≤ maxLen) (hs : ¬ s0.length + s1.length ≤ 1048576) (A0 : Option Addr) (c0 : Nat) (A1 : Option Addr) (c1 : Nat) (w : World) (h0 : Kd.C (Kd.int .u8) w A0 s0.length s0) (e0 : s0.length ≤ c0) (h1 : Kd.C (Kd.int .u8) w A1 s1.length s1) (e1 : s1.length ≤ c1) :
  Calls Try.prog 5 #[.slice A0 s0.length c0, .slice A1 s1.length c1] w fun e w' => e = .returned (.bool true) ∧ Below w.heap.size w w' := by
 have hbig := big_eq s0 s1 q0 q1
 rw [decide_eq_true (by omega)] at hbig
 go_enter Try.func5, Try.ntmps5
 go_wp2_with fail
 refine (laws_big.calls A0 c0 s0 A1 c1 s1 true w h0 e0 h1 e1 hbig).mono ?_
 rintro e w1 ⟨rfl, hd⟩
 have B1 := aMs (drawn_below' hd)
 clear hd hbig
 go_wp2_with fail
 go_ret
 exact ⟨rfl, B1.out⟩
set_option maxHeartbeats 16000000 in
set_option maxRecDepth 100000 in
theorem walk (s0 s1 : List Int) (hs0 : Bytes s0) (hs1 : Bytes s1) (hs : s0.length + s1.length ≤ 1048576) (A0 : Option Addr) (c0 : Nat) (A1 : Option Addr) (c1 : Nat) (w : World) (h0 : Kd.C (Kd.int .u8) w A0 s0.length s0) (e0 : s0.length ≤ c0) (h1 : Kd.C (Kd.int .u8) w A1 s1.length s1) (e1 : s1.length ≤ c1) :
  Calls Try.prog 5 #[.slice A0 s0.length c0, .slice A1 s1.length c1] w fun e w' => e = .returned (.bool true) ∧ Below w.heap.size w w' := by
 obtain ⟨a, l, ⟨ha, hab⟩, hl, d1⟩ := drawLeast s0 hs0
 obtain ⟨u, c, ⟨hu, hub⟩, hc, d2⟩ := drawNext s1 hs1
 obtain ⟨t, x, y, ⟨ht, htb⟩, ⟨hx, hy⟩, d3⟩ := drawJoin s1 hs1
 have d4 := drawCount s1 hs1
 obtain ⟨r, ok, ins, one, is, three, ⟨p1, p2⟩, ⟨p3, p4⟩, ⟨p5, p6⟩, ⟨lr, li⟩, hok⟩ := least_law a l (by omega) (fun x hx => by have := hab x hx; omega) (by omega)
 obtain ⟨nx, five, lt, seven, ⟨p7, p8⟩, ⟨p9, p10⟩, ⟨ln, ll⟩, hfive⟩ := next_law u c (by omega) (fun x hx => by have := hub x hx; omega) (by omega)
 obtain ⟨j, nine, m, eleven, ⟨p11, p12⟩, ⟨p13, p14⟩, ⟨lj, lm⟩, hnine⟩ := join_law t x y (by omega) (fun x hx => by have := htb x hx; omega) (by omega) (by omega)
 have hbig := big_eq s0 s1 (maxLen_val (by omega)) (maxLen_val (by omega))
 rw [decide_eq_false (by omega)] at hbig
 have HBG := aMs hbig
 obtain ⟨kp1, qp1⟩ := p1.rounds
 have Pp1 := aMs qp1
 obtain ⟨kp2, qp2⟩ := p2.rounds
 have Pp2 := aMs qp2
 obtain ⟨kp3, qp3⟩ := p3.rounds
 have Pp3 := aMs qp3
 obtain ⟨kp4, qp4⟩ := p4.rounds
 have Pp4 := aMs qp4
 obtain ⟨kp5, qp5⟩ := p5.rounds
 have Pp5 := aMs qp5
 obtain ⟨kp6, qp6⟩ := p6.rounds
 have Pp6 := aMs qp6
 obtain ⟨kp7, qp7⟩ := p7.rounds
 have Pp7 := aMs qp7
 obtain ⟨kp8, qp8⟩ := p8.rounds
 have Pp8 := aMs qp8
 obtain ⟨kp9, qp9⟩ := p9.rounds
 have Pp9 := aMs qp9
 obtain ⟨kp10, qp10⟩ := p10.rounds
 have Pp10 := aMs qp10
 obtain ⟨kp11, qp11⟩ := p11.rounds
 have Pp11 := aMs qp11
 obtain ⟨kp12, qp12⟩ := p12.rounds
 have Pp12 := aMs qp12
 obtain ⟨kp13, qp13⟩ := p13.rounds
 have Pp13 := aMs qp13
 obtain ⟨kp14, qp14⟩ := p14.rounds
 have Pp14 := aMs qp14
 clear p1 qp1 p2 qp2 p3 qp3 p4 qp4 p5 qp5 p6 qp6 p7 qp7 p8 qp8 p9 qp9 p10 qp10 p11 qp11 p12 qp12 p13 qp13 p14 qp14
 have HOK := aMs hok
 have HFV := aMs hfive
 have HNI := aMs hnine
 have D1 := aMs d1
 have D2 := aMs d2
 have D3 := aMs d3
 have D4 := aMs d4
 have LR := aMs lr
 have LI := aMs li
 have Lnx := aMs ln
 have Llt := aMs ll
 have LJ := aMs lj
 have LM := aMs lm
 have LL := aMs hl
 have LC := aMs hc
 have LX := aMs hx
 have LY := aMs hy
 have H0 := aMs h0
 have E0 := aMs e0
 have H1 := aMs h1
 have E1 := aMs e1
 clear hok hfive hnine d1 d2 d3 d4 lr li ln ll lj lm hl hc hx hy h0 e0 h1 e1 ha hab hu hub ht htb hbig hs hs0 hs1
 go_enter Try.func5, Try.ntmps5
 go_wp2_with fail
 refine (laws_big.calls A0 c0 s0 A1 c1 s1 false w H0.out E0.out H1.out E1.out HBG.out).mono ?_
 rintro e w1 ⟨rfl, hd⟩
 have hb := drawn_below' hd
 clear hd
 have Bw1 := aMs hb
 have Cs0_w1 := aMs (Kd.C_below H0.out hb)
 clear H0
 have Cs1_w1 := aMs (Kd.C_below H1.out hb)
 clear H1 hb
 go_wp2_with fail
 refine (D1.out A0 c0 w1 Cs0_w1.out E0.out).mono ?_
 rintro e w2 ⟨A_a, c_a, A_l, c_l, rfl, ⟨hC, hE⟩, ⟨hC', hE'⟩, hb⟩
 have Ca_0 := aMs hC
 have Ea_0 := aMs hE
 clear hC hE
 have Cl_0 := aMs hC'
 have El_0 := aMs hE'
 clear hC' hE'
 have Bw2 := aMs (below_step Bw1.out hb)
 have Cs1_w2 := aMs (Kd.C_below Cs1_w1.out hb)
 clear Cs1_w1 Bw1 hb
 go_wp2_with fail
 refine (impl_LeastClosure.calls kp1 A_a c_a a A_l c_l l r ok w2 Ca_0.out Ea_0.out Cl_0.out El_0.out Pp1.out).mono ?_
 rintro e w3 ⟨v_, rfl, ho, hb⟩
 obtain ⟨A_riw3, c_riw3, rfl⟩ := Kd.R_slice ho
 have Cri_w3 := aMs (Kd.R_reads' ho).2.2
 have Eri_w3 := aMs (Kd.R_reads' ho).2.1
 clear ho
 have Bw3 := aMs (below_step Bw2.out hb)
 have Cs1_w3 := aMs (Kd.C_below Cs1_w2.out hb)
 clear Cs1_w2
 have Ca_w3 := aMs (Kd.C_below Ca_0.out hb)
 clear Ca_0
 have Cl_w3 := aMs (Kd.C_below Cl_0.out hb)
 clear Cl_0 Bw2 hb
 go_wp2_with fail
 refine (spec_LeastClosure.calls kp2 A_a c_a a A_l c_l l r ok w3 Ca_w3.out Ea_0.out Cl_w3.out El_0.out Pp2.out).mono ?_
 rintro e w4 ⟨v_, rfl, ho, hb⟩
 obtain ⟨A_rsw4, c_rsw4, rfl⟩ := Kd.R_slice ho
 have Crs_w4 := aMs (Kd.R_reads' ho).2.2
 have Ers_w4 := aMs (Kd.R_reads' ho).2.1
 clear ho
 have Bw4 := aMs (below_step Bw3.out hb)
 have Cs1_w4 := aMs (Kd.C_below Cs1_w3.out hb)
 clear Cs1_w3
 have Ca_w4 := aMs (Kd.C_below Ca_w3.out hb)
 clear Ca_w3
 have Cl_w4 := aMs (Kd.C_below Cl_w3.out hb)
 clear Cl_w3
 have Cri_w4 := aMs (Kd.C_below Cri_w3.out hb)
 clear Cri_w3 Bw3 hb
 go_wp2_with fail
 refine (impl_GreatestInside.calls kp3 A_a c_a a A_l c_l l ins one w4 Ca_w4.out Ea_0.out Cl_w4.out El_0.out Pp3.out).mono ?_
 rintro e w5 ⟨v_, rfl, ho, hb⟩
 obtain ⟨A_niw5, c_niw5, rfl⟩ := Kd.R_slice ho
 have Cni_w5 := aMs (Kd.R_reads' ho).2.2
 have Eni_w5 := aMs (Kd.R_reads' ho).2.1
 clear ho
 have Bw5 := aMs (below_step Bw4.out hb)
 have Cs1_w5 := aMs (Kd.C_below Cs1_w4.out hb)
 clear Cs1_w4
 have Ca_w5 := aMs (Kd.C_below Ca_w4.out hb)
 clear Ca_w4
 have Cl_w5 := aMs (Kd.C_below Cl_w4.out hb)
 clear Cl_w4
 have Cri_w5 := aMs (Kd.C_below Cri_w4.out hb)
 clear Cri_w4
 have Crs_w5 := aMs (Kd.C_below Crs_w4.out hb)
 clear Crs_w4 Bw4 hb
 go_wp2_with fail
 refine (spec_GreatestInside.calls kp4 A_a c_a a A_l c_l l ins one w5 Ca_w5.out Ea_0.out Cl_w5.out El_0.out Pp4.out).mono ?_
 rintro e w6 ⟨v_, rfl, ho, hb⟩
 obtain ⟨A_nsw6, c_nsw6, rfl⟩ := Kd.R_slice ho
 have Cns_w6 := aMs (Kd.R_reads' ho).2.2
 have Ens_w6 := aMs (Kd.R_reads' ho).2.1
 clear ho
 have Bw6 := aMs (below_step Bw5.out hb)
 have Cs1_w6 := aMs (Kd.C_below Cs1_w5.out hb)
 clear Cs1_w5
 have Ca_w6 := aMs (Kd.C_below Ca_w5.out hb)
 clear Ca_w5
 have Cl_w6 := aMs (Kd.C_below Cl_w5.out hb)
 clear Cl_w5
 have Cri_w6 := aMs (Kd.C_below Cri_w5.out hb)
 clear Cri_w5
 have Crs_w6 := aMs (Kd.C_below Crs_w5.out hb)
 clear Crs_w5
 have Cni_w6 := aMs (Kd.C_below Cni_w5.out hb)
 clear Cni_w5 Bw5 hb
 go_wp2_with fail
 refine (impl_IsClosure.calls kp5 A_a c_a a A_l c_l l is three w6 Ca_w6.out Ea_0.out Cl_w6.out El_0.out Pp5.out).mono ?_
 rintro e w7 ⟨rfl, hb⟩
 have Bw7 := aMs (below_step Bw6.out hb)
 have Cs1_w7 := aMs (Kd.C_below Cs1_w6.out hb)
 clear Cs1_w6
 have Ca_w7 := aMs (Kd.C_below Ca_w6.out hb)
 clear Ca_w6
 have Cl_w7 := aMs (Kd.C_below Cl_w6.out hb)
 clear Cl_w6
 have Cri_w7 := aMs (Kd.C_below Cri_w6.out hb)
 clear Cri_w6
 have Crs_w7 := aMs (Kd.C_below Crs_w6.out hb)
 clear Crs_w6
 have Cni_w7 := aMs (Kd.C_below Cni_w6.out hb)
 clear Cni_w6
 have Cns_w7 := aMs (Kd.C_below Cns_w6.out hb)
 clear Cns_w6 Bw6 hb
 go_wp2_with fail
 refine (spec_IsClosure.calls kp6 A_a c_a a A_l c_l l is three w7 Ca_w7.out Ea_0.out Cl_w7.out El_0.out Pp6.out).mono ?_
 rintro e w8 ⟨rfl, hb⟩
 have Bw8 := aMs (below_step Bw7.out hb)
 have Cs1_w8 := aMs (Kd.C_below Cs1_w7.out hb)
 clear Cs1_w7
 have Ca_w8 := aMs (Kd.C_below Ca_w7.out hb)
 clear Ca_w7
 have Cl_w8 := aMs (Kd.C_below Cl_w7.out hb)
 clear Cl_w7
 have Cri_w8 := aMs (Kd.C_below Cri_w7.out hb)
 clear Cri_w7
 have Crs_w8 := aMs (Kd.C_below Crs_w7.out hb)
 clear Crs_w7
 have Cni_w8 := aMs (Kd.C_below Cni_w7.out hb)
 clear Cni_w7
 have Cns_w8 := aMs (Kd.C_below Cns_w7.out hb)
 clear Cns_w7 Bw7 hb
 have hv1 : (ok != ok) = false := by simp
 have hv2 : (one != one) = false := by simp
 have hv3 : (three != three) = false := by simp
 have hv4 : (is != is) = false := by simp
 go_wp2_with fail
 refine (same_calls A_riw3 A_rsw4 c_riw3 c_rsw4 r w8 Cri_w8.out Eri_w3.out Crs_w8.out Ers_w4.out (maxLen_val (by have := LR.out; omega))).mono ?_
 rintro e w9 ⟨rfl, hb⟩
 have Bw9 := aMs (below_step Bw8.out hb)
 have Cs1_w9 := aMs (Kd.C_below Cs1_w8.out hb)
 clear Cs1_w8
 have Cl_w9 := aMs (Kd.C_below Cl_w8.out hb)
 clear Cl_w8
 have Cri_w9 := aMs (Kd.C_below Cri_w8.out hb)
 clear Cri_w8
 have Crs_w9 := aMs (Kd.C_below Crs_w8.out hb)
 clear Crs_w8
 have Cni_w9 := aMs (Kd.C_below Cni_w8.out hb)
 clear Cni_w8
 have Cns_w9 := aMs (Kd.C_below Cns_w8.out hb)
 clear Cns_w8 Bw8 hb
 go_wp2_with fail
 refine (same_calls A_niw5 A_nsw6 c_niw5 c_nsw6 ins w9 Cni_w9.out Eni_w5.out Cns_w9.out Ens_w6.out (maxLen_val (by have := LI.out; omega))).mono ?_
 rintro e w10 ⟨rfl, hb⟩
 have Bw10 := aMs (below_step Bw9.out hb)
 have Cs1_w10 := aMs (Kd.C_below Cs1_w9.out hb)
 clear Cs1_w9
 have Cl_w10 := aMs (Kd.C_below Cl_w9.out hb)
 clear Cl_w9
 have Cri_w10 := aMs (Kd.C_below Cri_w9.out hb)
 clear Cri_w9
 have Crs_w10 := aMs (Kd.C_below Crs_w9.out hb)
 clear Crs_w9
 have Cni_w10 := aMs (Kd.C_below Cni_w9.out hb)
 clear Cni_w9
 have Cns_w10 := aMs (Kd.C_below Cns_w9.out hb)
 clear Cns_w9 Bw9 hb
 go_upto_region 12 with fail
 go_cut [161] from 161 to 161 (fun v161 wc => v161 = .bool false ∧ Aside0 (Kd.C (Kd.int .u8) wc A1 s1.length s1) ∧ Aside0 (Below w.heap.size w wc))
 case first =>
  as_aux_lemma =>
   cases ok with
   | false =>
    go_wp2
    go_meet
    case rel => exact ⟨rfl, Cs1_w10, Bw10⟩
   | true =>
    obtain ⟨g1, g2, g3, g4⟩ := HOK.out rfl
    have z1 : decide ((r.length : Int) < (l.length : Int)) = false := decide_eq_false (by omega)
    have z1' : decide (r.length < l.length) = false := decide_eq_false (by omega)
    have z2 : decide ((l.length : Int) < (ins.length : Int)) = false := decide_eq_false (by omega)
    have z2' : decide (l.length < ins.length) = false := decide_eq_false (by omega)
    have z3 : ((r.length : Int) == (l.length : Int)) = is := by rw [g3, Bool.eq_iff_iff, beq_iff_eq, decide_eq_true_eq]; omega
    have z3' : (r.length == l.length) = is := by rw [g3, Bool.eq_iff_iff, beq_iff_eq, decide_eq_true_eq]
    have z4 : ((ins.length : Int) == (l.length : Int)) = is := by rw [g4, Bool.eq_iff_iff, beq_iff_eq, decide_eq_true_eq]; omega
    have z4' : (ins.length == l.length) = is := by rw [g4, Bool.eq_iff_iff, beq_iff_eq, decide_eq_true_eq]
    have hv4 : (is != is) = false := by simp
    clear g1 g2 g3 g4
    go_wp2
    go_meet
    case rel => exact ⟨rfl, Cs1_w10, Bw10⟩
 case rest =>
  obtain ⟨rfl, Cs1_c, B_c⟩ := hcut
  as_aux_lemma =>
   clear hv1 hv2 hv3 hv4
   go_wp2_with fail
   refine (D2.out A1 c1 wc Cs1_c.out E1.out).mono ?_
   rintro e w11 ⟨A_u, c_u, A_c, c_c, rfl, ⟨hC, hE⟩, ⟨hC', hE'⟩, hb⟩
   have Cu_0 := aMs hC
   have Eu_0 := aMs hE
   clear hC hE
   have Cc_0 := aMs hC'
   have Ec_0 := aMs hE'
   clear hC' hE'
   have Bw11 := aMs (below_step B_c.out hb)
   have Cs1_w11 := aMs (Kd.C_below Cs1_c.out hb)
   clear Cs1_c B_c hb
   go_wp2_with fail
   refine (impl_NextBlocks.calls kp7 A_u c_u u (fun k => k < w11.heap.size) A_c c_c c nx five w11 Cu_0.out Eu_0.out (Kd.V_mk Ec_0.out (Kd.C_F (Kd.heap_int .i64) Cc_0.out)) Pp7.out).mono ?_
   rintro e w12 ⟨v_, rfl, ho, hb⟩
   obtain ⟨A_xiw12, c_xiw12, rfl⟩ := Kd.R_slice ho
   have Cxi_w12 := aMs (Kd.R_reads' ho).2.2
   have Exi_w12 := aMs (Kd.R_reads' ho).2.1
   clear ho
   have Bw12 := aMs (below_step Bw11.out hb)
   have Cs1_w12 := aMs (Kd.C_below Cs1_w11.out hb)
   clear Cs1_w11
   have Cu_w12 := aMs (Kd.C_below Cu_0.out hb)
   clear Cu_0
   have Cc_w12 := aMs (Kd.C_below Cc_0.out hb)
   clear Cc_0 Bw11 hb
   go_wp2_with fail
   refine (spec_NextBlocks.calls kp8 A_u c_u u A_c c_c c nx five w12 Cu_w12.out Eu_0.out Cc_w12.out Ec_0.out Pp8.out).mono ?_
   rintro e w13 ⟨v_, rfl, ho, hb⟩
   obtain ⟨A_xsw13, c_xsw13, rfl⟩ := Kd.R_slice ho
   have Cxs_w13 := aMs (Kd.R_reads' ho).2.2
   have Exs_w13 := aMs (Kd.R_reads' ho).2.1
   clear ho
   have Bw13 := aMs (below_step Bw12.out hb)
   have Cs1_w13 := aMs (Kd.C_below Cs1_w12.out hb)
   clear Cs1_w12
   have Cu_w13 := aMs (Kd.C_below Cu_w12.out hb)
   clear Cu_w12
   have Cc_w13 := aMs (Kd.C_below Cc_w12.out hb)
   clear Cc_w12
   have Cxi_w13 := aMs (Kd.C_below Cxi_w12.out hb)
   clear Cxi_w12 Bw12 hb
   go_wp2_with fail
   refine (impl_LastBlocks.calls kp9 A_u c_u u (fun k => k < w13.heap.size) A_c c_c c lt seven w13 Cu_w13.out Eu_0.out (Kd.V_mk Ec_0.out (Kd.C_F (Kd.heap_int .i64) Cc_w13.out)) Pp9.out).mono ?_
   rintro e w14 ⟨v_, rfl, ho, hb⟩
   obtain ⟨A_tiw14, c_tiw14, rfl⟩ := Kd.R_slice ho
   have Cti_w14 := aMs (Kd.R_reads' ho).2.2
   have Eti_w14 := aMs (Kd.R_reads' ho).2.1
   clear ho
   have Bw14 := aMs (below_step Bw13.out hb)
   have Cs1_w14 := aMs (Kd.C_below Cs1_w13.out hb)
   clear Cs1_w13
   have Cu_w14 := aMs (Kd.C_below Cu_w13.out hb)
   clear Cu_w13
   have Cc_w14 := aMs (Kd.C_below Cc_w13.out hb)
   clear Cc_w13
   have Cxi_w14 := aMs (Kd.C_below Cxi_w13.out hb)
   clear Cxi_w13
   have Cxs_w14 := aMs (Kd.C_below Cxs_w13.out hb)
   clear Cxs_w13 Bw13 hb
   go_wp2_with fail
   refine (spec_LastBlocks.calls kp10 A_u c_u u A_c c_c c lt seven w14 Cu_w14.out Eu_0.out Cc_w14.out Ec_0.out Pp10.out).mono ?_
   rintro e w15 ⟨v_, rfl, ho, hb⟩
   obtain ⟨A_tsw15, c_tsw15, rfl⟩ := Kd.R_slice ho
   have Cts_w15 := aMs (Kd.R_reads' ho).2.2
   have Ets_w15 := aMs (Kd.R_reads' ho).2.1
   clear ho
   have Bw15 := aMs (below_step Bw14.out hb)
   have Cs1_w15 := aMs (Kd.C_below Cs1_w14.out hb)
   clear Cs1_w14
   have Cu_w15 := aMs (Kd.C_below Cu_w14.out hb)
   clear Cu_w14
   have Cc_w15 := aMs (Kd.C_below Cc_w14.out hb)
   clear Cc_w14
   have Cxi_w15 := aMs (Kd.C_below Cxi_w14.out hb)
   clear Cxi_w14
   have Cxs_w15 := aMs (Kd.C_below Cxs_w14.out hb)
   clear Cxs_w14
   have Cti_w15 := aMs (Kd.C_below Cti_w14.out hb)
   clear Cti_w14 Bw14 hb
   have hv1 : (five != five) = false := by simp
   have hv2 : (seven != seven) = false := by simp
   go_wp2_with fail
   refine (same_calls A_xiw12 A_xsw13 c_xiw12 c_xsw13 nx w15 Cxi_w15.out Exi_w12.out Cxs_w15.out Exs_w13.out (maxLen_val (by have := Lnx.out; omega))).mono ?_
   rintro e w16 ⟨rfl, hb⟩
   have Bw16 := aMs (below_step Bw15.out hb)
   have Cs1_w16 := aMs (Kd.C_below Cs1_w15.out hb)
   clear Cs1_w15
   have Cu_w16 := aMs (Kd.C_below Cu_w15.out hb)
   clear Cu_w15
   have Cc_w16 := aMs (Kd.C_below Cc_w15.out hb)
   clear Cc_w15
   have Cxi_w16 := aMs (Kd.C_below Cxi_w15.out hb)
   clear Cxi_w15
   have Cxs_w16 := aMs (Kd.C_below Cxs_w15.out hb)
   clear Cxs_w15
   have Cti_w16 := aMs (Kd.C_below Cti_w15.out hb)
   clear Cti_w15
   have Cts_w16 := aMs (Kd.C_below Cts_w15.out hb)
   clear Cts_w15 Bw15 hb
   go_wp2_with fail
   refine (same_calls A_tiw14 A_tsw15 c_tiw14 c_tsw15 lt w16 Cti_w16.out Eti_w14.out Cts_w16.out Ets_w15.out (maxLen_val (by have := Llt.out; omega))).mono ?_
   rintro e w17 ⟨rfl, hb⟩
   have Bw17 := aMs (below_step Bw16.out hb)
   have Cs1_w17 := aMs (Kd.C_below Cs1_w16.out hb)
   clear Cs1_w16
   have Cu_w17 := aMs (Kd.C_below Cu_w16.out hb)
   clear Cu_w16
   have Cc_w17 := aMs (Kd.C_below Cc_w16.out hb)
   clear Cc_w16
   have Cxi_w17 := aMs (Kd.C_below Cxi_w16.out hb)
   clear Cxi_w16
   have Cxs_w17 := aMs (Kd.C_below Cxs_w16.out hb)
   clear Cxs_w16
   have Cti_w17 := aMs (Kd.C_below Cti_w16.out hb)
   clear Cti_w16
   have Cts_w17 := aMs (Kd.C_below Cts_w16.out hb)
   clear Cts_w16 Bw16 hb
   go_upto_if 211 with fail
   clear hv1 hv2
   go_cut [] from 211 to 211 (fun wc => Aside0 (Kd.C (Kd.int .u8) wc A1 s1.length s1) ∧ Aside0 (Below w.heap.size w wc))
   case first =>
    as_aux_lemma =>
     cases five with
     | false =>
      go_wp2
      go_meet
      case rel => exact ⟨Cs1_w17, Bw17⟩
     | true =>
      obtain ⟨g1, g2, g3, g4, g5⟩ := HFV.out rfl
      have HCL := aMs g1
      have HNX := aMs g4
      have HLS := aMs g5
      clear g1 g2 g3 g4 g5
      go_upto_block 0 with fail
      go_cut [] from 212 to 212 (fun wc => Aside0 (Kd.C (Kd.int .u8) wc A1 s1.length s1) ∧ Aside0 (Kd.C (Kd.int .i64) wc A_c c.length c) ∧ Aside0 (Kd.C (Kd.int .i64) wc A_tsw15 lt.length lt) ∧ Aside0 (Below w.heap.size w wc))
      case first =>
       go_wp2_with fail
       go_loopg [214] (nx.length) (fun d v214 wr => ∃ n : Int, v214 = .int .i64 n ∧ Aside0 (0 ≤ n ∧ n + d = nx.length) ∧ Aside0 (Kd.C (Kd.int .u8) wr A1 s1.length s1) ∧ Aside0 (Kd.C kSS wr A_u u.length u) ∧ Aside0 (Kd.C (Kd.int .i64) wr A_c c.length c) ∧ Aside0 (Kd.C (Kd.int .i64) wr A_tsw15 lt.length lt) ∧ Aside0 (Kd.C (Kd.int .i64) wr A_xsw13 nx.length nx) ∧ Aside0 (Below w.heap.size w wr))
       case atStart => exact ⟨0, rfl, ⟨by omega⟩, Cs1_w17, Cu_w17, Cc_w17, Cts_w17, Cxs_w17, Bw17⟩
       case round =>
        clear Cs1_w17 Cu_w17 Cc_w17 Cts_w17 Cxs_w17 Bw17
        obtain ⟨n, rfl, HN, Cs1_r214, Cu_r214, Cc_r214, Cts_r214, Cxs_r214, B_r214⟩ := hrel
        cases gk with
        | zero =>
         have hd_ : decide (n < (nx.length : Int)) = false := decide_eq_false (by have := HN.out; omega)
         go_wp2_with fail
         go_meet
         case rel => exact ⟨Cs1_r214, Cc_r214, Cts_r214, B_r214⟩
        | succ d =>
         have h0 := HN.out.1
         have hlt : n < (nx.length : Int) := by have := HN.out.2; omega
         have hd_ : decide (n < (nx.length : Int)) = true := decide_eq_true hlt
         obtain ⟨ad, eA, hcell⟩ := Kd.at_int Cxs_r214.out n h0 hlt
         have hmem : rd nx n ∈ nx := by unfold rd; exact getD_mem (by omega)
         obtain ⟨kn, ekn⟩ : ∃ kn, kn = rd nx n := ⟨_, rfl⟩
         rw [← ekn] at hcell hmem
         have HM := aMs hmem
         have q0 := eq_true h0
         have q1 := eq_true hlt
         have HLT := aMs hlt
         clear h0 hlt ekn hmem
         subst eA
         obtain ⟨g, hg1, hg2, hg3, hg4⟩ := HNX.out kn HM.out
         obtain ⟨kg, qg⟩ := hg1.rounds
         have PG := aMs qg
         have HG2 := aMs hg2
         have HG := aMs (And.intro hg3 hg4)
         clear hg1 hg2 hg3 hg4 qg
         go_wp2_with (first | ((with_reducible refine gate_dst (N := 222) rfl ?_); refine Kd.R_lit (Kd.int .i64) _ 3 ?hg (N := 222) ?hd (xs := [kn]) (inner := [.int .i64 kn]) (ok := fun _ => True) (okp := fun _ => False) ?hr ?hp (fun _ hk => hk.elim) trivial (Below.refl _ _) (Nat.le_refl _) (by simp) ?_; (case hd => rfl); (case hg => rfl); (case hr => first | (go_simp; done) | (go_simp; rfl)); (case hp => exact Kd.reps_scalar [kn]); intro vq w18 ho hb hg_ hnew_; clear hg_ hnew_; have HQ_ := aMs ho; have HQB_ := aMs hb; clear ho hb))
         obtain ⟨A_qi, c_qi, rfl⟩ := Kd.R_slice HQ_.out
         have Cqi_0 := aMs (Kd.R_reads' HQ_.out).2.2
         have Eqi_0 := aMs (Kd.R_reads' HQ_.out).2.1
         have hb := HQB_.out
         clear HQ_ HQB_
         have Bw18 := aMs (below_step B_r214.out hb)
         have Cs1_w18 := aMs (Kd.C_below Cs1_r214.out hb)
         clear Cs1_r214
         have Cu_w18 := aMs (Kd.C_below Cu_r214.out hb)
         clear Cu_r214
         have Cc_w18 := aMs (Kd.C_below Cc_r214.out hb)
         clear Cc_r214
         have Cxs_w18 := aMs (Kd.C_below Cxs_r214.out hb)
         clear Cxs_r214
         have Cts_w18 := aMs (Kd.C_below Cts_r214.out hb)
         clear Cts_r214 B_r214 hb
         refine (impl_LeastClosure.calls kg A_u c_u u A_qi c_qi [kn] g true w18 Cu_w18.out Eu_0.out Cqi_0.out Eqi_0.out PG.out).mono ?_
         rintro e w19 ⟨v_, rfl, ho, hb⟩
         obtain ⟨A_grw19, c_grw19, rfl⟩ := Kd.R_slice ho
         have Cgr_w19 := aMs (Kd.R_reads' ho).2.2
         have Egr_w19 := aMs (Kd.R_reads' ho).2.1
         clear ho hcell
         have Bw19 := aMs (below_step Bw18.out hb)
         have Cs1_w19 := aMs (Kd.C_below Cs1_w18.out hb)
         clear Cs1_w18
         have Cu_w19 := aMs (Kd.C_below Cu_w18.out hb)
         clear Cu_w18
         have Cc_w19 := aMs (Kd.C_below Cc_w18.out hb)
         clear Cc_w18
         have Cxs_w19 := aMs (Kd.C_below Cxs_w18.out hb)
         clear Cxs_w18
         have Cts_w19 := aMs (Kd.C_below Cts_w18.out hb)
         clear Cts_w18
         have Cqi_w19 := aMs (Kd.C_below Cqi_0.out hb)
         clear Cqi_0 Bw18 hb
         have z1 : decide ((g.length : Int) < 1) = false := decide_eq_false (by have := HG.out; omega)
         have z1' : decide (g.length < 1) = false := decide_eq_false (by have := HG.out; omega)
         go_wp2_with fail
         refine (notIn_calls A_c c_c c kn w19 Cc_w19.out Ec_0.out (maxLen_val (by have := LC.out; omega)) HG2.out).mono ?_
         rintro e w20 ⟨rfl, hb⟩
         have Bw20 := aMs (below_step Bw19.out hb)
         have Cs1_w20 := aMs (Kd.C_below Cs1_w19.out hb)
         clear Cs1_w19
         have Cu_w20 := aMs (Kd.C_below Cu_w19.out hb)
         clear Cu_w19
         have Cc_w20 := aMs (Kd.C_below Cc_w19.out hb)
         clear Cc_w19
         have Cxs_w20 := aMs (Kd.C_below Cxs_w19.out hb)
         clear Cxs_w19
         have Cts_w20 := aMs (Kd.C_below Cts_w19.out hb)
         clear Cts_w19
         have Cgr_w20 := aMs (Kd.C_below Cgr_w19.out hb)
         clear Cgr_w19 Bw19 hb
         have z2 : wrap64 ((c.length : Int) + 1) = (c.length : Int) + 1 := w64 (by omega) (by have := LC.out; omega)
         have z3 : decide ((c.length : Int) + 1 < (g.length : Int)) = false := decide_eq_false (by have := HG.out; omega)
         have z3' : decide (c.length + 1 < g.length) = false := decide_eq_false (by have := HG.out; omega)
         by_cases hn : 12 < n
         ·have hn_ : decide (12 < n) = true := decide_eq_true hn
          go_wp2_with fail
          go_meet
          case rel => exact ⟨Cs1_w20, Cc_w20, Cts_w20, Bw20⟩
         ·have hn_ : decide (12 < n) = false := decide_eq_false hn
          go_wp2_with fail
          go_roundg d
          case measure => omega
          case rel => exact ⟨n + 1, by rw [w64 (by have := HN.out.1; omega) (by have := HN.out; have := Lnx.out; omega)], ⟨by have := HN.out; omega⟩, Cs1_w20, Cu_w20, Cc_w20, Cts_w20, Cxs_w20, Bw20⟩
      case rest =>
       obtain ⟨Cs1_m, Cc_m, Cts_m, B_m⟩ := hcut
       as_aux_lemma =>
        go_wp2_with fail
        go_loopg [251] (lt.length) (fun d v251 wr => ∃ n : Int, v251 = .int .i64 n ∧ Aside0 (0 ≤ n ∧ n + d = lt.length) ∧ Aside0 (Kd.C (Kd.int .u8) wr A1 s1.length s1) ∧ Aside0 (Kd.C (Kd.int .i64) wr A_c c.length c) ∧ Aside0 (Kd.C (Kd.int .i64) wr A_tsw15 lt.length lt) ∧ Aside0 (Below w.heap.size w wr))
        case atStart => exact ⟨0, rfl, ⟨by omega⟩, Cs1_m, Cc_m, Cts_m, B_m⟩
        case round =>
         clear Cs1_m Cc_m Cts_m B_m
         obtain ⟨n, rfl, HN, Cs1_r251, Cc_r251, Cts_r251, B_r251⟩ := hrel
         cases gk with
         | zero =>
          have hd_ : decide (n < (lt.length : Int)) = false := decide_eq_false (by have := HN.out; omega)
          go_wp2
          go_meet
          case rel => exact ⟨Cs1_r251, B_r251⟩
         | succ d =>
          have h0 := HN.out.1
          have hlt : n < (lt.length : Int) := by have := HN.out.2; omega
          have hd_ : decide (n < (lt.length : Int)) = true := decide_eq_true hlt
          obtain ⟨ad, eA, hcell⟩ := Kd.at_int Cts_r251.out n h0 hlt
          have hmem : rd lt n ∈ lt := by unfold rd; exact getD_mem (by omega)
          obtain ⟨kn, ekn⟩ : ∃ kn, kn = rd lt n := ⟨_, rfl⟩
          rw [← ekn] at hcell hmem
          have HM := aMs hmem
          have q0 := eq_true h0
          have q1 := eq_true hlt
          have HLT := aMs hlt
          clear h0 hlt ekn hmem
          subst eA
          go_wp2_with fail
          refine (in_calls A_c c_c c kn wr Cc_r251.out Ec_0.out (maxLen_val (by have := LC.out; omega)) (HLS.out kn HM.out)).mono ?_
          rintro e w21 ⟨rfl, hb⟩
          clear hcell
          have Bw21 := aMs (below_step B_r251.out hb)
          have Cs1_w21 := aMs (Kd.C_below Cs1_r251.out hb)
          clear Cs1_r251
          have Cc_w21 := aMs (Kd.C_below Cc_r251.out hb)
          clear Cc_r251
          have Cts_w21 := aMs (Kd.C_below Cts_r251.out hb)
          clear Cts_r251 B_r251 hb
          go_wp2_with fail
          go_roundg d
          case measure => omega
          case rel => exact ⟨n + 1, by rw [w64 (by have := HN.out.1; omega) (by have := HN.out; have := Llt.out; omega)], ⟨by have := HN.out; omega⟩, Cs1_w21, Cc_w21, Cts_w21, Bw21⟩
   case rest =>
    obtain ⟨Cs1_e, B_e⟩ := hcut
    as_aux_lemma =>
     go_wp2_with fail
     refine (D3.out A1 c1 wc Cs1_e.out E1.out).mono ?_
     rintro e w22 ⟨A_t, c_t, A_x, c_x, A_y, c_y, rfl, ⟨hC, hE⟩, ⟨hC', hE'⟩, ⟨hC2, hE2⟩, hb⟩
     have Ct_0 := aMs hC
     have Et_0 := aMs hE
     clear hC hE
     have Cx_0 := aMs hC'
     have Ex_0 := aMs hE'
     clear hC' hE'
     have Cy_0 := aMs hC2
     have Ey_0 := aMs hE2
     clear hC2 hE2
     have Bw22 := aMs (below_step B_e.out hb)
     have Cs1_w22 := aMs (Kd.C_below Cs1_e.out hb)
     clear Cs1_e B_e hb
     go_wp2_with fail
     refine (impl_JoinClosures.calls kp11 A_t c_t t (fun k => k < w22.heap.size) A_x c_x x (fun k => k < w22.heap.size) A_y c_y y j nine w22 Ct_0.out Et_0.out (Kd.V_mk Ex_0.out (Kd.C_F (Kd.heap_int .i64) Cx_0.out)) (Kd.V_mk Ey_0.out (Kd.C_F (Kd.heap_int .i64) Cy_0.out)) Pp11.out).mono ?_
     rintro e w23 ⟨v_, rfl, ho, hb⟩
     obtain ⟨A_jiw23, c_jiw23, rfl⟩ := Kd.R_slice ho
     have Cji_w23 := aMs (Kd.R_reads' ho).2.2
     have Eji_w23 := aMs (Kd.R_reads' ho).2.1
     clear ho
     have Bw23 := aMs (below_step Bw22.out hb)
     have Cs1_w23 := aMs (Kd.C_below Cs1_w22.out hb)
     clear Cs1_w22
     have Ct_w23 := aMs (Kd.C_below Ct_0.out hb)
     clear Ct_0
     have Cx_w23 := aMs (Kd.C_below Cx_0.out hb)
     clear Cx_0
     have Cy_w23 := aMs (Kd.C_below Cy_0.out hb)
     clear Cy_0 Bw22 hb
     go_wp2_with fail
     refine (spec_JoinClosures.calls kp12 A_t c_t t A_x c_x x A_y c_y y j nine w23 Ct_w23.out Et_0.out Cx_w23.out Ex_0.out Cy_w23.out Ey_0.out Pp12.out).mono ?_
     rintro e w24 ⟨v_, rfl, ho, hb⟩
     obtain ⟨A_jsw24, c_jsw24, rfl⟩ := Kd.R_slice ho
     have Cjs_w24 := aMs (Kd.R_reads' ho).2.2
     have Ejs_w24 := aMs (Kd.R_reads' ho).2.1
     clear ho
     have Bw24 := aMs (below_step Bw23.out hb)
     have Cs1_w24 := aMs (Kd.C_below Cs1_w23.out hb)
     clear Cs1_w23
     have Ct_w24 := aMs (Kd.C_below Ct_w23.out hb)
     clear Ct_w23
     have Cx_w24 := aMs (Kd.C_below Cx_w23.out hb)
     clear Cx_w23
     have Cy_w24 := aMs (Kd.C_below Cy_w23.out hb)
     clear Cy_w23
     have Cji_w24 := aMs (Kd.C_below Cji_w23.out hb)
     clear Cji_w23 Bw23 hb
     go_wp2_with fail
     refine (impl_MeetClosures.calls kp13 A_t c_t t (fun k => k < w24.heap.size) A_x c_x x (fun k => k < w24.heap.size) A_y c_y y m eleven w24 Ct_w24.out Et_0.out (Kd.V_mk Ex_0.out (Kd.C_F (Kd.heap_int .i64) Cx_w24.out)) (Kd.V_mk Ey_0.out (Kd.C_F (Kd.heap_int .i64) Cy_w24.out)) Pp13.out).mono ?_
     rintro e w25 ⟨v_, rfl, ho, hb⟩
     obtain ⟨A_miw25, c_miw25, rfl⟩ := Kd.R_slice ho
     have Cmi_w25 := aMs (Kd.R_reads' ho).2.2
     have Emi_w25 := aMs (Kd.R_reads' ho).2.1
     clear ho
     have Bw25 := aMs (below_step Bw24.out hb)
     have Cs1_w25 := aMs (Kd.C_below Cs1_w24.out hb)
     clear Cs1_w24
     have Ct_w25 := aMs (Kd.C_below Ct_w24.out hb)
     clear Ct_w24
     have Cx_w25 := aMs (Kd.C_below Cx_w24.out hb)
     clear Cx_w24
     have Cy_w25 := aMs (Kd.C_below Cy_w24.out hb)
     clear Cy_w24
     have Cji_w25 := aMs (Kd.C_below Cji_w24.out hb)
     clear Cji_w24
     have Cjs_w25 := aMs (Kd.C_below Cjs_w24.out hb)
     clear Cjs_w24 Bw24 hb
     go_wp2_with fail
     refine (spec_MeetClosures.calls kp14 A_t c_t t A_x c_x x A_y c_y y m eleven w25 Ct_w25.out Et_0.out Cx_w25.out Ex_0.out Cy_w25.out Ey_0.out Pp14.out).mono ?_
     rintro e w26 ⟨v_, rfl, ho, hb⟩
     obtain ⟨A_msw26, c_msw26, rfl⟩ := Kd.R_slice ho
     have Cms_w26 := aMs (Kd.R_reads' ho).2.2
     have Ems_w26 := aMs (Kd.R_reads' ho).2.1
     clear ho
     have Bw26 := aMs (below_step Bw25.out hb)
     have Cs1_w26 := aMs (Kd.C_below Cs1_w25.out hb)
     clear Cs1_w25
     have Ct_w26 := aMs (Kd.C_below Ct_w25.out hb)
     clear Ct_w25
     have Cx_w26 := aMs (Kd.C_below Cx_w25.out hb)
     clear Cx_w25
     have Cy_w26 := aMs (Kd.C_below Cy_w25.out hb)
     clear Cy_w25
     have Cji_w26 := aMs (Kd.C_below Cji_w25.out hb)
     clear Cji_w25
     have Cjs_w26 := aMs (Kd.C_below Cjs_w25.out hb)
     clear Cjs_w25
     have Cmi_w26 := aMs (Kd.C_below Cmi_w25.out hb)
     clear Cmi_w25 Bw25 hb
     have hv1 : (nine != nine) = false := by simp
     have hv2 : (eleven != eleven) = false := by simp
     go_wp2_with fail
     refine (same_calls A_jiw23 A_jsw24 c_jiw23 c_jsw24 j w26 Cji_w26.out Eji_w23.out Cjs_w26.out Ejs_w24.out (maxLen_val (by have := LJ.out; omega))).mono ?_
     rintro e w27 ⟨rfl, hb⟩
     have Bw27 := aMs (below_step Bw26.out hb)
     have Cs1_w27 := aMs (Kd.C_below Cs1_w26.out hb)
     clear Cs1_w26
     have Ct_w27 := aMs (Kd.C_below Ct_w26.out hb)
     clear Ct_w26
     have Cx_w27 := aMs (Kd.C_below Cx_w26.out hb)
     clear Cx_w26
     have Cy_w27 := aMs (Kd.C_below Cy_w26.out hb)
     clear Cy_w26
     have Cji_w27 := aMs (Kd.C_below Cji_w26.out hb)
     clear Cji_w26
     have Cjs_w27 := aMs (Kd.C_below Cjs_w26.out hb)
     clear Cjs_w26
     have Cmi_w27 := aMs (Kd.C_below Cmi_w26.out hb)
     clear Cmi_w26
     have Cms_w27 := aMs (Kd.C_below Cms_w26.out hb)
     clear Cms_w26 Bw26 hb
     go_wp2_with fail
     refine (same_calls A_miw25 A_msw26 c_miw25 c_msw26 m w27 Cmi_w27.out Emi_w25.out Cms_w27.out Ems_w26.out (maxLen_val (by have := LM.out; omega))).mono ?_
     rintro e w28 ⟨rfl, hb⟩
     have Bw28 := aMs (below_step Bw27.out hb)
     have Cs1_w28 := aMs (Kd.C_below Cs1_w27.out hb)
     clear Cs1_w27
     have Ct_w28 := aMs (Kd.C_below Ct_w27.out hb)
     clear Ct_w27
     have Cx_w28 := aMs (Kd.C_below Cx_w27.out hb)
     clear Cx_w27
     have Cy_w28 := aMs (Kd.C_below Cy_w27.out hb)
     clear Cy_w27
     have Cji_w28 := aMs (Kd.C_below Cji_w27.out hb)
     clear Cji_w27
     have Cjs_w28 := aMs (Kd.C_below Cjs_w27.out hb)
     clear Cjs_w27
     have Cmi_w28 := aMs (Kd.C_below Cmi_w27.out hb)
     clear Cmi_w27
     have Cms_w28 := aMs (Kd.C_below Cms_w27.out hb)
     clear Cms_w27 Bw27 hb
     go_upto_if 314 with fail
     clear hv1 hv2
     go_cut [] from 314 to 314 (fun wc => Aside0 (Kd.C (Kd.int .u8) wc A1 s1.length s1) ∧ Aside0 (Below w.heap.size w wc))
     case first =>
      as_aux_lemma =>
       cases nine with
       | false =>
        go_wp2
        go_meet
        case rel => exact ⟨Cs1_w28, Bw28⟩
       | true =>
        obtain ⟨⟨g1, g2⟩, f1, f2, g3⟩ := HNI.out rfl
        obtain ⟨kf1, qf1⟩ := f1.rounds
        have Pf1 := aMs qf1
        obtain ⟨kf2, qf2⟩ := f2.rounds
        have Pf2 := aMs qf2
        clear f1 qf1 f2 qf2
        go_wp2_with fail
        refine (impl_IsClosure.calls kf1 A_t c_t t A_jiw23 c_jiw23 j true true w28 Ct_w28.out Et_0.out Cji_w28.out Eji_w23.out Pf1.out).mono ?_
        rintro e w29 ⟨rfl, hb⟩
        have Bw29 := aMs (below_step Bw28.out hb)
        have Cs1_w29 := aMs (Kd.C_below Cs1_w28.out hb)
        clear Cs1_w28
        have Ct_w29 := aMs (Kd.C_below Ct_w28.out hb)
        clear Ct_w28
        have Cx_w29 := aMs (Kd.C_below Cx_w28.out hb)
        clear Cx_w28
        have Cy_w29 := aMs (Kd.C_below Cy_w28.out hb)
        clear Cy_w28
        have Cji_w29 := aMs (Kd.C_below Cji_w28.out hb)
        clear Cji_w28
        have Cjs_w29 := aMs (Kd.C_below Cjs_w28.out hb)
        clear Cjs_w28
        have Cmi_w29 := aMs (Kd.C_below Cmi_w28.out hb)
        clear Cmi_w28
        have Cms_w29 := aMs (Kd.C_below Cms_w28.out hb)
        clear Cms_w28 Bw28 hb
        go_wp2_with fail
        refine (impl_IsClosure.calls kf2 A_t c_t t A_miw25 c_miw25 m true true w29 Ct_w29.out Et_0.out Cmi_w29.out Emi_w25.out Pf2.out).mono ?_
        rintro e w30 ⟨rfl, hb⟩
        have Bw30 := aMs (below_step Bw29.out hb)
        have Cs1_w30 := aMs (Kd.C_below Cs1_w29.out hb)
        clear Cs1_w29
        have Ct_w30 := aMs (Kd.C_below Ct_w29.out hb)
        clear Ct_w29
        have Cx_w30 := aMs (Kd.C_below Cx_w29.out hb)
        clear Cx_w29
        have Cy_w30 := aMs (Kd.C_below Cy_w29.out hb)
        clear Cy_w29
        have Cji_w30 := aMs (Kd.C_below Cji_w29.out hb)
        clear Cji_w29
        have Cjs_w30 := aMs (Kd.C_below Cjs_w29.out hb)
        clear Cjs_w29
        have Cmi_w30 := aMs (Kd.C_below Cmi_w29.out hb)
        clear Cmi_w29
        have Cms_w30 := aMs (Kd.C_below Cms_w29.out hb)
        clear Cms_w29 Bw29 hb
        obtain ⟨z, hz⟩ : ∃ z, z = (j.length : Int) + (m.length : Int) := ⟨_, rfl⟩
        have z1 : wrap64 ((j.length : Int) + (m.length : Int)) = z := by rw [hz, w64 (by omega) (by omega)]
        have z2 : wrap64 ((x.length : Int) + (y.length : Int)) = z := by rw [hz, w64 (by omega) (by omega)]; omega
        have z1' : IntKind.i64.wrap ((j.length : Int) + (m.length : Int)) = z := (i64_w _).trans z1
        have z2' : IntKind.i64.wrap ((x.length : Int) + (y.length : Int)) = z := (i64_w _).trans z2
        have z3 : (z != z) = false := by simp
        clear g1 g2 g3 hz
        go_wp2
        go_meet
        case rel => exact ⟨Cs1_w30, Bw30⟩
     case rest =>
      obtain ⟨Cs1_f, B_f⟩ := hcut
      as_aux_lemma =>
       go_wp2_with fail
       refine (D4.out A1 c1 wc Cs1_f.out E1.out).mono ?_
       rintro e w31 ⟨q, A_q, c_q, rfl, ⟨lq, lqb⟩, ⟨hC, hE⟩, hb⟩
       have Cq_0 := aMs hC
       have Eq_0 := aMs hE
       clear hC hE
       have Bw31 := aMs (below_step B_f.out hb)
       clear B_f hb
       obtain ⟨cnt, fi, hcc, p15, hcnt⟩ := count_law q (by omega) (fun x hx => by have := lqb x hx; omega)
       have HCC := aMs hcc
       have HCN := aMs hcnt
       have LQ := aMs lq
       have LQB := aMs lqb
       clear hcc hcnt lq lqb
       obtain ⟨kp15, qp15⟩ := p15.rounds
       have Pp15 := aMs qp15
       clear p15 qp15
       go_wp2_with fail
       refine (Go.Proofs.Ytbhlffakpneecaa.OwnCountClosures.own_impl A_q c_q q cnt fi w31 Cq_0.out Eq_0.out (by have := LQ.out; omega) (fun x hx => by have := LQB.out x hx; omega) HCC.out).mono ?_
       rintro e w32 ⟨rfl, hb⟩
       have Bw32 := aMs (below_step Bw31.out hb)
       have Cq_w32 := aMs (Kd.C_below Cq_0.out hb)
       clear Cq_0 Bw31 hb
       go_wp2_with fail
       refine (spec_CountClosures.calls kp15 A_q c_q q cnt fi w32 Cq_w32.out Eq_0.out Pp15.out).mono ?_
       rintro e w33 ⟨rfl, hb⟩
       have Bw33 := aMs (below_step Bw32.out hb)
       have Cq_w33 := aMs (Kd.C_below Cq_w32.out hb)
       clear Cq_w32 Bw32 hb
       have hv1 : (fi == fi) = true := by simp
       have hv2 : (cnt == cnt) = true := by simp
       cases fi with
       | false =>
        go_wp2_with fail
        go_ret
        exact ⟨rfl, Bw33.out⟩
       | true =>
        have z1 : decide ((q.length : Int) < cnt) = true := decide_eq_true (HCN.out rfl)
        go_wp2_with fail
        go_ret
        exact ⟨rfl, Bw33.out⟩
theorem law (a0 a1 : List Int) (ha0 : a0.length ≤ maxLen) (sa0 : a0.length * 1 ≤ 140737488351232) (ga0 : ∀ x ∈ a0, (Lit.int .u8 x).wf = true) (ha1 : a1.length ≤ maxLen) (sa1 : a1.length * 1 ≤ 140737488351232) (ga1 : ∀ x ∈ a1, (Lit.int .u8 x).wf = true)
  (A0 : Option Addr) (c0 : Nat) (A1 : Option Addr) (c1 : Nat) (w : World) (h0 : Kd.C (Kd.int .u8) w A0 a0.length a0) (e0 : a0.length ≤ c0) (h1 : Kd.C (Kd.int .u8) w A1 a1.length a1) (e1 : a1.length ≤ c1) :
  Calls Try.prog 5 #[.slice A0 a0.length c0, .slice A1 a1.length c1] w fun e w' => e = .returned (.bool true) ∧ Below w.heap.size w w' := by
 by_cases hs : a0.length + a1.length ≤ 1048576
 ·exact walk a0 a1 ⟨fun x hx => u8_wf (ga0 x hx), by omega⟩ ⟨fun x hx => u8_wf (ga1 x hx), by omega⟩ hs A0 c0 A1 c1 w h0 e0 h1 e1
 ·exact walk_big a0 a1 ha0 ha1 hs A0 c0 A1 c1 w h0 e0 h1 e1
end Go.Proofs.Ytbhlffakpneecaa.WalkFnClosures
