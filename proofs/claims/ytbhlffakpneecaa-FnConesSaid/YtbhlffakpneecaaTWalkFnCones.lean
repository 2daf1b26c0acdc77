/- The law FnCones, walked by hand over its callees' contracts: for all bytes it returns true. -/
import Derived.Test.YtbhlffakpneecaaTConeLaw
import Derived.Test.YtbhlffakpneecaaTDrawCone
import Derived.Test.YtbhlffakpneecaaTMFnConesx5
namespace Go.Proofs.Ytbhlffakpneecaa.WalkFnCones
open Go.RowKit Go.Proofs.Ytbhlffakpneecaa.PFnCones Go.Proofs.YtbhlffakpneecaaW.PrintWords Go.Proofs.YtbhlffakpneecaaW.PrintLast Go.Proofs.YtbhlffakpneecaaW.PrintMore Go.Proofs.Ytbhlffakpneecaa.B Go.Proofs.Ytbhlffakpneecaa.DrawArcs Go.Proofs.Ytbhlffakpneecaa.DrawAny Go.Proofs.Ytbhlffakpneecaa.DrawCone Go.Proofs.Ytbhlffakpneecaa.ConeLaw
set_option linter.unusedVariables false
set_option linter.unusedSimpArgs false
theorem aMs:type_of% @Aside0.mk:=@Aside0.mk
theorem big_eq (s t : List Int) (hs : s.length ≤ maxLen) (ht : t.length ≤ maxLen) : laws_big.f s t = some (decide (1048576 < s.length + t.length)) := by
 have hs := maxLen_le hs
 have ht := maxLen_le ht
 unfold laws_big.f
 by_cases h : (s.length : Int) > 1048576
 ·rw [if_pos h]; exact congrArg some (decide_eq_true (by omega)).symm
 ·rw [if_neg h, w64 (by omega) (by omega)]
  exact congrArg some (by rw [decide_eq_decide]; omega)
theorem u8_wf {x : Int} (h : (Lit.int .u8 x).wf = true) : 0 ≤ x ∧ x < 256 := by
 have e0 : IntKind.u8.min = 0 := rfl
 have e1 : IntKind.u8.max = 255 := rfl
 simp only [Lit.wf, Bool.and_eq_true, decide_eq_true_eq, e0, e1] at h
 omega
theorem readsS' {α : Type} {d : Kd α} {e : Nat} {w : World} {b : Nat} {ok : Nat → Prop} {A : Option Addr} {n c : Nat} {xs : List α} (h : Kd.S d e w b ok (.slice A n c) xs) : xs.length ≤ c ∧ d.C w A xs.length xs := by
 have := Kd.S_reads' h
 exact ⟨by have h1 := this.1; have h2 := this.2.1; omega, this.2.2⟩
set_option maxRecDepth 100000 in
theorem walk_big (s0 s1 : List Int) (q0 : s0.length ≤ maxLen) (q1 : s1.length ≤ maxLen) (hs : ¬ s0.length + s1.length ≤ 1048576) (A0 : Option Addr) (c0 : Nat) (A1 : Option Addr) (c1 : Nat) (w : World) (h0 : Kd.C (Kd.int .u8) w A0 s0.length s0) (e0 : s0.length ≤ c0) (h1 : Kd.C (Kd.int .u8) w A1 s1.length s1) (e1 : s1.length ≤ c1) :
  Calls Try.prog 4 #[.slice A0 s0.length c0, .slice A1 s1.length c1] w fun e w' => e = .returned (.bool true) ∧ Below w.heap.size w w' := by
 have hbig := big_eq s0 s1 q0 q1
 rw [decide_eq_true (by omega)] at hbig
 go_enter Try.func4, Try.ntmps4
 go_wp2_with fail
 refine (laws_big.calls A0 c0 s0 A1 c1 s1 true w h0 e0 h1 e1 hbig).mono ?_
 rintro e w1 ⟨rfl, hd⟩
 have B1 := aMs (drawn_below' hd)
 clear hd hbig
 go_wp2_with fail
 go_ret
 exact ⟨rfl, B1.out⟩
set_option maxHeartbeats 16000000 in
set_option maxRecDepth 100000 in
theorem walk (s0 s1 : List Int) (hs0 : Bytes s0) (hs1 : Bytes s1) (hs : s0.length + s1.length ≤ 1048576) (A0 : Option Addr) (c0 : Nat) (A1 : Option Addr) (c1 : Nat) (w : World) (h0 : Kd.C (Kd.int .u8) w A0 s0.length s0) (e0 : s0.length ≤ c0) (h1 : Kd.C (Kd.int .u8) w A1 s1.length s1) (e1 : s1.length ≤ c1) :
  Calls Try.prog 4 #[.slice A0 s0.length c0, .slice A1 s1.length c1] w fun e w' => e = .returned (.bool true) ∧ Below w.heap.size w w' := by
 obtain ⟨a, i, ⟨ha, hab⟩, dc⟩ := drawCone s0 hs0
 obtain ⟨t, ⟨ht, htb⟩, dr⟩ := drawRed s1 hs1
 obtain ⟨v, u, ⟨hv, hu⟩, dv⟩ := drawVal s1 hs1
 obtain ⟨l, ok, b, one, ar, ⟨p1, p2⟩, ⟨p3, p4⟩, ⟨p5, p6⟩, ⟨hll, hbl⟩, hok⟩ := cone_law a i (by omega) (fun x hx => by have := hab x hx; omega)
 obtain ⟨r, three, sm, five, ⟨p7, p8⟩, ⟨p9, p10⟩, hr, hrb⟩ := rest_law t (by omega) (fun x hx => by have := htb x hx; omega) v u (maxLen_val (by omega)) (maxLen_val (by omega))
 have hsl := sameLists_ev r (maxLen_val (by omega)) (fun x hx => maxLen_val (by have := hrb x hx; omega))
 have hbig := big_eq s0 s1 (maxLen_val (by omega)) (maxLen_val (by omega))
 rw [decide_eq_false (by omega)] at hbig
 have HBG := aMs hbig
 obtain ⟨kp1, qp1⟩ := p1.rounds
 have Pp1 := aMs qp1
 obtain ⟨kp2, qp2⟩ := p2.rounds
 have Pp2 := aMs qp2
 obtain ⟨kp3, qp3⟩ := p3.rounds
 have Pp3 := aMs qp3
 obtain ⟨kp4, qp4⟩ := p4.rounds
 have Pp4 := aMs qp4
 obtain ⟨kp5, qp5⟩ := p5.rounds
 have Pp5 := aMs qp5
 obtain ⟨kp6, qp6⟩ := p6.rounds
 have Pp6 := aMs qp6
 obtain ⟨kp7, qp7⟩ := p7.rounds
 have Pp7 := aMs qp7
 obtain ⟨kp8, qp8⟩ := p8.rounds
 have Pp8 := aMs qp8
 obtain ⟨kp9, qp9⟩ := p9.rounds
 have Pp9 := aMs qp9
 obtain ⟨kp10, qp10⟩ := p10.rounds
 have Pp10 := aMs qp10
 obtain ⟨khsl, qhsl⟩ := hsl.rounds
 have Phsl := aMs qhsl
 clear p1 qp1 p2 qp2 p3 qp3 p4 qp4 p5 qp5 p6 qp6 p7 qp7 p8 qp8 p9 qp9 p10 qp10 hsl qhsl
 have HOK := aMs hok
 have DC := aMs dc
 have DR := aMs dr
 have DV := aMs dv
 have LL := aMs hll
 have LB := aMs hbl
 have H0 := aMs h0
 have E0 := aMs e0
 have H1 := aMs h1
 have E1 := aMs e1
 clear hok dc dr dv hll hbl h0 e0 h1 e1 ha hab ht htb hv hu hr hrb hbig hs hs0 hs1
 go_enter Try.func4, Try.ntmps4
 go_wp2_with fail
 refine (laws_big.calls A0 c0 s0 A1 c1 s1 false w H0.out E0.out H1.out E1.out HBG.out).mono ?_
 rintro e w1 ⟨rfl, hd⟩
 have hb := drawn_below' hd
 clear hd
 have Bw1 := aMs hb
 have Cs0_w1 := aMs (Kd.C_below H0.out hb)
 clear H0
 have Cs1_w1 := aMs (Kd.C_below H1.out hb)
 clear H1 hb
 go_wp2_with fail
 refine (DC.out A0 c0 w1 Cs0_w1.out E0.out).mono ?_
 rintro e w2 ⟨A_a, c_a, rfl, ⟨hC, hE⟩, hb⟩
 have Ca_0 := aMs hC
 have Ea_0 := aMs hE
 clear hC hE
 have Bw2 := aMs (below_step Bw1.out hb)
 have Cs1_w2 := aMs (Kd.C_below Cs1_w1.out hb)
 clear Cs1_w1 Bw1 hb
 go_wp2_with fail
 refine (impl_ConeOf.calls kp1 A_a c_a a i l ok w2 Ca_0.out Ea_0.out Pp1.out).mono ?_
 rintro e w3 ⟨v_, rfl, ho, hb⟩
 obtain ⟨A_liw3, c_liw3, rfl⟩ := Kd.R_slice ho
 have Cli_w3 := aMs (Kd.R_reads' ho).2.2
 have Eli_w3 := aMs (Kd.R_reads' ho).2.1
 clear ho
 have Bw3 := aMs (below_step Bw2.out hb)
 have Cs1_w3 := aMs (Kd.C_below Cs1_w2.out hb)
 clear Cs1_w2
 have Ca_w3 := aMs (Kd.C_below Ca_0.out hb)
 clear Ca_0 Bw2 hb
 go_wp2_with fail
 refine (spec_ConeOf.calls kp2 A_a c_a a i l ok w3 Ca_w3.out Ea_0.out Pp2.out).mono ?_
 rintro e w4 ⟨v_, rfl, ho, hb⟩
 obtain ⟨A_lsw4, c_lsw4, rfl⟩ := Kd.R_slice ho
 have Cls_w4 := aMs (Kd.R_reads' ho).2.2
 have Els_w4 := aMs (Kd.R_reads' ho).2.1
 clear ho
 have Bw4 := aMs (below_step Bw3.out hb)
 have Cs1_w4 := aMs (Kd.C_below Cs1_w3.out hb)
 clear Cs1_w3
 have Ca_w4 := aMs (Kd.C_below Ca_w3.out hb)
 clear Ca_w3
 have Cli_w4 := aMs (Kd.C_below Cli_w3.out hb)
 clear Cli_w3 Bw3 hb
 go_wp2_with fail
 refine (impl_BelowOf.calls kp3 A_a c_a a i b one w4 Ca_w4.out Ea_0.out Pp3.out).mono ?_
 rintro e w5 ⟨v_, rfl, ho, hb⟩
 obtain ⟨A_biw5, c_biw5, rfl⟩ := Kd.R_slice ho
 have Cbi_w5 := aMs (Kd.R_reads' ho).2.2
 have Ebi_w5 := aMs (Kd.R_reads' ho).2.1
 clear ho
 have Bw5 := aMs (below_step Bw4.out hb)
 have Cs1_w5 := aMs (Kd.C_below Cs1_w4.out hb)
 clear Cs1_w4
 have Ca_w5 := aMs (Kd.C_below Ca_w4.out hb)
 clear Ca_w4
 have Cli_w5 := aMs (Kd.C_below Cli_w4.out hb)
 clear Cli_w4
 have Cls_w5 := aMs (Kd.C_below Cls_w4.out hb)
 clear Cls_w4 Bw4 hb
 go_wp2_with fail
 refine (spec_BelowOf.calls kp4 A_a c_a a i b one w5 Ca_w5.out Ea_0.out Pp4.out).mono ?_
 rintro e w6 ⟨v_, rfl, ho, hb⟩
 obtain ⟨A_bsw6, c_bsw6, rfl⟩ := Kd.R_slice ho
 have Cbs_w6 := aMs (Kd.R_reads' ho).2.2
 have Ebs_w6 := aMs (Kd.R_reads' ho).2.1
 clear ho
 have Bw6 := aMs (below_step Bw5.out hb)
 have Cs1_w6 := aMs (Kd.C_below Cs1_w5.out hb)
 clear Cs1_w5
 have Ca_w6 := aMs (Kd.C_below Ca_w5.out hb)
 clear Ca_w5
 have Cli_w6 := aMs (Kd.C_below Cli_w5.out hb)
 clear Cli_w5
 have Cls_w6 := aMs (Kd.C_below Cls_w5.out hb)
 clear Cls_w5
 have Cbi_w6 := aMs (Kd.C_below Cbi_w5.out hb)
 clear Cbi_w5 Bw5 hb
 have hv1 : (ok != ok) = false := by simp
 have hv2 : (one != one) = false := by simp
 have hv3 : (ar != ar) = false := by simp
 go_wp2_with fail
 refine (same_calls A_liw3 A_lsw4 c_liw3 c_lsw4 l w6 Cli_w6.out Eli_w3.out Cls_w6.out Els_w4.out (maxLen_val (by have := LL.out; omega))).mono ?_
 rintro e w7 ⟨rfl, hb⟩
 have Bw7 := aMs (below_step Bw6.out hb)
 have Cs1_w7 := aMs (Kd.C_below Cs1_w6.out hb)
 clear Cs1_w6
 have Ca_w7 := aMs (Kd.C_below Ca_w6.out hb)
 clear Ca_w6
 have Cli_w7 := aMs (Kd.C_below Cli_w6.out hb)
 clear Cli_w6
 have Cls_w7 := aMs (Kd.C_below Cls_w6.out hb)
 clear Cls_w6
 have Cbi_w7 := aMs (Kd.C_below Cbi_w6.out hb)
 clear Cbi_w6
 have Cbs_w7 := aMs (Kd.C_below Cbs_w6.out hb)
 clear Cbs_w6 Bw6 hb
 go_wp2_with fail
 refine (same_calls A_biw5 A_bsw6 c_biw5 c_bsw6 b w7 Cbi_w7.out Ebi_w5.out Cbs_w7.out Ebs_w6.out (maxLen_val (by have := LB.out; omega))).mono ?_
 rintro e w8 ⟨rfl, hb⟩
 have Bw8 := aMs (below_step Bw7.out hb)
 have Cs1_w8 := aMs (Kd.C_below Cs1_w7.out hb)
 clear Cs1_w7
 have Ca_w8 := aMs (Kd.C_below Ca_w7.out hb)
 clear Ca_w7
 have Cli_w8 := aMs (Kd.C_below Cli_w7.out hb)
 clear Cli_w7
 have Cls_w8 := aMs (Kd.C_below Cls_w7.out hb)
 clear Cls_w7
 have Cbi_w8 := aMs (Kd.C_below Cbi_w7.out hb)
 clear Cbi_w7
 have Cbs_w8 := aMs (Kd.C_below Cbs_w7.out hb)
 clear Cbs_w7 Bw7 hb
 go_wp2_with fail
 refine (impl_AreArcs.calls kp5 A_a c_a a ar w8 Ca_w8.out Ea_0.out Pp5.out).mono ?_
 rintro e w9 ⟨rfl, hd⟩
 have hb := drawn_below' hd
 clear hd
 have Bw9 := aMs (below_step Bw8.out hb)
 have Cs1_w9 := aMs (Kd.C_below Cs1_w8.out hb)
 clear Cs1_w8
 have Ca_w9 := aMs (Kd.C_below Ca_w8.out hb)
 clear Ca_w8
 have Cli_w9 := aMs (Kd.C_below Cli_w8.out hb)
 clear Cli_w8
 have Cls_w9 := aMs (Kd.C_below Cls_w8.out hb)
 clear Cls_w8
 have Cbs_w9 := aMs (Kd.C_below Cbs_w8.out hb)
 clear Cbs_w8 Bw8 hb
 go_wp2_with fail
 refine (spec_AreArcs.calls kp6 A_a c_a a ar w9 Ca_w9.out Ea_0.out Pp6.out).mono ?_
 rintro e w10 ⟨rfl, hd⟩
 have hb := drawn_below' hd
 clear hd
 have Bw10 := aMs (below_step Bw9.out hb)
 have Cs1_w10 := aMs (Kd.C_below Cs1_w9.out hb)
 clear Cs1_w9
 have Ca_w10 := aMs (Kd.C_below Ca_w9.out hb)
 clear Ca_w9
 have Cli_w10 := aMs (Kd.C_below Cli_w9.out hb)
 clear Cli_w9
 have Cls_w10 := aMs (Kd.C_below Cls_w9.out hb)
 clear Cls_w9
 have Cbs_w10 := aMs (Kd.C_below Cbs_w9.out hb)
 clear Cbs_w9 Bw9 hb
 go_upto_if 99 with fail
 clear hv1 hv2 hv3
 go_cut [] (fun wc => Aside0 (Kd.C (Kd.int .u8) wc A1 s1.length s1) ∧ Aside0 (Below w.heap.size w wc))
 case first =>
  cases ok with
  | false =>
   go_wp2
   go_meet
   case rel => exact ⟨Cs1_w10, Bw10⟩
  | true =>
   obtain ⟨_, _, hal, f1, f2, f3, red, hrl, hrb, f4, f5, f6⟩ := HOK.out rfl
   have f7 := sameLists_ev red (maxLen_val (by omega)) (fun x hx => maxLen_val (by have := hrb x hx; omega))
   have HCO := aMs f3
   clear f3
   obtain ⟨kf1, qf1⟩ := f1.rounds
   have Pf1 := aMs qf1
   obtain ⟨kf2, qf2⟩ := f2.rounds
   have Pf2 := aMs qf2
   obtain ⟨kf4, qf4⟩ := f4.rounds
   have Pf4 := aMs qf4
   obtain ⟨kf5, qf5⟩ := f5.rounds
   have Pf5 := aMs qf5
   obtain ⟨kf6, qf6⟩ := f6.rounds
   have Pf6 := aMs qf6
   obtain ⟨kf7, qf7⟩ := f7.rounds
   have Pf7 := aMs qf7
   clear f1 qf1 f2 qf2 f4 qf4 f5 qf5 f6 qf6 f7 qf7 hal hrl hrb
   go_wp2_with fail
   refine (impl_IsClosure.calls kf1 A_a c_a a A_liw3 c_liw3 l true true w10 Ca_w10.out Ea_0.out Cli_w10.out Eli_w3.out Pf1.out).mono ?_
   rintro e w11 ⟨rfl, hb⟩
   have Bw11 := aMs (below_step Bw10.out hb)
   have Cs1_w11 := aMs (Kd.C_below Cs1_w10.out hb)
   clear Cs1_w10
   have Ca_w11 := aMs (Kd.C_below Ca_w10.out hb)
   clear Ca_w10
   have Cli_w11 := aMs (Kd.C_below Cli_w10.out hb)
   clear Cli_w10
   have Cls_w11 := aMs (Kd.C_below Cls_w10.out hb)
   clear Cls_w10
   have Cbs_w11 := aMs (Kd.C_below Cbs_w10.out hb)
   clear Cbs_w10 Bw10 hb
   go_wp2_with (first | ((with_reducible refine gate_dst (N := 109) rfl ?_); refine Kd.R_lit (Kd.int .i64) _ 3 ?hg (N := 109) ?hd (xs := [i]) (inner := [.int .i64 i]) (ok := fun _ => True) (okp := fun _ => False) ?hr ?hp (fun _ hk => hk.elim) trivial (Below.refl _ _) (Nat.le_refl _) (by simp) ?_; (case hd => rfl); (case hg => rfl); (case hr => first | (go_simp; done) | (go_simp; rfl)); (case hp => exact Kd.reps_scalar [i]); intro vq w12 ho hb hg_ hnew_; clear hg_ hnew_; have HQ_ := aMs ho; have HQB_ := aMs hb; clear ho hb))
   obtain ⟨A_qi, c_qi, rfl⟩ := Kd.R_slice HQ_.out
   have Cqi_0 := aMs (Kd.R_reads' HQ_.out).2.2
   have Eqi_0 := aMs (Kd.R_reads' HQ_.out).2.1
   have hb := HQB_.out
   clear HQ_ HQB_
   have Bw12 := aMs (below_step Bw11.out hb)
   have Cs1_w12 := aMs (Kd.C_below Cs1_w11.out hb)
   clear Cs1_w11
   have Ca_w12 := aMs (Kd.C_below Ca_w11.out hb)
   clear Ca_w11
   have Cls_w12 := aMs (Kd.C_below Cls_w11.out hb)
   clear Cls_w11
   have Cbs_w12 := aMs (Kd.C_below Cbs_w11.out hb)
   clear Cbs_w11 Bw11 hb
   refine (impl_LeastClosure.calls kf2 A_a c_a a A_qi c_qi [i] l true w12 Ca_w12.out Ea_0.out Cqi_0.out Eqi_0.out Pf2.out).mono ?_
   rintro e w13 ⟨v_, rfl, ho, hb⟩
   obtain ⟨A_lew13, c_lew13, rfl⟩ := Kd.R_slice ho
   have Cle_w13 := aMs (Kd.R_reads' ho).2.2
   have Ele_w13 := aMs (Kd.R_reads' ho).2.1
   clear ho
   have Bw13 := aMs (below_step Bw12.out hb)
   have Cs1_w13 := aMs (Kd.C_below Cs1_w12.out hb)
   clear Cs1_w12
   have Ca_w13 := aMs (Kd.C_below Ca_w12.out hb)
   clear Ca_w12
   have Cls_w13 := aMs (Kd.C_below Cls_w12.out hb)
   clear Cls_w12
   have Cbs_w13 := aMs (Kd.C_below Cbs_w12.out hb)
   clear Cbs_w12
   have Cqi_w13 := aMs (Kd.C_below Cqi_0.out hb)
   clear Cqi_0 Bw12 hb
   go_wp2_with fail
   refine (same_calls A_lew13 A_lsw4 c_lew13 c_lsw4 l w13 Cle_w13.out Ele_w13.out Cls_w13.out Els_w4.out (maxLen_val (by have := LL.out; omega))).mono ?_
   rintro e w14 ⟨rfl, hb⟩
   have Bw14 := aMs (below_step Bw13.out hb)
   have Cs1_w14 := aMs (Kd.C_below Cs1_w13.out hb)
   clear Cs1_w13
   have Ca_w14 := aMs (Kd.C_below Ca_w13.out hb)
   clear Ca_w13
   have Cls_w14 := aMs (Kd.C_below Cls_w13.out hb)
   clear Cls_w13
   have Cbs_w14 := aMs (Kd.C_below Cbs_w13.out hb)
   clear Cbs_w13
   have Cle_w14 := aMs (Kd.C_below Cle_w13.out hb)
   clear Cle_w13 Bw13 hb
   go_upto_block 0 with fail
   go_cut [] (fun wc => Aside0 (Kd.C (Kd.int .u8) wc A1 s1.length s1) ∧ Aside0 (Kd.C kSS wc A_a a.length a) ∧ Aside0 (Kd.C (Kd.int .i64) wc A_lsw4 l.length l) ∧ Aside0 (Below w.heap.size w wc))
   case first =>
    go_wp2_with fail
    go_loopg [131] (b.length) (fun d v131 wr => ∃ n : Int, v131 = .int .i64 n ∧ Aside0 (0 ≤ n ∧ n + d = b.length) ∧ Aside0 (Kd.C (Kd.int .u8) wr A1 s1.length s1) ∧ Aside0 (Kd.C kSS wr A_a a.length a) ∧ Aside0 (Kd.C (Kd.int .i64) wr A_lsw4 l.length l) ∧ Aside0 (Kd.C (Kd.int .i64) wr A_bsw6 b.length b) ∧ Aside0 (Below w.heap.size w wr))
    case atStart => exact ⟨0, rfl, ⟨by omega⟩, Cs1_w14, Ca_w14, Cls_w14, Cbs_w14, Bw14⟩
    case round =>
     clear Cs1_w14 Ca_w14 Cls_w14 Cbs_w14 Bw14
     obtain ⟨n, rfl, HN, Cs1_r, Ca_r, Cls_r, Cbs_r, B_r⟩ := hrel
     cases gk with
     | zero =>
      have hd_ : decide (n < (b.length : Int)) = false := decide_eq_false (by have := HN.out; omega)
      go_wp2_with fail
      go_meet
      case rel => exact ⟨Cs1_r, Ca_r, Cls_r, B_r⟩
     | succ d =>
      have h0 := HN.out.1
      have hlt : n < (b.length : Int) := by have := HN.out.2; omega
      have hd_ : decide (n < (b.length : Int)) = true := decide_eq_true hlt
      obtain ⟨ad, eA, hcell⟩ := Kd.at_int Cbs_r.out n h0 hlt
      obtain ⟨cone, hc1, hc2, hc3⟩ := HCO.out (rd b n) (by unfold rd; exact getD_mem (by omega))
      obtain ⟨kn, ekn⟩ : ∃ kn, kn = rd b n := ⟨_, rfl⟩
      rw [← ekn] at hcell hc1
      obtain ⟨kc, qc⟩ := hc1.rounds
      have PC := aMs qc
      have HC2 := aMs hc2
      have HC3 := aMs hc3
      have q0 := eq_true h0
      have q1 := eq_true hlt
      have HLT := aMs hlt
      clear h0 hlt ekn hc1 hc2 hc3 qc
      have EAD := aMs eA
      clear eA
      have hA := EAD.out
      clear hA
      have eA := EAD.out
      subst eA
      go_wp2_with fail
      refine (impl_ConeOf.calls kc A_a c_a a kn cone true wr Ca_r.out Ea_0.out PC.out).mono ?_
      rintro e w15 ⟨v_, rfl, ho, hb⟩
      obtain ⟨A_cow15, c_cow15, rfl⟩ := Kd.R_slice ho
      have Cco_w15 := aMs (Kd.R_reads' ho).2.2
      have Eco_w15 := aMs (Kd.R_reads' ho).2.1
      clear ho hcell
      have Bw15 := aMs (below_step B_r.out hb)
      have Cs1_w15 := aMs (Kd.C_below Cs1_r.out hb)
      clear Cs1_r
      have Ca_w15 := aMs (Kd.C_below Ca_r.out hb)
      clear Ca_r
      have Cls_w15 := aMs (Kd.C_below Cls_r.out hb)
      clear Cls_r
      have Cbs_w15 := aMs (Kd.C_below Cbs_r.out hb)
      clear Cbs_r B_r hb
      go_wp2_with fail
      refine (in_calls A_cow15 c_cow15 cone i w15 Cco_w15.out Eco_w15.out (maxLen_val (by have := HC3.out; omega)) HC2.out).mono ?_
      rintro e w16 ⟨rfl, hb⟩
      have Bw16 := aMs (below_step Bw15.out hb)
      have Cs1_w16 := aMs (Kd.C_below Cs1_w15.out hb)
      clear Cs1_w15
      have Ca_w16 := aMs (Kd.C_below Ca_w15.out hb)
      clear Ca_w15
      have Cls_w16 := aMs (Kd.C_below Cls_w15.out hb)
      clear Cls_w15
      have Cbs_w16 := aMs (Kd.C_below Cbs_w15.out hb)
      clear Cbs_w15
      have Cco_w16 := aMs (Kd.C_below Cco_w15.out hb)
      clear Cco_w15 Bw15 hb
      by_cases hn : 12 < n
      ·have hn_ : decide (12 < n) = true := decide_eq_true hn
       go_wp2_with fail
       go_meet
       case rel => exact ⟨Cs1_w16, Ca_w16, Cls_w16, Bw16⟩
      ·have hn_ : decide (12 < n) = false := decide_eq_false hn
       go_wp2_with fail
       go_roundg d
       case measure => omega
       case rel => exact ⟨n + 1, by rw [w64 (by have := HN.out.1; omega) (by have := HN.out; have := LB.out; omega)], ⟨by have := HN.out; omega⟩, Cs1_w16, Ca_w16, Cls_w16, Cbs_w16, Bw16⟩
   case rest =>
    obtain ⟨Cs1_m, Ca_m, Cls_m, B_m⟩ := hcut
    go_wp2_with fail
    refine (impl_ReducedArcs.calls kf4 A_a c_a a red true wc Ca_m.out Ea_0.out Pf4.out).mono ?_
    rintro e w17 ⟨v_, rfl, ho, hb⟩
    obtain ⟨A_riw17, c_riw17, rfl⟩ := Kd.S_slice ho
    have Cri_w17 := aMs (readsS' ho).2
    have Eri_w17 := aMs (readsS' ho).1
    clear ho
    have Bw17 := aMs (below_step B_m.out hb)
    have Cs1_w17 := aMs (Kd.C_below Cs1_m.out hb)
    clear Cs1_m
    have Ca_w17 := aMs (Kd.C_below Ca_m.out hb)
    clear Ca_m
    have Cls_w17 := aMs (Kd.C_below Cls_m.out hb)
    clear Cls_m B_m hb
    go_wp2_with fail
    refine (spec_ReducedArcs.calls kf5 A_a c_a a red true w17 Ca_w17.out Ea_0.out Pf5.out).mono ?_
    rintro e w18 ⟨v_, rfl, ho, hb⟩
    obtain ⟨A_rsw18, c_rsw18, rfl⟩ := Kd.S_slice ho
    have Crs_w18 := aMs (readsS' ho).2
    have Ers_w18 := aMs (readsS' ho).1
    clear ho
    have Bw18 := aMs (below_step Bw17.out hb)
    have Cs1_w18 := aMs (Kd.C_below Cs1_w17.out hb)
    clear Cs1_w17
    have Ca_w18 := aMs (Kd.C_below Ca_w17.out hb)
    clear Ca_w17
    have Cls_w18 := aMs (Kd.C_below Cls_w17.out hb)
    clear Cls_w17
    have Cri_w18 := aMs (Kd.C_below Cri_w17.out hb)
    clear Cri_w17 Bw17 hb
    go_wp2_with fail
    refine (impl_ConeOf.calls kf6 A_rsw18 c_rsw18 red i l true w18 Crs_w18.out Ers_w18.out Pf6.out).mono ?_
    rintro e w19 ⟨v_, rfl, ho, hb⟩
    obtain ⟨A_cew19, c_cew19, rfl⟩ := Kd.R_slice ho
    have Cce_w19 := aMs (Kd.R_reads' ho).2.2
    have Ece_w19 := aMs (Kd.R_reads' ho).2.1
    clear ho
    have Bw19 := aMs (below_step Bw18.out hb)
    have Cs1_w19 := aMs (Kd.C_below Cs1_w18.out hb)
    clear Cs1_w18
    have Ca_w19 := aMs (Kd.C_below Ca_w18.out hb)
    clear Ca_w18
    have Cls_w19 := aMs (Kd.C_below Cls_w18.out hb)
    clear Cls_w18
    have Cri_w19 := aMs (Kd.C_below Cri_w18.out hb)
    clear Cri_w18
    have Crs_w19 := aMs (Kd.C_below Crs_w18.out hb)
    clear Crs_w18 Bw18 hb
    go_wp2_with fail
    refine (laws_sameLists.calls kf7 A_riw17 c_riw17 red A_rsw18 c_rsw18 red true w19 Cri_w19.out Eri_w17.out Crs_w19.out Ers_w18.out Pf7.out).mono ?_
    rintro e w20 ⟨rfl, hd⟩
    have hb := drawn_below' hd
    clear hd
    have Bw20 := aMs (below_step Bw19.out hb)
    have Cs1_w20 := aMs (Kd.C_below Cs1_w19.out hb)
    clear Cs1_w19
    have Ca_w20 := aMs (Kd.C_below Ca_w19.out hb)
    clear Ca_w19
    have Cls_w20 := aMs (Kd.C_below Cls_w19.out hb)
    clear Cls_w19
    have Cri_w20 := aMs (Kd.C_below Cri_w19.out hb)
    clear Cri_w19
    have Crs_w20 := aMs (Kd.C_below Crs_w19.out hb)
    clear Crs_w19
    have Cce_w20 := aMs (Kd.C_below Cce_w19.out hb)
    clear Cce_w19 Bw19 hb
    go_wp2_with fail
    refine (same_calls A_cew19 A_lsw4 c_cew19 c_lsw4 l w20 Cce_w20.out Ece_w19.out Cls_w20.out Els_w4.out (maxLen_val (by have := LL.out; omega))).mono ?_
    rintro e w21 ⟨rfl, hb⟩
    have Bw21 := aMs (below_step Bw20.out hb)
    have Cs1_w21 := aMs (Kd.C_below Cs1_w20.out hb)
    clear Cs1_w20
    have Ca_w21 := aMs (Kd.C_below Ca_w20.out hb)
    clear Ca_w20
    have Cls_w21 := aMs (Kd.C_below Cls_w20.out hb)
    clear Cls_w20
    have Cri_w21 := aMs (Kd.C_below Cri_w20.out hb)
    clear Cri_w20
    have Crs_w21 := aMs (Kd.C_below Crs_w20.out hb)
    clear Crs_w20
    have Cce_w21 := aMs (Kd.C_below Cce_w20.out hb)
    clear Cce_w20 Bw20 hb
    go_wp2
    go_meet
    case rel => exact ⟨Cs1_w21, Bw21⟩
 case rest =>
  obtain ⟨Cs1_c, B_c⟩ := hcut
  go_wp2_with fail
  refine (DR.out A1 c1 wc Cs1_c.out E1.out).mono ?_
  rintro e w22 ⟨A_t, c_t, rfl, ⟨hC, hE⟩, hb⟩
  have Ct_0 := aMs hC
  have Et_0 := aMs hE
  clear hC hE
  have Bw22 := aMs (below_step B_c.out hb)
  have Cs1_w22 := aMs (Kd.C_below Cs1_c.out hb)
  clear Cs1_c B_c hb
  go_wp2_with fail
  refine (impl_ReducedArcs.calls kp7 A_t c_t t r three w22 Ct_0.out Et_0.out Pp7.out).mono ?_
  rintro e w23 ⟨v_, rfl, ho, hb⟩
  obtain ⟨A_riw23, c_riw23, rfl⟩ := Kd.S_slice ho
  have Cri_w23 := aMs (readsS' ho).2
  have Eri_w23 := aMs (readsS' ho).1
  clear ho
  have Bw23 := aMs (below_step Bw22.out hb)
  have Cs1_w23 := aMs (Kd.C_below Cs1_w22.out hb)
  clear Cs1_w22
  have Ct_w23 := aMs (Kd.C_below Ct_0.out hb)
  clear Ct_0 Bw22 hb
  go_wp2_with fail
  refine (spec_ReducedArcs.calls kp8 A_t c_t t r three w23 Ct_w23.out Et_0.out Pp8.out).mono ?_
  rintro e w24 ⟨v_, rfl, ho, hb⟩
  obtain ⟨A_rsw24, c_rsw24, rfl⟩ := Kd.S_slice ho
  have Crs_w24 := aMs (readsS' ho).2
  have Ers_w24 := aMs (readsS' ho).1
  clear ho
  have Bw24 := aMs (below_step Bw23.out hb)
  have Cs1_w24 := aMs (Kd.C_below Cs1_w23.out hb)
  clear Cs1_w23
  have Ct_w24 := aMs (Kd.C_below Ct_w23.out hb)
  clear Ct_w23
  have Cri_w24 := aMs (Kd.C_below Cri_w23.out hb)
  clear Cri_w23 Bw23 hb
  go_wp2_with fail
  refine (DV.out A1 c1 w24 Cs1_w24.out E1.out).mono ?_
  rintro e w25 ⟨A_v, c_v, A_u, c_u, rfl, ⟨hC, hE⟩, ⟨hC', hE'⟩, hb⟩
  have Cv_0 := aMs hC
  have Ev_0 := aMs hE
  clear hC hE
  have Cu_0 := aMs hC'
  have Eu_0 := aMs hE'
  clear hC' hE'
  have Bw25 := aMs (below_step Bw24.out hb)
  have Cri_w25 := aMs (Kd.C_below Cri_w24.out hb)
  clear Cri_w24
  have Crs_w25 := aMs (Kd.C_below Crs_w24.out hb)
  clear Crs_w24 Bw24 hb
  go_wp2_with fail
  refine (impl_ValueOf.calls kp9 A_v c_v v A_u c_u u sm five w25 Cv_0.out Ev_0.out Cu_0.out Eu_0.out Pp9.out).mono ?_
  rintro e w26 ⟨rfl, hd⟩
  have hb := drawn_below' hd
  clear hd
  have Bw26 := aMs (below_step Bw25.out hb)
  have Cri_w26 := aMs (Kd.C_below Cri_w25.out hb)
  clear Cri_w25
  have Crs_w26 := aMs (Kd.C_below Crs_w25.out hb)
  clear Crs_w25
  have Cv_w26 := aMs (Kd.C_below Cv_0.out hb)
  clear Cv_0
  have Cu_w26 := aMs (Kd.C_below Cu_0.out hb)
  clear Cu_0 Bw25 hb
  go_wp2_with fail
  refine (spec_ValueOf.calls kp10 A_v c_v v A_u c_u u sm five w26 Cv_w26.out Ev_0.out Cu_w26.out Eu_0.out Pp10.out).mono ?_
  rintro e w27 ⟨rfl, hd⟩
  have hb := drawn_below' hd
  clear hd
  have Bw27 := aMs (below_step Bw26.out hb)
  have Cri_w27 := aMs (Kd.C_below Cri_w26.out hb)
  clear Cri_w26
  have Crs_w27 := aMs (Kd.C_below Crs_w26.out hb)
  clear Crs_w26
  have Cv_w27 := aMs (Kd.C_below Cv_w26.out hb)
  clear Cv_w26
  have Cu_w27 := aMs (Kd.C_below Cu_w26.out hb)
  clear Cu_w26 Bw26 hb
  have hv1 : (three == three) = true := by simp
  have hv2 : (five == five) = true := by simp
  have hv3 : (sm == sm) = true := by simp
  go_wp2_with fail
  refine (laws_sameLists.calls khsl A_riw23 c_riw23 r A_rsw24 c_rsw24 r true w27 Cri_w27.out Eri_w23.out Crs_w27.out Ers_w24.out Phsl.out).mono ?_
  rintro e w28 ⟨rfl, hd⟩
  have hb := drawn_below' hd
  clear hd
  have Bw28 := aMs (below_step Bw27.out hb)
  have Cri_w28 := aMs (Kd.C_below Cri_w27.out hb)
  clear Cri_w27
  have Crs_w28 := aMs (Kd.C_below Crs_w27.out hb)
  clear Crs_w27
  have Cv_w28 := aMs (Kd.C_below Cv_w27.out hb)
  clear Cv_w27
  have Cu_w28 := aMs (Kd.C_below Cu_w27.out hb)
  clear Cu_w27 Bw27 hb
  go_wp2_with fail
  go_ret
  exact ⟨rfl, Bw28.out⟩
theorem law (a0 a1 : List Int) (ha0 : a0.length ≤ maxLen) (sa0 : a0.length * 1 ≤ 140737488351232) (ga0 : ∀ x ∈ a0, (Lit.int .u8 x).wf = true) (ha1 : a1.length ≤ maxLen) (sa1 : a1.length * 1 ≤ 140737488351232) (ga1 : ∀ x ∈ a1, (Lit.int .u8 x).wf = true)
  (A0 : Option Addr) (c0 : Nat) (A1 : Option Addr) (c1 : Nat) (w : World) (h0 : Kd.C (Kd.int .u8) w A0 a0.length a0) (e0 : a0.length ≤ c0) (h1 : Kd.C (Kd.int .u8) w A1 a1.length a1) (e1 : a1.length ≤ c1) :
  Calls Try.prog 4 #[.slice A0 a0.length c0, .slice A1 a1.length c1] w fun e w' => e = .returned (.bool true) ∧ Below w.heap.size w w' := by
 by_cases hs : a0.length + a1.length ≤ 1048576
 ·exact walk a0 a1 ⟨fun x hx => u8_wf (ga0 x hx), by omega⟩ ⟨fun x hx => u8_wf (ga1 x hx), by omega⟩ hs A0 c0 A1 c1 w h0 e0 h1 e1
 ·exact walk_big a0 a1 ha0 ha1 hs A0 c0 A1 c1 w h0 e0 h1 e1
end Go.Proofs.Ytbhlffakpneecaa.WalkFnCones
