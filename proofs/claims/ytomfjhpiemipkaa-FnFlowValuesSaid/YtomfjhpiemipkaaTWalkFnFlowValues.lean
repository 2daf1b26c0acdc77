/- The law FnFlowValues, walked by hand over its callees' contracts: for all bytes it returns true. -/
import Derived.Test.YtomfjhpiemipkaaTFlowLaw
import Derived.Test.YtomfjhpiemipkaaTDrawNetJ
namespace Go.Proofs.Ytomfjhpiemipkaa.WalkFnFlowValues
open Go.RowKit Go.Proofs.Ytomfjhpiemipkaa.PFnFlowValues Go.Proofs.YtomfjhpiemipkaaW.PrintWords Go.Proofs.YtomfjhpiemipkaaW.PrintLast Go.Proofs.YtomfjhpiemipkaaW.PrintMore Go.Proofs.Ytomfjhpiemipkaa.B Go.Proofs.Ytomfjhpiemipkaa.FlowLaw Go.Proofs.Ytomfjhpiemipkaa.DrawFlow Go.Proofs.Ytomfjhpiemipkaa.DrawNet
set_option linter.unusedVariables false
set_option linter.unusedSimpArgs false
theorem u8_wf {x : Int} (h : (Lit.int .u8 x).wf = true) : 0 ≤ x ∧ x < 256 := by
  have e0 : IntKind.u8.min = 0 := rfl
  have e1 : IntKind.u8.max = 255 := rfl
  simp only [Lit.wf, Bool.and_eq_true, decide_eq_true_eq, e0, e1] at h
  omega
set_option maxRecDepth 100000 in
theorem walk_big (s0 s1 : List Int) (q0 : s0.length ≤ maxLen) (q1 : s1.length ≤ maxLen) (hs : ¬ s0.length + s1.length ≤ 1048576) (m0 : s0.length * 1 ≤ 140737488351232) (m1 : s1.length * 1 ≤ 140737488351232) (A0 : Option Addr) (c0 : Nat) (A1 : Option Addr) (c1 : Nat) (w : World) :
    Calls Try.prog 12 #[.slice A0 s0.length c0, .slice A1 s1.length c1] w fun e w' => e = .returned (.bool true) ∧ Below w.heap.size w w' := by
  have hw : wrap64 ((s0.length : Int) + (s1.length : Int)) = (s0.length : Int) + (s1.length : Int) := w64 (by omega) (by omega)
  have t1 : decide (1048576 < (s0.length : Int) + (s1.length : Int)) = true := decide_eq_true (by omega)
  clear hs m0 m1 q0 q1
  go_enter Try.func12, Try.ntmps12
  go_wp2_with fail
  go_ret
  exact ⟨rfl, Below.refl _ _⟩
set_option maxHeartbeats 16000000 in
set_option maxRecDepth 100000 in
theorem walk (s0 s1 : List Int) (hs0 : Bytes s0) (hs1 : Bytes s1) (hs : s0.length + s1.length ≤ 1048576) (A0 : Option Addr) (c0 : Nat) (A1 : Option Addr) (c1 : Nat) (w : World) (h0 : Kd.C (Kd.int .u8) w A0 s0.length s0) (e0 : s0.length ≤ c0) (h1 : Kd.C (Kd.int .u8) w A1 s1.length s1) (e1 : s1.length ≤ c1) :
    Calls Try.prog 12 #[.slice A0 s0.length c0, .slice A1 s1.length c1] w fun e w' => e = .returned (.bool true) ∧ Below w.heap.size w w' := by
  have hw : wrap64 ((s0.length : Int) + (s1.length : Int)) = (s0.length : Int) + (s1.length : Int) := w64 (by omega) (by omega)
  have t1 : decide (1048576 < (s0.length : Int) + (s1.length : Int)) = false := decide_eq_false (by omega)
  obtain ⟨n, l, ⟨hn, hl⟩, dg⟩ := drawGF s0 hs0
  obtain ⟨x, e, ⟨hx, he⟩, df⟩ := drawIF s1 hs1
  obtain ⟨v, ok, least, most, t, hG, hL, hM, hT, hI, hlen, hF⟩ := flow_law n l hn hl
  obtain ⟨kts, hkts⟩ := hT.1.rounds
  obtain ⟨kti, hkti⟩ := hT.2.rounds
  obtain ⟨kns, hkns⟩ := hI.1.rounds
  obtain ⟨kni, hkni⟩ := hI.2.rounds
  have HG := Aside0.mk hG
  have HL := Aside0.mk hL
  have HM := Aside0.mk hM
  have HTS := Aside0.mk hkts
  have HTI := Aside0.mk hkti
  have HNS := Aside0.mk hkns
  have HNI := Aside0.mk hkni
  have HLEN := Aside0.mk hlen
  have HF := Aside0.mk hF
  have HLl := Aside0.mk hl
  have HLe := Aside0.mk (And.intro hx he)
  have DG := Aside0.mk dg
  have DF := Aside0.mk df
  have H0 := Aside0.mk h0
  have E0 := Aside0.mk e0
  have H1 := Aside0.mk h1
  have E1 := Aside0.mk e1
  clear hG hL hM hT hI hkts hkti hkns hkni hlen hF hl hx he dg df h0 e0 h1 e1 hs hs0 hs1 hn
  go_enter Try.func12, Try.ntmps12
  go_wp2_with fail
  refine (DG.out A0 c0 w H0.out E0.out).mono ?_
  rintro e w1 ⟨A_l, c_l, rfl, hC, hE, hb⟩
  clear hw t1
  have Cl_0 := Aside0.mk hC
  have El_0 := Aside0.mk hE
  clear hC hE
  have Bw1 := Aside0.mk hb
  have Cs1_w1 := Aside0.mk (Kd.C_below H1.out hb)
  clear H1
  clear hb
  go_wp2_with fail
  refine (OwnGreatestFlow.own_impl n A_l c_l l v ok w1 Cl_0.out El_0.out (by have := HLl.out; omega) HG.out.2).mono ?_
  rintro e w2 ⟨rfl, hb⟩
  have Bw2 := Aside0.mk (below_step Bw1.out hb)
  have Cs1_w2 := Aside0.mk (Kd.C_below Cs1_w1.out hb)
  clear Cs1_w1
  have Cl_w2 := Aside0.mk (Kd.C_below Cl_0.out hb)
  clear Cl_0
  clear Bw1
  clear hb
  go_wp2_with fail
  refine (OwnGreatestFlow.own_spec n A_l c_l l v ok w2 Cl_w2.out El_0.out (by have := HLl.out; omega) HG.out.1).mono ?_
  rintro e w3 ⟨rfl, hb⟩
  have Bw3 := Aside0.mk (below_step Bw2.out hb)
  have Cs1_w3 := Aside0.mk (Kd.C_below Cs1_w2.out hb)
  clear Cs1_w2
  have Cl_w3 := Aside0.mk (Kd.C_below Cl_w2.out hb)
  clear Cl_w2
  clear Bw2
  clear hb
  go_wp2_with fail
  refine (OwnLeastCut.own_impl n A_l c_l l least ok w3 Cl_w3.out El_0.out (by have := HLl.out; omega) HL.out.2).mono ?_
  rintro e w4 ⟨v_, rfl, ho, hb⟩
  obtain ⟨A_leastiw4, c_leastiw4, rfl⟩ := Kd.R_slice ho
  have Cleasti_w4 := Aside0.mk (Kd.R_reads' ho).2.2
  have Eleasti_w4 := Aside0.mk (Kd.R_reads' ho).2.1
  clear ho
  have Bw4 := Aside0.mk (below_step Bw3.out hb)
  have Cs1_w4 := Aside0.mk (Kd.C_below Cs1_w3.out hb)
  clear Cs1_w3
  have Cl_w4 := Aside0.mk (Kd.C_below Cl_w3.out hb)
  clear Cl_w3
  clear Bw3
  clear hb
  go_wp2_with fail
  refine (OwnLeastCut.own_spec n A_l c_l l least ok w4 Cl_w4.out El_0.out (by have := HLl.out; omega) HL.out.1).mono ?_
  rintro e w5 ⟨v_, rfl, ho, hb⟩
  obtain ⟨A_leastsw5, c_leastsw5, rfl⟩ := Kd.R_slice ho
  have Cleasts_w5 := Aside0.mk (Kd.R_reads' ho).2.2
  have Eleasts_w5 := Aside0.mk (Kd.R_reads' ho).2.1
  clear ho
  have Bw5 := Aside0.mk (below_step Bw4.out hb)
  have Cs1_w5 := Aside0.mk (Kd.C_below Cs1_w4.out hb)
  clear Cs1_w4
  have Cl_w5 := Aside0.mk (Kd.C_below Cl_w4.out hb)
  clear Cl_w4
  have Cleasti_w5 := Aside0.mk (Kd.C_below Cleasti_w4.out hb)
  clear Cleasti_w4
  clear Bw4
  clear hb
  go_wp2_with fail
  refine (OwnGreatestCut.own_impl n A_l c_l l most ok w5 Cl_w5.out El_0.out (by have := HLl.out; omega) HM.out.2).mono ?_
  rintro e w6 ⟨v_, rfl, ho, hb⟩
  obtain ⟨A_mostiw6, c_mostiw6, rfl⟩ := Kd.R_slice ho
  have Cmosti_w6 := Aside0.mk (Kd.R_reads' ho).2.2
  have Emosti_w6 := Aside0.mk (Kd.R_reads' ho).2.1
  clear ho
  have Bw6 := Aside0.mk (below_step Bw5.out hb)
  have Cs1_w6 := Aside0.mk (Kd.C_below Cs1_w5.out hb)
  clear Cs1_w5
  have Cl_w6 := Aside0.mk (Kd.C_below Cl_w5.out hb)
  clear Cl_w5
  have Cleasti_w6 := Aside0.mk (Kd.C_below Cleasti_w5.out hb)
  clear Cleasti_w5
  have Cleasts_w6 := Aside0.mk (Kd.C_below Cleasts_w5.out hb)
  clear Cleasts_w5
  clear Bw5
  clear hb
  go_wp2_with fail
  refine (OwnGreatestCut.own_spec n A_l c_l l most ok w6 Cl_w6.out El_0.out (by have := HLl.out; omega) HM.out.1).mono ?_
  rintro e w7 ⟨v_, rfl, ho, hb⟩
  obtain ⟨A_mostsw7, c_mostsw7, rfl⟩ := Kd.R_slice ho
  have Cmosts_w7 := Aside0.mk (Kd.R_reads' ho).2.2
  have Emosts_w7 := Aside0.mk (Kd.R_reads' ho).2.1
  clear ho
  have Bw7 := Aside0.mk (below_step Bw6.out hb)
  have Cs1_w7 := Aside0.mk (Kd.C_below Cs1_w6.out hb)
  clear Cs1_w6
  have Cl_w7 := Aside0.mk (Kd.C_below Cl_w6.out hb)
  clear Cl_w6
  have Cleasti_w7 := Aside0.mk (Kd.C_below Cleasti_w6.out hb)
  clear Cleasti_w6
  have Cleasts_w7 := Aside0.mk (Kd.C_below Cleasts_w6.out hb)
  clear Cleasts_w6
  have Cmosti_w7 := Aside0.mk (Kd.C_below Cmosti_w6.out hb)
  clear Cmosti_w6
  clear Bw6
  clear hb
  go_wp2_with fail
  refine (impl_TurnNetwork.calls kti n A_l c_l l t ok w7 Cl_w7.out El_0.out HTI.out).mono ?_
  rintro e w8 ⟨v_, rfl, ho, hb⟩
  obtain ⟨A_tiw8, c_tiw8, rfl⟩ := Kd.R_slice ho
  have Cti_w8 := Aside0.mk (Kd.R_reads' ho).2.2
  have Eti_w8 := Aside0.mk (Kd.R_reads' ho).2.1
  clear ho
  have Bw8 := Aside0.mk (below_step Bw7.out hb)
  have Cs1_w8 := Aside0.mk (Kd.C_below Cs1_w7.out hb)
  clear Cs1_w7
  have Cl_w8 := Aside0.mk (Kd.C_below Cl_w7.out hb)
  clear Cl_w7
  have Cleasti_w8 := Aside0.mk (Kd.C_below Cleasti_w7.out hb)
  clear Cleasti_w7
  have Cleasts_w8 := Aside0.mk (Kd.C_below Cleasts_w7.out hb)
  clear Cleasts_w7
  have Cmosti_w8 := Aside0.mk (Kd.C_below Cmosti_w7.out hb)
  clear Cmosti_w7
  have Cmosts_w8 := Aside0.mk (Kd.C_below Cmosts_w7.out hb)
  clear Cmosts_w7
  clear Bw7
  clear hb
  go_wp2_with fail
  refine (spec_TurnNetwork.calls kts n A_l c_l l t ok w8 Cl_w8.out El_0.out HTS.out).mono ?_
  rintro e w9 ⟨v_, rfl, ho, hb⟩
  obtain ⟨A_tsw9, c_tsw9, rfl⟩ := Kd.R_slice ho
  have Cts_w9 := Aside0.mk (Kd.R_reads' ho).2.2
  have Ets_w9 := Aside0.mk (Kd.R_reads' ho).2.1
  clear ho
  have Bw9 := Aside0.mk (below_step Bw8.out hb)
  have Cs1_w9 := Aside0.mk (Kd.C_below Cs1_w8.out hb)
  clear Cs1_w8
  have Cl_w9 := Aside0.mk (Kd.C_below Cl_w8.out hb)
  clear Cl_w8
  have Cleasti_w9 := Aside0.mk (Kd.C_below Cleasti_w8.out hb)
  clear Cleasti_w8
  have Cleasts_w9 := Aside0.mk (Kd.C_below Cleasts_w8.out hb)
  clear Cleasts_w8
  have Cmosti_w9 := Aside0.mk (Kd.C_below Cmosti_w8.out hb)
  clear Cmosti_w8
  have Cmosts_w9 := Aside0.mk (Kd.C_below Cmosts_w8.out hb)
  clear Cmosts_w8
  have Cti_w9 := Aside0.mk (Kd.C_below Cti_w8.out hb)
  clear Cti_w8
  clear Bw8
  clear hb
  go_wp2_with fail
  refine (DF.out A1 c1 w9 Cs1_w9.out E1.out).mono ?_
  rintro e w10 ⟨fs, A_e, c_e, A_s, c_s, rfl, hns, ⟨hC, hE⟩, ⟨hC', hE'⟩, hb⟩
  have Ce_0 := Aside0.mk hC
  have Ee_0 := Aside0.mk hE
  have Cfs_0 := Aside0.mk hC'
  have Efs_0 := Aside0.mk hE'
  have HFS := Aside0.mk hns
  clear hC hE hC' hE' hns
  have Bw10 := Aside0.mk (below_step Bw9.out hb)
  have Cl_w10 := Aside0.mk (Kd.C_below Cl_w9.out hb)
  clear Cl_w9
  have Cleasti_w10 := Aside0.mk (Kd.C_below Cleasti_w9.out hb)
  clear Cleasti_w9
  have Cleasts_w10 := Aside0.mk (Kd.C_below Cleasts_w9.out hb)
  clear Cleasts_w9
  have Cmosti_w10 := Aside0.mk (Kd.C_below Cmosti_w9.out hb)
  clear Cmosti_w9
  have Cmosts_w10 := Aside0.mk (Kd.C_below Cmosts_w9.out hb)
  clear Cmosts_w9
  have Cti_w10 := Aside0.mk (Kd.C_below Cti_w9.out hb)
  clear Cti_w9
  have Cts_w10 := Aside0.mk (Kd.C_below Cts_w9.out hb)
  clear Cts_w9
  clear Bw9
  clear hb
  obtain ⟨was, seven, nine, val, hI, hV, hnine, htop⟩ := value_law x e fs HLe.out.1
  have HI := Aside0.mk hI
  have HV := Aside0.mk hV
  have HNINE := Aside0.mk hnine
  have HTOP := Aside0.mk htop
  clear hI hV hnine htop
  go_wp2_with fail
  refine (OwnIsFlow.own_impl x A_e c_e e A_s c_s fs was seven w10 Ce_0.out Ee_0.out Cfs_0.out Efs_0.out (by have := HLe.out; omega) (by have := HFS.out; omega) HI.out.2).mono ?_
  rintro e w11 ⟨rfl, hb⟩
  have Bw11 := Aside0.mk (below_step Bw10.out hb)
  have Cl_w11 := Aside0.mk (Kd.C_below Cl_w10.out hb)
  clear Cl_w10
  have Cleasti_w11 := Aside0.mk (Kd.C_below Cleasti_w10.out hb)
  clear Cleasti_w10
  have Cleasts_w11 := Aside0.mk (Kd.C_below Cleasts_w10.out hb)
  clear Cleasts_w10
  have Cmosti_w11 := Aside0.mk (Kd.C_below Cmosti_w10.out hb)
  clear Cmosti_w10
  have Cmosts_w11 := Aside0.mk (Kd.C_below Cmosts_w10.out hb)
  clear Cmosts_w10
  have Cti_w11 := Aside0.mk (Kd.C_below Cti_w10.out hb)
  clear Cti_w10
  have Cts_w11 := Aside0.mk (Kd.C_below Cts_w10.out hb)
  clear Cts_w10
  have Ce_w11 := Aside0.mk (Kd.C_below Ce_0.out hb)
  clear Ce_0
  have Cfs_w11 := Aside0.mk (Kd.C_below Cfs_0.out hb)
  clear Cfs_0
  clear Bw10
  clear hb
  go_wp2_with fail
  refine (OwnIsFlow.own_spec x A_e c_e e A_s c_s fs was seven w11 Ce_w11.out Ee_0.out Cfs_w11.out Efs_0.out (by have := HLe.out; omega) (by have := HFS.out; omega) HI.out.1).mono ?_
  rintro e w12 ⟨rfl, hb⟩
  have Bw12 := Aside0.mk (below_step Bw11.out hb)
  have Cl_w12 := Aside0.mk (Kd.C_below Cl_w11.out hb)
  clear Cl_w11
  have Cleasti_w12 := Aside0.mk (Kd.C_below Cleasti_w11.out hb)
  clear Cleasti_w11
  have Cleasts_w12 := Aside0.mk (Kd.C_below Cleasts_w11.out hb)
  clear Cleasts_w11
  have Cmosti_w12 := Aside0.mk (Kd.C_below Cmosti_w11.out hb)
  clear Cmosti_w11
  have Cmosts_w12 := Aside0.mk (Kd.C_below Cmosts_w11.out hb)
  clear Cmosts_w11
  have Cti_w12 := Aside0.mk (Kd.C_below Cti_w11.out hb)
  clear Cti_w11
  have Cts_w12 := Aside0.mk (Kd.C_below Cts_w11.out hb)
  clear Cts_w11
  have Ce_w12 := Aside0.mk (Kd.C_below Ce_w11.out hb)
  clear Ce_w11
  have Cfs_w12 := Aside0.mk (Kd.C_below Cfs_w11.out hb)
  clear Cfs_w11
  clear Bw11
  clear hb
  go_wp2_with fail
  refine (OwnFlowValue.own_impl x A_e c_e e A_s c_s fs val nine w12 Ce_w12.out Ee_0.out Cfs_w12.out Efs_0.out (by have := HLe.out; omega) (by have := HFS.out; omega) HV.out.2).mono ?_
  rintro e w13 ⟨rfl, hb⟩
  have Bw13 := Aside0.mk (below_step Bw12.out hb)
  have Cl_w13 := Aside0.mk (Kd.C_below Cl_w12.out hb)
  clear Cl_w12
  have Cleasti_w13 := Aside0.mk (Kd.C_below Cleasti_w12.out hb)
  clear Cleasti_w12
  have Cleasts_w13 := Aside0.mk (Kd.C_below Cleasts_w12.out hb)
  clear Cleasts_w12
  have Cmosti_w13 := Aside0.mk (Kd.C_below Cmosti_w12.out hb)
  clear Cmosti_w12
  have Cmosts_w13 := Aside0.mk (Kd.C_below Cmosts_w12.out hb)
  clear Cmosts_w12
  have Cti_w13 := Aside0.mk (Kd.C_below Cti_w12.out hb)
  clear Cti_w12
  have Cts_w13 := Aside0.mk (Kd.C_below Cts_w12.out hb)
  clear Cts_w12
  have Ce_w13 := Aside0.mk (Kd.C_below Ce_w12.out hb)
  clear Ce_w12
  have Cfs_w13 := Aside0.mk (Kd.C_below Cfs_w12.out hb)
  clear Cfs_w12
  clear Bw12
  clear hb
  go_wp2_with fail
  refine (OwnFlowValue.own_spec x A_e c_e e A_s c_s fs val nine w13 Ce_w13.out Ee_0.out Cfs_w13.out Efs_0.out (by have := HLe.out; omega) (by have := HFS.out; omega) HV.out.1).mono ?_
  rintro e w14 ⟨rfl, hb⟩
  have Bw14 := Aside0.mk (below_step Bw13.out hb)
  have Cl_w14 := Aside0.mk (Kd.C_below Cl_w13.out hb)
  clear Cl_w13
  have Cleasti_w14 := Aside0.mk (Kd.C_below Cleasti_w13.out hb)
  clear Cleasti_w13
  have Cleasts_w14 := Aside0.mk (Kd.C_below Cleasts_w13.out hb)
  clear Cleasts_w13
  have Cmosti_w14 := Aside0.mk (Kd.C_below Cmosti_w13.out hb)
  clear Cmosti_w13
  have Cmosts_w14 := Aside0.mk (Kd.C_below Cmosts_w13.out hb)
  clear Cmosts_w13
  have Cti_w14 := Aside0.mk (Kd.C_below Cti_w13.out hb)
  clear Cti_w13
  have Cts_w14 := Aside0.mk (Kd.C_below Cts_w13.out hb)
  clear Cts_w13
  have Ce_w14 := Aside0.mk (Kd.C_below Ce_w13.out hb)
  clear Ce_w13
  have Cfs_w14 := Aside0.mk (Kd.C_below Cfs_w13.out hb)
  clear Cfs_w13
  clear Bw13
  clear hb
  go_upto_region 17 with fail
  go_cut [214] (fun v214 wc => v214 = .bool false ∧ Aside0 (Kd.C k99 wc A_l l.length l) ∧ Aside0 (Kd.C (Kd.int .i64) wc A_leastiw4 least.length least) ∧ Aside0 (Kd.C (Kd.int .i64) wc A_leastsw5 least.length least) ∧ Aside0 (Kd.C (Kd.int .i64) wc A_mostiw6 most.length most) ∧ Aside0 (Kd.C (Kd.int .i64) wc A_mostsw7 most.length most) ∧ Aside0 (Kd.C k99 wc A_tiw8 t.length t) ∧ Aside0 (Kd.C k99 wc A_tsw9 t.length t) ∧ Aside0 (Kd.C k99 wc A_e e.length e) ∧ Aside0 (Below w.heap.size w wc))
  case first =>
    as_aux_lemma =>
      have hv : (v != v) = false := by simp
      have hv2 : (val != val) = false := by simp
      go_wp2_with fail
      refine (ints_calls least (maxLen_val (by have := HLEN.out; omega)) A_leastiw4 c_leastiw4 A_leastsw5 c_leastsw5 w14 Cleasti_w14.out Eleasti_w4.out Cleasts_w14.out Eleasts_w5.out).mono ?_
      rintro e w15 ⟨rfl, hb⟩
      have Bw15 := Aside0.mk (below_step Bw14.out hb)
      have Cl_w15 := Aside0.mk (Kd.C_below Cl_w14.out hb)
      clear Cl_w14
      have Cleasti_w15 := Aside0.mk (Kd.C_below Cleasti_w14.out hb)
      clear Cleasti_w14
      have Cleasts_w15 := Aside0.mk (Kd.C_below Cleasts_w14.out hb)
      clear Cleasts_w14
      have Cmosti_w15 := Aside0.mk (Kd.C_below Cmosti_w14.out hb)
      clear Cmosti_w14
      have Cmosts_w15 := Aside0.mk (Kd.C_below Cmosts_w14.out hb)
      clear Cmosts_w14
      have Cti_w15 := Aside0.mk (Kd.C_below Cti_w14.out hb)
      clear Cti_w14
      have Cts_w15 := Aside0.mk (Kd.C_below Cts_w14.out hb)
      clear Cts_w14
      have Ce_w15 := Aside0.mk (Kd.C_below Ce_w14.out hb)
      clear Ce_w14
      clear Bw14
      clear hb
      go_wp2_with fail
      refine (ints_calls most (maxLen_val (by have := HLEN.out; omega)) A_mostiw6 c_mostiw6 A_mostsw7 c_mostsw7 w15 Cmosti_w15.out Emosti_w6.out Cmosts_w15.out Emosts_w7.out).mono ?_
      rintro e w16 ⟨rfl, hb⟩
      have Bw16 := Aside0.mk (below_step Bw15.out hb)
      have Cl_w16 := Aside0.mk (Kd.C_below Cl_w15.out hb)
      clear Cl_w15
      have Cleasti_w16 := Aside0.mk (Kd.C_below Cleasti_w15.out hb)
      clear Cleasti_w15
      have Cleasts_w16 := Aside0.mk (Kd.C_below Cleasts_w15.out hb)
      clear Cleasts_w15
      have Cmosti_w16 := Aside0.mk (Kd.C_below Cmosti_w15.out hb)
      clear Cmosti_w15
      have Cmosts_w16 := Aside0.mk (Kd.C_below Cmosts_w15.out hb)
      clear Cmosts_w15
      have Cti_w16 := Aside0.mk (Kd.C_below Cti_w15.out hb)
      clear Cti_w15
      have Cts_w16 := Aside0.mk (Kd.C_below Cts_w15.out hb)
      clear Cts_w15
      have Ce_w16 := Aside0.mk (Kd.C_below Ce_w15.out hb)
      clear Ce_w15
      clear Bw15
      clear hb
      go_wp2_with fail
      refine (edges_calls t (maxLen_val (by have := HLEN.out; omega)) A_tiw8 c_tiw8 A_tsw9 c_tsw9 w16 Cti_w16.out Eti_w8.out Cts_w16.out Ets_w9.out).mono ?_
      rintro e w17 ⟨rfl, hb⟩
      have Bw17 := Aside0.mk (below_step Bw16.out hb)
      have Cl_w17 := Aside0.mk (Kd.C_below Cl_w16.out hb)
      clear Cl_w16
      have Cleasti_w17 := Aside0.mk (Kd.C_below Cleasti_w16.out hb)
      clear Cleasti_w16
      have Cleasts_w17 := Aside0.mk (Kd.C_below Cleasts_w16.out hb)
      clear Cleasts_w16
      have Cmosti_w17 := Aside0.mk (Kd.C_below Cmosti_w16.out hb)
      clear Cmosti_w16
      have Cmosts_w17 := Aside0.mk (Kd.C_below Cmosts_w16.out hb)
      clear Cmosts_w16
      have Cti_w17 := Aside0.mk (Kd.C_below Cti_w16.out hb)
      clear Cti_w16
      have Cts_w17 := Aside0.mk (Kd.C_below Cts_w16.out hb)
      clear Cts_w16
      have Ce_w17 := Aside0.mk (Kd.C_below Ce_w16.out hb)
      clear Ce_w16
      clear Bw16
      clear hb
      go_wp2_with fail
      refine (impl_IsNetwork.calls kni n A_l c_l l ok w17 Cl_w17.out El_0.out HNI.out).mono ?_
      rintro e w18 ⟨rfl, hb⟩
      have Bw18 := Aside0.mk (below_step Bw17.out hb)
      have Cl_w18 := Aside0.mk (Kd.C_below Cl_w17.out hb)
      clear Cl_w17
      have Cleasti_w18 := Aside0.mk (Kd.C_below Cleasti_w17.out hb)
      clear Cleasti_w17
      have Cleasts_w18 := Aside0.mk (Kd.C_below Cleasts_w17.out hb)
      clear Cleasts_w17
      have Cmosti_w18 := Aside0.mk (Kd.C_below Cmosti_w17.out hb)
      clear Cmosti_w17
      have Cmosts_w18 := Aside0.mk (Kd.C_below Cmosts_w17.out hb)
      clear Cmosts_w17
      have Cti_w18 := Aside0.mk (Kd.C_below Cti_w17.out hb)
      clear Cti_w17
      have Cts_w18 := Aside0.mk (Kd.C_below Cts_w17.out hb)
      clear Cts_w17
      have Ce_w18 := Aside0.mk (Kd.C_below Ce_w17.out hb)
      clear Ce_w17
      clear Bw17
      clear hb
      go_wp2_with fail
      refine (spec_IsNetwork.calls kns n A_l c_l l ok w18 Cl_w18.out El_0.out HNS.out).mono ?_
      rintro e w19 ⟨rfl, hb⟩
      have Bw19 := Aside0.mk (below_step Bw18.out hb)
      have Cl_w19 := Aside0.mk (Kd.C_below Cl_w18.out hb)
      clear Cl_w18
      have Cleasti_w19 := Aside0.mk (Kd.C_below Cleasti_w18.out hb)
      clear Cleasti_w18
      have Cleasts_w19 := Aside0.mk (Kd.C_below Cleasts_w18.out hb)
      clear Cleasts_w18
      have Cmosti_w19 := Aside0.mk (Kd.C_below Cmosti_w18.out hb)
      clear Cmosti_w18
      have Cmosts_w19 := Aside0.mk (Kd.C_below Cmosts_w18.out hb)
      clear Cmosts_w18
      have Cti_w19 := Aside0.mk (Kd.C_below Cti_w18.out hb)
      clear Cti_w18
      have Cts_w19 := Aside0.mk (Kd.C_below Cts_w18.out hb)
      clear Cts_w18
      have Ce_w19 := Aside0.mk (Kd.C_below Ce_w18.out hb)
      clear Ce_w18
      clear Bw18
      clear hb
      have hnine := HNINE.out
      cases seven with
      | false =>
        cases was with
        | false =>
          subst hnine
          go_wp2
          go_meet
          case rel => exact ⟨rfl, Cl_w19, Cleasti_w19, Cleasts_w19, Cmosti_w19, Cmosts_w19, Cti_w19, Cts_w19, Ce_w19, Bw19⟩
        | true =>
          subst hnine
          go_wp2
          go_meet
          case rel => exact ⟨rfl, Cl_w19, Cleasti_w19, Cleasts_w19, Cmosti_w19, Cmosts_w19, Cti_w19, Cts_w19, Ce_w19, Bw19⟩
      | true =>
        cases was with
        | false =>
          subst hnine
          go_wp2
          go_meet
          case rel => exact ⟨rfl, Cl_w19, Cleasti_w19, Cleasts_w19, Cmosti_w19, Cmosts_w19, Cti_w19, Cts_w19, Ce_w19, Bw19⟩
        | true =>
          subst hnine
          go_wp2
          go_meet
          case rel => exact ⟨rfl, Cl_w19, Cleasti_w19, Cleasts_w19, Cmosti_w19, Cmosts_w19, Cti_w19, Cts_w19, Ce_w19, Bw19⟩
  case rest =>
    obtain ⟨rfl, Cl_c, Cleasti_c, Cleasts_c, Cmosti_c, Cmosts_c, Cti_c, Cts_c, Ce_c, B_c⟩ := hcut
    go_upto_if 215 with fail
    go_cut [] (fun wc => Aside0 (Kd.C k99 wc A_l l.length l) ∧ Aside0 (Kd.C (Kd.int .i64) wc A_leastiw4 least.length least) ∧ Aside0 (Kd.C (Kd.int .i64) wc A_leastsw5 least.length least) ∧ Aside0 (Kd.C (Kd.int .i64) wc A_mostiw6 most.length most) ∧ Aside0 (Kd.C (Kd.int .i64) wc A_mostsw7 most.length most) ∧ Aside0 (Kd.C k99 wc A_tiw8 t.length t) ∧ Aside0 (Below w.heap.size w wc))
    case first =>
      as_aux_lemma =>
        cases nine with
        | false =>
          go_wp2
          go_meet
          case rel => exact ⟨Cl_c, Cleasti_c, Cleasts_c, Cmosti_c, Cmosts_c, Cti_c, B_c⟩
        | true =>
          obtain ⟨top, htop, hle⟩ := HTOP.out rfl
          have HTP := Aside0.mk htop
          have tv : decide (top < val) = false := decide_eq_false (by omega)
          clear htop hle
          go_wp2_with fail
          refine (OwnGreatestFlow.own_impl x A_e c_e e top true wc Ce_c.out Ee_0.out (by have := HLe.out; omega) HTP.out).mono ?_
          rintro e w20 ⟨rfl, hb⟩
          have Bw20 := Aside0.mk (below_step B_c.out hb)
          have Cl_w20 := Aside0.mk (Kd.C_below Cl_c.out hb)
          clear Cl_c
          have Cleasti_w20 := Aside0.mk (Kd.C_below Cleasti_c.out hb)
          clear Cleasti_c
          have Cleasts_w20 := Aside0.mk (Kd.C_below Cleasts_c.out hb)
          clear Cleasts_c
          have Cmosti_w20 := Aside0.mk (Kd.C_below Cmosti_c.out hb)
          clear Cmosti_c
          have Cmosts_w20 := Aside0.mk (Kd.C_below Cmosts_c.out hb)
          clear Cmosts_c
          have Cti_w20 := Aside0.mk (Kd.C_below Cti_c.out hb)
          clear Cti_c
          have Cts_w20 := Aside0.mk (Kd.C_below Cts_c.out hb)
          clear Cts_c
          have Ce_w20 := Aside0.mk (Kd.C_below Ce_c.out hb)
          clear Ce_c
          clear B_c
          clear hb
          go_wp2
          go_meet
          case rel => exact ⟨Cl_w20, Cleasti_w20, Cleasts_w20, Cmosti_w20, Cmosts_w20, Cti_w20, Bw20⟩
    case rest =>
      obtain ⟨Cl_d, Cleasti_d, Cleasts_d, Cmosti_d, Cmosts_d, Cti_d, B_d⟩ := hcut
      cases ok with
      | false =>
        go_wp2_with fail
        go_ret
        exact ⟨rfl, B_d.out⟩
      | true =>
        obtain ⟨hc1, hc2, hin, hgt, htt⟩ := HF.out rfl
        obtain ⟨k1, hk1⟩ := hc1.rounds
        obtain ⟨k2, hk2⟩ := hc2.rounds
        obtain ⟨k3, hk3⟩ := htt.rounds
        have HK1 := Aside0.mk hk1
        have HK2 := Aside0.mk hk2
        have HK3 := Aside0.mk hk3
        have HIN := Aside0.mk hin
        have HGT := Aside0.mk hgt
        clear hc1 hc2 hin hgt htt hk1 hk2 hk3
        go_wp2_with fail
        refine (impl_CutValue.calls k1 n A_l c_l l A_leastiw4 c_leastiw4 least v true wc Cl_d.out El_0.out Cleasti_d.out Eleasti_w4.out HK1.out).mono ?_
        rintro e w21 ⟨rfl, hb⟩
        have Bw21 := Aside0.mk (below_step B_d.out hb)
        have Cl_w21 := Aside0.mk (Kd.C_below Cl_d.out hb)
        clear Cl_d
        have Cleasti_w21 := Aside0.mk (Kd.C_below Cleasti_d.out hb)
        clear Cleasti_d
        have Cleasts_w21 := Aside0.mk (Kd.C_below Cleasts_d.out hb)
        clear Cleasts_d
        have Cmosti_w21 := Aside0.mk (Kd.C_below Cmosti_d.out hb)
        clear Cmosti_d
        have Cmosts_w21 := Aside0.mk (Kd.C_below Cmosts_d.out hb)
        clear Cmosts_d
        have Cti_w21 := Aside0.mk (Kd.C_below Cti_d.out hb)
        clear Cti_d
        clear B_d
        clear hb
        go_wp2_with fail
        refine (impl_CutValue.calls k2 n A_l c_l l A_mostiw6 c_mostiw6 most v true w21 Cl_w21.out El_0.out Cmosti_w21.out Emosti_w6.out HK2.out).mono ?_
        rintro e w22 ⟨rfl, hb⟩
        have Bw22 := Aside0.mk (below_step Bw21.out hb)
        have Cl_w22 := Aside0.mk (Kd.C_below Cl_w21.out hb)
        clear Cl_w21
        have Cleasti_w22 := Aside0.mk (Kd.C_below Cleasti_w21.out hb)
        clear Cleasti_w21
        have Cleasts_w22 := Aside0.mk (Kd.C_below Cleasts_w21.out hb)
        clear Cleasts_w21
        have Cmosti_w22 := Aside0.mk (Kd.C_below Cmosti_w21.out hb)
        clear Cmosti_w21
        have Cmosts_w22 := Aside0.mk (Kd.C_below Cmosts_w21.out hb)
        clear Cmosts_w21
        have Cti_w22 := Aside0.mk (Kd.C_below Cti_w21.out hb)
        clear Cti_w21
        clear Bw21
        clear hb
        go_wp2_with fail
        refine (OwnGreatestFlow.own_impl n A_tiw8 c_tiw8 t v true w22 Cti_w22.out Eti_w8.out (by have := HLEN.out; omega) HGT.out).mono ?_
        rintro e w23 ⟨rfl, hb⟩
        have Bw23 := Aside0.mk (below_step Bw22.out hb)
        have Cl_w23 := Aside0.mk (Kd.C_below Cl_w22.out hb)
        clear Cl_w22
        have Cleasti_w23 := Aside0.mk (Kd.C_below Cleasti_w22.out hb)
        clear Cleasti_w22
        have Cleasts_w23 := Aside0.mk (Kd.C_below Cleasts_w22.out hb)
        clear Cleasts_w22
        have Cmosti_w23 := Aside0.mk (Kd.C_below Cmosti_w22.out hb)
        clear Cmosti_w22
        have Cmosts_w23 := Aside0.mk (Kd.C_below Cmosts_w22.out hb)
        clear Cmosts_w22
        have Cti_w23 := Aside0.mk (Kd.C_below Cti_w22.out hb)
        clear Cti_w22
        clear Bw22
        clear hb
        go_wp2_with fail
        refine (impl_TurnNetwork.calls k3 n A_tiw8 c_tiw8 t l true w23 Cti_w23.out Eti_w8.out HK3.out).mono ?_
        rintro e w24 ⟨v_, rfl, ho, hb⟩
        obtain ⟨A_againw24, c_againw24, rfl⟩ := Kd.R_slice ho
        have Cagain_w24 := Aside0.mk (Kd.R_reads' ho).2.2
        have Eagain_w24 := Aside0.mk (Kd.R_reads' ho).2.1
        clear ho
        have Bw24 := Aside0.mk (below_step Bw23.out hb)
        have Cl_w24 := Aside0.mk (Kd.C_below Cl_w23.out hb)
        clear Cl_w23
        have Cleasti_w24 := Aside0.mk (Kd.C_below Cleasti_w23.out hb)
        clear Cleasti_w23
        have Cleasts_w24 := Aside0.mk (Kd.C_below Cleasts_w23.out hb)
        clear Cleasts_w23
        have Cmosti_w24 := Aside0.mk (Kd.C_below Cmosti_w23.out hb)
        clear Cmosti_w23
        have Cmosts_w24 := Aside0.mk (Kd.C_below Cmosts_w23.out hb)
        clear Cmosts_w23
        have Cti_w24 := Aside0.mk (Kd.C_below Cti_w23.out hb)
        clear Cti_w23
        clear Bw23
        clear hb
        have hve : (v == v) = true := by simp
        go_wp2_with fail
        refine (in_calls least most (maxLen_val (by have := HLEN.out; omega)) (maxLen_val (by have := HLEN.out; omega)) HIN.out A_leastsw5 c_leastsw5 A_mostsw7 c_mostsw7 w24 Cleasts_w24.out Eleasts_w5.out Cmosts_w24.out Emosts_w7.out).mono ?_
        rintro e w25 ⟨rfl, hb⟩
        have Bw25 := Aside0.mk (below_step Bw24.out hb)
        have Cl_w25 := Aside0.mk (Kd.C_below Cl_w24.out hb)
        clear Cl_w24
        have Cleasti_w25 := Aside0.mk (Kd.C_below Cleasti_w24.out hb)
        clear Cleasti_w24
        have Cleasts_w25 := Aside0.mk (Kd.C_below Cleasts_w24.out hb)
        clear Cleasts_w24
        have Cmosti_w25 := Aside0.mk (Kd.C_below Cmosti_w24.out hb)
        clear Cmosti_w24
        have Cmosts_w25 := Aside0.mk (Kd.C_below Cmosts_w24.out hb)
        clear Cmosts_w24
        have Cti_w25 := Aside0.mk (Kd.C_below Cti_w24.out hb)
        clear Cti_w24
        have Cagain_w25 := Aside0.mk (Kd.C_below Cagain_w24.out hb)
        clear Cagain_w24
        clear Bw24
        clear hb
        go_wp2_with fail
        refine (edges_calls l (maxLen_val (by have := HLl.out; omega)) A_againw24 c_againw24 A_l c_l w25 Cagain_w25.out Eagain_w24.out Cl_w25.out El_0.out).mono ?_
        rintro e w26 ⟨rfl, hb⟩
        have Bw26 := Aside0.mk (below_step Bw25.out hb)
        have Cl_w26 := Aside0.mk (Kd.C_below Cl_w25.out hb)
        clear Cl_w25
        have Cleasti_w26 := Aside0.mk (Kd.C_below Cleasti_w25.out hb)
        clear Cleasti_w25
        have Cleasts_w26 := Aside0.mk (Kd.C_below Cleasts_w25.out hb)
        clear Cleasts_w25
        have Cmosti_w26 := Aside0.mk (Kd.C_below Cmosti_w25.out hb)
        clear Cmosti_w25
        have Cmosts_w26 := Aside0.mk (Kd.C_below Cmosts_w25.out hb)
        clear Cmosts_w25
        have Cti_w26 := Aside0.mk (Kd.C_below Cti_w25.out hb)
        clear Cti_w25
        have Cagain_w26 := Aside0.mk (Kd.C_below Cagain_w25.out hb)
        clear Cagain_w25
        clear Bw25
        clear hb
        go_wp2_with fail
        go_ret
        exact ⟨rfl, Bw26.out⟩
theorem law (a0 a1 : List Int) (ha0 : a0.length ≤ maxLen) (sa0 : a0.length * 1 ≤ 140737488351232) (ga0 : ∀ x ∈ a0, (Lit.int .u8 x).wf = true) (ha1 : a1.length ≤ maxLen) (sa1 : a1.length * 1 ≤ 140737488351232) (ga1 : ∀ x ∈ a1, (Lit.int .u8 x).wf = true)
    (A0 : Option Addr) (c0 : Nat) (A1 : Option Addr) (c1 : Nat) (w : World) (h0 : Kd.C (Kd.int .u8) w A0 a0.length a0) (e0 : a0.length ≤ c0) (h1 : Kd.C (Kd.int .u8) w A1 a1.length a1) (e1 : a1.length ≤ c1) :
    Calls Try.prog 12 #[.slice A0 a0.length c0, .slice A1 a1.length c1] w fun e w' => e = .returned (.bool true) ∧ Below w.heap.size w w' := by
  by_cases hs : a0.length + a1.length ≤ 1048576
  · exact walk a0 a1 ⟨fun x hx => u8_wf (ga0 x hx), by omega⟩ ⟨fun x hx => u8_wf (ga1 x hx), by omega⟩ hs A0 c0 A1 c1 w h0 e0 h1 e1
  · exact walk_big a0 a1 ha0 ha1 hs sa0 sa1 A0 c0 A1 c1 w
end Go.Proofs.Ytomfjhpiemipkaa.WalkFnFlowValues
