/- The law FnEdges, walked by hand over its callees' contracts: for all bytes it returns true. -/
import Derived.Test.YtomfjhpiemipkaaTEdgeMathJ
import Derived.Test.YtomfjhpiemipkaaTDrawNet
namespace Go.Proofs.Ytomfjhpiemipkaa.WalkFnEdges
open Go.RowKit Go.Proofs.Ytomfjhpiemipkaa.PFnEdges Go.Proofs.YtomfjhpiemipkaaW.PrintWords Go.Proofs.YtomfjhpiemipkaaW.PrintLast Go.Proofs.YtomfjhpiemipkaaW.PrintMore Go.Proofs.Ytomfjhpiemipkaa.B Go.Proofs.Ytomfjhpiemipkaa.EdgeLaw Go.Proofs.Ytomfjhpiemipkaa.DrawNet
set_option linter.unusedVariables false
set_option linter.unusedSimpArgs false
theorem u8_wf {x : Int} (h : (Lit.int .u8 x).wf = true) : 0 ≤ x ∧ x < 256 := by
  have e0 : IntKind.u8.min = 0 := rfl
  have e1 : IntKind.u8.max = 255 := rfl
  simp only [Lit.wf, Bool.and_eq_true, decide_eq_true_eq, e0, e1] at h
  omega
set_option maxRecDepth 100000 in
theorem walk_big (s0 s1 : List Int) (q0 : s0.length ≤ maxLen) (q1 : s1.length ≤ maxLen) (hs : ¬ s0.length + s1.length ≤ 1048576) (m0 : s0.length * 1 ≤ 140737488351232) (m1 : s1.length * 1 ≤ 140737488351232) (A0 : Option Addr) (c0 : Nat) (A1 : Option Addr) (c1 : Nat) (w : World) :
    Calls Try.prog 11 #[.slice A0 s0.length c0, .slice A1 s1.length c1] w fun e w' => e = .returned (.bool true) ∧ Below w.heap.size w w' := by
  have hw : wrap64 ((s0.length : Int) + (s1.length : Int)) = (s0.length : Int) + (s1.length : Int) := w64 (by omega) (by omega)
  have t1 : decide (1048576 < (s0.length : Int) + (s1.length : Int)) = true := decide_eq_true (by omega)
  clear hs m0 m1 q0 q1
  go_enter Try.func11, Try.ntmps11
  go_wp2_with fail
  go_ret
  exact ⟨rfl, Below.refl _ _⟩
set_option maxHeartbeats 16000000 in
set_option maxRecDepth 100000 in
theorem walk (s0 s1 : List Int) (hs0 : Bytes s0) (hs1 : Bytes s1) (hs : s0.length + s1.length ≤ 1048576) (A0 : Option Addr) (c0 : Nat) (A1 : Option Addr) (c1 : Nat) (w : World) (h0 : Kd.C (Kd.int .u8) w A0 s0.length s0) (e0 : s0.length ≤ c0) (h1 : Kd.C (Kd.int .u8) w A1 s1.length s1) (e1 : s1.length ≤ c1) :
    Calls Try.prog 11 #[.slice A0 s0.length c0, .slice A1 s1.length c1] w fun e w' => e = .returned (.bool true) ∧ Below w.heap.size w w' := by
  obtain ⟨n, l, k, ⟨hn, hl, hk0, hk1⟩, dm⟩ := drawMends s0 hs0
  obtain ⟨x, e, ⟨hx, he⟩, dc⟩ := drawCut s1 hs1
  obtain ⟨m, ok, b, one, hM, hB, hL, hF⟩ := edge_law n l k hn hl
  have hw : wrap64 ((s0.length : Int) + (s1.length : Int)) = (s0.length : Int) + (s1.length : Int) := w64 (by omega) (by omega)
  have t1 : decide (1048576 < (s0.length : Int) + (s1.length : Int)) = false := decide_eq_false (by omega)
  have HM := Aside0.mk hM
  have HBL := Aside0.mk hB
  have HL := Aside0.mk hL
  have HF := Aside0.mk hF
  have HLl := Aside0.mk hl
  have HLe := Aside0.mk (And.intro hx he)
  have DM := Aside0.mk dm
  have DC := Aside0.mk dc
  have H0 := Aside0.mk h0
  have E0 := Aside0.mk e0
  have H1 := Aside0.mk h1
  have E1 := Aside0.mk e1
  have HN := Aside0.mk (And.intro hn (And.intro hk0 hk1))
  clear hM hB hL hF hl hx he dm dc h0 e0 h1 e1 hs hs0 hs1 hn hk0 hk1
  go_enter Try.func11, Try.ntmps11
  go_wp2_with fail
  refine (DM.out A0 c0 w H0.out E0.out).mono ?_
  rintro e w1 ⟨A_l, c_l, rfl, hC, hE, hb⟩
  clear hw t1
  have Cl_0 := Aside0.mk hC
  have El_0 := Aside0.mk hE
  clear hC hE
  have Bw1 := Aside0.mk hb
  have Cs1_w1 := Aside0.mk (Kd.C_below H1.out hb)
  clear H1
  clear hb
  go_wp2_with fail
  refine (OwnMendsFlow.own_impl n A_l c_l l k m ok w1 Cl_0.out El_0.out (by have := HLl.out; omega) HM.out.2).mono ?_
  rintro e w2 ⟨rfl, hb⟩
  have Bw2 := Aside0.mk (below_step Bw1.out hb)
  have Cs1_w2 := Aside0.mk (Kd.C_below Cs1_w1.out hb)
  clear Cs1_w1
  have Cl_w2 := Aside0.mk (Kd.C_below Cl_0.out hb)
  clear Cl_0
  clear Bw1
  clear hb
  go_wp2_with fail
  refine (OwnMendsFlow.own_spec n A_l c_l l k m ok w2 Cl_w2.out El_0.out (by have := HLl.out; omega) HM.out.1).mono ?_
  rintro e w3 ⟨rfl, hb⟩
  have Bw3 := Aside0.mk (below_step Bw2.out hb)
  have Cs1_w3 := Aside0.mk (Kd.C_below Cs1_w2.out hb)
  clear Cs1_w2
  have Cl_w3 := Aside0.mk (Kd.C_below Cl_w2.out hb)
  clear Cl_w2
  clear Bw2
  clear hb
  go_wp2_with fail
  refine (OwnBlocksFlow.own_impl n A_l c_l l k b one w3 Cl_w3.out El_0.out (by have := HLl.out; omega) HBL.out.2).mono ?_
  rintro e w4 ⟨rfl, hb⟩
  have Bw4 := Aside0.mk (below_step Bw3.out hb)
  have Cs1_w4 := Aside0.mk (Kd.C_below Cs1_w3.out hb)
  clear Cs1_w3
  have Cl_w4 := Aside0.mk (Kd.C_below Cl_w3.out hb)
  clear Cl_w3
  clear Bw3
  clear hb
  go_wp2_with fail
  refine (OwnBlocksFlow.own_spec n A_l c_l l k b one w4 Cl_w4.out El_0.out (by have := HLl.out; omega) HBL.out.1).mono ?_
  rintro e w5 ⟨rfl, hb⟩
  have Bw5 := Aside0.mk (below_step Bw4.out hb)
  have Cs1_w5 := Aside0.mk (Kd.C_below Cs1_w4.out hb)
  clear Cs1_w4
  have Cl_w5 := Aside0.mk (Kd.C_below Cl_w4.out hb)
  clear Cl_w4
  clear Bw4
  clear hb
  go_wp2_with fail
  refine (DC.out A1 c1 w5 Cs1_w5.out E1.out).mono ?_
  rintro e w6 ⟨ns, A_e, c_e, A_s, c_s, rfl, hns, ⟨hC, hE⟩, ⟨hC', hE'⟩, hb⟩
  have Ce_0 := Aside0.mk hC
  have Ee_0 := Aside0.mk hE
  have Cns_0 := Aside0.mk hC'
  have Ens_0 := Aside0.mk hE'
  have HNS := Aside0.mk hns
  clear hC hE hC' hE' hns
  have Bw6 := Aside0.mk (below_step Bw5.out hb)
  have Cl_w6 := Aside0.mk (Kd.C_below Cl_w5.out hb)
  clear Cl_w5
  clear Bw5
  clear hb
  obtain ⟨v, three, hvs, hvi, hvf⟩ := cut_law x e ns HLe.out.1 HLe.out.2 (by have := HNS.out; omega)
  obtain ⟨kvs, hkvs⟩ := hvs.rounds
  obtain ⟨kvi, hkvi⟩ := hvi.rounds
  have HVS := Aside0.mk hkvs
  have HVI := Aside0.mk hkvi
  have HVF := Aside0.mk hvf
  clear hvs hvi hkvs hkvi hvf
  go_wp2_with fail
  refine (impl_CutValue.calls kvi x A_e c_e e A_s c_s ns v three w6 Ce_0.out Ee_0.out Cns_0.out Ens_0.out HVI.out).mono ?_
  rintro e w7 ⟨rfl, hb⟩
  have Bw7 := Aside0.mk (below_step Bw6.out hb)
  have Cl_w7 := Aside0.mk (Kd.C_below Cl_w6.out hb)
  clear Cl_w6
  have Ce_w7 := Aside0.mk (Kd.C_below Ce_0.out hb)
  clear Ce_0
  have Cns_w7 := Aside0.mk (Kd.C_below Cns_0.out hb)
  clear Cns_0
  clear Bw6
  clear hb
  go_wp2_with fail
  refine (spec_CutValue.calls kvs x A_e c_e e A_s c_s ns v three w7 Ce_w7.out Ee_0.out Cns_w7.out Ens_0.out HVS.out).mono ?_
  rintro e w8 ⟨rfl, hb⟩
  have Bw8 := Aside0.mk (below_step Bw7.out hb)
  have Cl_w8 := Aside0.mk (Kd.C_below Cl_w7.out hb)
  clear Cl_w7
  have Ce_w8 := Aside0.mk (Kd.C_below Ce_w7.out hb)
  clear Ce_w7
  have Cns_w8 := Aside0.mk (Kd.C_below Cns_w7.out hb)
  clear Cns_w7
  clear Bw7
  clear hb
  have hv : (v != v) = false := by simp
  go_upto_if 121 with fail
  clear hv
  go_cut [] (fun wc => Aside0 (Kd.C k99 wc A_l l.length l) ∧ Aside0 (Below w.heap.size w wc))
  case first =>
    cases three with
    | false =>
      go_wp2
      go_meet
      case rel => exact ⟨Cl_w8, Bw8⟩
    | true =>
      obtain ⟨f, hf, hfv⟩ := HVF.out rfl
      have HG := Aside0.mk hf
      have tv : decide (v < f) = false := decide_eq_false (by omega)
      clear hf hfv
      go_wp2_with fail
      refine (OwnGreatestFlow.own_impl x A_e c_e e f true w8 Ce_w8.out Ee_0.out (by have := HLe.out; omega) HG.out).mono ?_
      rintro e w9 ⟨rfl, hb⟩
      have Bw9 := Aside0.mk (below_step Bw8.out hb)
      have Cl_w9 := Aside0.mk (Kd.C_below Cl_w8.out hb)
      clear Cl_w8
      have Ce_w9 := Aside0.mk (Kd.C_below Ce_w8.out hb)
      clear Ce_w8
      clear Bw8
      clear hb
      go_wp2
      go_meet
      case rel => exact ⟨Cl_w9, Bw9⟩
  case rest =>
    obtain ⟨Cl_c, B_c⟩ := hcut
    go_upto_if 135 with fail
    go_cut [] (fun wc => Aside0 (Kd.C k99 wc A_l l.length l) ∧ Aside0 (Below w.heap.size w wc))
    case first =>
      cases ok with
      | false =>
        go_wp2
        go_meet
        case rel => exact ⟨Cl_c, B_c⟩
      | true =>
        obtain ⟨hkl, least, most, hl1, hl2, hl3, hl4⟩ := HL.out rfl
        have HLC := Aside0.mk hl1
        have HGC := Aside0.mk hl2
        have HLS := Aside0.mk hl3
        have HMM := Aside0.mk hl4
        have HKL := Aside0.mk hkl
        clear hl1 hl2 hl3 hl4 hkl
        go_wp2_with fail
        refine (OwnLeastCut.own_impl n A_l c_l l least true wc Cl_c.out El_0.out (by have := HLl.out; omega) HLC.out.2).mono ?_
        rintro e w10 ⟨v_, rfl, ho, hb⟩
        obtain ⟨A_leastiw10, c_leastiw10, rfl⟩ := Kd.R_slice ho
        have Cleasti_w10 := Aside0.mk (Kd.R_reads' ho).2.2
        have Eleasti_w10 := Aside0.mk (Kd.R_reads' ho).2.1
        clear ho
        have Bw10 := Aside0.mk (below_step B_c.out hb)
        have Cl_w10 := Aside0.mk (Kd.C_below Cl_c.out hb)
        clear Cl_c
        clear B_c
        clear hb
        go_wp2_with fail
        refine (OwnGreatestCut.own_impl n A_l c_l l most true w10 Cl_w10.out El_0.out (by have := HLl.out; omega) HGC.out.2).mono ?_
        rintro e w11 ⟨v_, rfl, ho, hb⟩
        obtain ⟨A_mostiw11, c_mostiw11, rfl⟩ := Kd.R_slice ho
        have Cmosti_w11 := Aside0.mk (Kd.R_reads' ho).2.2
        have Emosti_w11 := Aside0.mk (Kd.R_reads' ho).2.1
        clear ho
        have Bw11 := Aside0.mk (below_step Bw10.out hb)
        have Cl_w11 := Aside0.mk (Kd.C_below Cl_w10.out hb)
        clear Cl_w10
        have Cleasti_w11 := Aside0.mk (Kd.C_below Cleasti_w10.out hb)
        clear Cleasti_w10
        clear Bw10
        clear hb
        go_wp2_with fail
        refine (OwnLeastCut.own_spec n A_l c_l l least true w11 Cl_w11.out El_0.out (by have := HLl.out; omega) HLC.out.1).mono ?_
        rintro e w12 ⟨v_, rfl, ho, hb⟩
        obtain ⟨A_leastsw12, c_leastsw12, rfl⟩ := Kd.R_slice ho
        have Cleasts_w12 := Aside0.mk (Kd.R_reads' ho).2.2
        have Eleasts_w12 := Aside0.mk (Kd.R_reads' ho).2.1
        clear ho
        have Bw12 := Aside0.mk (below_step Bw11.out hb)
        have Cl_w12 := Aside0.mk (Kd.C_below Cl_w11.out hb)
        clear Cl_w11
        have Cleasti_w12 := Aside0.mk (Kd.C_below Cleasti_w11.out hb)
        clear Cleasti_w11
        have Cmosti_w12 := Aside0.mk (Kd.C_below Cmosti_w11.out hb)
        clear Cmosti_w11
        clear Bw11
        clear hb
        go_wp2_with fail
        refine (OwnGreatestCut.own_spec n A_l c_l l most true w12 Cl_w12.out El_0.out (by have := HLl.out; omega) HGC.out.1).mono ?_
        rintro e w13 ⟨v_, rfl, ho, hb⟩
        obtain ⟨A_mostsw13, c_mostsw13, rfl⟩ := Kd.R_slice ho
        have Cmosts_w13 := Aside0.mk (Kd.R_reads' ho).2.2
        have Emosts_w13 := Aside0.mk (Kd.R_reads' ho).2.1
        clear ho
        have Bw13 := Aside0.mk (below_step Bw12.out hb)
        have Cl_w13 := Aside0.mk (Kd.C_below Cl_w12.out hb)
        clear Cl_w12
        have Cleasti_w13 := Aside0.mk (Kd.C_below Cleasti_w12.out hb)
        clear Cleasti_w12
        have Cmosti_w13 := Aside0.mk (Kd.C_below Cmosti_w12.out hb)
        clear Cmosti_w12
        have Cleasts_w13 := Aside0.mk (Kd.C_below Cleasts_w12.out hb)
        clear Cleasts_w12
        clear Bw12
        clear hb
        go_wp2_with fail
        refine (ints_calls least (maxLen_val (by have := HLS.out; omega)) A_leastiw10 c_leastiw10 A_leastsw12 c_leastsw12 w13 Cleasti_w13.out Eleasti_w10.out Cleasts_w13.out Eleasts_w12.out).mono ?_
        rintro e w14 ⟨rfl, hb⟩
        have Bw14 := Aside0.mk (below_step Bw13.out hb)
        have Cl_w14 := Aside0.mk (Kd.C_below Cl_w13.out hb)
        clear Cl_w13
        have Cleasti_w14 := Aside0.mk (Kd.C_below Cleasti_w13.out hb)
        clear Cleasti_w13
        have Cmosti_w14 := Aside0.mk (Kd.C_below Cmosti_w13.out hb)
        clear Cmosti_w13
        have Cleasts_w14 := Aside0.mk (Kd.C_below Cleasts_w13.out hb)
        clear Cleasts_w13
        have Cmosts_w14 := Aside0.mk (Kd.C_below Cmosts_w13.out hb)
        clear Cmosts_w13
        clear Bw13
        clear hb
        go_wp2_with fail
        refine (ints_calls most (maxLen_val (by have := HLS.out; omega)) A_mostiw11 c_mostiw11 A_mostsw13 c_mostsw13 w14 Cmosti_w14.out Emosti_w11.out Cmosts_w14.out Emosts_w13.out).mono ?_
        rintro e w15 ⟨rfl, hb⟩
        have Bw15 := Aside0.mk (below_step Bw14.out hb)
        have Cl_w15 := Aside0.mk (Kd.C_below Cl_w14.out hb)
        clear Cl_w14
        have Cleasti_w15 := Aside0.mk (Kd.C_below Cleasti_w14.out hb)
        clear Cleasti_w14
        have Cmosti_w15 := Aside0.mk (Kd.C_below Cmosti_w14.out hb)
        clear Cmosti_w14
        have Cleasts_w15 := Aside0.mk (Kd.C_below Cleasts_w14.out hb)
        clear Cleasts_w14
        have Cmosts_w15 := Aside0.mk (Kd.C_below Cmosts_w14.out hb)
        clear Cmosts_w14
        clear Bw14
        clear hb
        obtain ⟨b1, eb1⟩ : ∃ b1, b1 = decide ((l.getD k.toNat z99).f0 ∈ least) := ⟨_, rfl⟩
        obtain ⟨b2, eb2⟩ : ∃ b2, b2 = decide ((l.getD k.toNat z99).f1 ∈ most) := ⟨_, rfl⟩
        have HMB : Aside0 (m = (b1 && !b2)) := ⟨by rw [eb1, eb2]; exact HMM.out⟩
        have EB1 := Aside0.mk eb1
        have EB2 := Aside0.mk eb2
        obtain ⟨ed, eed⟩ : ∃ q, q = l.getD k.toNat z99 := ⟨_, rfl⟩
        rw [← eed] at EB1 EB2
        have EED := Aside0.mk eed
        clear eb1 eb2 eed
        have q0 := eq_true HKL.out.1
        have q1 := eq_true HKL.out.2
        obtain ⟨ad, eA, hx0, hx1, hx2⟩ := at_T99 Cl_w15.out k HKL.out.1 HKL.out.2
        rw [show rd_T99 l k = ed from EED.out.symm] at hx0 hx1 hx2
        subst eA
        have hc1 := has_calls least (maxLen_val (by have := HLS.out; omega)) ed.f0 A_leastsw12 c_leastsw12 w15 Cleasts_w15.out Eleasts_w12.out
        rw [← EB1.out] at hc1
        have HC1 := Aside0.mk hc1
        clear hc1
        go_wp2_with fail
        refine (HC1.out).mono ?_
        rintro e w16 ⟨rfl, hb⟩
        replace hx1 := (hb.cell (World.block_lt_of_cell? _ _ hx1)).trans hx1
        clear hx0 hx2 HC1
        have Bw16 := Aside0.mk (below_step Bw15.out hb)
        have Cl_w16 := Aside0.mk (Kd.C_below Cl_w15.out hb)
        clear Cl_w15
        have Cleasts_w16 := Aside0.mk (Kd.C_below Cleasts_w15.out hb)
        clear Cleasts_w15
        have Cmosts_w16 := Aside0.mk (Kd.C_below Cmosts_w15.out hb)
        clear Cmosts_w15
        clear Bw15
        clear hb
        cases b1 with
        | false =>
          have hm : m = false := by rw [HMB.out]; rfl
          subst hm
          go_wp2
          go_meet
          case rel => exact ⟨Cl_w16, Bw16⟩
        | true =>
          have hm : m = !b2 := by rw [HMB.out]; rfl
          subst hm
          have hc1 := has_calls most (maxLen_val (by have := HLS.out; omega)) ed.f1 A_mostsw13 c_mostsw13 w16 Cmosts_w16.out Emosts_w13.out
          rw [← EB2.out] at hc1
          have HC1 := Aside0.mk hc1
          clear hc1
          go_wp2_with fail
          refine (HC1.out).mono ?_
          rintro e w17 ⟨rfl, hb⟩
          clear hx1 HC1
          have Bw17 := Aside0.mk (below_step Bw16.out hb)
          have Cl_w17 := Aside0.mk (Kd.C_below Cl_w16.out hb)
          clear Cl_w16
          have Cleasts_w17 := Aside0.mk (Kd.C_below Cleasts_w16.out hb)
          clear Cleasts_w16
          have Cmosts_w17 := Aside0.mk (Kd.C_below Cmosts_w16.out hb)
          clear Cmosts_w16
          clear Bw16
          clear hb
          cases b2 with
          | false =>
            go_wp2
            go_meet
            case rel => exact ⟨Cl_w17, Bw17⟩
          | true =>
            go_wp2
            go_meet
            case rel => exact ⟨Cl_w17, Bw17⟩
    case rest =>
      obtain ⟨Cl_d, B_d⟩ := hcut
      cases ok with
      | false =>
        go_wp2_with fail
        go_ret
        exact ⟨rfl, B_d.out⟩
      | true =>
        cases one with
        | false =>
          go_wp2_with fail
          go_ret
          exact ⟨rfl, B_d.out⟩
        | true =>
          cases m with
          | false =>
            go_wp2_with fail
            go_ret
            exact ⟨rfl, B_d.out⟩
          | true =>
            have hb := HF.out rfl rfl rfl
            subst hb
            have HKL := Aside0.mk (HL.out rfl).1
            have q0 := eq_true HKL.out.1
            have q1 := eq_true HKL.out.2
            obtain ⟨ed, eed⟩ : ∃ q, q = l.getD k.toNat z99 := ⟨_, rfl⟩
            have EED := Aside0.mk eed
            clear eed
            obtain ⟨ad, eA, hx0, hx1, hx2⟩ := at_T99 Cl_d.out k HKL.out.1 HKL.out.2
            rw [show rd_T99 l k = ed from EED.out.symm] at hx0 hx1 hx2
            subst eA
            clear hx0 hx1
            obtain ⟨cz, ecz⟩ : ∃ q, q = (ed.f2 == 0) := ⟨_, rfl⟩
            have ecz' := ecz.symm
            clear ecz
            cases cz with
            | false =>
              go_wp2_with fail
              go_ret
              exact ⟨rfl, B_d.out⟩
            | true =>
              go_wp2_with fail
              go_ret
              exact ⟨rfl, B_d.out⟩
theorem law (a0 a1 : List Int) (ha0 : a0.length ≤ maxLen) (sa0 : a0.length * 1 ≤ 140737488351232) (ga0 : ∀ x ∈ a0, (Lit.int .u8 x).wf = true) (ha1 : a1.length ≤ maxLen) (sa1 : a1.length * 1 ≤ 140737488351232) (ga1 : ∀ x ∈ a1, (Lit.int .u8 x).wf = true)
    (A0 : Option Addr) (c0 : Nat) (A1 : Option Addr) (c1 : Nat) (w : World) (h0 : Kd.C (Kd.int .u8) w A0 a0.length a0) (e0 : a0.length ≤ c0) (h1 : Kd.C (Kd.int .u8) w A1 a1.length a1) (e1 : a1.length ≤ c1) :
    Calls Try.prog 11 #[.slice A0 a0.length c0, .slice A1 a1.length c1] w fun e w' => e = .returned (.bool true) ∧ Below w.heap.size w w' := by
  by_cases hs : a0.length + a1.length ≤ 1048576
  · exact walk a0 a1 ⟨fun x hx => u8_wf (ga0 x hx), by omega⟩ ⟨fun x hx => u8_wf (ga1 x hx), by omega⟩ hs A0 c0 A1 c1 w h0 e0 h1 e1
  · exact walk_big a0 a1 ha0 ha1 hs sa0 sa1 A0 c0 A1 c1 w
end Go.Proofs.Ytomfjhpiemipkaa.WalkFnEdges
