/- Texts that print.sh has printed for the law FnMoney,one function each,put together in one file: contracts of its functions. -/
import Derived.Test.YtahhiedlkegkgaaTStepW
import Derived.Test.YtahhiedlkegkgaaTMFnMoneyx0
import Derived.Test.YtahhiedlkegkgaaTMFnMoneyx3
import Derived.Test.YtahhiedlkegkgaaTMFnMoneyx2
section
namespace Go.Proofs.Ytahhiedlkegkgaa.PFnMoney
open Go.RowKit Go.Proofs.YtahhiedlkegkgaaW.PrintWords Go.Proofs.YtahhiedlkegkgaaW.PrintLast Go.Proofs.YtahhiedlkegkgaaW.PrintMore
attribute [local go_sem] max2_int min2_int max_two min_two max_three min_three max_four min_four   -- for this text's walks alone
set_option linter.unusedVariables false
set_option linter.unusedSimpArgs false
theorem aM4:type_of% @Aside0.mk:=@Aside0.mk
theorem uA4:type_of% @List.setIfInBounds_toArray.{0}:=@List.setIfInBounds_toArray.{0}
theorem uB4:type_of% @List.set_cons_zero.{0}:=@List.set_cons_zero.{0}
theorem uC4:type_of% @List.set_cons_succ.{0}:=@List.set_cons_succ.{0}
theorem oD4:type_of% @of_decide_eq_true:=@of_decide_eq_true
theorem dT4:type_of% @decide_eq_true:=@decide_eq_true
theorem bI4:type_of% @Option.bind_eq_some_iff.{0,0}:=@Option.bind_eq_some_iff.{0,0}
theorem bL4:type_of% @World.block_lt_of_cell?:=@World.block_lt_of_cell?
theorem bC4:type_of% @blk_cell:=@blk_cell
theorem eT4:type_of% @eq_true:=@eq_true
theorem bS4:type_of% @below_step:=@below_step
theorem gC4:type_of% @gate_callee:=@gate_callee
theorem zyx4_0 {P:Prop} (h:P:=by first|rfl|(simp;done)|(simp [*];done)):P:=h
theorem zyx4_1 {P:Prop} (h:P:=by first|exact Kd.S_nil _ _ _ _ _|exact Kd.N_nil _ _ _ _ _|exact Kd.V_nil _ _ _ _ _|exact Kd.Q_nil _ _ _ _ _|exact Kd.R_nil _ _ _ _ _):P:=h
theorem zyx4_2 {P:Prop} (h:P:=by first|exact Kd.R_nil _ _ _ _ _|exact Kd.N_nil _ _ _ _ _|exact Kd.V_nil _ _ _ _ _|exact Kd.Q_nil _ _ _ _ _|exact Kd.S_nil _ _ _ _ _):P:=h
theorem zyx4_3 {P:Prop} (h:P:=by repeat (first|(with_reducible first|exact HB.out|apply below_alloc|apply pw_below_drewN|apply below_drew1)|exact HB.out)):P:=h
theorem zyx4_4 {P:Prop} (h:P:=by first|(with_reducible assumption)|assumption):P:=h
theorem zyx4_5 {P:Prop} (h:P:=by (with_reducible repeat (first|apply Kd.S_alloc|apply Kd.S_drewN|apply Kd.S_drew));exact HO_4.out):P:=h
theorem zyx4_6 {P:Prop} (h:P:=by (with_reducible repeat (first|apply Kd.R_alloc|apply Kd.R_drewN|apply Kd.R_drew));exact HO_5.out):P:=h
theorem zyx4_7 {P:Prop} (h:P:=by kernel_rfl):P:=h
theorem zyx4_8 {P:Prop} (h:P:=by (try simp only [List.map_toArray,List.map_cons,List.map_nil]);first|done|rfl|(simp only [List.length_drop,List.length_take];rfl)):P:=h
theorem zyx4_9 {P:Prop} (h:P:=by (with_reducible repeat (first|refine blk_drewN ?_ _|refine blk_drew ?_|refine blk_alloc ?_ _));refine blk_put (cs:=#[.int .i64 ((rd_T94 l0 x11_1).f0),.int .i64 0]) ?_ 1 _ rfl;(with_reducible repeat (first|refine blk_drewN ?_ _|refine blk_drew ?_|refine blk_alloc ?_ _));refine blk_put (cs:=#[.int .i64 0,.int .i64 0]) ?_ 0 _ rfl;(with_reducible repeat (first|refine blk_drewN ?_ _|refine blk_drew ?_|refine blk_alloc ?_ _));exact BK450.out):P:=h
theorem zyx4_10 {P:Prop} (h:P:=by repeat (first|(with_reducible first|exact HB.out|apply below_alloc|apply pw_below_drewN|apply below_drew1|refine below_set ?_ GE450.out)|exact HB.out)):P:=h
theorem zyx4_11 {P:Prop} (h:P:=by (with_reducible repeat (first|refine blk_drewN ?_ _|refine blk_drew ?_|refine blk_alloc ?_ _));exact BK450.out):P:=h
theorem zyx4_12 {P:Prop} (h:P:=by first|rfl|(simp [errW_none,errW_some] <;> rfl)|(simp [*,errW_none,errW_some] <;> rfl)):P:=h
theorem zyx4_13 {P:Prop} (h:P:=by repeat (first|(with_reducible exact HR457.out)|(with_reducible refine Kd.C_alloc ?_ _)|(with_reducible refine Kd.C_drewN ?_ _)|(with_reducible refine Kd.C_drew ?_)|exact HR457.out)):P:=h
theorem zyx4_14 {P:Prop} (h:P:=by repeat (first|(with_reducible exact HR467.out)|(with_reducible refine Kd.C_alloc ?_ _)|(with_reducible refine Kd.C_drewN ?_ _)|(with_reducible refine Kd.C_drew ?_)|exact HR467.out)):P:=h
theorem zyx4_15 {P:Prop} (h:P:=by (with_reducible repeat (first|apply Kd.R_alloc|apply Kd.R_drewN|apply Kd.R_drew));exact Kd.R_mono HO_5.out (fun _ hk=>⟨trivial,hk.2⟩)):P:=h
theorem zyx4_16 {P:Prop} (h:P:=by (with_reducible repeat (first|apply Kd.R_alloc|apply Kd.R_drewN|apply Kd.R_drew));exact HO_3.out):P:=h
theorem zyx4_17 {P:Prop} (h:P:=by repeat (first|exact Drawn0.refl _|apply Drawn0.step)):P:=h
theorem zyx4_18 {P:Prop} (h:P:=by have:=World.block_lt_of_cell? _ _ hw664_0;first|rwa [add_block] at this|exact this):P:=h
theorem zyx4_19 {P:Prop} (h:P:=by have:=World.block_lt_of_cell? _ _ hw664_1;first|rwa [add_block] at this|exact this):P:=h
theorem zyx4_20 {P:Prop} (h:P:=by have:=World.block_lt_of_cell? _ _ hw665_0;first|rwa [add_block] at this|exact this):P:=h
theorem zyx4_21 {P:Prop} (h:P:=by repeat (first|(with_reducible first|exact HB.out|apply below_alloc|apply pw_below_drewN|apply below_drew1|refine below_set ?_ GE666.out)|exact HB.out)):P:=h
theorem zyx4_22 {P:Prop} (h:P:=by (with_reducible repeat (first|refine blk_drewN ?_ _|refine blk_drew ?_|refine blk_alloc ?_ _));exact BK666.out):P:=h
theorem zyx4_23 {P:Prop} (h:P:=by (with_reducible repeat (first|refine blk_drewN ?_ _|refine blk_drew ?_|refine blk_alloc ?_ _));exact BK693.out):P:=h
theorem zyx4_24 {P:Prop} (h:P:=by repeat (first|(with_reducible first|exact HB.out|apply below_alloc|apply pw_below_drewN|apply below_drew1|refine below_set ?_ GE693.out)|exact HB.out)):P:=h
theorem zyx4_25 {P:Prop} (h:P:=by first|(go_simp;done)|(go_simp;rfl)):P:=h
theorem zyx4_26 {P:Prop} (h:P:=by repeat (first|exact HR0.out|(with_reducible refine Kd.C_alloc ?_ _)|(with_reducible refine Kd.C_drewN ?_ _)|(with_reducible refine Kd.C_drew ?_))):P:=h
theorem zyx4_27 {P:Prop} (h:P:=by repeat (first|exact (Kd.C_below HR0.out HB.out)|(with_reducible refine Kd.C_alloc ?_ _)|(with_reducible refine Kd.C_drewN ?_ _)|(with_reducible refine Kd.C_drew ?_))):P:=h
theorem zyx4_28 {P:Prop} (h:P:=by repeat (first|exact (Kd.C_below HR1.out HB.out)|(with_reducible refine Kd.C_alloc ?_ _)|(with_reducible refine Kd.C_drewN ?_ _)|(with_reducible refine Kd.C_drew ?_))):P:=h
theorem zyx4_29 {P:Prop} (h:P:=by repeat (first|exact (Kd.S_reads' HO689.out).2.2|(with_reducible refine Kd.C_alloc ?_ _)|(with_reducible refine Kd.C_drewN ?_ _)|(with_reducible refine Kd.C_drew ?_))):P:=h
theorem zyx4_30 {P:Prop} (h:P:=by rw [hg];exact (below_size (zyx4_3))):P:=h
theorem zyx4_31 {P:Prop} (h:P:=by first|exact Nat.ne_of_lt (Nat.lt_of_lt_of_le (zyx4_18) GW666.out)|(rw [add_block];exact Nat.ne_of_lt (Nat.lt_of_lt_of_le (zyx4_18) GW666.out))|(show (Addr.add _ _).block≠_;rw [add_block];exact Nat.ne_of_lt (Nat.lt_of_lt_of_le (zyx4_18) GW666.out))|(dsimp only;exact Nat.ne_of_lt (Nat.lt_of_lt_of_le (zyx4_18) GW666.out))):P:=h
theorem zyx4_32 {P:Prop} (h:P:=by first|exact Nat.ne_of_lt (Nat.lt_of_lt_of_le (zyx4_19) GW666.out)|(rw [add_block];exact Nat.ne_of_lt (Nat.lt_of_lt_of_le (zyx4_19) GW666.out))|(show (Addr.add _ _).block≠_;rw [add_block];exact Nat.ne_of_lt (Nat.lt_of_lt_of_le (zyx4_19) GW666.out))|(dsimp only;exact Nat.ne_of_lt (Nat.lt_of_lt_of_le (zyx4_19) GW666.out))):P:=h
theorem zyx4_33 {P:Prop} (h:P:=by first|exact Nat.ne_of_lt (Nat.lt_of_lt_of_le (zyx4_20) GW666.out)|(rw [add_block];exact Nat.ne_of_lt (Nat.lt_of_lt_of_le (zyx4_20) GW666.out))|(show (Addr.add _ _).block≠_;rw [add_block];exact Nat.ne_of_lt (Nat.lt_of_lt_of_le (zyx4_20) GW666.out))|(dsimp only;exact Nat.ne_of_lt (Nat.lt_of_lt_of_le (zyx4_20) GW666.out))):P:=h
theorem zyx4_34 {P:Prop} (h:P:=by repeat (first|exact (Kd.C_below HR0.out (zyx4_21))|(with_reducible refine Kd.C_alloc ?_ _)|(with_reducible refine Kd.C_drewN ?_ _)|(with_reducible refine Kd.C_drew ?_))):P:=h
theorem zyx4_35 {P:Prop} (h:P:=by repeat (first|exact (Kd.C_below HR1.out (zyx4_21))|(with_reducible refine Kd.C_alloc ?_ _)|(with_reducible refine Kd.C_drewN ?_ _)|(with_reducible refine Kd.C_drew ?_))):P:=h
theorem zyx4_36 {P:Prop} (h:P:=by repeat (first|exact (Kd.C_below HR3.out (zyx4_21))|(with_reducible refine Kd.C_alloc ?_ _)|(with_reducible refine Kd.C_drewN ?_ _)|(with_reducible refine Kd.C_drew ?_))):P:=h
mutual
def spec_ruTree.l0:Nat→List (List Int)→List Int→List (S94)→Int→Int→Option ((List (List Int)) × Bool)
 | 0,_,_,_,_,_=>none
 | k + 1,x4,x5,x9,x10,x11=>if x11 < x10 then (if 0≤x11 then (if x11 < (x9.length:Int) then ((spec_ruPart.f ((rd_T94 x9 x11).f0) ((rd_T94 x9 x11).f1)).bind fun t451=>(if t451=true then ((spec_ruNeeds.f ((rd_T94 x9 x11).f0)).bind fun t452=>(spec_ruTree.j1 k x4 x5 x11 x9 x10 x11 (decide (t452 > (x5.length:Int))) ((rd_T94 x9 x11).f0) ((rd_T94 x9 x11).f1))) else (spec_ruTree.j1 k x4 x5 x11 x9 x10 x11 true ((rd_T94 x9 x11).f0) ((rd_T94 x9 x11).f1)))) else (none)) else (none)) else (some (x4,((x5.length:Int) == 1)))
def spec_ruTree.j1:Nat→List (List Int)→List Int→Int→List (S94)→Int→Int→Bool→Int→Int→Option ((List (List Int)) × Bool)
 | 0,_,_,_,_,_,_,_,_,_=>none
 | k + 1,x4,x5,x6,x9,x10,x11,x26,x451000,x451001=>if x26=true then (some (([]:List (List Int)),false)) else ((spec_ruNeeds.f x451000).bind fun t453=>(if 0≤(wrap64 ((x5.length:Int) - t453)) then (if (wrap64 ((x5.length:Int) - t453))≤(x5.length:Int) then ((spec_l1Own.f (x5.drop ((wrap64 ((x5.length:Int) - t453)):Int).toNat)).bind fun t458=>(if x4.length < 5864062014805 then ((spec_l1Own.f (x5.take ((wrap64 ((x5.length:Int) - t453)):Int).toNat)).bind fun t468=>(if t468.length < 17592186044416 then (spec_ruTree.l0 k (x4 ++ [t458]) (t468 ++ [x6]) x9 x10 (wrap64 (x11 + 1))) else (none))) else (none))) else (none)) else (none)))
end
def spec_ruTree.f (k:Nat) (l0:List (S94)):Option ((List (List Int)) × Bool):=spec_ruTree.l0 k ([]:List (List Int)) ([]:List Int) l0 (l0.length:Int) 0
set_option maxHeartbeats 8000000 in
set_option maxRecDepth 100000 in
theorem spec_ruTree.calls (k:Nat) (A0:Option Addr) (c0:Nat) (l0:List (S94)) (r1:List (List Int)) (r2:Bool) (w:World) (hr0:Kd.C k94 w A0 l0.length l0) (hc0:l0.length≤c0) (h:spec_ruTree.f k l0=some (r1,r2)) :
  Calls Try.prog 60 #[.slice A0 l0.length c0] w fun e w'=>∃ v0_:Value,e=.returned (.tuple #[v0_,.bool r2])∧Kd.S (Kd.slice 3 (Kd.int .i64)) 25 w' w.heap.size (fun _=>True) v0_ r1∧Below w.heap.size w w':=by
 have hu94:=Try.underlying94;have HR0:=aM4 hr0;have HC0:=aM4 hc0;clear hr0 hc0;have HB:=aM4 (Below.refl w.heap.size w);have H:(spec_ruTree.l0 k ([]:List (List Int)) ([]:List Int) l0 (l0.length:Int) 0)=some (r1,r2):=h;clear h;have H':=aM4 H;clear H;go_enter Try.func60,Try.ntmps60
 go_wp2
 go_loopg [4,5,11] k (fun kq v4 v5 v11 w'=>∃ (x4_1:List (List Int)) (x5_1:List Int) (x11_1:Int),v11=.int .i64 x11_1∧Aside0 (spec_ruTree.l0 kq x4_1 x5_1 l0 (l0.length:Int) x11_1=some (r1,r2))∧Aside0 (kq≤k)∧Aside0 (Kd.S (Kd.slice 3 (Kd.int .i64)) 25 w' w.heap.size (fun k_=>some k_≠(v5:Value).ownBlock) v4 x4_1)∧Aside0 (Kd.R (Kd.int .i64) 3 w' w.heap.size (fun _=>True) v5 x5_1)∧Aside0 (Below w.heap.size w w'))
 case atStart=>exact ⟨(([]:List (List Int))),(([]:List Int)),(0),(zyx4_0),H',⟨Nat.le_refl _⟩,⟨zyx4_1⟩,⟨zyx4_2⟩,⟨zyx4_3⟩⟩
 case round =>
  clear H';obtain ⟨x4_1,x5_1,x11_1,rfl,HA,HK1,HO_4,HO_5,HB⟩:=hrel
  cases gk with
  | zero=>exact absurd HA.out (by simp [spec_ruTree.l0])
  | succ k1 =>
   have H:=HA.out;clear HA;simp only [spec_ruTree.l0] at H
   by_cases c2:x11_1 < (l0.length:Int)
   ·rw [if_pos c2] at H
    have c2b0:decide (x11_1 < (l0.length:Int))=true:=dT4 c2;clear c2
    by_cases c3:0≤x11_1
    ·rw [if_pos c3] at H
     have c3b0:decide (0≤x11_1)=true:=dT4 c3;clear c3
     by_cases c4:x11_1 < (l0.length:Int)
     ·rw [if_pos c4] at H
      have c4b0:decide (x11_1 < (l0.length:Int))=true:=dT4 c4;clear c4;have HC5:=aM4 H;clear H;have p449:0≤(x11_1:Int):=oD4 (zyx4_4);have q449:x11_1 < (l0.length:Int):=oD4 (zyx4_4);obtain ⟨ad449,e449,hx449_0,hx449_1⟩:=at_T94 HR0.out x11_1 p449 q449
      cases e449
      replace hx449_0:=(HB.out.cell (bL4 w _ hx449_0)).trans hx449_0;replace hx449_1:=(HB.out.cell (bL4 w _ hx449_1)).trans hx449_1;replace p449:=eT4 p449;replace q449:=eT4 q449
      go_upto_region 6 with (first|((with_reducible refine gate_dst (N:=7) rfl ?_);(try (refine gate_guard (by rfl) ?_;dsimp only));refine box_event ?hg (N:=7) ?hd (cs:=#[.int .i64 0,.int .i64 0]) (t:=94) ?hr ?_;(case hd=>rfl);(case hg=>rfl);(case hr=>exact zyx4_25);intro gb450 hg w6 hbox hb;have n0_:=aM4 (Kd.S_below (zyx4_5) hb);have n1_:=aM4 (Kd.R_below (zyx4_6) hb);have n2_:=aM4 (bS4 (zyx4_3) hb);have n3_:=aM4 (hbox);have n4_:=aM4 ((zyx4_30:w.heap.size≤gb450));have n5_:=aM4 ((zyx4_30:w.heap.size≤gb450));clear HO_4 HO_5 HB;have HO_4:=n0_;have HO_5:=n1_;have HB:=n2_;have BK450:=n3_;have GW450:=n4_;have GE450:=n5_;clear n0_ n1_ n2_ n3_ n4_ n5_ hb hbox hg;obtain ⟨hcz7_0,hfz7_0,hcz7_1,hfz7_1⟩:=cf2 BK450.out))
      (try simp only [Act.put,uA4,uB4,uC4])
      go_cut [26] (fun v26 wc=>∃ (kq:Nat) (x26_4:Bool),v26=.bool x26_4∧Aside0 (spec_ruTree.j1 kq x4_1 x5_1 x11_1 l0 (l0.length:Int) x11_1 x26_4 ((rd_T94 l0 x11_1).f0) ((rd_T94 l0 x11_1).f1)=some (r1,r2))∧Aside0 (kq≤k1)∧Aside0 (Kd.S (Kd.slice 3 (Kd.int .i64)) 25 wc w.heap.size (fun k_=>some k_≠(u5:Value).ownBlock) u4 x4_1)∧Aside0 (Kd.R (Kd.int .i64) 3 wc w.heap.size (fun _=>True) u5 x5_1)∧Aside0 (wc.heap[gb450]?=some (.cells #[.int .i64 ((rd_T94 l0 x11_1).f0),.int .i64 ((rd_T94 l0 x11_1).f1)] 94 (0,0)))∧Aside0 (Below w.heap.size w wc))
      case first =>
       have H:=HC5.out;clear HC5;replace H:=bI4.mp H;obtain ⟨t451,A80,H⟩:=H;(try dsimp only at H);have A8:=aM4 A80;clear A80
       by_cases c9:t451=true
       ·subst c9
        rw [if_pos rfl] at H;(try dsimp only at H);replace H:=bI4.mp H;obtain ⟨t452,A100,H⟩:=H;(try dsimp only at H);have A10:=aM4 A100;clear A100;have H':=aM4 H;clear H;obtain ⟨hcz11_0,hfz11_0,hcz11_1,hfz11_1⟩:=cf2 BK450.out
        go_wp2_with (first|((with_reducible refine gC4 (f:=70) rfl ?_);refine goesL_ (some 17) rfl rfl Try.func70 (zyx4_7) rfl #[.agg #[.int .i64 ((rd_T94 l0 x11_1).f0),.int .i64 ((rd_T94 l0 x11_1).f1)]] rfl (zyx4_8) ?_;(with_reducible refine (spec_ruPart.calls ((rd_T94 l0 x11_1).f0) ((rd_T94 l0 x11_1).f1) true _ A8.out).mono ?_);rintro e w12 ⟨rfl,hb⟩;refine ⟨_,rfl,?_⟩;have n0_:=aM4 (Kd.S_below (by (with_reducible repeat (first|apply Kd.S_alloc|apply Kd.S_drewN|apply Kd.S_drew));exact (Kd.S_mono (Kd.S_far (p:=⟨gb450,1,none⟩) (Kd.S_far (p:=⟨gb450,0,none⟩) (Kd.S_types HO_4.out BK450.out (by decide)) (fun _ hk=>hk.2) (.int .i64 ((rd_T94 l0 x11_1).f0))) (fun _ hk=>hk.2) (.int .i64 ((rd_T94 l0 x11_1).f1))) (fun _ h_=>h_.1))) hb);have n1_:=aM4 (Kd.R_below (by (with_reducible repeat (first|apply Kd.R_alloc|apply Kd.R_drewN|apply Kd.R_drew));exact (Kd.R_mono (Kd.R_far (p:=⟨gb450,1,none⟩) (Kd.R_far (p:=⟨gb450,0,none⟩) (Kd.R_types HO_5.out BK450.out (by decide)) (fun _ hk=>hk.2) (.int .i64 ((rd_T94 l0 x11_1).f0))) (fun _ hk=>hk.2) (.int .i64 ((rd_T94 l0 x11_1).f1))) (fun _ h_=>h_.1))) hb);have n2_:=aM4 (blk_below (g:=gb450) (o:=.cells #[.int .i64 ((rd_T94 l0 x11_1).f0),.int .i64 ((rd_T94 l0 x11_1).f1)] 94 (0,0)) (zyx4_9) hb);have n3_:=aM4 (bS4 (zyx4_10) hb);clear HO_4 HO_5 BK450 HB;have HO_4:=n0_;have HO_5:=n1_;have BK450:=n2_;have HB:=n3_;clear n0_ n1_ n2_ n3_;(try clear hb);(try clear hb2);(try clear hk);(try clear hi);obtain ⟨hcz13_0,hfz13_0,hcz13_1,hfz13_1⟩:=cf2 BK450.out)|(go_at_call 71;(with_reducible refine (spec_ruNeeds.calls ((rd_T94 l0 x11_1).f0) t452 _ A10.out).mono ?_);rintro e w' ⟨rfl,⟨nd,rfl⟩⟩;obtain ⟨Ao14,co14,eo14⟩:=Kd.R_slice HO_5.out;subst eo14))
        go_meet
        case rel=>exact ⟨_,(decide (t452 > (x5_1.length:Int))),(zyx4_0),H',⟨by have:=HK1.out;first|omega|exact Nat.le_refl _⟩,⟨zyx4_5⟩,⟨zyx4_6⟩,⟨zyx4_11⟩,⟨zyx4_10⟩⟩
       ·replace c9:=Bool.eq_false_iff.mpr c9
        subst c9;rw [if_neg (show ¬ (false=true) by decide)] at H;(try dsimp only at H);have H':=aM4 H;clear H;obtain ⟨hcz15_0,hfz15_0,hcz15_1,hfz15_1⟩:=cf2 BK450.out
        go_wp2_with (first|((with_reducible refine gC4 (f:=70) rfl ?_);refine goesL_ (some 17) rfl rfl Try.func70 (zyx4_7) rfl #[.agg #[.int .i64 ((rd_T94 l0 x11_1).f0),.int .i64 ((rd_T94 l0 x11_1).f1)]] rfl (zyx4_8) ?_;(with_reducible refine (spec_ruPart.calls ((rd_T94 l0 x11_1).f0) ((rd_T94 l0 x11_1).f1) false _ A8.out).mono ?_);rintro e w16 ⟨rfl,hb⟩;refine ⟨_,rfl,?_⟩;have n0_:=aM4 (Kd.S_below (by (with_reducible repeat (first|apply Kd.S_alloc|apply Kd.S_drewN|apply Kd.S_drew));exact (Kd.S_mono (Kd.S_far (p:=⟨gb450,1,none⟩) (Kd.S_far (p:=⟨gb450,0,none⟩) (Kd.S_types HO_4.out BK450.out (by decide)) (fun _ hk=>hk.2) (.int .i64 ((rd_T94 l0 x11_1).f0))) (fun _ hk=>hk.2) (.int .i64 ((rd_T94 l0 x11_1).f1))) (fun _ h_=>h_.1))) hb);have n1_:=aM4 (Kd.R_below (by (with_reducible repeat (first|apply Kd.R_alloc|apply Kd.R_drewN|apply Kd.R_drew));exact (Kd.R_mono (Kd.R_far (p:=⟨gb450,1,none⟩) (Kd.R_far (p:=⟨gb450,0,none⟩) (Kd.R_types HO_5.out BK450.out (by decide)) (fun _ hk=>hk.2) (.int .i64 ((rd_T94 l0 x11_1).f0))) (fun _ hk=>hk.2) (.int .i64 ((rd_T94 l0 x11_1).f1))) (fun _ h_=>h_.1))) hb);have n2_:=aM4 (blk_below (g:=gb450) (o:=.cells #[.int .i64 ((rd_T94 l0 x11_1).f0),.int .i64 ((rd_T94 l0 x11_1).f1)] 94 (0,0)) (zyx4_9) hb);have n3_:=aM4 (bS4 (zyx4_10) hb);clear HO_4 HO_5 BK450 HB;have HO_4:=n0_;have HO_5:=n1_;have BK450:=n2_;have HB:=n3_;clear n0_ n1_ n2_ n3_;(try clear hb);(try clear hb2);(try clear hk);(try clear hi)))
        go_meet
        case rel=>exact ⟨_,(true),(zyx4_0),H',⟨by have:=HK1.out;first|omega|exact Nat.le_refl _⟩,⟨zyx4_5⟩,⟨zyx4_6⟩,⟨zyx4_11⟩,⟨zyx4_10⟩⟩
      case rest =>
       clear HC5;(try clear c2);(try clear c2b0);(try clear p2);(try clear c3);(try clear c3b0);(try clear c4);(try clear c4b0);(try clear p4);(try clear q4);(try clear hx4);(try clear c6);(try clear c7);(try clear c9);(try clear hcz11_0);(try clear hcz11_1);(try clear hcz13_0);(try clear hcz13_1);(try clear hcz15_0);(try clear hcz15_1);(try clear hcz7_0);(try clear hcz7_1);(try clear hfz11_0);(try clear hfz11_1);(try clear hfz13_0);(try clear hfz13_1);(try clear hfz15_0);(try clear hfz15_1);(try clear hfz7_0);(try clear hfz7_1);(try clear hx449_0);(try clear hx449_1);(try clear p449);(try clear q449);obtain ⟨kq,x26_4,rfl,HA,HJ4,HO_4,HO_5,BK450,HB⟩:=hcut
       cases kq with
       | zero=>exact absurd HA.out (by simp [spec_ruTree.j1])
       | succ kj4 =>
        have H:=HA.out;clear HA;simp only [spec_ruTree.j1] at H
        by_cases c17:x26_4=true
        ·subst c17
         rw [if_pos rfl] at H;(try dsimp only at H);simp only [Option.some.injEq,Prod.mk.injEq] at H;obtain ⟨rfl,rfl⟩:=H
         go_wp2
         go_ret2
         exact ⟨_,zyx4_12,zyx4_1,zyx4_10⟩
        ·replace c17:=Bool.eq_false_iff.mpr c17
         subst c17;rw [if_neg (show ¬ (false=true) by decide)] at H;(try dsimp only at H);replace H:=bI4.mp H;obtain ⟨t453,A180,H⟩:=H;(try dsimp only at H);have A18:=aM4 A180;clear A180;obtain ⟨ji19,hji19⟩:∃ j_:Int,(wrap64 ((x5_1.length:Int) - t453))=j_:=⟨_,rfl⟩
         replace H:(if 0≤(ji19) then (if (ji19)≤(x5_1.length:Int) then ((spec_l1Own.f (x5_1.drop ((ji19):Int).toNat)).bind fun t458=>(if x4_1.length < 5864062014805 then ((spec_l1Own.f (x5_1.take ((ji19):Int).toNat)).bind fun t468=>(if t468.length < 17592186044416 then (spec_ruTree.l0 kj4 (x4_1 ++ [t458]) (t468 ++ [x11_1]) l0 (l0.length:Int) (wrap64 (x11_1 + 1))) else (none))) else (none))) else (none)) else (none))=some (r1,r2):=by first|(rw [hji19] at H;exact H)|(simp only [hji19] at H ⊢;exact H)
         (try rw [hji19] at A18);have hji19w:(IntKind.i64.wrap ((x5_1.length:Int) - t453))=ji19:=(i64_w _).trans hji19
         by_cases c20:0≤(ji19)
         ·rw [if_pos c20] at H
          have c20b0:=eT4 c20;have c20b1:decide (0≤(ji19))=true:=dT4 c20;clear c20
          by_cases c21:(ji19)≤(x5_1.length:Int)
          ·rw [if_pos c21] at H
           have c21b0:=eT4 c21;have c21b1:decide ((ji19)≤(x5_1.length:Int))=true:=dT4 c21;clear c21;obtain ⟨y454,hy454⟩:∃ y_:List Int,y_=(x5_1.drop ((ji19):Int).toNat):=⟨_,rfl⟩
           replace H:((spec_l1Own.f y454).bind fun t458=>(if x4_1.length < 5864062014805 then ((spec_l1Own.f (x5_1.take ((ji19):Int).toNat)).bind fun t468=>(if t468.length < 17592186044416 then (spec_ruTree.l0 kj4 (x4_1 ++ [t458]) (t468 ++ [x11_1]) l0 (l0.length:Int) (wrap64 (x11_1 + 1))) else (none))) else (none)))=some (r1,r2):=by first|(rw [hy454];with_reducible exact H)|(have H2_:=(Option.bind_some _ _).symm.trans H;rw [hy454];with_reducible exact H2_)|(have H2_:=(Option.bind_some _ _).symm.trans H;with_reducible exact H2_)|with_reducible exact H|(rw [hy454];exact H)|exact H
           have Ny454:=aM4 hy454;clear hy454;replace H:=bI4.mp H;obtain ⟨t458,A220,H⟩:=H;(try dsimp only at H);have A22:=aM4 A220;clear A220
           by_cases c23:x4_1.length < 5864062014805
           ·rw [if_pos c23] at H
            have LMc23:=aM4 c23;clear c23;obtain ⟨y461,hy461⟩:∃ y_:List (List Int),y_=(x4_1 ++ [t458]):=⟨_,rfl⟩
            replace H:((spec_l1Own.f (x5_1.take ((ji19):Int).toNat)).bind fun t468=>(if t468.length < 17592186044416 then (spec_ruTree.l0 kj4 y461 (t468 ++ [x11_1]) l0 (l0.length:Int) (wrap64 (x11_1 + 1))) else (none)))=some (r1,r2):=by first|(rw [hy461];with_reducible exact H)|(have H2_:=(Option.bind_some _ _).symm.trans H;rw [hy461];with_reducible exact H2_)|(have H2_:=(Option.bind_some _ _).symm.trans H;with_reducible exact H2_)|with_reducible exact H|(rw [hy461];exact H)|exact H
            have Ny461:=aM4 hy461;clear hy461;have c24b0:=eT4 (oD4 (zyx4_4):0≤(ji19));have c25b0:=eT4 (oD4 (zyx4_4):(ji19)≤(x5_1.length:Int));obtain ⟨y464,hy464⟩:∃ y_:List Int,y_=(x5_1.take ((ji19):Int).toNat):=⟨_,rfl⟩
            replace H:((spec_l1Own.f y464).bind fun t468=>(if t468.length < 17592186044416 then (spec_ruTree.l0 kj4 y461 (t468 ++ [x11_1]) l0 (l0.length:Int) (wrap64 (x11_1 + 1))) else (none)))=some (r1,r2):=by first|(rw [hy464];with_reducible exact H)|(have H2_:=(Option.bind_some _ _).symm.trans H;rw [hy464];with_reducible exact H2_)|(have H2_:=(Option.bind_some _ _).symm.trans H;with_reducible exact H2_)|with_reducible exact H|(rw [hy464];exact H)|exact H
            have Ny464:=aM4 hy464;clear hy464;replace H:=bI4.mp H;obtain ⟨t468,A260,H⟩:=H;(try dsimp only at H);have A26:=aM4 A260;clear A260
            by_cases c27:t468.length < 17592186044416
            ·rw [if_pos c27] at H
             have LMc27:=aM4 c27;clear c27;obtain ⟨y471,hy471⟩:∃ y_:List Int,y_=(t468 ++ [x11_1]):=⟨_,rfl⟩
             replace H:(spec_ruTree.l0 kj4 y461 y471 l0 (l0.length:Int) (wrap64 (x11_1 + 1)))=some (r1,r2):=by first|(rw [hy471];with_reducible exact H)|(have H2_:=(Option.bind_some _ _).symm.trans H;rw [hy471];with_reducible exact H2_)|(have H2_:=(Option.bind_some _ _).symm.trans H;with_reducible exact H2_)|with_reducible exact H|(rw [hy471];exact H)|exact H
             have Ny471:=aM4 hy471;clear hy471;have H':=aM4 H;clear H;obtain ⟨Ao28,co28,eo28⟩:=Kd.R_slice HO_5.out;subst eo28;obtain ⟨hcz29_0,hfz29_0,hcz29_1,hfz29_1⟩:=cf2 BK450.out
             go_wp2_with (first|((with_reducible refine gC4 (f:=71) rfl ?_);refine goesL_ (some 31) rfl rfl Try.func71 (zyx4_7) rfl #[.int .i64 ((rd_T94 l0 x11_1).f0)] rfl (zyx4_8) ?_;(with_reducible refine (spec_ruNeeds.calls ((rd_T94 l0 x11_1).f0) t453 _ A18.out).mono ?_);rintro e w' ⟨rfl,⟨nd,rfl⟩⟩;refine ⟨_,rfl,?_⟩;have q30:((ji19):Int)≤((x5_1.length:Int):Int):=oD4 (zyx4_4);obtain ⟨i030,hi030,_,hsz30,_⟩:=info_parts info3;have hroom30:x5_1.length≤co28:=(Kd.R_reads' HO_5.out).2.1;have hC30:Kd.C (Kd.int .i64) _ Ao28 x5_1.length x5_1:=(Kd.R_reads' HO_5.out).2.2;have q030:(0:Int)≤((ji19):Int):=oD4 (zyx4_4);have hcut30:=cut_from (P:=Try.prog) 25 3 .i64 Try.underlying25 hi030 1 hsz30 Ao28 x5_1.length co28 (ji19) q030 q30;have hr30:=Kd.C_drop (m:=((ji19):Int).toNat) (c:=co28) hC30 (by omega) hroom30;obtain ⟨A30,hA30⟩:∃ A1,A1=(if co28=((ji19):Int).toNat then Ao28 else (Ao28:Option Addr).map (·.add (((ji19):Int).toNat * 1))):=⟨_,rfl⟩;obtain ⟨c30,hc30⟩:∃ c1,c1=co28 - ((ji19):Int).toNat:=⟨_,rfl⟩;have hy30:y454.length=x5_1.length - ((ji19):Int).toNat:=(by rw [Ny454.out,List.length_drop] <;> omega);rw [show (x5_1).drop ((ji19):Int).toNat=y454 from Ny454.out.symm] at hr30;replace hr30:Kd.C (Kd.int .i64) _ A30 y454.length y454:=(by rw [hA30];exact hr30);rw [← hy30,← hA30,← hc30] at hcut30;have HR457:=aM4 hr30;have HC457:=aM4 (show y454.length≤c30 from by rw [hy30,hc30];exact Nat.sub_le_sub_right hroom30 _);clear hr30 hC30 hroom30 hi030 hsz30 hc30;have KY30:=aM4 hy30;have KA30:=aM4 hA30;clear hy30 hA30;have KL30:=aM4 (show ((ji19):Int).toNat≤x5_1.length from by omega);replace q30:=eT4 q30)|((with_reducible refine gC4 (f:=72) rfl ?_);refine goesL_ (some 37) rfl rfl Try.func72 (zyx4_7) rfl #[.slice A30 y454.length c30] rfl (zyx4_8) ?_;(with_reducible refine (spec_l1Own.calls _ _ y454 t458 _ ?side1 ?side2 A22.out).mono ?_);(case side1=>repeat (first|exact (zyx4_13)|(with_reducible refine Kd.C_alloc ?_ _)|(with_reducible refine Kd.C_drewN ?_ _)|(with_reducible refine Kd.C_drew ?_)));(case side2=>exact HC457.out);rintro e w31 ⟨v459,rfl,ho0,hb⟩;refine ⟨_,rfl,?_⟩;have n0_:=aM4 (Kd.S_elder' (zyx4_5) (Kd.R_base ho0) hb);have n1_:=aM4 (Kd.R_elder' (zyx4_6) (Kd.R_base ho0) hb);have n2_:=aM4 (Kd.R_lower (Kd.R_new' ho0 (Kd.R_lt (zyx4_6))) (below_size (zyx4_10)));have n3_:=aM4 (blk_below (g:=gb450) (o:=.cells #[.int .i64 ((rd_T94 l0 x11_1).f0),.int .i64 ((rd_T94 l0 x11_1).f1)] 94 (0,0)) (zyx4_11) hb);have n4_:=aM4 (Kd.C_below (zyx4_13) hb);have n5_:=aM4 (bS4 (zyx4_10) hb);clear HO_4 HO_5 BK450 HR457 HB;have HO_4:=n0_;have HO_5:=n1_;have HO460:=n2_;have BK450:=n3_;have HR457:=n4_;have HB:=n5_;clear n0_ n1_ n2_ n3_ n4_ n5_;(try clear hb);(try clear hb2);(try clear hk);(try clear hi);(try clear ho0);obtain ⟨Ao33,co33,eo33⟩:=Kd.R_slice HO460.out;subst eo33)|((with_reducible refine gate_builtin (b:=.append) (xs:=#[.tmp 33,.tmp 38]) rfl ?_);(try (refine gate_guard (by rfl) ?_;dsimp only));at_builtin;refine Kd.S_append (Kd.slice 3 (Kd.int .i64)) (w0:=w) w.heap.size rfl (.tmp 33) (.tmp 38) 81 25 (.slice none 0 0) 24 rfl Try.underlying81 info25 rfl (by decide) (by omega) u4 x4_1 t458 [.slice Ao33 t458.length co33] (fun k_=>some k_≠(.slice Ao28 x5_1.length co28:Value).ownBlock) (fun k_=>some k_=(.slice Ao33 t458.length co33:Value).ownBlock) rfl rfl ?aP (fun k_ hk_=>((Kd.R_mono (ok':=fun k_=>((fun k_=>some k_≠(.slice Ao28 x5_1.length co28:Value).ownBlock)) k_∧some k_≠(u4:Value).ownBlock) (Kd.R_apart' (HO460.out) (Kd.S_typed HO_4.out) (by decide)) (fun k_ hk=>⟨hk.1.2,hk.2⟩))).1 k_ hk_.symm) ?aF ?aO ?aB ?aS ?aL ?_;(case aP=>exact Kd.M_row (Kd.R_mono (Kd.R_tight rfl (Kd.R_mono (ok':=fun k_=>((fun k_=>some k_≠(.slice Ao28 x5_1.length co28:Value).ownBlock)) k_∧some k_≠(u4:Value).ownBlock) (Kd.R_apart' (HO460.out) (Kd.S_typed HO_4.out) (by decide)) (fun k_ hk=>⟨hk.1.2,hk.2⟩))) (fun _ h_=>h_)));(case aB=>exact (zyx4_10));(case aF=>exact (fun k_ hk=>Kd.fresh' (Kd.R_lt (zyx4_6)) k_ hk));(case aO=>exact (by (with_reducible repeat (first|apply Kd.S_alloc|apply Kd.S_drewN|apply Kd.S_drew));exact Kd.S_mono HO_4.out (fun k_ hk=>⟨hk.1,fun e_=>hk.2 e_⟩)));(case aS=>exact (below_size (zyx4_10)));(case aL=>have:=LMc23.out;omega);intro v462 w32 ho hb hg hat;rw [← Ny461.out] at ho;have n0_:=aM4 (Kd.R_over' (zyx4_6) (Kd.S_typed (zyx4_5)) (by decide) hg);have n1_:=aM4 (blk_grown (g:=gb450) (o:=.cells #[.int .i64 ((rd_T94 l0 x11_1).f0),.int .i64 ((rd_T94 l0 x11_1).f1)] 94 (0,0)) (zyx4_11) hg (Kd.S_ne HO_4.out BK450.out (by decide)));have n2_:=aM4 (hb);have n3_:=aM4 ((show Kd.C (Kd.int .i64) w32 A30 y454.length y454 from by rw [Ny454.out,KA30.out];exact Kd.C_drop (m:=((ji19):Int).toNat) (c:=co28) ((Kd.R_reads' (Kd.R_over' (zyx4_6) (Kd.S_typed (zyx4_5)) (by decide) hg)).2.2) KL30.out ((Kd.R_reads' (Kd.R_over' (zyx4_6) (Kd.S_typed (zyx4_5)) (by decide) hg)).2.1)));have n4_:=aM4 (ho);clear HO_5 BK450 HB HR457 HO_4 HO460;have HO_5:=n0_;have BK450:=n1_;have HB:=n2_;have HR457:=n3_;have HO463:=n4_;clear n0_ n1_ n2_ n3_ n4_ ho hb hg hat;have q34:((ji19):Int)≤((x5_1.length:Int):Int):=oD4 (zyx4_4);obtain ⟨i034,hi034,_,hsz34,_⟩:=info_parts info3;have hroom34:x5_1.length≤co28:=(Kd.R_reads' HO_5.out).2.1;have hC34:Kd.C (Kd.int .i64) _ Ao28 x5_1.length x5_1:=(Kd.R_reads' HO_5.out).2.2;have hcut34:=cut_to (P:=Try.prog) 25 3 .i64 Try.underlying25 hi034 Ao28 x5_1.length co28 (ji19) (oD4 (zyx4_4)) q34 hroom34;have hr34:=Kd.C_take (m:=((ji19):Int).toNat) hC34 (by omega);have hy34:y464.length=((ji19):Int).toNat:=(by rw [Ny464.out,List.length_take];omega);rw [← Ny464.out] at hr34;rw [← hy34] at hcut34;have HR467:=aM4 hr34;have HC467:=aM4 (show y464.length≤co28 from by omega);clear hr34 hC34 hroom34 hi034 hsz34;have KY34:=aM4 hy34;clear hy34;have KL34:=aM4 (show ((ji19):Int).toNat≤x5_1.length from by omega);replace q34:=eT4 q34)|((with_reducible refine gC4 (f:=72) rfl ?_);refine goesL_ (some 43) rfl rfl Try.func72 (zyx4_7) rfl #[.slice Ao28 y464.length co28] rfl (zyx4_8) ?_;(with_reducible refine (spec_l1Own.calls _ _ y464 t468 _ ?side1 ?side2 A26.out).mono ?_);(case side1=>repeat (first|exact (zyx4_14)|(with_reducible refine Kd.C_alloc ?_ _)|(with_reducible refine Kd.C_drewN ?_ _)|(with_reducible refine Kd.C_drew ?_)));(case side2=>exact HC467.out);rintro e w35 ⟨v469,rfl,ho0,hb⟩;refine ⟨_,rfl,?_⟩;have n0_:=aM4 (Kd.R_elder' (zyx4_6) (Kd.R_base ho0) hb);have n1_:=aM4 (Kd.S_elder' (by (with_reducible repeat (first|apply Kd.S_alloc|apply Kd.S_drewN|apply Kd.S_drew));exact HO463.out) (Kd.R_base ho0) hb);have n2_:=aM4 (Kd.R_lower (Kd.R_new' ho0 (Kd.R_lt (zyx4_6))) (below_size (zyx4_10)));have n3_:=aM4 (blk_below (g:=gb450) (o:=.cells #[.int .i64 ((rd_T94 l0 x11_1).f0),.int .i64 ((rd_T94 l0 x11_1).f1)] 94 (0,0)) (zyx4_11) hb);have n4_:=aM4 (Kd.C_below (zyx4_13) hb);have n5_:=aM4 (Kd.C_below (zyx4_14) hb);have n6_:=aM4 (bS4 (zyx4_10) hb);clear HO_5 HO463 BK450 HR457 HR467 HB;have HO_5:=n0_;have HO463:=n1_;have HO470:=n2_;have BK450:=n3_;have HR457:=n4_;have HR467:=n5_;have HB:=n6_;clear n0_ n1_ n2_ n3_ n4_ n5_ n6_;(try clear hb);(try clear hb2);(try clear hk);(try clear hi);(try clear ho0))|((with_reducible refine gate_builtin (b:=.append) (xs:=#[.tmp 43,.tmp 45]) rfl ?_);(try (refine gate_guard (by rfl) ?_;dsimp only));at_builtin;refine Kd.R_append (Kd.int .i64) (w0:=w) w.heap.size rfl (.tmp 43) (.tmp 45) 25 3 (.int .i64 0) 8 rfl Try.underlying25 info3 rfl (by decide) (by omega) v469 t468 x11_1 [.int .i64 x11_1] (fun k_=>some k_≠(.slice Ao28 x5_1.length co28:Value).ownBlock) (fun _=>False) rfl rfl ?aP (fun _ hk=>hk.elim) ?aF ?aO ?aB ?aS ?aL ?_;(case aP=>exact rfl);(case aB=>exact (zyx4_10));(case aF=>exact (fun k_ hk=>Kd.fresh' (Kd.R_lt (zyx4_6)) k_ hk));(case aO=>exact (by (with_reducible repeat (first|apply Kd.R_alloc|apply Kd.R_drewN|apply Kd.R_drew));exact Kd.R_mono HO470.out (fun _ hk=>hk.2)));(case aS=>exact (below_size (zyx4_10)));(case aL=>have:=LMc27.out;omega);intro v472 w36 ho hb hg hat;rw [← Ny471.out] at ho;have n0_:=aM4 (Kd.R_after (ok:=(fun _=>True)) (zyx4_15) hg hat);have n1_:=aM4 (blk_grown (g:=gb450) (o:=.cells #[.int .i64 ((rd_T94 l0 x11_1).f0),.int .i64 ((rd_T94 l0 x11_1).f1)] 94 (0,0)) (zyx4_11) hg (Kd.R_ne HO470.out BK450.out (by decide)));have n2_:=aM4 (Kd.S_after (ok:=(fun k_=>some k_≠(.slice Ao28 x5_1.length co28:Value).ownBlock)) (by (with_reducible repeat (first|apply Kd.S_alloc|apply Kd.S_drewN|apply Kd.S_drew));exact HO463.out) hg hat);have n3_:=aM4 (hb);have n4_:=aM4 ((show Kd.C (Kd.int .i64) w36 A30 y454.length y454 from by rw [Ny454.out,KA30.out];exact Kd.C_drop (m:=((ji19):Int).toNat) (c:=co28) ((Kd.R_reads' (Kd.R_after (ok:=(fun _=>True)) (zyx4_15) hg hat)).2.2) KL30.out ((Kd.R_reads' (Kd.R_after (ok:=(fun _=>True)) (zyx4_15) hg hat)).2.1)));have n5_:=aM4 ((show Kd.C (Kd.int .i64) w36 Ao28 y464.length y464 from by rw [Ny464.out];exact Kd.C_take (m:=((ji19):Int).toNat) ((Kd.R_reads' (Kd.R_after (ok:=(fun _=>True)) (zyx4_15) hg hat)).2.2) KL34.out));have n6_:=aM4 (ho);clear HO_5 BK450 HO463 HB HR457 HR467 HO470;have HO_5:=n0_;have BK450:=n1_;have HO463:=n2_;have HB:=n3_;have HR457:=n4_;have HR467:=n5_;have HO473:=n6_;clear n0_ n1_ n2_ n3_ n4_ n5_ n6_ ho hb hg hat))
             go_roundg kj4
             case measure=>have:=HK1.out;have:=HJ4.out;omega
             case rel=>exact ⟨(y461),(y471),(wrap64 (x11_1 + 1)),(zyx4_0),H',⟨by have:=HK1.out;have:=HJ4.out;omega⟩,⟨by (with_reducible repeat (first|apply Kd.S_alloc|apply Kd.S_drewN|apply Kd.S_drew));exact Kd.S_mono HO463.out (fun _ hk=>hk.2)⟩,⟨by (with_reducible repeat (first|apply Kd.R_alloc|apply Kd.R_drewN|apply Kd.R_drew));exact Kd.R_mono HO473.out (fun _ hk=>trivial)⟩,⟨zyx4_10⟩⟩
            ·rw [if_neg c27] at H
             exact absurd H (by simp)
           ·rw [if_neg c23] at H
            exact absurd H (by simp)
          ·rw [if_neg c21] at H
           exact absurd H (by simp)
         ·rw [if_neg c20] at H
          exact absurd H (by simp)
     ·rw [if_neg c4] at H
      exact absurd H (by simp)
    ·rw [if_neg c3] at H
     exact absurd H (by simp)
   ·rw [if_neg c2] at H
    have c2b0:decide (x11_1 < (l0.length:Int))=false:=decide_eq_false c2;clear c2;simp only [Option.some.injEq,Prod.mk.injEq] at H;obtain ⟨rfl,rfl⟩:=H;obtain ⟨Ao37,co37,eo37⟩:=Kd.R_slice HO_5.out;subst eo37
    go_wp2
    go_ret2
    exact ⟨_,zyx4_12,by (with_reducible repeat (first|apply Kd.S_alloc|apply Kd.S_drewN|apply Kd.S_drew));exact Kd.S_mono HO_4.out (fun _ hk=>trivial),zyx4_3⟩
mutual
def spec_ruDepths.l0:Nat→List Int→List (List Int)→Int→Int→Option (List Int)
 | 0,_,_,_,_=>none
 | k + 1,x3,x9,x10,x11=>if x11 < x10 then (if 0≤x11 then (if x11 < (x9.length:Int) then (spec_ruDepths.l1 k x3 0 x9 x10 x11 (rd_L5 x9 x11) ((rd_L5 x9 x11).length:Int) 0) else (none)) else (none)) else (some x3)
def spec_ruDepths.l1:Nat→List Int→Int→List (List Int)→Int→Int→List Int→Int→Int→Option (List Int)
 | 0,_,_,_,_,_,_,_,_=>none
 | k + 1,x3,x6,x9,x10,x11,x15,x16,x17=>if x17 < x16 then (if 0≤x17 then (if x17 < (x15.length:Int) then (if 0≤(rd x15 x17) then (if (rd x15 x17) < (x3.length:Int) then ((spec_l1Most.f x6 (rd x3 (rd x15 x17))).bind fun t477=>(spec_ruDepths.l1 k x3 t477 x9 x10 x11 x15 x16 (wrap64 (x17 + 1)))) else (none)) else (none)) else (none)) else (none)) else (if x3.length < 17592186044416 then (spec_ruDepths.l0 k (x3 ++ [wrap64 (x6 + 1)]) x9 x10 (wrap64 (x11 + 1))) else (none))
end
def spec_ruDepths.f (k:Nat) (l0:List (List Int)):Option (List Int):=spec_ruDepths.l0 k ([]:List Int) l0 (l0.length:Int) 0
set_option maxHeartbeats 8000000 in
set_option maxRecDepth 100000 in
theorem spec_ruDepths.calls (k:Nat) (A0:Option Addr) (c0:Nat) (l0:List (List Int)) (r:List Int) (w:World) (hr0:Kd.C (Kd.slice 3 (Kd.int .i64)) w A0 l0.length l0) (hc0:l0.length≤c0) (h:spec_ruDepths.f k l0=some r) :
  Calls Try.prog 61 #[.slice A0 l0.length c0] w fun e w'=>∃ v0_:Value,e=.returned (v0_)∧Kd.R (Kd.int .i64) 3 w' w.heap.size (fun _=>True) v0_ r∧Below w.heap.size w w':=by
 have HR0:=aM4 hr0;have HC0:=aM4 hc0;clear hr0 hc0;have HB:=aM4 (Below.refl w.heap.size w);have H:(spec_ruDepths.l0 k ([]:List Int) l0 (l0.length:Int) 0)=some r:=h;clear h;have H':=aM4 H;clear H;go_enter Try.func61,Try.ntmps61
 go_wp2
 go_loopg [3,11] k (fun kq v3 v11 w'=>∃ (x3_1:List Int) (x11_1:Int),v11=.int .i64 x11_1∧Aside0 (spec_ruDepths.l0 kq x3_1 l0 (l0.length:Int) x11_1=some r)∧Aside0 (kq≤k)∧Aside0 (Kd.R (Kd.int .i64) 3 w' w.heap.size (fun _=>True) v3 x3_1)∧Aside0 (Below w.heap.size w w'))
 case atStart=>exact ⟨(([]:List Int)),(0),(zyx4_0),H',⟨Nat.le_refl _⟩,⟨zyx4_2⟩,⟨zyx4_3⟩⟩
 case round =>
  clear H';obtain ⟨x3_1,x11_1,rfl,HA,HK1,HO_3,HB⟩:=hrel
  cases gk with
  | zero=>exact absurd HA.out (by simp [spec_ruDepths.l0])
  | succ k1 =>
   have H:=HA.out;clear HA;simp only [spec_ruDepths.l0] at H
   by_cases c2:x11_1 < (l0.length:Int)
   ·rw [if_pos c2] at H
    have c2b0:decide (x11_1 < (l0.length:Int))=true:=dT4 c2;clear c2
    by_cases c3:0≤x11_1
    ·rw [if_pos c3] at H
     have c3b0:decide (0≤x11_1)=true:=dT4 c3;clear c3
     by_cases c4:x11_1 < (l0.length:Int)
     ·rw [if_pos c4] at H
      have c4b0:decide (x11_1 < (l0.length:Int))=true:=dT4 c4;clear c4;have H':=aM4 H;clear H;have p474:0≤(x11_1:Int):=oD4 (zyx4_4);have q474:x11_1 < (l0.length:Int):=oD4 (zyx4_4);obtain ⟨ad474,A474_0,c474_0,e474,hx474_0,hl474_0,hi474_0⟩:=at_L5 HR0.out x11_1 p474 q474
      cases e474
      replace hx474_0:=(HB.out.cell (bL4 w _ hx474_0)).trans hx474_0;have HR474_0:=aM4 hi474_0;have HC474_0:=aM4 hl474_0;clear hi474_0 hl474_0;replace p474:=eT4 p474;replace q474:=eT4 q474
      go_wp2
      go_loopg [6,17] k1 (fun kq v6 v17 w'=>∃ (x6_2:Int) (x17_2:Int),v6=.int .i64 x6_2∧v17=.int .i64 x17_2∧Aside0 (spec_ruDepths.l1 kq x3_1 x6_2 l0 (l0.length:Int) x11_1 (rd_L5 l0 x11_1) ((rd_L5 l0 x11_1).length:Int) x17_2=some r)∧Aside0 (kq≤k1)∧Aside0 (Kd.R (Kd.int .i64) 3 w' w.heap.size (fun _=>True) u3 x3_1)∧Aside0 (Below w.heap.size w w'))
      case atStart=>exact ⟨(0),(0),(zyx4_0),(zyx4_0),H',⟨Nat.le_refl _⟩,⟨zyx4_16⟩,⟨zyx4_3⟩⟩
      case round =>
       clear H';(try clear c2);(try clear c2b0);(try clear p2);(try clear c3);(try clear c3b0);(try clear c4);(try clear c4b0);(try clear p4);(try clear q4);(try clear hx4);(try clear hx474_0);(try clear p474);(try clear q474);obtain ⟨x6_2,x17_2,rfl,rfl,HA,HK2,HO_3,HB⟩:=hrel
       cases gk with
       | zero=>exact absurd HA.out (by simp [spec_ruDepths.l1])
       | succ k2 =>
        have H:=HA.out;clear HA;simp only [spec_ruDepths.l1] at H
        by_cases c5:x17_2 < ((rd_L5 l0 x11_1).length:Int)
        ·rw [if_pos c5] at H
         have c5b0:decide (x17_2 < ((rd_L5 l0 x11_1).length:Int))=true:=dT4 c5;clear c5
         by_cases c6:0≤x17_2
         ·rw [if_pos c6] at H
          have c6b0:decide (0≤x17_2)=true:=dT4 c6;clear c6
          by_cases c7:x17_2 < ((rd_L5 l0 x11_1).length:Int)
          ·rw [if_pos c7] at H
           have c7b0:decide (x17_2 < ((rd_L5 l0 x11_1).length:Int))=true:=dT4 c7;clear c7
           by_cases c8:0≤(rd (rd_L5 l0 x11_1) x17_2)
           ·rw [if_pos c8] at H
            have c8b0:decide (0≤(rd (rd_L5 l0 x11_1) x17_2))=true:=dT4 c8;clear c8
            by_cases c9:(rd (rd_L5 l0 x11_1) x17_2) < (x3_1.length:Int)
            ·rw [if_pos c9] at H
             have c9b0:decide ((rd (rd_L5 l0 x11_1) x17_2) < (x3_1.length:Int))=true:=dT4 c9;clear c9;replace H:=bI4.mp H;obtain ⟨t477,A100,H⟩:=H;(try dsimp only at H);have A10:=aM4 A100;clear A100;have H':=aM4 H;clear H;have p475:0≤(x17_2:Int):=oD4 (zyx4_4);have q475:x17_2 < ((rd_L5 l0 x11_1).length:Int):=oD4 (zyx4_4);obtain ⟨ad475,e475,hx475_0⟩:=Kd.at_int HR474_0.out x17_2 p475 q475
             cases e475
             replace hx475_0:=(HB.out.cell (bL4 w _ hx475_0)).trans hx475_0;replace p475:=eT4 p475;replace q475:=eT4 q475;obtain ⟨Ao11,co11,eo11⟩:=Kd.R_slice HO_3.out;subst eo11;have p476:0≤((rd (rd_L5 l0 x11_1) x17_2):Int):=oD4 (zyx4_4);have q476:(rd (rd_L5 l0 x11_1) x17_2) < (x3_1.length:Int):=oD4 (zyx4_4);obtain ⟨ad476,e476,hx476_0⟩:=Kd.at_int (Kd.R_reads' HO_3.out).2.2 (rd (rd_L5 l0 x11_1) x17_2) p476 q476
             cases e476
             replace p476:=eT4 p476;replace q476:=eT4 q476
             go_wp2_with (first|((with_reducible refine gC4 (f:=51) rfl ?_);refine goesL_ (some 26) rfl rfl Try.func51 (zyx4_7) rfl #[.int .i64 x6_2,.int .i64 (rd x3_1 (rd (rd_L5 l0 x11_1) x17_2))] rfl (zyx4_8) ?_;(with_reducible refine (spec_l1Most.calls x6_2 (rd x3_1 (rd (rd_L5 l0 x11_1) x17_2)) t477 _ A10.out).mono ?_);rintro e w' ⟨rfl,⟨nd,rfl⟩⟩;refine ⟨_,rfl,?_⟩))
             go_roundg k2
             case measure=>have:=HK1.out;have:=HK2.out;omega
             case rel=>exact ⟨(t477),(wrap64 (x17_2 + 1)),(zyx4_0),(zyx4_0),H',⟨by have:=HK1.out;have:=HK2.out;omega⟩,⟨zyx4_16⟩,⟨zyx4_3⟩⟩
            ·rw [if_neg c9] at H
             exact absurd H (by simp)
           ·rw [if_neg c8] at H
            exact absurd H (by simp)
          ·rw [if_neg c7] at H
           exact absurd H (by simp)
         ·rw [if_neg c6] at H
          exact absurd H (by simp)
        ·rw [if_neg c5] at H
         have c5b0:decide (x17_2 < ((rd_L5 l0 x11_1).length:Int))=false:=decide_eq_false c5;clear c5
         by_cases c12:x3_1.length < 17592186044416
         ·rw [if_pos c12] at H
          have LMc12:=aM4 c12;clear c12;obtain ⟨y478,hy478⟩:∃ y_:List Int,y_=(x3_1 ++ [wrap64 (x6_2 + 1)]):=⟨_,rfl⟩
          replace H:(spec_ruDepths.l0 k2 y478 l0 (l0.length:Int) (wrap64 (x11_1 + 1)))=some r:=by first|(rw [hy478];with_reducible exact H)|(have H2_:=(Option.bind_some _ _).symm.trans H;rw [hy478];with_reducible exact H2_)|(have H2_:=(Option.bind_some _ _).symm.trans H;with_reducible exact H2_)|with_reducible exact H|(rw [hy478];exact H)|exact H
          have Ny478:=aM4 hy478;clear hy478;have H':=aM4 H;clear H
          go_wp2_with (first|((with_reducible refine gate_builtin (b:=.append) (xs:=#[.tmp 28,.tmp 31]) rfl ?_);at_builtin;refine Kd.R_append (Kd.int .i64) (w0:=w) w.heap.size rfl (.tmp 28) (.tmp 31) 25 3 (.int .i64 0) 8 rfl Try.underlying25 info3 rfl (by decide) (by omega) u3 x3_1 (wrap64 (x6_2 + 1)) [.int .i64 (wrap64 (x6_2 + 1))] (fun _=>True) (fun _=>False) rfl rfl ?aP (fun _ hk=>hk.elim) ?aF ?aO ?aB ?aS ?aL ?_;(case aP=>exact rfl);(case aB=>exact (zyx4_3));(case aF=>exact (fun _ _=>trivial));(case aO=>exact (zyx4_16));(case aS=>exact (below_size (zyx4_3)));(case aL=>have:=LMc12.out;omega);intro v479 w13 ho hb hg hat;rw [← Ny478.out] at ho;have n0_:=aM4 (hb);have n1_:=aM4 (ho);clear HB HO_3;have HB:=n0_;have HO480:=n1_;clear n0_ n1_ ho hb hg hat))
          go_roundg k2
          case measure=>have:=HK1.out;have:=HK2.out;omega
          case rel=>exact ⟨(y478),(wrap64 (x11_1 + 1)),(zyx4_0),H',⟨by have:=HK1.out;have:=HK2.out;omega⟩,⟨by (with_reducible repeat (first|apply Kd.R_alloc|apply Kd.R_drewN|apply Kd.R_drew));exact HO480.out⟩,⟨zyx4_3⟩⟩
         ·rw [if_neg c12] at H
          exact absurd H (by simp)
     ·rw [if_neg c4] at H
      exact absurd H (by simp)
    ·rw [if_neg c3] at H
     exact absurd H (by simp)
   ·rw [if_neg c2] at H
    have c2b0:decide (x11_1 < (l0.length:Int))=false:=decide_eq_false c2;clear c2;obtain rfl:=Option.some.inj H
    go_wp2
    go_ret
    exact ⟨_,zyx4_12,zyx4_16,zyx4_3⟩
def spec_ruGood.f (k:Nat) (l0:List (S94)):Option (Bool):=(spec_l1In.f (l0.length:Int) 1 39).bind fun t481=>(if t481=true then ((spec_ruTree.f k l0).bind fun bt482=>(if bt482.2=true then ((spec_ruDepths.f k bt482.1).bind fun t486=>(if 0≤(wrap64 ((l0.length:Int) - 1)) then (if (wrap64 ((l0.length:Int) - 1)) < (t486.length:Int) then (some (decide ((rd t486 (wrap64 ((l0.length:Int) - 1)))≤12))) else (none)) else (none))) else (some false))) else (some false))
set_option maxHeartbeats 8000000 in
set_option maxRecDepth 100000 in
theorem spec_ruGood.calls (k:Nat) (A0:Option Addr) (c0:Nat) (l0:List (S94)) (r:Bool) (w:World) (hr0:Kd.C k94 w A0 l0.length l0) (hc0:l0.length≤c0) (h:spec_ruGood.f k l0=some r) :
  Calls Try.prog 34 #[.slice A0 l0.length c0] w fun e w'=>e=.returned (.bool r)∧Below w.heap.size w w':=by
 have HR0:=aM4 hr0;have HC0:=aM4 hc0;clear hr0 hc0;have HB:=aM4 (Below.refl w.heap.size w);have H:((spec_l1In.f (l0.length:Int) 1 39).bind fun t481=>(if t481=true then ((spec_ruTree.f k l0).bind fun bt482=>(if bt482.2=true then ((spec_ruDepths.f k bt482.1).bind fun t486=>(if 0≤(wrap64 ((l0.length:Int) - 1)) then (if (wrap64 ((l0.length:Int) - 1)) < (t486.length:Int) then (some (decide ((rd t486 (wrap64 ((l0.length:Int) - 1)))≤12))) else (none)) else (none))) else (some false))) else (some false)))=some r:=h;clear h;replace H:=bI4.mp H;obtain ⟨t481,A20,H⟩:=H;(try dsimp only at H);have A2:=aM4 A20;clear A20
 by_cases c3:t481=true
 ·subst c3
  rw [if_pos rfl] at H;(try dsimp only at H);replace H:=bI4.mp H;obtain ⟨⟨t482,t483⟩,A40,H⟩:=H;(try dsimp only at H);have A4:=aM4 A40;clear A40
  by_cases c5:t483=true
  ·subst c5
   rw [if_pos rfl] at H;(try dsimp only at H);replace H:=bI4.mp H;obtain ⟨t486,A60,H⟩:=H;(try dsimp only at H);have A6:=aM4 A60;clear A60;obtain ⟨ji7,hji7⟩:∃ j_:Int,(wrap64 ((l0.length:Int) - 1))=j_:=⟨_,rfl⟩
   replace H:(if 0≤(ji7) then (if (ji7) < (t486.length:Int) then (some (decide ((rd t486 (ji7))≤12))) else (none)) else (none))=some r:=by first|(rw [hji7] at H;exact H)|(simp only [hji7] at H ⊢;exact H)
   (try rw [hji7] at A2);(try rw [hji7] at A4);(try rw [hji7] at A6);have hji7w:(IntKind.i64.wrap ((l0.length:Int) - 1))=ji7:=(i64_w _).trans hji7
   by_cases c8:0≤(ji7)
   ·rw [if_pos c8] at H
    have c8b0:decide (0≤(ji7))=true:=dT4 c8;clear c8
    by_cases c9:(ji7) < (t486.length:Int)
    ·rw [if_pos c9] at H
     have c9b0:decide ((ji7) < (t486.length:Int))=true:=dT4 c9;clear c9;obtain rfl:=Option.some.inj H;go_enter Try.func34,Try.ntmps34
     go_wp2_with (first|((with_reducible refine gC4 (f:=37) rfl ?_);refine goesL_ (some 7) rfl rfl Try.func37 (zyx4_7) rfl #[.int .i64 (l0.length:Int),.int .i64 1,.int .i64 39] rfl (zyx4_8) ?_;(with_reducible refine (spec_l1In.calls (l0.length:Int) 1 39 true _ A2.out).mono ?_);rintro e w' ⟨rfl,⟨nd,rfl⟩⟩;refine ⟨_,rfl,?_⟩)|((with_reducible refine gC4 (f:=60) rfl ?_);refine goesL_ (some 11) rfl rfl Try.func60 (zyx4_7) rfl #[.slice A0 l0.length c0] rfl (zyx4_8) ?_;(with_reducible refine (spec_ruTree.calls k _ _ l0 t482 true _ ?side1 ?side2 A4.out).mono ?_);(case side1=>exact zyx4_26);(case side2=>exact HC0.out);rintro e w10 ⟨v484,rfl,ho0,hb⟩;refine ⟨_,rfl,?_⟩;have n0_:=aM4 (Kd.S_lower ho0 (below_size (zyx4_3)));have n1_:=aM4 (bS4 (zyx4_3) hb);clear HB;have HO485:=n0_;have HB:=n1_;clear n0_ n1_;(try clear hb);(try clear hb2);(try clear hk);(try clear hi);(try clear ho0);obtain ⟨Ao11,co11,eo11⟩:=Kd.S_slice HO485.out;subst eo11)|(go_at_call 61;(with_reducible refine (spec_ruDepths.calls k _ _ t482 t486 _ ?side1 ?side2 A6.out).mono ?_);(case side1=>repeat (first|exact (Kd.S_reads' HO485.out).2.2|(with_reducible refine Kd.C_alloc ?_ _)|(with_reducible refine Kd.C_drewN ?_ _)|(with_reducible refine Kd.C_drew ?_)));(case side2=>exact (Kd.S_reads' HO485.out).2.1);rintro e w12 ⟨v487,rfl,ho0,hb⟩;have n0_:=aM4 (Kd.S_elder' (by (with_reducible repeat (first|apply Kd.S_alloc|apply Kd.S_drewN|apply Kd.S_drew));exact HO485.out) (Kd.R_base ho0) hb);have n1_:=aM4 (Kd.R_lower ho0 (below_size (zyx4_3)));have n2_:=aM4 (bS4 (zyx4_3) hb);clear HO485 HB;have HO485:=n0_;have HO488:=n1_;have HB:=n2_;clear n0_ n1_ n2_;(try clear hb);(try clear hb2);(try clear hk);(try clear hi);(try clear ho0);obtain ⟨Ao13,co13,eo13⟩:=Kd.R_slice HO488.out;subst eo13;have p489:0≤((ji7):Int):=oD4 (zyx4_4);have q489:(ji7) < (t486.length:Int):=oD4 (zyx4_4);obtain ⟨ad489,e489,hx489_0⟩:=Kd.at_int (Kd.R_reads' HO488.out).2.2 (ji7) p489 q489;cases e489;replace p489:=eT4 p489;replace q489:=eT4 q489))
     go_ret
     exact ⟨by first|rfl|(simp [errW_none,errW_some] <;> rfl)|(simp only [← hji7];first|rfl|(simp [errW_none,errW_some] <;> rfl))|(simp [*,errW_none,errW_some] <;> rfl),zyx4_3⟩
    ·rw [if_neg c9] at H
     exact absurd H (by simp)
   ·rw [if_neg c8] at H
    exact absurd H (by simp)
  ·replace c5:=Bool.eq_false_iff.mpr c5
   subst c5;rw [if_neg (show ¬ (false=true) by decide)] at H;(try dsimp only at H);obtain rfl:=Option.some.inj H;go_enter Try.func34,Try.ntmps34
   go_wp2_with (first|((with_reducible refine gC4 (f:=37) rfl ?_);refine goesL_ (some 7) rfl rfl Try.func37 (zyx4_7) rfl #[.int .i64 (l0.length:Int),.int .i64 1,.int .i64 39] rfl (zyx4_8) ?_;(with_reducible refine (spec_l1In.calls (l0.length:Int) 1 39 true _ A2.out).mono ?_);rintro e w' ⟨rfl,⟨nd,rfl⟩⟩;refine ⟨_,rfl,?_⟩)|((with_reducible refine gC4 (f:=60) rfl ?_);refine goesL_ (some 11) rfl rfl Try.func60 (zyx4_7) rfl #[.slice A0 l0.length c0] rfl (zyx4_8) ?_;(with_reducible refine (spec_ruTree.calls k _ _ l0 t482 false _ ?side1 ?side2 A4.out).mono ?_);(case side1=>exact zyx4_26);(case side2=>exact HC0.out);rintro e w14 ⟨v484,rfl,ho0,hb⟩;refine ⟨_,rfl,?_⟩;have n0_:=aM4 (Kd.S_lower ho0 (below_size (zyx4_3)));have n1_:=aM4 (bS4 (zyx4_3) hb);clear HB;have HO485:=n0_;have HB:=n1_;clear n0_ n1_;(try clear hb);(try clear hb2);(try clear hk);(try clear hi);(try clear ho0)))
   go_ret
   exact ⟨zyx4_12,zyx4_3⟩
 ·replace c3:=Bool.eq_false_iff.mpr c3
  subst c3;rw [if_neg (show ¬ (false=true) by decide)] at H;(try dsimp only at H);obtain rfl:=Option.some.inj H;go_enter Try.func34,Try.ntmps34
  go_wp2_with (first|((with_reducible refine gC4 (f:=37) rfl ?_);refine goesL_ (some 7) rfl rfl Try.func37 (zyx4_7) rfl #[.int .i64 (l0.length:Int),.int .i64 1,.int .i64 39] rfl (zyx4_8) ?_;(with_reducible refine (spec_l1In.calls (l0.length:Int) 1 39 false _ A2.out).mono ?_);rintro e w' ⟨rfl,⟨nd,rfl⟩⟩;refine ⟨_,rfl,?_⟩))
  go_ret
  exact ⟨zyx4_12,zyx4_3⟩
def spec_l1Sign.f (a0:Int):Option (Int):=if a0 > 0 then (some 1) else (if a0 < 0 then (some (-1)) else (some 0))
set_option maxHeartbeats 8000000 in
set_option maxRecDepth 100000 in
theorem spec_l1Sign.calls (a0:Int) (r:Int) (w:World) (h:spec_l1Sign.f a0=some r) :
  Calls Try.prog 73 #[.int .i64 a0] w fun e w'=>e=.returned (.int .i64 r)∧Drawn0 w w':=by
 have H:(if a0 > 0 then (some 1) else (if a0 < 0 then (some (-1)) else (some 0)))=some r:=h;clear h
 by_cases c2:a0 > 0
 ·rw [if_pos c2] at H
  have c2b0:decide (0 < a0)=true:=dT4 c2;clear c2;obtain rfl:=Option.some.inj H;go_enter Try.func73,Try.ntmps73
  go_wp2
  go_ret
  exact ⟨zyx4_0,zyx4_17⟩
 ·rw [if_neg c2] at H
  have c2b0:decide (0 < a0)=false:=decide_eq_false c2;clear c2
  by_cases c3:a0 < 0
  ·rw [if_pos c3] at H
   have c3b0:decide (a0 < 0)=true:=dT4 c3;clear c3;obtain rfl:=Option.some.inj H;go_enter Try.func73,Try.ntmps73
   go_wp2
   go_ret
   exact ⟨zyx4_0,zyx4_17⟩
  ·rw [if_neg c3] at H
   have c3b0:decide (a0 < 0)=false:=decide_eq_false c3;clear c3;obtain rfl:=Option.some.inj H;go_enter Try.func73,Try.ntmps73
   go_wp2
   go_ret
   exact ⟨zyx4_0,zyx4_17⟩
def spec_l1Abs.f (a0:Int):Option (Int):=(spec_l1Most.f a0 (wrap64 (-a0))).bind fun t663=>(some t663)
set_option maxHeartbeats 8000000 in
set_option maxRecDepth 100000 in
theorem spec_l1Abs.calls (a0:Int) (r:Int) (w:World) (h:spec_l1Abs.f a0=some r) :
  Calls Try.prog 74 #[.int .i64 a0] w fun e w'=>e=.returned (.int .i64 r)∧Drawn0 w w':=by
 have H:((spec_l1Most.f a0 (wrap64 (-a0))).bind fun t663=>(some t663))=some r:=h;clear h;replace H:=bI4.mp H;obtain ⟨t663,A20,H⟩:=H;(try dsimp only at H);have A2:=aM4 A20;clear A20;obtain rfl:=Option.some.inj H;go_enter Try.func74,Try.ntmps74
 go_wp2_with (first|((with_reducible refine gC4 (f:=51) rfl ?_);refine goesL_ (some 6) rfl rfl Try.func51 (zyx4_7) rfl #[.int .i64 a0,.int .i64 (wrap64 (-a0))] rfl (zyx4_8) ?_;(with_reducible refine (spec_l1Most.calls a0 (wrap64 (-a0)) t663 _ A2.out).mono ?_);rintro e w' ⟨rfl,⟨nd,rfl⟩⟩;refine ⟨_,rfl,?_⟩))
 go_ret
 exact ⟨zyx4_0,zyx4_17⟩
mutual
def spec_ruValue.j0:Nat→List (S94)→List (List Int)→List Int→List Int→Int→Int→Bool→Int→Int→Option (Int × Bool)
 | 0,_,_,_,_,_,_,_,_,_=>none
 | k + 1,x0,x1,x3,x11,x12,x14,x64,x667000,x667001=>if x64=true then (some (0,false)) else (if x667000=2 then ((spec_l1Abs.f (wrap64 (x12 + x14))).bind fun t674=>(some (wrap64 (x12 + x14),decide (t674≤1000000000)))) else (if x667000=3 then ((spec_l1Abs.f (wrap64 (x12 - x14))).bind fun t675=>(some (wrap64 (x12 - x14),decide (t675≤1000000000)))) else (if x667000=4 then ((spec_l1Abs.f (wrap64 (x12 * x14))).bind fun t676=>(some (wrap64 (x12 * x14),decide (t676≤1000000000)))) else (if x667000=5 then (if x14=0 then (some (0,false)) else ((spec_ruDown.f x12 x14).bind fun t677=>((spec_l1Abs.f t677).bind fun t678=>(some (t677,decide (t678≤1000000000)))))) else (if 3 < (x11.length:Int) then ((spec_l1Sign.f (wrap64 (x12 - x14))).bind fun t680=>(if t680=(wrap64 (x667000 - 7)) then (if 2 < (x11.length:Int) then ((spec_ruValue.f k x0 x1 (rd x11 2) x3).bind fun bt682=>(some (bt682.1,bt682.2))) else (none)) else ((spec_ruValue.f k x0 x1 (rd x11 3) x3).bind fun bt684=>(some (bt684.1,bt684.2))))) else (none))))))
def spec_ruValue.f:Nat→List (S94)→List (List Int)→Int→List Int→Option (Int × Bool)
 | 0,_,_,_,_=>none
 | k + 1,l0,l1,a2,l3=>if 0≤a2 then (if a2 < (l0.length:Int) then (if a2 < (l1.length:Int) then (if ((rd_T94 l0 a2).f0)=0 then (some ((rd_T94 l0 a2).f1,true)) else (if ((rd_T94 l0 a2).f0)=1 then (if 0≤((rd_T94 l0 a2).f1) then (if ((rd_T94 l0 a2).f1) < (l3.length:Int) then (some (rd l3 ((rd_T94 l0 a2).f1),true)) else (none)) else (none)) else (if 0 < ((rd_L5 l1 a2).length:Int) then ((spec_ruValue.f k l0 l1 (rd (rd_L5 l1 a2) 0) l3).bind fun bt669=>(if 1 < ((rd_L5 l1 a2).length:Int) then ((spec_ruValue.f k l0 l1 (rd (rd_L5 l1 a2) 1) l3).bind fun bt672=>(if bt669.2=true then (spec_ruValue.j0 k l0 l1 l3 (rd_L5 l1 a2) bt669.1 bt672.1 (!bt672.2) ((rd_T94 l0 a2).f0) ((rd_T94 l0 a2).f1)) else (spec_ruValue.j0 k l0 l1 l3 (rd_L5 l1 a2) bt669.1 bt672.1 true ((rd_T94 l0 a2).f0) ((rd_T94 l0 a2).f1)))) else (none))) else (none)))) else (none)) else (none)) else (none)
end
def spec_ruValue.T1:Bool × List (List Nat × List Nat):=(true,[([],[]),([],[]),([0,1],[0,1]),([2],[2]),([],[]),([],[]),([4,5],[4,5]),([6],[6]),([],[]),([8,3,0,1,2,3,8],[3,8]),([7,9,0,1,2,3,4,5,6,7,8,9],[7])])
def spec_ruValue.B1:List Nat:=[0,0,3,7,0,0,48,112,0,271,1023]
theorem spec_ruValue.tab1:rtab .any (opsOf Try.f62 1)=spec_ruValue.T1:=by kernel_rfl
theorem spec_ruValue.bits1:waitsOk spec_ruValue.T1.2 spec_ruValue.B1=true:=by kernel_rfl
def spec_ruValue.T14:Bool × List (List Nat × List Nat):=(true,[([],[]),([],[]),([0,1],[0,1]),([2],[2]),([],[]),([4],[4]),([5],[5]),([3,6],[3,6])])
def spec_ruValue.B14:List Nat:=[0,0,3,7,0,16,48,127]
theorem spec_ruValue.tab14:rtab .any (opsOf Try.f62 14)=spec_ruValue.T14:=by kernel_rfl
theorem spec_ruValue.bits14:waitsOk spec_ruValue.T14.2 spec_ruValue.B14=true:=by kernel_rfl
set_option maxHeartbeats 8000000 in
set_option maxRecDepth 100000 in
theorem spec_ruValue.calls (k:Nat):∀ (A0:Option Addr) (c0:Nat) (l0:List (S94)) (A1:Option Addr) (c1:Nat) (l1:List (List Int)) (a2:Int) (A3:Option Addr) (c3:Nat) (l3:List Int) (r1:Int) (r2:Bool) (w:World) (hr0:Kd.C k94 w A0 l0.length l0) (hc0:l0.length≤c0) (hr1:Kd.C (Kd.slice 3 (Kd.int .i64)) w A1 l1.length l1) (hc1:l1.length≤c1) (hr3:Kd.C (Kd.int .i64) w A3 l3.length l3) (hc3:l3.length≤c3) (h:spec_ruValue.f k l0 l1 a2 l3=some (r1,r2)),
  Calls Try.prog 62 #[.slice A0 l0.length c0,.slice A1 l1.length c1,.int .i64 a2,.slice A3 l3.length c3] w fun e w'=>e=.returned (.tuple #[.int .i64 r1,.bool r2])∧Below w.heap.size w w':=by
 induction k using Nat.strongRecOn with
 | _ k ih =>
 intro A0 c0 l0 A1 c1 l1 a2 A3 c3 l3 r1 r2 w hr0 hc0 hr1 hc1 hr3 hc3 h
 cases k with
 | zero=>exact absurd h (by simp [spec_ruValue.f])
 | succ k =>
 simp only [spec_ruValue.f] at h;have hu94:=Try.underlying94;have HR0:=aM4 hr0;have HC0:=aM4 hc0;clear hr0 hc0;have HR1:=aM4 hr1;have HC1:=aM4 hc1;clear hr1 hc1;have HR3:=aM4 hr3;have HC3:=aM4 hc3;clear hr3 hc3;have HB:=aM4 (Below.refl w.heap.size w);have H:(if 0≤a2 then (if a2 < (l0.length:Int) then (if a2 < (l1.length:Int) then (if ((rd_T94 l0 a2).f0)=0 then (some ((rd_T94 l0 a2).f1,true)) else (if ((rd_T94 l0 a2).f0)=1 then (if 0≤((rd_T94 l0 a2).f1) then (if ((rd_T94 l0 a2).f1) < (l3.length:Int) then (some (rd l3 ((rd_T94 l0 a2).f1),true)) else (none)) else (none)) else (if 0 < ((rd_L5 l1 a2).length:Int) then ((spec_ruValue.f k l0 l1 (rd (rd_L5 l1 a2) 0) l3).bind fun bt669=>(if 1 < ((rd_L5 l1 a2).length:Int) then ((spec_ruValue.f k l0 l1 (rd (rd_L5 l1 a2) 1) l3).bind fun bt672=>(if bt669.2=true then (spec_ruValue.j0 k l0 l1 l3 (rd_L5 l1 a2) bt669.1 bt672.1 (!bt672.2) ((rd_T94 l0 a2).f0) ((rd_T94 l0 a2).f1)) else (spec_ruValue.j0 k l0 l1 l3 (rd_L5 l1 a2) bt669.1 bt672.1 true ((rd_T94 l0 a2).f0) ((rd_T94 l0 a2).f1)))) else (none))) else (none)))) else (none)) else (none)) else (none))=some (r1,r2):=h;clear h
 by_cases c5:0≤a2
 ·rw [if_pos c5] at H
  have c5b0:decide (0≤a2)=true:=dT4 c5;clear c5
  by_cases c6:a2 < (l0.length:Int)
  ·rw [if_pos c6] at H
   have c6b0:decide (a2 < (l0.length:Int))=true:=dT4 c6;clear c6
   by_cases c7:a2 < (l1.length:Int)
   ·rw [if_pos c7] at H
    have c7b0:decide (a2 < (l1.length:Int))=true:=dT4 c7;clear c7
    by_cases c8:((rd_T94 l0 a2).f0)=0
    ·rw [if_pos c8] at H
     have c8b0:(((rd_T94 l0 a2).f0) == 0)=true:=beq_iff_eq.mpr c8;have c8b1:(((rd_T94 l0 a2).f0) != 0)=false:=bne_eq_false_iff_eq.mpr c8;clear c8;simp only [Option.some.injEq,Prod.mk.injEq] at H;obtain ⟨rfl,rfl⟩:=H;go_enter Try.func62,Try.ntmps62
     try go_wp2
     have n0_:=aM4 (below_drew1 HB.out);clear HB;have HB:=n0_;clear n0_;have p664:0≤(a2:Int):=oD4 (zyx4_4);have q664:a2 < (l0.length:Int):=oD4 (zyx4_4);obtain ⟨ad664,e664,hx664_0,hx664_1⟩:=at_T94 HR0.out a2 p664 q664;have hw664_1:=hx664_1;have hw664_0:=hx664_0
     cases e664
     replace hx664_0:=(HB.out.cell (bL4 w _ hx664_0)).trans hx664_0;replace hx664_1:=(HB.out.cell (bL4 w _ hx664_1)).trans hx664_1;replace p664:=eT4 p664;replace q664:=eT4 q664;have p665:0≤(a2:Int):=oD4 (zyx4_4);have q665:a2 < (l1.length:Int):=oD4 (zyx4_4);obtain ⟨ad665,A665_0,c665_0,e665,hx665_0,hl665_0,hi665_0⟩:=at_L5 HR1.out a2 p665 q665;have hw665_0:=hx665_0
     cases e665
     replace hx665_0:=(HB.out.cell (bL4 w _ hx665_0)).trans hx665_0;have HR665_0:=aM4 hi665_0;have HC665_0:=aM4 hl665_0;clear hi665_0 hl665_0;replace p665:=eT4 p665;replace q665:=eT4 q665
     refine start_ (n:=11) (S:=fun w'=>w'.cell? (ad664.add ((a2).toNat * 2))=some (.int .i64 ((rd_T94 l0 a2).f0))∧w'.cell? ⟨(ad664.add ((a2).toNat * 2)).block,(ad664.add ((a2).toNat * 2)).off + 1,none⟩=some (.int .i64 ((rd_T94 l0 a2).f1))∧w'.cell? (ad665.add (a2).toNat)=some (.slice A665_0 (rd_L5 l1 a2).length c665_0)) (ds:=[]) #[false,false,false,false,false,false,false,false,false,false,false] (zyx4_7) rfl rfl ⟨((HB.out.cell (bL4 w _ hw664_0)).trans hw664_0),((HB.out.cell (bL4 w _ hw664_1)).trans hw664_1),((HB.out.cell (bL4 w _ hw665_0)).trans hw665_0)⟩ (fun hHeld=>?_);refine with_tabW spec_ruValue.tab1 spec_ruValue.bits1 (fun HT_ HW_=>?_);generalize w.drew=w9 at HB HR665_0 hx664_0 hx664_1 hx665_0 hHeld ⊢;refine wp_in [(0,18,1,0),(1,19,3,0),(2,20,7,0),(4,22,23,0),(5,23,55,0),(6,24,119,0),(3,21,127,1),(7,25,255,1)] 11 ?_
     iterate 8 (first|(refine pn_ (oi:=?_) (v:=?_) (a':=?_) HT_.out ?_ ?_ ?_ ?_ ?_ ?_ ?_ ?_;rotate_left 3;rfl;rfl;kernel_rfl;exact fun _ _ _ h=>h;rfl;intro w';go_simp;with_reducible rfl;simp only [Act.put,uA4,uB4,uC4,i64_w,i32_w];rfl)|(refine tn_ (oi:=?_) (v:=?_) (a':=?_) HT_.out HW_.out hHeld ?_ ?_ ?_ ?_ ?_ ?_ ?_ ?_;rotate_left 3;rfl;rfl;kernel_rfl;exact fun _ _ _ h=>h;rfl;rintro w' ⟨s0,s1,s2⟩;go_simp;with_reducible rfl;simp only [Act.put,uA4,uB4,uC4,i64_w,i32_w];rfl))
     refine wp_out ?_;refine one_ (i:=8) (N:=some 10) #[true,true,true,true,true,true,true,true,true,false,false] rfl rfl (one_of HT_.out (zyx4_7)) (by decide) (fun K hK=>?_)
     refine box_step ?hg (N:=10) ?hd (cs:=#[.int .i64 0,.int .i64 0]) (t:=94) ?hr ?_;(case hd=>rfl);(case hg=>rfl);(case hr=>exact zyx4_25)
     intro gb666 hg w10 hbox hb;have n0_:=aM4 (bS4 (zyx4_3) hb);have n1_:=aM4 (hbox);have n2_:=aM4 ((zyx4_30:w.heap.size≤gb666));have n3_:=aM4 ((zyx4_30:w.heap.size≤gb666));clear HB;have HB:=n0_;have BK666:=n1_;have GW666:=n2_;have GE666:=n3_;clear n0_ n1_ n2_ n3_ hb hbox hg;refine hK.out _ _ ⟨((HB.out.cell (bL4 w _ hw664_0)).trans hw664_0),((HB.out.cell (bL4 w _ hw664_1)).trans hw664_1),((HB.out.cell (bL4 w _ hw665_0)).trans hw665_0)⟩ (fun hHeld=>?_);clear hK K;refine norm_ (a':=?_) ?_ ?_;rotate_left
     ·show Act.put _ (some 10) _=_
      simp only [Act.put,uA4,uB4,uC4,i64_w,i32_w]
      rfl
     refine one_ (i:=9) (N:=none) #[true,true,true,true,true,true,true,true,true,true,false] rfl rfl (one_of HT_.out (zyx4_7)) (by decide) (fun K hK=>?_);obtain ⟨hs11,hfs11,hs12,hfs12⟩:=cf2 BK666.out;refine skip_ (w1:=?_) (by rfl) rfl ?_ ?_;rotate_left
     ·go_simp
      rfl
     refine hK.out _ _ ⟨((cell_far (p:=⟨gb666,_,none⟩) (zyx4_31) _).trans (((cell_far (p:=⟨gb666,_,none⟩) (zyx4_31) _).trans (hHeld.1)))),((cell_far (p:=⟨gb666,_,none⟩) (zyx4_32) _).trans (((cell_far (p:=⟨gb666,_,none⟩) (zyx4_32) _).trans (hHeld.2.1)))),((cell_far (p:=⟨gb666,_,none⟩) (zyx4_33) _).trans (((cell_far (p:=⟨gb666,_,none⟩) (zyx4_33) _).trans (hHeld.2.2))))⟩ (fun hHeld=>?_);clear hK K;refine pure_ (i:=10) (N:=some 11) (v:=?_) (a':=?_) #[true,true,true,true,true,true,true,true,true,true,true] rfl rfl (any_of HT_.out (zyx4_7)) (fun _ _ _ h=>h) (Or.inl ⟨by rfl,?_⟩) ?_ ?_;rotate_left
     ·intro w'
      go_simp
      with_reducible rfl
     rotate_left
     ·simp only [Act.put,uA4,uB4,uC4,i64_w,i32_w]
      rfl
     refine done_ (done_of HT_.out (zyx4_7)) ?_;obtain ⟨hcz13_0,hfz13_0,hcz13_1,hfz13_1⟩:=cf2 BK666.out
     try go_wp2
     go_ret2
     exact ⟨zyx4_12,zyx4_21⟩
    ·rw [if_neg c8] at H
     have c8b0:(((rd_T94 l0 a2).f0) == 0)=false:=beq_eq_false_iff_ne.mpr c8;have c8b1:(((rd_T94 l0 a2).f0) != 0)=true:=bne_iff_ne.mpr c8
     by_cases c14:((rd_T94 l0 a2).f0)=1
     ·rw [if_pos c14] at H
      have c14b0:(((rd_T94 l0 a2).f0) == 1)=true:=beq_iff_eq.mpr c14;have c14b1:(((rd_T94 l0 a2).f0) != 1)=false:=bne_eq_false_iff_eq.mpr c14;clear c14
      by_cases c15:0≤((rd_T94 l0 a2).f1)
      ·rw [if_pos c15] at H
       have c15b0:decide (0≤((rd_T94 l0 a2).f1))=true:=dT4 c15;clear c15
       by_cases c16:((rd_T94 l0 a2).f1) < (l3.length:Int)
       ·rw [if_pos c16] at H
        have c16b0:decide (((rd_T94 l0 a2).f1) < (l3.length:Int))=true:=dT4 c16;clear c16;simp only [Option.some.injEq,Prod.mk.injEq] at H;obtain ⟨rfl,rfl⟩:=H;go_enter Try.func62,Try.ntmps62
        try go_wp2
        have n0_:=aM4 (below_drew1 HB.out);clear HB;have HB:=n0_;clear n0_;have p664:0≤(a2:Int):=oD4 (zyx4_4);have q664:a2 < (l0.length:Int):=oD4 (zyx4_4);obtain ⟨ad664,e664,hx664_0,hx664_1⟩:=at_T94 HR0.out a2 p664 q664;have hw664_1:=hx664_1;have hw664_0:=hx664_0
        cases e664
        replace hx664_0:=(HB.out.cell (bL4 w _ hx664_0)).trans hx664_0;replace hx664_1:=(HB.out.cell (bL4 w _ hx664_1)).trans hx664_1;replace p664:=eT4 p664;replace q664:=eT4 q664;have p665:0≤(a2:Int):=oD4 (zyx4_4);have q665:a2 < (l1.length:Int):=oD4 (zyx4_4);obtain ⟨ad665,A665_0,c665_0,e665,hx665_0,hl665_0,hi665_0⟩:=at_L5 HR1.out a2 p665 q665;have hw665_0:=hx665_0
        cases e665
        replace hx665_0:=(HB.out.cell (bL4 w _ hx665_0)).trans hx665_0;have HR665_0:=aM4 hi665_0;have HC665_0:=aM4 hl665_0;clear hi665_0 hl665_0;replace p665:=eT4 p665;replace q665:=eT4 q665
        refine start_ (n:=11) (S:=fun w'=>w'.cell? (ad664.add ((a2).toNat * 2))=some (.int .i64 ((rd_T94 l0 a2).f0))∧w'.cell? ⟨(ad664.add ((a2).toNat * 2)).block,(ad664.add ((a2).toNat * 2)).off + 1,none⟩=some (.int .i64 ((rd_T94 l0 a2).f1))∧w'.cell? (ad665.add (a2).toNat)=some (.slice A665_0 (rd_L5 l1 a2).length c665_0)) (ds:=[]) #[false,false,false,false,false,false,false,false,false,false,false] (zyx4_7) rfl rfl ⟨((HB.out.cell (bL4 w _ hw664_0)).trans hw664_0),((HB.out.cell (bL4 w _ hw664_1)).trans hw664_1),((HB.out.cell (bL4 w _ hw665_0)).trans hw665_0)⟩ (fun hHeld=>?_);refine with_tabW spec_ruValue.tab1 spec_ruValue.bits1 (fun HT_ HW_=>?_);generalize w.drew=w17 at HB HR665_0 hx664_0 hx664_1 hx665_0 hHeld ⊢;refine wp_in [(0,18,1,0),(1,19,3,0),(2,20,7,0),(4,22,23,0),(5,23,55,0),(6,24,119,0),(3,21,127,1),(7,25,255,1)] 11 ?_
        iterate 8 (first|(refine pn_ (oi:=?_) (v:=?_) (a':=?_) HT_.out ?_ ?_ ?_ ?_ ?_ ?_ ?_ ?_;rotate_left 3;rfl;rfl;kernel_rfl;exact fun _ _ _ h=>h;rfl;intro w';go_simp;with_reducible rfl;simp only [Act.put,uA4,uB4,uC4,i64_w,i32_w];rfl)|(refine tn_ (oi:=?_) (v:=?_) (a':=?_) HT_.out HW_.out hHeld ?_ ?_ ?_ ?_ ?_ ?_ ?_ ?_;rotate_left 3;rfl;rfl;kernel_rfl;exact fun _ _ _ h=>h;rfl;rintro w' ⟨s0,s1,s2⟩;go_simp;with_reducible rfl;simp only [Act.put,uA4,uB4,uC4,i64_w,i32_w];rfl))
        refine wp_out ?_;refine one_ (i:=8) (N:=some 10) #[true,true,true,true,true,true,true,true,true,false,false] rfl rfl (one_of HT_.out (zyx4_7)) (by decide) (fun K hK=>?_)
        refine box_step ?hg (N:=10) ?hd (cs:=#[.int .i64 0,.int .i64 0]) (t:=94) ?hr ?_;(case hd=>rfl);(case hg=>rfl);(case hr=>exact zyx4_25)
        intro gb666 hg w18 hbox hb;have n0_:=aM4 (bS4 (zyx4_3) hb);have n1_:=aM4 (hbox);have n2_:=aM4 ((zyx4_30:w.heap.size≤gb666));have n3_:=aM4 ((zyx4_30:w.heap.size≤gb666));clear HB;have HB:=n0_;have BK666:=n1_;have GW666:=n2_;have GE666:=n3_;clear n0_ n1_ n2_ n3_ hb hbox hg;refine hK.out _ _ ⟨((HB.out.cell (bL4 w _ hw664_0)).trans hw664_0),((HB.out.cell (bL4 w _ hw664_1)).trans hw664_1),((HB.out.cell (bL4 w _ hw665_0)).trans hw665_0)⟩ (fun hHeld=>?_);clear hK K;refine norm_ (a':=?_) ?_ ?_;rotate_left
        ·show Act.put _ (some 10) _=_
         simp only [Act.put,uA4,uB4,uC4,i64_w,i32_w]
         rfl
        refine one_ (i:=9) (N:=none) #[true,true,true,true,true,true,true,true,true,true,false] rfl rfl (one_of HT_.out (zyx4_7)) (by decide) (fun K hK=>?_);obtain ⟨hs19,hfs19,hs20,hfs20⟩:=cf2 BK666.out;refine skip_ (w1:=?_) (by rfl) rfl ?_ ?_;rotate_left
        ·go_simp
         rfl
        refine hK.out _ _ ⟨((cell_far (p:=⟨gb666,_,none⟩) (zyx4_31) _).trans (((cell_far (p:=⟨gb666,_,none⟩) (zyx4_31) _).trans (hHeld.1)))),((cell_far (p:=⟨gb666,_,none⟩) (zyx4_32) _).trans (((cell_far (p:=⟨gb666,_,none⟩) (zyx4_32) _).trans (hHeld.2.1)))),((cell_far (p:=⟨gb666,_,none⟩) (zyx4_33) _).trans (((cell_far (p:=⟨gb666,_,none⟩) (zyx4_33) _).trans (hHeld.2.2))))⟩ (fun hHeld=>?_);clear hK K;refine pure_ (i:=10) (N:=some 11) (v:=?_) (a':=?_) #[true,true,true,true,true,true,true,true,true,true,true] rfl rfl (any_of HT_.out (zyx4_7)) (fun _ _ _ h=>h) (Or.inl ⟨by rfl,?_⟩) ?_ ?_;rotate_left
        ·intro w'
         go_simp
         with_reducible rfl
        rotate_left
        ·simp only [Act.put,uA4,uB4,uC4,i64_w,i32_w]
         rfl
        refine done_ (done_of HT_.out (zyx4_7)) ?_;obtain ⟨hcz21_0,hfz21_0,hcz21_1,hfz21_1⟩:=cf2 BK666.out;have p667:0≤(((rd_T94 l0 a2).f1):Int):=oD4 (zyx4_4);have q667:((rd_T94 l0 a2).f1) < (l3.length:Int):=oD4 (zyx4_4);obtain ⟨ad667,e667,hx667_0⟩:=Kd.at_int HR3.out ((rd_T94 l0 a2).f1) p667 q667
        cases e667
        have hn667_0:ad667.block≠gb666:=Nat.ne_of_lt (Nat.lt_of_lt_of_le (by have:=bL4 _ _ hx667_0;first|rwa [add_block] at this|exact this) GW666.out);have hn667_1:ad667.block≠gb666:=Nat.ne_of_lt (Nat.lt_of_lt_of_le (by have:=bL4 _ _ hx667_0;first|rwa [add_block] at this|exact this) GW666.out);replace hx667_0:=(HB.out.cell (bL4 w _ hx667_0)).trans hx667_0;replace hx667_0:=(cell_far (p:=⟨gb666,0,none⟩) (by first|(rw [add_block];exact hn667_0)|(show (Addr.add _ _).block≠_;rw [add_block];exact hn667_0)|exact hn667_0) (.int .i64 ((rd_T94 l0 a2).f0))).trans hx667_0;replace hx667_0:=(cell_far (p:=⟨gb666,1,none⟩) (by first|(rw [add_block];exact hn667_1)|(show (Addr.add _ _).block≠_;rw [add_block];exact hn667_1)|exact hn667_1) (.int .i64 ((rd_T94 l0 a2).f1))).trans hx667_0;clear hn667_0 hn667_1;replace p667:=eT4 p667;replace q667:=eT4 q667
        try go_wp2
        go_ret2
        exact ⟨zyx4_12,zyx4_21⟩
       ·rw [if_neg c16] at H
        exact absurd H (by simp)
      ·rw [if_neg c15] at H
       exact absurd H (by simp)
     ·rw [if_neg c14] at H
      have c14b0:(((rd_T94 l0 a2).f0) == 1)=false:=beq_eq_false_iff_ne.mpr c14;have c14b1:(((rd_T94 l0 a2).f0) != 1)=true:=bne_iff_ne.mpr c14
      by_cases c22:0 < ((rd_L5 l1 a2).length:Int)
      ·rw [if_pos c22] at H
       have c22b0:decide (0 < ((rd_L5 l1 a2).length:Int))=true:=dT4 c22;have c22b1:decide (0 < (rd_L5 l1 a2).length)=true:=dT4 (by omega);clear c22;replace H:=bI4.mp H;obtain ⟨⟨t669,t670⟩,A230,H⟩:=H;(try dsimp only at H);have A23:=aM4 A230;clear A230
       by_cases c24:1 < ((rd_L5 l1 a2).length:Int)
       ·rw [if_pos c24] at H
        have c24b0:decide (1 < ((rd_L5 l1 a2).length:Int))=true:=dT4 c24;have c24b1:decide (1 < (rd_L5 l1 a2).length)=true:=dT4 (by omega);clear c24;replace H:=bI4.mp H;obtain ⟨⟨t672,t673⟩,A250,H⟩:=H;(try dsimp only at H);have A25:=aM4 A250;clear A250;have HC26:=aM4 H;clear H;go_enter Try.func62,Try.ntmps62
        try go_wp2
        have n0_:=aM4 (below_drew1 HB.out);clear HB;have HB:=n0_;clear n0_;have p664:0≤(a2:Int):=oD4 (zyx4_4);have q664:a2 < (l0.length:Int):=oD4 (zyx4_4);obtain ⟨ad664,e664,hx664_0,hx664_1⟩:=at_T94 HR0.out a2 p664 q664;have hw664_1:=hx664_1;have hw664_0:=hx664_0
        cases e664
        replace hx664_0:=(HB.out.cell (bL4 w _ hx664_0)).trans hx664_0;replace hx664_1:=(HB.out.cell (bL4 w _ hx664_1)).trans hx664_1;replace p664:=eT4 p664;replace q664:=eT4 q664;have p665:0≤(a2:Int):=oD4 (zyx4_4);have q665:a2 < (l1.length:Int):=oD4 (zyx4_4);obtain ⟨ad665,A665_0,c665_0,e665,hx665_0,hl665_0,hi665_0⟩:=at_L5 HR1.out a2 p665 q665;have hw665_0:=hx665_0
        cases e665
        replace hx665_0:=(HB.out.cell (bL4 w _ hx665_0)).trans hx665_0;have HR665_0:=aM4 hi665_0;have HC665_0:=aM4 hl665_0;clear hi665_0 hl665_0;replace p665:=eT4 p665;replace q665:=eT4 q665
        refine start_ (n:=11) (S:=fun w'=>w'.cell? (ad664.add ((a2).toNat * 2))=some (.int .i64 ((rd_T94 l0 a2).f0))∧w'.cell? ⟨(ad664.add ((a2).toNat * 2)).block,(ad664.add ((a2).toNat * 2)).off + 1,none⟩=some (.int .i64 ((rd_T94 l0 a2).f1))∧w'.cell? (ad665.add (a2).toNat)=some (.slice A665_0 (rd_L5 l1 a2).length c665_0)) (ds:=[]) #[false,false,false,false,false,false,false,false,false,false,false] (zyx4_7) rfl rfl ⟨((HB.out.cell (bL4 w _ hw664_0)).trans hw664_0),((HB.out.cell (bL4 w _ hw664_1)).trans hw664_1),((HB.out.cell (bL4 w _ hw665_0)).trans hw665_0)⟩ (fun hHeld=>?_);refine with_tabW spec_ruValue.tab1 spec_ruValue.bits1 (fun HT_ HW_=>?_);generalize w.drew=w27 at HB HR665_0 hx664_0 hx664_1 hx665_0 hHeld ⊢;refine wp_in [(0,18,1,0),(1,19,3,0),(2,20,7,0),(4,22,23,0),(5,23,55,0),(6,24,119,0),(3,21,127,1),(7,25,255,1)] 11 ?_
        iterate 8 (first|(refine pn_ (oi:=?_) (v:=?_) (a':=?_) HT_.out ?_ ?_ ?_ ?_ ?_ ?_ ?_ ?_;rotate_left 3;rfl;rfl;kernel_rfl;exact fun _ _ _ h=>h;rfl;intro w';go_simp;with_reducible rfl;simp only [Act.put,uA4,uB4,uC4,i64_w,i32_w];rfl)|(refine tn_ (oi:=?_) (v:=?_) (a':=?_) HT_.out HW_.out hHeld ?_ ?_ ?_ ?_ ?_ ?_ ?_ ?_;rotate_left 3;rfl;rfl;kernel_rfl;exact fun _ _ _ h=>h;rfl;rintro w' ⟨s0,s1,s2⟩;go_simp;with_reducible rfl;simp only [Act.put,uA4,uB4,uC4,i64_w,i32_w];rfl))
        refine wp_out ?_;refine one_ (i:=8) (N:=some 10) #[true,true,true,true,true,true,true,true,true,false,false] rfl rfl (one_of HT_.out (zyx4_7)) (by decide) (fun K hK=>?_)
        refine box_step ?hg (N:=10) ?hd (cs:=#[.int .i64 0,.int .i64 0]) (t:=94) ?hr ?_;(case hd=>rfl);(case hg=>rfl);(case hr=>exact zyx4_25)
        intro gb666 hg w28 hbox hb;have n0_:=aM4 (bS4 (zyx4_3) hb);have n1_:=aM4 (hbox);have n2_:=aM4 ((zyx4_30:w.heap.size≤gb666));have n3_:=aM4 ((zyx4_30:w.heap.size≤gb666));clear HB;have HB:=n0_;have BK666:=n1_;have GW666:=n2_;have GE666:=n3_;clear n0_ n1_ n2_ n3_ hb hbox hg;refine hK.out _ _ ⟨((HB.out.cell (bL4 w _ hw664_0)).trans hw664_0),((HB.out.cell (bL4 w _ hw664_1)).trans hw664_1),((HB.out.cell (bL4 w _ hw665_0)).trans hw665_0)⟩ (fun hHeld=>?_);clear hK K;refine norm_ (a':=?_) ?_ ?_;rotate_left
        ·show Act.put _ (some 10) _=_
         simp only [Act.put,uA4,uB4,uC4,i64_w,i32_w]
         rfl
        refine one_ (i:=9) (N:=none) #[true,true,true,true,true,true,true,true,true,true,false] rfl rfl (one_of HT_.out (zyx4_7)) (by decide) (fun K hK=>?_);obtain ⟨hs29,hfs29,hs30,hfs30⟩:=cf2 BK666.out;refine skip_ (w1:=?_) (by rfl) rfl ?_ ?_;rotate_left
        ·go_simp
         rfl
        refine hK.out _ _ ⟨((cell_far (p:=⟨gb666,_,none⟩) (zyx4_31) _).trans (((cell_far (p:=⟨gb666,_,none⟩) (zyx4_31) _).trans (hHeld.1)))),((cell_far (p:=⟨gb666,_,none⟩) (zyx4_32) _).trans (((cell_far (p:=⟨gb666,_,none⟩) (zyx4_32) _).trans (hHeld.2.1)))),((cell_far (p:=⟨gb666,_,none⟩) (zyx4_33) _).trans (((cell_far (p:=⟨gb666,_,none⟩) (zyx4_33) _).trans (hHeld.2.2))))⟩ (fun hHeld=>?_);clear hK K;refine pure_ (i:=10) (N:=some 11) (v:=?_) (a':=?_) #[true,true,true,true,true,true,true,true,true,true,true] rfl rfl (any_of HT_.out (zyx4_7)) (fun _ _ _ h=>h) (Or.inl ⟨by rfl,?_⟩) ?_ ?_;rotate_left
        ·intro w'
         go_simp
         with_reducible rfl
        rotate_left
        ·simp only [Act.put,uA4,uB4,uC4,i64_w,i32_w]
         rfl
        refine done_ (done_of HT_.out (zyx4_7)) ?_;obtain ⟨hcz31_0,hfz31_0,hcz31_1,hfz31_1⟩:=cf2 BK666.out;have p668:0≤(0:Int):=(by omega);have q668:0 < ((rd_L5 l1 a2).length:Int):=oD4 (zyx4_4);obtain ⟨ad668,e668,hx668_0⟩:=Kd.at_int HR665_0.out 0 p668 q668
        cases e668
        have qi668:(0 < (rd_L5 l1 a2).length)=True:=eT4 (by omega);(try rw [show ((0:Int)).toNat=0 from rfl] at hx668_0);(try rw [Addr.add_zero'] at hx668_0);have hn668_0:ad668.block≠gb666:=Nat.ne_of_lt (Nat.lt_of_lt_of_le (by have:=bL4 _ _ hx668_0;first|rwa [add_block] at this|exact this) GW666.out);have hn668_1:ad668.block≠gb666:=Nat.ne_of_lt (Nat.lt_of_lt_of_le (by have:=bL4 _ _ hx668_0;first|rwa [add_block] at this|exact this) GW666.out);replace hx668_0:=(HB.out.cell (bL4 w _ hx668_0)).trans hx668_0;replace hx668_0:=(cell_far (p:=⟨gb666,0,none⟩) (by first|(rw [add_block];exact hn668_0)|(show (Addr.add _ _).block≠_;rw [add_block];exact hn668_0)|exact hn668_0) (.int .i64 ((rd_T94 l0 a2).f0))).trans hx668_0;replace hx668_0:=(cell_far (p:=⟨gb666,1,none⟩) (by first|(rw [add_block];exact hn668_1)|(show (Addr.add _ _).block≠_;rw [add_block];exact hn668_1)|exact hn668_1) (.int .i64 ((rd_T94 l0 a2).f1))).trans hx668_0;clear hn668_0 hn668_1;replace p668:=eT4 p668;replace q668:=eT4 q668
        go_upto_region 9 with (first|((with_reducible refine gC4 (f:=62) rfl ?_);refine goesL_ (some 46) rfl rfl Try.func62 (zyx4_7) rfl #[.slice (some ad664) l0.length c0,.slice (some ad665) l1.length c1,.int .i64 (rd (rd_L5 l1 a2) 0),.slice A3 l3.length c3] rfl (zyx4_8) ?_;(with_reducible refine (ih k (by omega) _ _ l0 _ _ l1 (rd (rd_L5 l1 a2) 0) _ _ l3 t669 t670 _ ?side1 ?side2 ?side3 ?side4 ?side5 ?side6 A23.out).mono ?_);(case side1=>exact Kd.C_below HR0.out (zyx4_21));(case side2=>exact HC0.out);(case side3=>exact Kd.C_below HR1.out (zyx4_21));(case side4=>exact HC1.out);(case side5=>exact Kd.C_below HR3.out (zyx4_21));(case side6=>exact HC3.out);rintro e w32 ⟨rfl,hb⟩;refine ⟨_,rfl,?_⟩;have n0_:=aM4 (blk_below (g:=gb666) (o:=.cells #[.int .i64 ((rd_T94 l0 a2).f0),.int .i64 ((rd_T94 l0 a2).f1)] 94 (0,0)) (by (with_reducible repeat (first|refine blk_drewN ?_ _|refine blk_drew ?_|refine blk_alloc ?_ _));refine blk_put (cs:=#[.int .i64 ((rd_T94 l0 a2).f0),.int .i64 0]) ?_ 1 _ rfl;(with_reducible repeat (first|refine blk_drewN ?_ _|refine blk_drew ?_|refine blk_alloc ?_ _));refine blk_put (cs:=#[.int .i64 0,.int .i64 0]) ?_ 0 _ rfl;(with_reducible repeat (first|refine blk_drewN ?_ _|refine blk_drew ?_|refine blk_alloc ?_ _));exact BK666.out) hb);have n1_:=aM4 (bS4 (zyx4_21) hb);clear BK666 HB;have BK666:=n0_;have HB:=n1_;clear n0_ n1_;(try clear hb);(try clear hb2);(try clear hk);(try clear hi);have p671:0≤(1:Int):=(by omega);have q671:1 < ((rd_L5 l1 a2).length:Int):=oD4 (zyx4_4);obtain ⟨ad671,e671,hx671_0⟩:=Kd.at_int HR665_0.out 1 p671 q671;obtain rfl:ad668=ad671:=(by injection e671);(try simp only [show (1:Int).toNat=1 from rfl,Nat.reduceMul,Nat.reduceEqDiff,Go.Addr.add,↓reduceIte] at hx671_0);have qi671:(1 < (rd_L5 l1 a2).length)=True:=eT4 (by omega);(try rw [show ((1:Int)).toNat=1 from rfl] at hx671_0);replace hx671_0:=(HB.out.cell (bL4 w _ hx671_0)).trans hx671_0;replace p671:=eT4 p671;replace q671:=eT4 q671)|((with_reducible refine gC4 (f:=62) rfl ?_);refine goesL_ (some 56) rfl rfl Try.func62 (zyx4_7) rfl #[.slice (some ad664) l0.length c0,.slice (some ad665) l1.length c1,.int .i64 (rd (rd_L5 l1 a2) 1),.slice A3 l3.length c3] rfl (zyx4_8) ?_;(with_reducible refine (ih k (by omega) _ _ l0 _ _ l1 (rd (rd_L5 l1 a2) 1) _ _ l3 t672 t673 _ ?side1 ?side2 ?side3 ?side4 ?side5 ?side6 A25.out).mono ?_);(case side1=>exact zyx4_27);(case side2=>exact HC0.out);(case side3=>exact zyx4_28);(case side4=>exact HC1.out);(case side5=>repeat (first|exact (Kd.C_below HR3.out HB.out)|(with_reducible refine Kd.C_alloc ?_ _)|(with_reducible refine Kd.C_drewN ?_ _)|(with_reducible refine Kd.C_drew ?_)));(case side6=>exact HC3.out);rintro e w33 ⟨rfl,hb⟩;refine ⟨_,rfl,?_⟩;have n0_:=aM4 (blk_below (g:=gb666) (o:=.cells #[.int .i64 ((rd_T94 l0 a2).f0),.int .i64 ((rd_T94 l0 a2).f1)] 94 (0,0)) (zyx4_22) hb);have n1_:=aM4 (bS4 (zyx4_21) hb);clear BK666 HB;have BK666:=n0_;have HB:=n1_;clear n0_ n1_;(try clear hb);(try clear hb2);(try clear hk);(try clear hi)))
        (try simp only [Act.put,uA4,uB4,uC4])
        go_cut [64] (fun v64 wc=>∃ (kq:Nat) (x64_25:Bool),v64=.bool x64_25∧Aside0 (spec_ruValue.j0 kq l0 l1 l3 (rd_L5 l1 a2) t669 t672 x64_25 ((rd_T94 l0 a2).f0) ((rd_T94 l0 a2).f1)=some (r1,r2))∧Aside0 (kq≤k)∧Aside0 (wc.heap[gb666]?=some (.cells #[.int .i64 ((rd_T94 l0 a2).f0),.int .i64 ((rd_T94 l0 a2).f1)] 94 (0,0)))∧Aside0 (Below w.heap.size w wc))
        case first =>
         have H:=HC26.out;clear HC26
         by_cases c34:t670=true
         ·subst c34
          rw [if_pos rfl] at H;(try dsimp only at H);have H':=aM4 H;clear H
          go_wp2
          go_meet
          case rel=>exact ⟨_,(!t673),(zyx4_0),H',⟨by first|omega|exact Nat.le_refl _⟩,⟨zyx4_22⟩,⟨zyx4_21⟩⟩
         ·replace c34:=Bool.eq_false_iff.mpr c34
          subst c34;rw [if_neg (show ¬ (false=true) by decide)] at H;(try dsimp only at H);have H':=aM4 H;clear H
          go_wp2
          go_meet
          case rel=>exact ⟨_,(true),(zyx4_0),H',⟨by first|omega|exact Nat.le_refl _⟩,⟨zyx4_22⟩,⟨zyx4_21⟩⟩
        case rest =>
         clear HC26;(try clear c1);(try clear c2);(try clear p2);(try clear c3);(try clear c5);(try clear c5b0);(try clear c6);(try clear c6b0);(try clear p6);(try clear q6);(try clear hx6);(try clear qi6);(try clear c7);(try clear c7b0);(try clear c8);(try clear c8b0);(try clear c8b1);(try clear c14);(try clear c14b0);(try clear c14b1);(try clear c15);(try clear c15b0);(try clear c16);(try clear c16b0);(try clear c22);(try clear c22b0);(try clear c22b1);(try clear c24);(try clear c24b0);(try clear c24b1);(try clear c34);(try clear hcz13_0);(try clear hcz13_1);(try clear hcz21_0);(try clear hcz21_1);(try clear hcz31_0);(try clear hcz31_1);(try clear hfz13_0);(try clear hfz13_1);(try clear hfz21_0);(try clear hfz21_1);(try clear hfz31_0);(try clear hfz31_1);(try clear hx664_0);(try clear hx664_1);(try clear hx665_0);(try clear hx667_0);(try clear hx668_0);(try clear hx671_0);(try clear p664);(try clear p665);(try clear p667);(try clear p668);(try clear p671);(try clear q664);(try clear q665);(try clear q667);(try clear q668);(try clear q671);obtain ⟨kq,x64_25,rfl,HA,HJ25,BK666,HB⟩:=hcut
         cases kq with
         | zero=>exact absurd HA.out (by simp [spec_ruValue.j0])
         | succ kj25 =>
          have H:=HA.out;clear HA;simp only [spec_ruValue.j0] at H
          by_cases c35:x64_25=true
          ·subst c35
           rw [if_pos rfl] at H;(try dsimp only at H);simp only [Option.some.injEq,Prod.mk.injEq] at H;obtain ⟨rfl,rfl⟩:=H
           go_wp2
           go_ret2
           exact ⟨zyx4_12,zyx4_21⟩
          ·replace c35:=Bool.eq_false_iff.mpr c35
           subst c35;rw [if_neg (show ¬ (false=true) by decide)] at H;(try dsimp only at H)
           by_cases c36:((rd_T94 l0 a2).f0)=2
           ·rw [if_pos c36] at H
            have c36b0:(((rd_T94 l0 a2).f0) == 2)=true:=beq_iff_eq.mpr c36;have c36b1:(((rd_T94 l0 a2).f0) != 2)=false:=bne_eq_false_iff_eq.mpr c36;clear c36;replace H:=bI4.mp H;obtain ⟨t674,A370,H⟩:=H;(try dsimp only at H);have A37:=aM4 A370;clear A370;simp only [Option.some.injEq,Prod.mk.injEq] at H;obtain ⟨rfl,rfl⟩:=H;obtain ⟨hcz38_0,hfz38_0,hcz38_1,hfz38_1⟩:=cf2 BK666.out
            go_wp2_with (first|((with_reducible refine gC4 (f:=74) rfl ?_);refine goesL_ (some 112) rfl rfl Try.func74 (zyx4_7) rfl #[.int .i64 (wrap64 (t669 + t672))] rfl (zyx4_8) ?_;(with_reducible refine (spec_l1Abs.calls (wrap64 (t669 + t672)) t674 _ A37.out).mono ?_);rintro e w' ⟨rfl,⟨nd,rfl⟩⟩;refine ⟨_,rfl,?_⟩))
            go_ret2
            exact ⟨zyx4_12,zyx4_21⟩
           ·rw [if_neg c36] at H
            have c36b0:(((rd_T94 l0 a2).f0) == 2)=false:=beq_eq_false_iff_ne.mpr c36;have c36b1:(((rd_T94 l0 a2).f0) != 2)=true:=bne_iff_ne.mpr c36
            by_cases c39:((rd_T94 l0 a2).f0)=3
            ·rw [if_pos c39] at H
             have c39b0:(((rd_T94 l0 a2).f0) == 3)=true:=beq_iff_eq.mpr c39;have c39b1:(((rd_T94 l0 a2).f0) != 3)=false:=bne_eq_false_iff_eq.mpr c39;clear c39;replace H:=bI4.mp H;obtain ⟨t675,A400,H⟩:=H;(try dsimp only at H);have A40:=aM4 A400;clear A400;simp only [Option.some.injEq,Prod.mk.injEq] at H;obtain ⟨rfl,rfl⟩:=H;obtain ⟨hcz41_0,hfz41_0,hcz41_1,hfz41_1⟩:=cf2 BK666.out
             go_wp2_with (first|((with_reducible refine gC4 (f:=74) rfl ?_);refine goesL_ (some 112) rfl rfl Try.func74 (zyx4_7) rfl #[.int .i64 (wrap64 (t669 - t672))] rfl (zyx4_8) ?_;(with_reducible refine (spec_l1Abs.calls (wrap64 (t669 - t672)) t675 _ A40.out).mono ?_);rintro e w' ⟨rfl,⟨nd,rfl⟩⟩;refine ⟨_,rfl,?_⟩))
             go_ret2
             exact ⟨zyx4_12,zyx4_21⟩
            ·rw [if_neg c39] at H
             have c39b0:(((rd_T94 l0 a2).f0) == 3)=false:=beq_eq_false_iff_ne.mpr c39;have c39b1:(((rd_T94 l0 a2).f0) != 3)=true:=bne_iff_ne.mpr c39
             by_cases c42:((rd_T94 l0 a2).f0)=4
             ·rw [if_pos c42] at H
              have c42b0:(((rd_T94 l0 a2).f0) == 4)=true:=beq_iff_eq.mpr c42;have c42b1:(((rd_T94 l0 a2).f0) != 4)=false:=bne_eq_false_iff_eq.mpr c42;clear c42;replace H:=bI4.mp H;obtain ⟨t676,A430,H⟩:=H;(try dsimp only at H);have A43:=aM4 A430;clear A430;simp only [Option.some.injEq,Prod.mk.injEq] at H;obtain ⟨rfl,rfl⟩:=H;obtain ⟨hcz44_0,hfz44_0,hcz44_1,hfz44_1⟩:=cf2 BK666.out
              go_wp2_with (first|((with_reducible refine gC4 (f:=74) rfl ?_);refine goesL_ (some 112) rfl rfl Try.func74 (zyx4_7) rfl #[.int .i64 (wrap64 (t669 * t672))] rfl (zyx4_8) ?_;(with_reducible refine (spec_l1Abs.calls (wrap64 (t669 * t672)) t676 _ A43.out).mono ?_);rintro e w' ⟨rfl,⟨nd,rfl⟩⟩;refine ⟨_,rfl,?_⟩))
              go_ret2
              exact ⟨zyx4_12,zyx4_21⟩
             ·rw [if_neg c42] at H
              have c42b0:(((rd_T94 l0 a2).f0) == 4)=false:=beq_eq_false_iff_ne.mpr c42;have c42b1:(((rd_T94 l0 a2).f0) != 4)=true:=bne_iff_ne.mpr c42
              by_cases c45:((rd_T94 l0 a2).f0)=5
              ·rw [if_pos c45] at H
               have c45b0:(((rd_T94 l0 a2).f0) == 5)=true:=beq_iff_eq.mpr c45;have c45b1:(((rd_T94 l0 a2).f0) != 5)=false:=bne_eq_false_iff_eq.mpr c45;clear c45
               by_cases c46:t672=0
               ·rw [if_pos c46] at H
                have c46b0:(t672 == 0)=true:=beq_iff_eq.mpr c46;have c46b1:(t672 != 0)=false:=bne_eq_false_iff_eq.mpr c46;clear c46;simp only [Option.some.injEq,Prod.mk.injEq] at H;obtain ⟨rfl,rfl⟩:=H;obtain ⟨hcz47_0,hfz47_0,hcz47_1,hfz47_1⟩:=cf2 BK666.out
                go_wp2
                go_ret2
                exact ⟨zyx4_12,zyx4_21⟩
               ·rw [if_neg c46] at H
                have c46b0:(t672 == 0)=false:=beq_eq_false_iff_ne.mpr c46;have c46b1:(t672 != 0)=true:=bne_iff_ne.mpr c46;replace H:=bI4.mp H;obtain ⟨t677,A480,H⟩:=H;(try dsimp only at H);have A48:=aM4 A480;clear A480;replace H:=bI4.mp H;obtain ⟨t678,A490,H⟩:=H;(try dsimp only at H);have A49:=aM4 A490;clear A490;simp only [Option.some.injEq,Prod.mk.injEq] at H;obtain ⟨rfl,rfl⟩:=H;obtain ⟨hcz50_0,hfz50_0,hcz50_1,hfz50_1⟩:=cf2 BK666.out
                go_wp2_with (first|((with_reducible refine gC4 (f:=50) rfl ?_);refine goesL_ (some 109) rfl rfl Try.func50 (zyx4_7) rfl #[.int .i64 t669,.int .i64 t672] rfl (zyx4_8) ?_;(with_reducible refine (spec_ruDown.calls t669 t672 t677 _ A48.out).mono ?_);rintro e w' ⟨rfl,⟨nd,rfl⟩⟩;refine ⟨_,rfl,?_⟩)|((with_reducible refine gC4 (f:=74) rfl ?_);refine goesL_ (some 112) rfl rfl Try.func74 (zyx4_7) rfl #[.int .i64 t677] rfl (zyx4_8) ?_;(with_reducible refine (spec_l1Abs.calls t677 t678 _ A49.out).mono ?_);rintro e w' ⟨rfl,⟨nd,rfl⟩⟩;refine ⟨_,rfl,?_⟩))
                go_ret2
                exact ⟨zyx4_12,zyx4_21⟩
              ·rw [if_neg c45] at H
               have c45b0:(((rd_T94 l0 a2).f0) == 5)=false:=beq_eq_false_iff_ne.mpr c45;have c45b1:(((rd_T94 l0 a2).f0) != 5)=true:=bne_iff_ne.mpr c45
               by_cases c51:3 < ((rd_L5 l1 a2).length:Int)
               ·rw [if_pos c51] at H
                have c51b0:decide (3 < ((rd_L5 l1 a2).length:Int))=true:=dT4 c51;have c51b1:decide (3 < (rd_L5 l1 a2).length)=true:=dT4 (by omega);clear c51;replace H:=bI4.mp H;obtain ⟨t680,A520,H⟩:=H;(try dsimp only at H);have A52:=aM4 A520;clear A520
                by_cases c53:t680=(wrap64 (((rd_T94 l0 a2).f0) - 7))
                ·rw [if_pos c53] at H
                 have c53b0:(t680 == (wrap64 (((rd_T94 l0 a2).f0) - 7)))=true:=beq_iff_eq.mpr c53;have c53b1:(t680 != (wrap64 (((rd_T94 l0 a2).f0) - 7)))=false:=bne_eq_false_iff_eq.mpr c53;clear c53
                 by_cases c54:2 < ((rd_L5 l1 a2).length:Int)
                 ·rw [if_pos c54] at H
                  have c54b0:decide (2 < ((rd_L5 l1 a2).length:Int))=true:=dT4 c54;have c54b1:decide (2 < (rd_L5 l1 a2).length)=true:=dT4 (by omega);clear c54;replace H:=bI4.mp H;obtain ⟨⟨t682,t683⟩,A550,H⟩:=H;(try dsimp only at H);have A55:=aM4 A550;clear A550;simp only [Option.some.injEq,Prod.mk.injEq] at H;obtain ⟨rfl,rfl⟩:=H;obtain ⟨hcz56_0,hfz56_0,hcz56_1,hfz56_1⟩:=cf2 BK666.out;have p679:0≤(3:Int):=(by omega);have q679:3 < ((rd_L5 l1 a2).length:Int):=oD4 (zyx4_4);obtain ⟨ad679,e679,hx679_0⟩:=Kd.at_int HR665_0.out 3 p679 q679;obtain rfl:ad668=ad679:=(by injection e679);(try simp only [show (3:Int).toNat=3 from rfl,Nat.reduceMul,Nat.reduceEqDiff,Go.Addr.add,↓reduceIte] at hx679_0);have qi679:(3 < (rd_L5 l1 a2).length)=True:=eT4 (by omega);(try rw [show ((3:Int)).toNat=3 from rfl] at hx679_0);replace hx679_0:=(HB.out.cell (bL4 w _ hx679_0)).trans hx679_0;replace p679:=eT4 p679;replace q679:=eT4 q679
                  try go_wp2
                  have n0_:=aM4 (blk_drew BK666.out);have n1_:=aM4 (below_drew1 HB.out);clear BK666 HB;have BK666:=n0_;have HB:=n1_;clear n0_ n1_
                  refine start_ (n:=8) (S:=fun w'=>w'.cell? ⟨gb666,0,none⟩=some (.int .i64 ((rd_T94 l0 a2).f0))∧w'.cell? ⟨gb666,1,none⟩=some (.int .i64 ((rd_T94 l0 a2).f1))) (ds:=[]) #[false,false,false,false,false,false,false,false] (zyx4_7) rfl rfl ⟨(bC4 BK666.out 0).trans rfl,(bC4 BK666.out 1).trans rfl⟩ (fun hHeld=>?_);refine with_tabW spec_ruValue.tab14 spec_ruValue.bits14 (fun HT_ HW_=>?_);generalize wc.drew=w57 at BK666 HB hHeld ⊢;refine wp_in [(0,70,1,0),(1,71,3,0),(2,72,7,0),(4,74,23,0),(5,75,55,1),(6,76,119,0)] 8 ?_
                  iterate 6 (first|(refine pn_ (oi:=?_) (v:=?_) (a':=?_) HT_.out ?_ ?_ ?_ ?_ ?_ ?_ ?_ ?_;rotate_left 3;rfl;rfl;kernel_rfl;exact fun _ _ _ h=>h;rfl;intro w';go_simp;with_reducible rfl;simp only [Act.put,uA4,uB4,uC4,i64_w,i32_w];rfl)|(refine tn_ (oi:=?_) (v:=?_) (a':=?_) HT_.out HW_.out hHeld ?_ ?_ ?_ ?_ ?_ ?_ ?_ ?_;rotate_left 3;rfl;rfl;kernel_rfl;exact fun _ _ _ h=>h;rfl;rintro w' ⟨s0,s1⟩;go_simp;with_reducible rfl;simp only [Act.put,uA4,uB4,uC4,i64_w,i32_w];rfl))
                  refine wp_out ?_;refine one_ (i:=3) (N:=some 73) #[true,true,true,true,true,true,true,false] rfl rfl (one_of HT_.out (zyx4_7)) (by decide) (fun K hK=>?_);refine goes_ Try.func73 (zyx4_7) rfl #[.int .i64 (wrap64 (t669 - t672))] (by rfl) rfl rfl (zyx4_8) ?_
                  with_reducible refine (spec_l1Sign.calls (wrap64 (t669 - t672)) t680 _ A52.out).mono ?_
                  rintro e w' ⟨rfl,⟨nd,rfl⟩⟩;refine ⟨_,rfl,?_⟩;refine hK.out _ _ ⟨(bC4 BK666.out 0).trans rfl,(bC4 BK666.out 1).trans rfl⟩ (fun hHeld=>?_);clear hK K;refine norm_ (a':=?_) ?_ ?_;rotate_left
                  ·show Act.put _ (some 73) _=_
                   simp only [Act.put,uA4,uB4,uC4,i64_w,i32_w]
                   rfl
                  refine pure_ (i:=7) (N:=some 77) (v:=?_) (a':=?_) #[true,true,true,true,true,true,true,true] rfl rfl (any_of HT_.out (zyx4_7)) (fun _ _ _ h=>h) (Or.inl ⟨by rfl,?_⟩) ?_ ?_;rotate_left
                  ·intro w'
                   go_simp
                   with_reducible rfl
                  rotate_left
                  ·simp only [Act.put,uA4,uB4,uC4,i64_w,i32_w]
                   rfl
                  refine done_ (done_of HT_.out (zyx4_7)) ?_;have p681:0≤(2:Int):=(by omega);have q681:2 < ((rd_L5 l1 a2).length:Int):=oD4 (zyx4_4);obtain ⟨ad681,e681,hx681_0⟩:=Kd.at_int HR665_0.out 2 p681 q681;obtain rfl:ad668=ad681:=(by injection e681);(try simp only [show (2:Int).toNat=2 from rfl,Nat.reduceMul,Nat.reduceEqDiff,Go.Addr.add,↓reduceIte] at hx681_0);have qi681:(2 < (rd_L5 l1 a2).length)=True:=eT4 (by omega);(try rw [show ((2:Int)).toNat=2 from rfl] at hx681_0);replace hx681_0:=(HB.out.cell (bL4 w _ hx681_0)).trans hx681_0;replace p681:=eT4 p681;replace q681:=eT4 q681
                  try go_wp2_with (first|((with_reducible refine gC4 (f:=62) rfl ?_);refine goesL_ (some 85) rfl rfl Try.func62 (zyx4_7) rfl #[.slice (some ad664) l0.length c0,.slice (some ad665) l1.length c1,.int .i64 (rd (rd_L5 l1 a2) 2),.slice A3 l3.length c3] rfl (zyx4_8) ?_;(with_reducible refine (ih kj25 (by have:=HJ25.out;omega) _ _ l0 _ _ l1 (rd (rd_L5 l1 a2) 2) _ _ l3 t682 t683 _ ?side1 ?side2 ?side3 ?side4 ?side5 ?side6 A55.out).mono ?_);(case side1=>exact zyx4_34);(case side2=>exact HC0.out);(case side3=>exact zyx4_35);(case side4=>exact HC1.out);(case side5=>exact zyx4_36);(case side6=>exact HC3.out);rintro e w58 ⟨rfl,hb⟩;refine ⟨_,rfl,?_⟩;have n0_:=aM4 (blk_below (g:=gb666) (o:=.cells #[.int .i64 ((rd_T94 l0 a2).f0),.int .i64 ((rd_T94 l0 a2).f1)] 94 (0,0)) (zyx4_22) hb);have n1_:=aM4 (bS4 (zyx4_21) hb);clear BK666 HB;have BK666:=n0_;have HB:=n1_;clear n0_ n1_;(try clear hb);(try clear hb2);(try clear hk);(try clear hi)))
                  go_ret2
                  exact ⟨zyx4_12,zyx4_21⟩
                 ·rw [if_neg c54] at H
                  exact absurd H (by simp)
                ·rw [if_neg c53] at H
                 have c53b0:(t680 == (wrap64 (((rd_T94 l0 a2).f0) - 7)))=false:=beq_eq_false_iff_ne.mpr c53;have c53b1:(t680 != (wrap64 (((rd_T94 l0 a2).f0) - 7)))=true:=bne_iff_ne.mpr c53;replace H:=bI4.mp H;obtain ⟨⟨t684,t685⟩,A590,H⟩:=H;(try dsimp only at H);have A59:=aM4 A590;clear A590;simp only [Option.some.injEq,Prod.mk.injEq] at H;obtain ⟨rfl,rfl⟩:=H;obtain ⟨hcz60_0,hfz60_0,hcz60_1,hfz60_1⟩:=cf2 BK666.out;have p679:0≤(3:Int):=(by omega);have q679:3 < ((rd_L5 l1 a2).length:Int):=oD4 (zyx4_4);obtain ⟨ad679,e679,hx679_0⟩:=Kd.at_int HR665_0.out 3 p679 q679;obtain rfl:ad668=ad679:=(by injection e679);(try simp only [show (3:Int).toNat=3 from rfl,Nat.reduceMul,Nat.reduceEqDiff,Go.Addr.add,↓reduceIte] at hx679_0);have qi679:(3 < (rd_L5 l1 a2).length)=True:=eT4 (by omega);(try rw [show ((3:Int)).toNat=3 from rfl] at hx679_0);replace hx679_0:=(HB.out.cell (bL4 w _ hx679_0)).trans hx679_0;replace p679:=eT4 p679;replace q679:=eT4 q679
                 try go_wp2
                 have n0_:=aM4 (blk_drew BK666.out);have n1_:=aM4 (below_drew1 HB.out);clear BK666 HB;have BK666:=n0_;have HB:=n1_;clear n0_ n1_
                 refine start_ (n:=8) (S:=fun w'=>w'.cell? ⟨gb666,0,none⟩=some (.int .i64 ((rd_T94 l0 a2).f0))∧w'.cell? ⟨gb666,1,none⟩=some (.int .i64 ((rd_T94 l0 a2).f1))) (ds:=[]) #[false,false,false,false,false,false,false,false] (zyx4_7) rfl rfl ⟨(bC4 BK666.out 0).trans rfl,(bC4 BK666.out 1).trans rfl⟩ (fun hHeld=>?_);refine with_tabW spec_ruValue.tab14 spec_ruValue.bits14 (fun HT_ HW_=>?_);generalize wc.drew=w61 at BK666 HB hHeld ⊢;refine wp_in [(0,70,1,0),(1,71,3,0),(2,72,7,0),(4,74,23,0),(5,75,55,1),(6,76,119,0)] 8 ?_
                 iterate 6 (first|(refine pn_ (oi:=?_) (v:=?_) (a':=?_) HT_.out ?_ ?_ ?_ ?_ ?_ ?_ ?_ ?_;rotate_left 3;rfl;rfl;kernel_rfl;exact fun _ _ _ h=>h;rfl;intro w';go_simp;with_reducible rfl;simp only [Act.put,uA4,uB4,uC4,i64_w,i32_w];rfl)|(refine tn_ (oi:=?_) (v:=?_) (a':=?_) HT_.out HW_.out hHeld ?_ ?_ ?_ ?_ ?_ ?_ ?_ ?_;rotate_left 3;rfl;rfl;kernel_rfl;exact fun _ _ _ h=>h;rfl;rintro w' ⟨s0,s1⟩;go_simp;with_reducible rfl;simp only [Act.put,uA4,uB4,uC4,i64_w,i32_w];rfl))
                 refine wp_out ?_;refine one_ (i:=3) (N:=some 73) #[true,true,true,true,true,true,true,false] rfl rfl (one_of HT_.out (zyx4_7)) (by decide) (fun K hK=>?_);refine goes_ Try.func73 (zyx4_7) rfl #[.int .i64 (wrap64 (t669 - t672))] (by rfl) rfl rfl (zyx4_8) ?_
                 with_reducible refine (spec_l1Sign.calls (wrap64 (t669 - t672)) t680 _ A52.out).mono ?_
                 rintro e w' ⟨rfl,⟨nd,rfl⟩⟩;refine ⟨_,rfl,?_⟩;refine hK.out _ _ ⟨(bC4 BK666.out 0).trans rfl,(bC4 BK666.out 1).trans rfl⟩ (fun hHeld=>?_);clear hK K;refine norm_ (a':=?_) ?_ ?_;rotate_left
                 ·show Act.put _ (some 73) _=_
                  simp only [Act.put,uA4,uB4,uC4,i64_w,i32_w]
                  rfl
                 refine pure_ (i:=7) (N:=some 77) (v:=?_) (a':=?_) #[true,true,true,true,true,true,true,true] rfl rfl (any_of HT_.out (zyx4_7)) (fun _ _ _ h=>h) (Or.inl ⟨by rfl,?_⟩) ?_ ?_;rotate_left
                 ·intro w'
                  go_simp
                  with_reducible rfl
                 rotate_left
                 ·simp only [Act.put,uA4,uB4,uC4,i64_w,i32_w]
                  rfl
                 refine done_ (done_of HT_.out (zyx4_7)) ?_
                 try go_wp2_with (first|((with_reducible refine gC4 (f:=62) rfl ?_);refine goesL_ (some 85) rfl rfl Try.func62 (zyx4_7) rfl #[.slice (some ad664) l0.length c0,.slice (some ad665) l1.length c1,.int .i64 (rd (rd_L5 l1 a2) 3),.slice A3 l3.length c3] rfl (zyx4_8) ?_;(with_reducible refine (ih kj25 (by have:=HJ25.out;omega) _ _ l0 _ _ l1 (rd (rd_L5 l1 a2) 3) _ _ l3 t684 t685 _ ?side1 ?side2 ?side3 ?side4 ?side5 ?side6 A59.out).mono ?_);(case side1=>exact zyx4_34);(case side2=>exact HC0.out);(case side3=>exact zyx4_35);(case side4=>exact HC1.out);(case side5=>exact zyx4_36);(case side6=>exact HC3.out);rintro e w62 ⟨rfl,hb⟩;refine ⟨_,rfl,?_⟩;have n0_:=aM4 (blk_below (g:=gb666) (o:=.cells #[.int .i64 ((rd_T94 l0 a2).f0),.int .i64 ((rd_T94 l0 a2).f1)] 94 (0,0)) (zyx4_22) hb);have n1_:=aM4 (bS4 (zyx4_21) hb);clear BK666 HB;have BK666:=n0_;have HB:=n1_;clear n0_ n1_;(try clear hb);(try clear hb2);(try clear hk);(try clear hi)))
                 go_ret2
                 exact ⟨zyx4_12,zyx4_21⟩
               ·rw [if_neg c51] at H
                exact absurd H (by simp)
       ·rw [if_neg c24] at H
        exact absurd H (by simp)
      ·rw [if_neg c22] at H
       exact absurd H (by simp)
   ·rw [if_neg c7] at H
    exact absurd H (by simp)
  ·rw [if_neg c6] at H
   exact absurd H (by simp)
 ·rw [if_neg c5] at H
  exact absurd H (by simp)
def spec_ruEval.f (k:Nat) (l0:List (S94)) (l1:List Int):Option (Int × Bool):=(spec_ruTree.f k l0).bind fun bt686=>((spec_ruValue.f k l0 bt686.1 (wrap64 ((l0.length:Int) - 1)) l1).bind fun bt690=>(if bt690.2=true then (some (bt690.1,true)) else (some (0,false))))
set_option maxHeartbeats 8000000 in
set_option maxRecDepth 100000 in
theorem spec_ruEval.calls (k:Nat) (A0:Option Addr) (c0:Nat) (l0:List (S94)) (A1:Option Addr) (c1:Nat) (l1:List Int) (r1:Int) (r2:Bool) (w:World) (hr0:Kd.C k94 w A0 l0.length l0) (hc0:l0.length≤c0) (hr1:Kd.C (Kd.int .i64) w A1 l1.length l1) (hc1:l1.length≤c1) (h:spec_ruEval.f k l0 l1=some (r1,r2)) :
  Calls Try.prog 35 #[.slice A0 l0.length c0,.slice A1 l1.length c1] w fun e w'=>e=.returned (.tuple #[.int .i64 r1,.bool r2])∧Below w.heap.size w w':=by
 have HR0:=aM4 hr0;have HC0:=aM4 hc0;clear hr0 hc0;have HR1:=aM4 hr1;have HC1:=aM4 hc1;clear hr1 hc1;have HB:=aM4 (Below.refl w.heap.size w);have H:((spec_ruTree.f k l0).bind fun bt686=>((spec_ruValue.f k l0 bt686.1 (wrap64 ((l0.length:Int) - 1)) l1).bind fun bt690=>(if bt690.2=true then (some (bt690.1,true)) else (some (0,false)))))=some (r1,r2):=h;clear h;replace H:=bI4.mp H;obtain ⟨⟨t686,t687⟩,A30,H⟩:=H;(try dsimp only at H);have A3:=aM4 A30;clear A30;replace H:=bI4.mp H;obtain ⟨⟨t690,t691⟩,A40,H⟩:=H;(try dsimp only at H);have A4:=aM4 A40;clear A40
 by_cases c5:t691=true
 ·subst c5
  rw [if_pos rfl] at H;(try dsimp only at H);simp only [Option.some.injEq,Prod.mk.injEq] at H;obtain ⟨rfl,rfl⟩:=H;go_enter Try.func35,Try.ntmps35
  go_wp2_with (first|((with_reducible refine gC4 (f:=60) rfl ?_);refine goesL_ (some 12) rfl rfl Try.func60 (zyx4_7) rfl #[.slice A0 l0.length c0] rfl (zyx4_8) ?_;(with_reducible refine (spec_ruTree.calls k _ _ l0 t686 t687 _ ?side1 ?side2 A3.out).mono ?_);(case side1=>exact zyx4_26);(case side2=>exact HC0.out);rintro e w6 ⟨v688,rfl,ho0,hb⟩;refine ⟨_,rfl,?_⟩;have n0_:=aM4 (Kd.S_lower ho0 (below_size (zyx4_3)));have n1_:=aM4 (bS4 (zyx4_3) hb);clear HB;have HO689:=n0_;have HB:=n1_;clear n0_ n1_;(try clear hb);(try clear hb2);(try clear hk);(try clear hi);(try clear ho0);obtain ⟨Ao7,co7,eo7⟩:=Kd.S_slice HO689.out;subst eo7)|((with_reducible refine gC4 (f:=62) rfl ?_);refine goesL_ (some 22) rfl rfl Try.func62 (zyx4_7) rfl #[.slice A0 l0.length c0,.slice Ao7 t686.length co7,.int .i64 (wrap64 ((l0.length:Int) - 1)),.slice A1 l1.length c1] rfl (zyx4_8) ?_;(with_reducible refine (spec_ruValue.calls k _ _ l0 _ _ t686 (wrap64 ((l0.length:Int) - 1)) _ _ l1 t690 true _ ?side1 ?side2 ?side3 ?side4 ?side5 ?side6 A4.out).mono ?_);(case side1=>exact zyx4_27);(case side2=>exact HC0.out);(case side3=>exact zyx4_29);(case side4=>exact (Kd.S_reads' HO689.out).2.1);(case side5=>exact zyx4_28);(case side6=>exact HC1.out);rintro e w8 ⟨rfl,hb⟩;refine ⟨_,rfl,?_⟩;have n0_:=aM4 (Kd.S_below (by (with_reducible repeat (first|apply Kd.S_alloc|apply Kd.S_drewN|apply Kd.S_drew));exact HO689.out) hb);have n1_:=aM4 (bS4 (zyx4_3) hb);clear HO689 HB;have HO689:=n0_;have HB:=n1_;clear n0_ n1_;(try clear hb);(try clear hb2);(try clear hk);(try clear hi)))
  go_ret2
  exact ⟨zyx4_12,zyx4_3⟩
 ·replace c5:=Bool.eq_false_iff.mpr c5
  subst c5;rw [if_neg (show ¬ (false=true) by decide)] at H;(try dsimp only at H);simp only [Option.some.injEq,Prod.mk.injEq] at H;obtain ⟨rfl,rfl⟩:=H;go_enter Try.func35,Try.ntmps35
  go_wp2_with (first|((with_reducible refine gC4 (f:=60) rfl ?_);refine goesL_ (some 12) rfl rfl Try.func60 (zyx4_7) rfl #[.slice A0 l0.length c0] rfl (zyx4_8) ?_;(with_reducible refine (spec_ruTree.calls k _ _ l0 t686 t687 _ ?side1 ?side2 A3.out).mono ?_);(case side1=>exact zyx4_26);(case side2=>exact HC0.out);rintro e w9 ⟨v688,rfl,ho0,hb⟩;refine ⟨_,rfl,?_⟩;have n0_:=aM4 (Kd.S_lower ho0 (below_size (zyx4_3)));have n1_:=aM4 (bS4 (zyx4_3) hb);clear HB;have HO689:=n0_;have HB:=n1_;clear n0_ n1_;(try clear hb);(try clear hb2);(try clear hk);(try clear hi);(try clear ho0);obtain ⟨Ao10,co10,eo10⟩:=Kd.S_slice HO689.out;subst eo10)|((with_reducible refine gC4 (f:=62) rfl ?_);refine goesL_ (some 22) rfl rfl Try.func62 (zyx4_7) rfl #[.slice A0 l0.length c0,.slice Ao10 t686.length co10,.int .i64 (wrap64 ((l0.length:Int) - 1)),.slice A1 l1.length c1] rfl (zyx4_8) ?_;(with_reducible refine (spec_ruValue.calls k _ _ l0 _ _ t686 (wrap64 ((l0.length:Int) - 1)) _ _ l1 t690 false _ ?side1 ?side2 ?side3 ?side4 ?side5 ?side6 A4.out).mono ?_);(case side1=>exact zyx4_27);(case side2=>exact HC0.out);(case side3=>exact zyx4_29);(case side4=>exact (Kd.S_reads' HO689.out).2.1);(case side5=>exact zyx4_28);(case side6=>exact HC1.out);rintro e w11 ⟨rfl,hb⟩;refine ⟨_,rfl,?_⟩;have n0_:=aM4 (Kd.S_below (by (with_reducible repeat (first|apply Kd.S_alloc|apply Kd.S_drewN|apply Kd.S_drew));exact HO689.out) hb);have n1_:=aM4 (bS4 (zyx4_3) hb);clear HO689 HB;have HO689:=n0_;have HB:=n1_;clear n0_ n1_;(try clear hb);(try clear hb2);(try clear hk);(try clear hi)))
  go_ret2
  exact ⟨zyx4_12,zyx4_3⟩
def spec_grZ.f (a0_0:Int) (a0_1:Int) (a0_2:Int) (a1:Int):Option (Int):=if a0_0=0 then (none) else (if a0_1=0 then (none) else (some (wrap64 (Int.tdiv (wrap64 (Int.tdiv a1 a0_0)) a0_1))))
set_option maxHeartbeats 8000000 in
set_option maxRecDepth 100000 in
theorem spec_grZ.calls (a0_0:Int) (a0_1:Int) (a0_2:Int) (a1:Int) (r:Int) (w:World) (h:spec_grZ.f a0_0 a0_1 a0_2 a1=some r) :
  Calls Try.prog 63 #[.agg #[.int .i64 a0_0,.int .i64 a0_1,.int .i64 a0_2],.int .i64 a1] w fun e w'=>e=.returned (.int .i64 r)∧Below w.heap.size w w':=by
 have hu24:=Try.underlying24;have HB:=aM4 (Below.refl w.heap.size w);have H:(if a0_0=0 then (none) else (if a0_1=0 then (none) else (some (wrap64 (Int.tdiv (wrap64 (Int.tdiv a1 a0_0)) a0_1)))))=some r:=h;clear h
 by_cases c3:a0_0=0
 ·rw [if_pos c3] at H
  exact absurd H (by simp)
 ·rw [if_neg c3] at H
  have c3b0:(a0_0 == 0)=false:=beq_eq_false_iff_ne.mpr c3;have c3b1:(a0_0 != 0)=true:=bne_iff_ne.mpr c3
  by_cases c4:a0_1=0
  ·rw [if_pos c4] at H
   exact absurd H (by simp)
  ·rw [if_neg c4] at H
   have c4b0:(a0_1 == 0)=false:=beq_eq_false_iff_ne.mpr c4;have c4b1:(a0_1 != 0)=true:=bne_iff_ne.mpr c4;obtain rfl:=Option.some.inj H;go_enter Try.func63,Try.ntmps63
   go_wp2_with (first|((with_reducible refine gate_dst (N:=2) rfl ?_);refine box_event ?hg (N:=2) ?hd (cs:=#[.int .i64 a0_0,.int .i64 a0_1,.int .i64 a0_2]) (t:=24) ?hr ?_;(case hd=>rfl);(case hg=>rfl);(case hr=>exact zyx4_25);intro gb692 hg w5 hbox hb;have n0_:=aM4 (bS4 (zyx4_3) hb);have n1_:=aM4 (hbox);have n2_:=aM4 ((zyx4_30:w.heap.size≤gb692));have n3_:=aM4 ((zyx4_30:w.heap.size≤gb692));clear HB;have HB:=n0_;have BK692:=n1_;have GW692:=n2_;have GE692:=n3_;clear n0_ n1_ n2_ n3_ hb hbox hg;obtain ⟨hcz6_0,hfz6_0,hcz6_1,hfz6_1,hcz6_2,hfz6_2⟩:=cf3 BK692.out))
   repeat (go_quiet (first|((with_reducible refine gate_dst (N:=2) rfl ?_);refine box_event ?hg (N:=2) ?hd (cs:=#[.int .i64 a0_0,.int .i64 a0_1,.int .i64 a0_2]) (t:=24) ?hr ?_;(case hd=>rfl);(case hg=>rfl);(case hr=>exact zyx4_25);intro gb692 hg w5 hbox hb;have n0_:=aM4 (bS4 (zyx4_3) hb);have n1_:=aM4 (hbox);have n2_:=aM4 ((zyx4_30:w.heap.size≤gb692));have n3_:=aM4 ((zyx4_30:w.heap.size≤gb692));clear HB;have HB:=n0_;have BK692:=n1_;have GW692:=n2_;have GE692:=n3_;clear n0_ n1_ n2_ n3_ hb hbox hg;obtain ⟨hcz6_0,hfz6_0,hcz6_1,hfz6_1,hcz6_2,hfz6_2⟩:=cf3 BK692.out));try go_wp2_with (first|((with_reducible refine gate_dst (N:=2) rfl ?_);refine box_event ?hg (N:=2) ?hd (cs:=#[.int .i64 a0_0,.int .i64 a0_1,.int .i64 a0_2]) (t:=24) ?hr ?_;(case hd=>rfl);(case hg=>rfl);(case hr=>exact zyx4_25);intro gb692 hg w5 hbox hb;have n0_:=aM4 (bS4 (zyx4_3) hb);have n1_:=aM4 (hbox);have n2_:=aM4 ((zyx4_30:w.heap.size≤gb692));have n3_:=aM4 ((zyx4_30:w.heap.size≤gb692));clear HB;have HB:=n0_;have BK692:=n1_;have GW692:=n2_;have GE692:=n3_;clear n0_ n1_ n2_ n3_ hb hbox hg;obtain ⟨hcz6_0,hfz6_0,hcz6_1,hfz6_1,hcz6_2,hfz6_2⟩:=cf3 BK692.out)))
   go_ret
   exact ⟨zyx4_12,by repeat (first|(with_reducible first|exact HB.out|apply below_alloc|apply pw_below_drewN|apply below_drew1|refine below_set ?_ GE692.out)|exact HB.out)⟩
def spec_vaFields.f (a0_0:Int) (a0_1:Int) (a0_2:Int) (l0_3:List Int) (l0_4:List Int) (l0_5:List Int) (a1:Int):Option (List Int):=if 0≤a1 then (if a1 < (l0_3.length:Int) then (if a1 < (l0_4.length:Int) then (if a1 < (l0_5.length:Int) then ((spec_grZ.f a0_0 a0_1 a0_2 a1).bind fun t697=>((spec_moMetal.f a0_0 a0_1 a0_2 l0_3 l0_4 l0_5 a1).bind fun t698=>(some (([rd l0_3 a1,rd l0_4 a1,rd l0_5 a1,t697,t698]:List Int))))) else (none)) else (none)) else (none)) else (none)
def spec_vaFields.T1:Bool × List (List Nat × List Nat):=(true,[([],[]),([0],[0]),([],[]),([1,2],[1,2]),([3],[3]),([],[]),([5],[5]),([],[]),([6,7],[6,7]),([8],[8]),([],[]),([10],[10]),([],[]),([11,12],[11,12]),([13],[13]),([],[]),([15],[15]),([],[]),([16,17],[16,17]),([],[]),([],[]),([19,20,18],[19,20]),([4,9,14,18,21],[4,9,14,18,21]),([22,21,0,1,2,3,4,5,6,7,8,9,10,11,12,13,14,15,16,17,18,19,20,21,22],[22])])
def spec_vaFields.B1:List Nat:=[0,1,0,7,15,0,32,0,224,480,0,1024,0,7168,15360,0,32768,0,229376,0,0,2064384,4194303,8388607]
theorem spec_vaFields.tab1:rtab .any (opsOf Try.f36 1)=spec_vaFields.T1:=by kernel_rfl
theorem spec_vaFields.bits1:waitsOk spec_vaFields.T1.2 spec_vaFields.B1=true:=by kernel_rfl
set_option maxHeartbeats 8000000 in
set_option maxRecDepth 100000 in
theorem spec_vaFields.calls (a0_0:Int) (a0_1:Int) (a0_2:Int) (A0_3:Option Addr) (c0_3:Nat) (l0_3:List Int) (A0_4:Option Addr) (c0_4:Nat) (l0_4:List Int) (A0_5:Option Addr) (c0_5:Nat) (l0_5:List Int) (a1:Int) (r:List Int) (w:World) (hr0_3:Kd.C (Kd.int .i64) w A0_3 l0_3.length l0_3) (hc0_3:l0_3.length≤c0_3) (hr0_4:Kd.C (Kd.int .i64) w A0_4 l0_4.length l0_4) (hc0_4:l0_4.length≤c0_4) (hr0_5:Kd.C (Kd.int .i64) w A0_5 l0_5.length l0_5) (hc0_5:l0_5.length≤c0_5) (h:spec_vaFields.f a0_0 a0_1 a0_2 l0_3 l0_4 l0_5 a1=some r) :
  Calls Try.prog 36 #[.agg #[.int .i64 a0_0,.int .i64 a0_1,.int .i64 a0_2,.slice A0_3 l0_3.length c0_3,.slice A0_4 l0_4.length c0_4,.slice A0_5 l0_5.length c0_5],.int .i64 a1] w fun e w'=>∃ v0_:Value,e=.returned (v0_)∧Kd.R (Kd.int .i64) 3 w' w.heap.size (fun _=>True) v0_ r∧Below w.heap.size w w':=by
 have hu27:=Try.underlying27;have hu24:=Try.underlying24;have HR0_3:=aM4 hr0_3;have HC0_3:=aM4 hc0_3;clear hr0_3 hc0_3;have HR0_4:=aM4 hr0_4;have HC0_4:=aM4 hc0_4;clear hr0_4 hc0_4;have HR0_5:=aM4 hr0_5;have HC0_5:=aM4 hc0_5;clear hr0_5 hc0_5;have HB:=aM4 (Below.refl w.heap.size w);have H:(if 0≤a1 then (if a1 < (l0_3.length:Int) then (if a1 < (l0_4.length:Int) then (if a1 < (l0_5.length:Int) then ((spec_grZ.f a0_0 a0_1 a0_2 a1).bind fun t697=>((spec_moMetal.f a0_0 a0_1 a0_2 l0_3 l0_4 l0_5 a1).bind fun t698=>(some (([rd l0_3 a1,rd l0_4 a1,rd l0_5 a1,t697,t698]:List Int))))) else (none)) else (none)) else (none)) else (none))=some r:=h;clear h
 by_cases c3:0≤a1
 ·rw [if_pos c3] at H
  have c3b0:decide (0≤a1)=true:=dT4 c3;clear c3
  by_cases c4:a1 < (l0_3.length:Int)
  ·rw [if_pos c4] at H
   have c4b0:decide (a1 < (l0_3.length:Int))=true:=dT4 c4;clear c4
   by_cases c5:a1 < (l0_4.length:Int)
   ·rw [if_pos c5] at H
    have c5b0:decide (a1 < (l0_4.length:Int))=true:=dT4 c5;clear c5
    by_cases c6:a1 < (l0_5.length:Int)
    ·rw [if_pos c6] at H
     have c6b0:decide (a1 < (l0_5.length:Int))=true:=dT4 c6;clear c6;replace H:=bI4.mp H;obtain ⟨t697,A70,H⟩:=H;(try dsimp only at H);have A7:=aM4 A70;clear A70;replace H:=bI4.mp H;obtain ⟨t698,A80,H⟩:=H;(try dsimp only at H);have A8:=aM4 A80;clear A80;obtain ⟨y699,hy699⟩:∃ y_:List Int,y_=(([rd l0_3 a1,rd l0_4 a1,rd l0_5 a1,t697,t698]:List Int)):=⟨_,rfl⟩
     replace H:(some y699)=some r:=by first|(rw [hy699];with_reducible exact H)|(have H2_:=(Option.bind_some _ _).symm.trans H;rw [hy699];with_reducible exact H2_)|(have H2_:=(Option.bind_some _ _).symm.trans H;with_reducible exact H2_)|with_reducible exact H|(rw [hy699];exact H)|exact H
     have Ny699:=aM4 hy699;clear hy699;obtain rfl:=Option.some.inj H;go_enter Try.func36,Try.ntmps36
     try go_wp2_with (first|((with_reducible refine gate_dst (N:=2) rfl ?_);refine box_event ?hg (N:=2) ?hd (cs:=#[.int .i64 a0_0,.int .i64 a0_1,.int .i64 a0_2,.slice A0_3 l0_3.length c0_3,.slice A0_4 l0_4.length c0_4,.slice A0_5 l0_5.length c0_5]) (t:=27) ?hr ?_;(case hd=>rfl);(case hg=>rfl);(case hr=>exact zyx4_25);intro gb693 hg w9 hbox hb;have n0_:=aM4 (bS4 (zyx4_3) hb);have n1_:=aM4 (hbox);have n2_:=aM4 ((zyx4_30:w.heap.size≤gb693));have n3_:=aM4 ((zyx4_30:w.heap.size≤gb693));clear HB;have HB:=n0_;have BK693:=n1_;have GW693:=n2_;have GE693:=n3_;clear n0_ n1_ n2_ n3_ hb hbox hg))
     have n0_:=aM4 (blk_drew BK693.out);have n1_:=aM4 (below_drew1 HB.out);clear BK693 HB;have BK693:=n0_;have HB:=n1_;clear n0_ n1_;have p694:0≤(a1:Int):=oD4 (zyx4_4);have q694:a1 < (l0_3.length:Int):=oD4 (zyx4_4);obtain ⟨ad694,e694,hx694_0⟩:=Kd.at_int HR0_3.out a1 p694 q694;have hw694_0:=hx694_0
     cases e694
     replace hx694_0:=(HB.out.cell (bL4 w _ hx694_0)).trans hx694_0;replace p694:=eT4 p694;replace q694:=eT4 q694;have p695:0≤(a1:Int):=oD4 (zyx4_4);have q695:a1 < (l0_4.length:Int):=oD4 (zyx4_4);obtain ⟨ad695,e695,hx695_0⟩:=Kd.at_int HR0_4.out a1 p695 q695;have hw695_0:=hx695_0
     cases e695
     replace hx695_0:=(HB.out.cell (bL4 w _ hx695_0)).trans hx695_0;replace p695:=eT4 p695;replace q695:=eT4 q695;have p696:0≤(a1:Int):=oD4 (zyx4_4);have q696:a1 < (l0_5.length:Int):=oD4 (zyx4_4);obtain ⟨ad696,e696,hx696_0⟩:=Kd.at_int HR0_5.out a1 p696 q696;have hw696_0:=hx696_0
     cases e696
     replace hx696_0:=(HB.out.cell (bL4 w _ hx696_0)).trans hx696_0;replace p696:=eT4 p696;replace q696:=eT4 q696
     refine start_ (n:=24) (S:=fun w'=>w'.cell? ⟨gb693,0,none⟩=some (.int .i64 a0_0)∧w'.cell? ⟨gb693,1,none⟩=some (.int .i64 a0_1)∧w'.cell? ⟨gb693,2,none⟩=some (.int .i64 a0_2)∧w'.cell? ⟨gb693,3,none⟩=some (.slice (some ad694) l0_3.length c0_3)∧w'.cell? ⟨gb693,4,none⟩=some (.slice (some ad695) l0_4.length c0_4)∧w'.cell? ⟨gb693,5,none⟩=some (.slice (some ad696) l0_5.length c0_5)∧w'.cell? (ad694.add (a1).toNat)=some (.int .i64 (rd l0_3 a1))∧w'.cell? (ad695.add (a1).toNat)=some (.int .i64 (rd l0_4 a1))∧w'.cell? (ad696.add (a1).toNat)=some (.int .i64 (rd l0_5 a1))) (ds:=[]) #[false,false,false,false,false,false,false,false,false,false,false,false,false,false,false,false,false,false,false,false,false,false,false,false] (zyx4_7) rfl rfl ⟨(bC4 BK693.out 0).trans rfl,(bC4 BK693.out 1).trans rfl,(bC4 BK693.out 2).trans rfl,(bC4 BK693.out 3).trans rfl,(bC4 BK693.out 4).trans rfl,(bC4 BK693.out 5).trans rfl,((HB.out.cell (bL4 w _ hw694_0)).trans hw694_0),((HB.out.cell (bL4 w _ hw695_0)).trans hw695_0),((HB.out.cell (bL4 w _ hw696_0)).trans hw696_0)⟩ (fun hHeld=>?_);refine with_tabW spec_vaFields.tab1 spec_vaFields.bits1 (fun HT_ HW_=>?_);generalize w9.drew=w10 at BK693 HB hx694_0 hx695_0 hx696_0 hHeld ⊢;refine wp_in [(0,5,1,0),(2,7,5,0),(5,10,37,0),(7,12,165,0),(10,15,1189,0),(12,17,5285,0),(15,20,38053,0),(17,22,169125,0),(20,25,1217701,0),(1,6,1217703,1),(3,8,1217711,0),(4,9,1217727,1),(6,11,1217791,1),(8,13,1218047,0),(9,14,1218559,1),(11,16,1220607,1),(13,18,1228799,0),(14,19,1245183,1),(16,21,1310719,1),(19,24,1835007,1)] 24 ?_
     iterate 20 (first|(refine pn_ (oi:=?_) (v:=?_) (a':=?_) HT_.out ?_ ?_ ?_ ?_ ?_ ?_ ?_ ?_;rotate_left 3;rfl;rfl;kernel_rfl;exact fun _ _ _ h=>h;rfl;intro w';go_simp;with_reducible rfl;simp only [Act.put,uA4,uB4,uC4,i64_w,i32_w];rfl)|(refine tn_ (oi:=?_) (v:=?_) (a':=?_) HT_.out HW_.out hHeld ?_ ?_ ?_ ?_ ?_ ?_ ?_ ?_;rotate_left 3;rfl;rfl;kernel_rfl;exact fun _ _ _ h=>h;rfl;rintro w' ⟨s0,s1,s2,s3,s4,s5,s6,s7,s8⟩;go_simp;with_reducible rfl;simp only [Act.put,uA4,uB4,uC4,i64_w,i32_w];rfl))
     refine wp_out ?_;refine one_ (i:=18) (N:=some 23) #[true,true,true,true,true,true,true,true,true,true,true,true,true,true,true,true,true,true,true,true,true,false,false,false] rfl rfl (one_of HT_.out (zyx4_7)) (by decide) (fun K hK=>?_);refine goes_ Try.func63 (zyx4_7) rfl #[.agg #[.int .i64 a0_0,.int .i64 a0_1,.int .i64 a0_2],.int .i64 a1] (by rfl) rfl rfl (zyx4_8) ?_
     with_reducible refine (spec_grZ.calls a0_0 a0_1 a0_2 a1 t697 _ A7.out).mono ?_
     rintro e w11 ⟨rfl,hb⟩;refine ⟨_,rfl,?_⟩;have n0_:=aM4 (blk_below (g:=gb693) (o:=.cells #[.int .i64 a0_0,.int .i64 a0_1,.int .i64 a0_2,.slice (some ad694) l0_3.length c0_3,.slice (some ad695) l0_4.length c0_4,.slice (some ad696) l0_5.length c0_5] 27 (0,0)) (zyx4_23) hb);have n1_:=aM4 (bS4 (zyx4_24) hb);clear BK693 HB;have BK693:=n0_;have HB:=n1_;clear n0_ n1_;(try clear hb);(try clear hb2);(try clear hk);(try clear hi);refine hK.out _ _ ⟨(bC4 BK693.out 0).trans rfl,(bC4 BK693.out 1).trans rfl,(bC4 BK693.out 2).trans rfl,(bC4 BK693.out 3).trans rfl,(bC4 BK693.out 4).trans rfl,(bC4 BK693.out 5).trans rfl,((HB.out.cell (bL4 w _ hw694_0)).trans hw694_0),((HB.out.cell (bL4 w _ hw695_0)).trans hw695_0),((HB.out.cell (bL4 w _ hw696_0)).trans hw696_0)⟩ (fun hHeld=>?_);clear hK K;refine norm_ (a':=?_) ?_ ?_;rotate_left
     ·show Act.put _ (some 23) _=_
      simp only [Act.put,uA4,uB4,uC4,i64_w,i32_w]
      rfl
     refine one_ (i:=21) (N:=some 26) #[true,true,true,true,true,true,true,true,true,true,true,true,true,true,true,true,true,true,true,true,true,true,false,false] rfl rfl (one_of HT_.out (zyx4_7)) (by decide) (fun K hK=>?_);refine goes_ Try.func49 (zyx4_7) rfl #[.agg #[.int .i64 a0_0,.int .i64 a0_1,.int .i64 a0_2,.slice (some ad694) l0_3.length c0_3,.slice (some ad695) l0_4.length c0_4,.slice (some ad696) l0_5.length c0_5],.int .i64 a1] (by rfl) rfl rfl (zyx4_8) ?_
     with_reducible refine (spec_moMetal.calls a0_0 a0_1 a0_2 _ _ l0_3 _ _ l0_4 _ _ l0_5 a1 t698 _ ?side1 ?side2 ?side3 ?side4 ?side5 ?side6 A8.out).mono ?_
     (case side1=>repeat (first|exact (Kd.C_below HR0_3.out HB.out)|(with_reducible refine Kd.C_alloc ?_ _)|(with_reducible refine Kd.C_drewN ?_ _)|(with_reducible refine Kd.C_drew ?_)))
     (case side2=>exact HC0_3.out)
     (case side3=>repeat (first|exact (Kd.C_below HR0_4.out HB.out)|(with_reducible refine Kd.C_alloc ?_ _)|(with_reducible refine Kd.C_drewN ?_ _)|(with_reducible refine Kd.C_drew ?_)))
     (case side4=>exact HC0_4.out)
     (case side5=>repeat (first|exact (Kd.C_below HR0_5.out HB.out)|(with_reducible refine Kd.C_alloc ?_ _)|(with_reducible refine Kd.C_drewN ?_ _)|(with_reducible refine Kd.C_drew ?_)))
     (case side6=>exact HC0_5.out)
     rintro e w12 ⟨rfl,hb⟩;refine ⟨_,rfl,?_⟩;have n0_:=aM4 (blk_below (g:=gb693) (o:=.cells #[.int .i64 a0_0,.int .i64 a0_1,.int .i64 a0_2,.slice (some ad694) l0_3.length c0_3,.slice (some ad695) l0_4.length c0_4,.slice (some ad696) l0_5.length c0_5] 27 (0,0)) (zyx4_23) hb);have n1_:=aM4 (bS4 (zyx4_24) hb);clear BK693 HB;have BK693:=n0_;have HB:=n1_;clear n0_ n1_;(try clear hb);(try clear hb2);(try clear hk);(try clear hi);refine hK.out _ _ ⟨(bC4 BK693.out 0).trans rfl,(bC4 BK693.out 1).trans rfl,(bC4 BK693.out 2).trans rfl,(bC4 BK693.out 3).trans rfl,(bC4 BK693.out 4).trans rfl,(bC4 BK693.out 5).trans rfl,((HB.out.cell (bL4 w _ hw694_0)).trans hw694_0),((HB.out.cell (bL4 w _ hw695_0)).trans hw695_0),((HB.out.cell (bL4 w _ hw696_0)).trans hw696_0)⟩ (fun hHeld=>?_);clear hK K;refine norm_ (a':=?_) ?_ ?_;rotate_left
     ·show Act.put _ (some 26) _=_
      simp only [Act.put,uA4,uB4,uC4,i64_w,i32_w]
      rfl
     refine one_ (i:=22) (N:=some 27) #[true,true,true,true,true,true,true,true,true,true,true,true,true,true,true,true,true,true,true,true,true,true,true,false] rfl rfl (one_of HT_.out (zyx4_7)) (by decide) (fun K hK=>?_)
     refine Kd.R_lit_step (Kd.int .i64) _ 3 ?hg (N:=27) ?hd (xs:=([rd l0_3 a1,rd l0_4 a1,rd l0_5 a1,t697,t698]:List Int)) (inner:=[.int .i64 (rd l0_3 a1),.int .i64 (rd l0_4 a1),.int .i64 (rd l0_5 a1),.int .i64 t697,.int .i64 t698]) (ok:=fun _=>True) (okp:=fun _=>True) ?hr ?hp (fun _ hk=>hk) trivial (Below.refl _ _) (Nat.le_refl _) (by simp) ?_;(case hd=>rfl);(case hg=>rfl);(case hr=>exact zyx4_25);(case hp=>exact (Reps.one (show Kd.M (Kd.int .i64) _ _ _ (rd l0_3 a1) [.int .i64 (rd l0_3 a1)] from rfl) (Reps.one (show Kd.M (Kd.int .i64) _ _ _ (rd l0_4 a1) [.int .i64 (rd l0_4 a1)] from rfl) (Reps.one (show Kd.M (Kd.int .i64) _ _ _ (rd l0_5 a1) [.int .i64 (rd l0_5 a1)] from rfl) (Reps.one (show Kd.M (Kd.int .i64) _ _ _ t697 [.int .i64 t697] from rfl) (Reps.one (show Kd.M (Kd.int .i64) _ _ _ t698 [.int .i64 t698] from rfl) (Reps.none _ _)))))))
     intro v700 w13 ho14 hb hg_ hnew_;clear hg_ hnew_
     (first|rw [← Ny699.out] at ho14|(simp only [Int.reduceToNat] at ho14;rw [← Ny699.out] at ho14))
     have n0_:=aM4 (Kd.R_lower ho14 (below_size (zyx4_24)));have n1_:=aM4 (blk_below (g:=gb693) (o:=.cells #[.int .i64 a0_0,.int .i64 a0_1,.int .i64 a0_2,.slice (some ad694) l0_3.length c0_3,.slice (some ad695) l0_4.length c0_4,.slice (some ad696) l0_5.length c0_5] 27 (0,0)) (zyx4_23) hb);have n2_:=aM4 (bS4 (zyx4_24) hb);clear BK693 HB;have HO701:=n0_;have BK693:=n1_;have HB:=n2_;clear n0_ n1_ n2_ hb ho14;refine hK.out _ _ ⟨(bC4 BK693.out 0).trans rfl,(bC4 BK693.out 1).trans rfl,(bC4 BK693.out 2).trans rfl,(bC4 BK693.out 3).trans rfl,(bC4 BK693.out 4).trans rfl,(bC4 BK693.out 5).trans rfl,((HB.out.cell (bL4 w _ hw694_0)).trans hw694_0),((HB.out.cell (bL4 w _ hw695_0)).trans hw695_0),((HB.out.cell (bL4 w _ hw696_0)).trans hw696_0)⟩ (fun hHeld=>?_);clear hK K;refine norm_ (a':=?_) ?_ ?_;rotate_left
     ·show Act.put _ (some 27) _=_
      simp only [Act.put,uA4,uB4,uC4,i64_w,i32_w]
      rfl
     refine pure_ (i:=23) (N:=some 4) (v:=?_) (a':=?_) #[true,true,true,true,true,true,true,true,true,true,true,true,true,true,true,true,true,true,true,true,true,true,true,true] rfl rfl (any_of HT_.out (zyx4_7)) (fun _ _ _ h=>h) (Or.inl ⟨by rfl,?_⟩) ?_ ?_;rotate_left
     ·intro w'
      go_simp
      with_reducible rfl
     rotate_left
     ·simp only [Act.put,uA4,uB4,uC4,i64_w,i32_w]
      rfl
     refine done_ (done_of HT_.out (zyx4_7)) ?_
     try go_wp2
     go_ret
     exact ⟨_,zyx4_12,by (with_reducible repeat (first|apply Kd.R_alloc|apply Kd.R_drewN|apply Kd.R_drew));exact HO701.out,zyx4_24⟩
    ·rw [if_neg c6] at H
     exact absurd H (by simp)
   ·rw [if_neg c5] at H
    exact absurd H (by simp)
  ·rw [if_neg c4] at H
   exact absurd H (by simp)
 ·rw [if_neg c3] at H
  exact absurd H (by simp)
end Go.Proofs.Ytahhiedlkegkgaa.PFnMoney
end
