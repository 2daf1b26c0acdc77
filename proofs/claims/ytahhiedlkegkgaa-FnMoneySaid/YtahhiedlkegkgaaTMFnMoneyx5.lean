/- Texts that print.sh has printed for the law FnMoney,one function each,put together in one file: contracts of its functions. -/
import Derived.Test.YtahhiedlkegkgaaTStepW
import Derived.Test.YtahhiedlkegkgaaTMFnMoneyx0
import Derived.Test.YtahhiedlkegkgaaTMFnMoneyx2
import Derived.Test.YtahhiedlkegkgaaTMFnMoneyx3
import Derived.Test.YtahhiedlkegkgaaTMFnMoneyx4
section
namespace Go.Proofs.Ytahhiedlkegkgaa.PFnMoney
open Go.RowKit Go.Proofs.YtahhiedlkegkgaaW.PrintWords Go.Proofs.YtahhiedlkegkgaaW.PrintLast Go.Proofs.YtahhiedlkegkgaaW.PrintMore
attribute [local go_sem] max2_int min2_int max_two min_two max_three min_three max_four min_four   -- for this text's walks alone
set_option linter.unusedVariables false
set_option linter.unusedSimpArgs false
theorem aM5:type_of% @Aside0.mk:=@Aside0.mk
theorem oD5:type_of% @of_decide_eq_true:=@of_decide_eq_true
theorem dT5:type_of% @decide_eq_true:=@decide_eq_true
theorem bI5:type_of% @Option.bind_eq_some_iff.{0,0}:=@Option.bind_eq_some_iff.{0,0}
theorem kT5:type_of% @KeepBut.trans:=@KeepBut.trans
theorem eT5:type_of% @eq_true:=@eq_true
theorem bS5:type_of% @below_step:=@below_step
theorem gC5:type_of% @gate_callee:=@gate_callee
theorem bB5:type_of% @blk_below:=@blk_below
theorem zyx5_0 {P:Prop} (h:P:=by repeat (first|(with_reducible first|exact HB.out|apply below_alloc|apply pw_below_drewN|apply below_drew1)|exact HB.out)):P:=h
theorem zyx5_1 {P:Prop} (h:P:=by kernel_rfl):P:=h
theorem zyx5_2 {P:Prop} (h:P:=by (try simp only [List.map_toArray,List.map_cons,List.map_nil]);first|done|rfl|(simp only [List.length_drop,List.length_take];rfl)):P:=h
theorem zyx5_3 {P:Prop} (h:P:=by (with_reducible repeat (first|refine blk_drewN ?_ _|refine blk_drew ?_|refine blk_alloc ?_ _));exact BK702.out):P:=h
theorem zyx5_4 {P:Prop} (h:P:=by repeat (first|(with_reducible first|exact HB.out|apply below_alloc|apply pw_below_drewN|apply below_drew1|refine below_set ?_ GE702.out)|exact HB.out)):P:=h
theorem zyx5_5 {P:Prop} (h:P:=by first|rfl|(simp;done)|(simp [*];done)):P:=h
theorem zyx5_6 {P:Prop} (h:P:=by first|omega|exact Nat.le_refl _):P:=h
theorem zyx5_7 {P:Prop} (h:P:=by first|rfl|(simp [errW_none,errW_some] <;> rfl)|(simp [*,errW_none,errW_some] <;> rfl)):P:=h
theorem zyx5_8 {P:Prop} (h:P:=by (with_reducible repeat (first|apply Kd.R_alloc|apply Kd.R_drewN|apply Kd.R_drew));exact HO707.out):P:=h
theorem zyx5_9 {P:Prop} (h:P:=by (with_reducible repeat (first|refine blk_drewN ?_ _|refine blk_drew ?_|refine blk_alloc ?_ _));exact BK722.out):P:=h
theorem zyx5_10 {P:Prop} (h:P:=by repeat (first|(with_reducible first|exact HB.out|apply below_alloc|apply pw_below_drewN|apply below_drew1|refine below_set ?_ GE722.out)|exact HB.out)):P:=h
theorem zyx5_11 {P:Prop} (h:P:=by first|exact Kd.R_nil _ _ _ _ _|exact Kd.N_nil _ _ _ _ _|exact Kd.V_nil _ _ _ _ _|exact Kd.Q_nil _ _ _ _ _|exact Kd.S_nil _ _ _ _ _):P:=h
theorem zyx5_12 {P:Prop} (h:P:=by (with_reducible repeat (first|apply Kd.R_alloc|apply Kd.R_drewN|apply Kd.R_drew));exact HO_6.out):P:=h
theorem zyx5_13 {P:Prop} (h:P:=by (with_reducible repeat (first|refine blk_drewN ?_ _|refine blk_drew ?_|refine blk_alloc ?_ _));exact BK741.out):P:=h
theorem zyx5_14 {P:Prop} (h:P:=by repeat (first|(with_reducible first|exact HB.out|apply below_alloc|apply pw_below_drewN|apply below_drew1|refine below_set ?_ GE741.out)|exact HB.out)):P:=h
theorem zyx5_15 {P:Prop} (h:P:=by repeat (first|(with_reducible first|exact HB.out|apply below_alloc|apply pw_below_drewN|apply below_drew1|refine below_set ?_ GE745.out)|exact HB.out)):P:=h
theorem zyx5_16 {P:Prop} (h:P:=by first|(with_reducible assumption)|assumption):P:=h
theorem zyx5_17 {P:Prop} (h:P:=by first|exact IsS50.drewN (IsS50.set_2 (IsS50.set_1 (IsS50.drewN HI0.out _) _) _) _|exact IsS50.set_2 (IsS50.set_1 (IsS50.drewN HI0.out _) _) _|exact IsS50.drewN (IsS50.set_2 (IsS50.set_1 HI0.out _) _) _|exact IsS50.set_2 (IsS50.set_1 HI0.out _) _|(rw [Int.add_zero];first|exact IsS50.drewN (IsS50.set_2 (IsS50.set_1 (IsS50.drewN HI0.out _) _) _) _|exact IsS50.set_2 (IsS50.set_1 (IsS50.drewN HI0.out _) _) _|exact IsS50.drewN (IsS50.set_2 (IsS50.set_1 HI0.out _) _) _|exact IsS50.set_2 (IsS50.set_1 HI0.out _) _)):P:=h
theorem zyx5_18 {P:Prop} (h:P:=by repeat (first|(with_reducible first|exact HB.out|apply below_alloc|apply pw_below_drewN|apply below_drew1|refine below_set ?_ (IsS50.ge HI0.out))|exact HB.out)):P:=h
theorem zyx5_19 {P:Prop} (h:P:=by repeat (first|(with_reducible first|exact HK.out|apply KeepBut.set_|apply keep_drewN|apply keep_drew|apply keep_alloc)|exact HK.out)):P:=h
theorem zyx5_20 {P:Prop} (h:P:=by repeat (first|(with_reducible first|exact HI0.out|apply IsS50.alloc|apply IsS50.drewN|apply IsS50.drew|apply IsS50.set_1|apply IsS50.set_2)|exact HI0.out)):P:=h
theorem zyx5_21 {P:Prop} (h:P:=by (with_reducible repeat (first|refine blk_drewN ?_ _|refine blk_drew ?_|refine blk_alloc ?_ _));exact BK116.out):P:=h
theorem zyx5_22 {P:Prop} (h:P:=by repeat (first|(with_reducible first|exact HK.out|apply KeepBut.set_|apply keep_drewN|apply keep_drew|apply keep_alloc|refine keep_far ?_ GW116.out _)|exact HK.out)):P:=h
theorem zyx5_23 {P:Prop} (h:P:=by repeat (first|(with_reducible first|exact HI0.out|apply IsS50.alloc|apply IsS50.drewN|apply IsS50.drew|apply IsS50.set_1|apply IsS50.set_2|refine IsS50.far ?_ NB0_116.out _)|exact HI0.out)):P:=h
theorem zyx5_24 {P:Prop} (h:P:=by repeat (first|(with_reducible first|exact HB.out|apply below_alloc|apply pw_below_drewN|apply below_drew1|refine below_set ?_ (IsS50.ge HI0.out)|refine below_set ?_ GE116.out)|exact HB.out)):P:=h
theorem zyx5_25 {P:Prop} (h:P:=by (with_reducible repeat (first|apply Kd.R_alloc|apply Kd.R_drewN|apply Kd.R_drew));exact HO_5.out):P:=h
theorem zyx5_26 {P:Prop} (h:P:=by repeat (first|exact Drawn0.refl _|apply Drawn0.step)):P:=h
theorem zyx5_27 {P:Prop} (h:P:=by first|(go_simp;done)|(go_simp;rfl)):P:=h
theorem zyx5_28 {P:Prop} (h:P:=by repeat (first|exact (Kd.C_below HR0_3.out HB.out)|(with_reducible refine Kd.C_alloc ?_ _)|(with_reducible refine Kd.C_drewN ?_ _)|(with_reducible refine Kd.C_drew ?_))):P:=h
theorem zyx5_29 {P:Prop} (h:P:=by repeat (first|exact (Kd.C_below HR0_4.out HB.out)|(with_reducible refine Kd.C_alloc ?_ _)|(with_reducible refine Kd.C_drewN ?_ _)|(with_reducible refine Kd.C_drew ?_))):P:=h
theorem zyx5_30 {P:Prop} (h:P:=by repeat (first|exact (Kd.C_below HR0_5.out HB.out)|(with_reducible refine Kd.C_alloc ?_ _)|(with_reducible refine Kd.C_drewN ?_ _)|(with_reducible refine Kd.C_drew ?_))):P:=h
theorem zyx5_31 {P:Prop} (h:P:=by repeat (first|exact (Kd.C_below HR1.out HB.out)|(with_reducible refine Kd.C_alloc ?_ _)|(with_reducible refine Kd.C_drewN ?_ _)|(with_reducible refine Kd.C_drew ?_))):P:=h
theorem zyx5_32 {P:Prop} (h:P:=by repeat (first|exact (Kd.R_reads' HO707.out).2.2|(with_reducible refine Kd.C_alloc ?_ _)|(with_reducible refine Kd.C_drewN ?_ _)|(with_reducible refine Kd.C_drew ?_))):P:=h
theorem zyx5_33 {P:Prop} (h:P:=by rw [hg];exact (below_size (zyx5_0))):P:=h
theorem zyx5_34 {P:Prop} (h:P:=by rw [hg];exact (keep_size (w:=w) (g:=g) (row:=none) (zyx5_19))):P:=h
def spec_RuleValue.j0:Nat→List (S94)→Int→Bool→Int→Int→Int→List Int→List Int→List Int→Option (Int × Bool)
 | 0,_,_,_,_,_,_,_,_,_=>none
 | k + 1,x1,x2,x18,x703000,x703001,x703002,x703003,x703004,x703005=>if x18=true then (some (0,false)) else ((spec_vaFields.f x703000 x703001 x703002 x703003 x703004 x703005 x2).bind fun t705=>((spec_ruEval.f k x1 t705).bind fun bt708=>(if bt708.2=true then ((spec_l1In.f bt708.1 (-1000000) 1000000).bind fun t710=>(if t710=true then (some (bt708.1,true)) else (some (0,false)))) else (some (0,false)))))
def spec_RuleValue.f (k:Nat) (a0_0:Int) (a0_1:Int) (a0_2:Int) (l0_3:List Int) (l0_4:List Int) (l0_5:List Int) (l1:List (S94)) (a2:Int):Option (Int × Bool):=(spec_moHas.f k a0_0 a0_1 a0_2 l0_3 l0_4 l0_5 a2).bind fun t703=>(if t703=true then ((spec_ruGood.f k l1).bind fun t704=>(spec_RuleValue.j0 k l1 a2 (!t704) a0_0 a0_1 a0_2 l0_3 l0_4 l0_5)) else (spec_RuleValue.j0 k l1 a2 true a0_0 a0_1 a0_2 l0_3 l0_4 l0_5))
set_option maxHeartbeats 8000000 in
set_option maxRecDepth 100000 in
theorem spec_RuleValue.calls (k:Nat) (a0_0:Int) (a0_1:Int) (a0_2:Int) (A0_3:Option Addr) (c0_3:Nat) (l0_3:List Int) (A0_4:Option Addr) (c0_4:Nat) (l0_4:List Int) (A0_5:Option Addr) (c0_5:Nat) (l0_5:List Int) (A1:Option Addr) (c1:Nat) (l1:List (S94)) (a2:Int) (r1:Int) (r2:Bool) (w:World) (hr0_3:Kd.C (Kd.int .i64) w A0_3 l0_3.length l0_3) (hc0_3:l0_3.length≤c0_3) (hr0_4:Kd.C (Kd.int .i64) w A0_4 l0_4.length l0_4) (hc0_4:l0_4.length≤c0_4) (hr0_5:Kd.C (Kd.int .i64) w A0_5 l0_5.length l0_5) (hc0_5:l0_5.length≤c0_5) (hr1:Kd.C k94 w A1 l1.length l1) (hc1:l1.length≤c1) (h:spec_RuleValue.f k a0_0 a0_1 a0_2 l0_3 l0_4 l0_5 l1 a2=some (r1,r2)) :
  Calls Try.prog 11 #[.agg #[.int .i64 a0_0,.int .i64 a0_1,.int .i64 a0_2,.slice A0_3 l0_3.length c0_3,.slice A0_4 l0_4.length c0_4,.slice A0_5 l0_5.length c0_5],.slice A1 l1.length c1,.int .i64 a2] w fun e w'=>e=.returned (.tuple #[.int .i64 r1,.bool r2])∧Below w.heap.size w w':=by
 have hu27:=Try.underlying27;have HR0_3:=aM5 hr0_3;have HC0_3:=aM5 hc0_3;clear hr0_3 hc0_3;have HR0_4:=aM5 hr0_4;have HC0_4:=aM5 hc0_4;clear hr0_4 hc0_4;have HR0_5:=aM5 hr0_5;have HC0_5:=aM5 hc0_5;clear hr0_5 hc0_5;have HR1:=aM5 hr1;have HC1:=aM5 hc1;clear hr1 hc1;have HB:=aM5 (Below.refl w.heap.size w);have H:((spec_moHas.f k a0_0 a0_1 a0_2 l0_3 l0_4 l0_5 a2).bind fun t703=>(if t703=true then ((spec_ruGood.f k l1).bind fun t704=>(spec_RuleValue.j0 k l1 a2 (!t704) a0_0 a0_1 a0_2 l0_3 l0_4 l0_5)) else (spec_RuleValue.j0 k l1 a2 true a0_0 a0_1 a0_2 l0_3 l0_4 l0_5)))=some (r1,r2):=h;clear h;have HC4:=aM5 H;clear H;go_enter Try.func11,Try.ntmps11
 go_upto_region 1 with (first|((with_reducible refine gate_dst (N:=3) rfl ?_);refine box_event ?hg (N:=3) ?hd (cs:=#[.int .i64 a0_0,.int .i64 a0_1,.int .i64 a0_2,.slice A0_3 l0_3.length c0_3,.slice A0_4 l0_4.length c0_4,.slice A0_5 l0_5.length c0_5]) (t:=27) ?hr ?_;(case hd=>rfl);(case hg=>rfl);(case hr=>exact zyx5_27);intro gb702 hg w5 hbox hb;have n0_:=aM5 (bS5 (zyx5_0) hb);have n1_:=aM5 (hbox);have n2_:=aM5 ((zyx5_33:w.heap.size≤gb702));have n3_:=aM5 ((zyx5_33:w.heap.size≤gb702));clear HB;have HB:=n0_;have BK702:=n1_;have GW702:=n2_;have GE702:=n3_;clear n0_ n1_ n2_ n3_ hb hbox hg))
 (try simp only [Act.put,List.setIfInBounds_toArray,List.set_cons_zero,List.set_cons_succ])
 go_cut [18] (fun v18 wc=>∃ (kq:Nat) (x18_3:Bool),v18=.bool x18_3∧Aside0 (spec_RuleValue.j0 kq l1 a2 x18_3 a0_0 a0_1 a0_2 l0_3 l0_4 l0_5=some (r1,r2))∧Aside0 (kq≤k)∧Aside0 (wc.heap[gb702]?=some (.cells #[.int .i64 a0_0,.int .i64 a0_1,.int .i64 a0_2,(.slice A0_3 l0_3.length c0_3),(.slice A0_4 l0_4.length c0_4),(.slice A0_5 l0_5.length c0_5)] 27 (0,0)))∧Aside0 (Below w.heap.size w wc))
 case first =>
  have H:=HC4.out;clear HC4;replace H:=bI5.mp H;obtain ⟨t703,A60,H⟩:=H;(try dsimp only at H);have A6:=aM5 A60;clear A60
  by_cases c7:t703=true
  ·subst c7
   rw [if_pos rfl] at H;(try dsimp only at H);replace H:=bI5.mp H;obtain ⟨t704,A80,H⟩:=H;(try dsimp only at H);have A8:=aM5 A80;clear A80;have H':=aM5 H;clear H;obtain ⟨hcz9_0,hfz9_0,hcz9_1,hfz9_1,hcz9_2,hfz9_2,hcz9_3,hfz9_3,hcz9_4,hfz9_4,hcz9_5,hfz9_5⟩:=cf6 BK702.out
   go_wp2_with (first|((with_reducible refine gC5 (f:=26) rfl ?_);refine goesL_ (some 12) rfl rfl Try.func26 (zyx5_1) rfl #[.agg #[.int .i64 a0_0,.int .i64 a0_1,.int .i64 a0_2,.slice A0_3 l0_3.length c0_3,.slice A0_4 l0_4.length c0_4,.slice A0_5 l0_5.length c0_5],.int .i64 a2] rfl (zyx5_2) ?_;(with_reducible refine (spec_moHas.calls k a0_0 a0_1 a0_2 _ _ l0_3 _ _ l0_4 _ _ l0_5 a2 true _ ?side1 ?side2 ?side3 ?side4 ?side5 ?side6 A6.out).mono ?_);(case side1=>exact zyx5_28);(case side2=>exact HC0_3.out);(case side3=>exact zyx5_29);(case side4=>exact HC0_4.out);(case side5=>exact zyx5_30);(case side6=>exact HC0_5.out);rintro e w10 ⟨rfl,hb⟩;refine ⟨_,rfl,?_⟩;have n0_:=aM5 (bB5 (g:=gb702) (o:=.cells #[.int .i64 a0_0,.int .i64 a0_1,.int .i64 a0_2,.slice A0_3 l0_3.length c0_3,.slice A0_4 l0_4.length c0_4,.slice A0_5 l0_5.length c0_5] 27 (0,0)) (zyx5_3) hb);have n1_:=aM5 (bS5 (zyx5_4) hb);clear BK702 HB;have BK702:=n0_;have HB:=n1_;clear n0_ n1_;(try clear hb);(try clear hb2);(try clear hk);(try clear hi))|(go_at_call 34;(with_reducible refine (spec_ruGood.calls k _ _ l1 t704 _ ?side1 ?side2 A8.out).mono ?_);(case side1=>exact zyx5_31);(case side2=>exact HC1.out);rintro e w11 ⟨rfl,hb⟩;have n0_:=aM5 (bB5 (g:=gb702) (o:=.cells #[.int .i64 a0_0,.int .i64 a0_1,.int .i64 a0_2,.slice A0_3 l0_3.length c0_3,.slice A0_4 l0_4.length c0_4,.slice A0_5 l0_5.length c0_5] 27 (0,0)) (zyx5_3) hb);have n1_:=aM5 (bS5 (zyx5_4) hb);clear BK702 HB;have BK702:=n0_;have HB:=n1_;clear n0_ n1_;(try clear hb);(try clear hb2);(try clear hk);(try clear hi)))
   go_meet
   case rel=>exact ⟨_,(!t704),(zyx5_5),H',⟨zyx5_6⟩,⟨zyx5_3⟩,⟨zyx5_4⟩⟩
  ·replace c7:=Bool.eq_false_iff.mpr c7
   subst c7;rw [if_neg (show ¬ (false=true) by decide)] at H;(try dsimp only at H);have H':=aM5 H;clear H;obtain ⟨hcz12_0,hfz12_0,hcz12_1,hfz12_1,hcz12_2,hfz12_2,hcz12_3,hfz12_3,hcz12_4,hfz12_4,hcz12_5,hfz12_5⟩:=cf6 BK702.out
   go_wp2_with (first|((with_reducible refine gC5 (f:=26) rfl ?_);refine goesL_ (some 12) rfl rfl Try.func26 (zyx5_1) rfl #[.agg #[.int .i64 a0_0,.int .i64 a0_1,.int .i64 a0_2,.slice A0_3 l0_3.length c0_3,.slice A0_4 l0_4.length c0_4,.slice A0_5 l0_5.length c0_5],.int .i64 a2] rfl (zyx5_2) ?_;(with_reducible refine (spec_moHas.calls k a0_0 a0_1 a0_2 _ _ l0_3 _ _ l0_4 _ _ l0_5 a2 false _ ?side1 ?side2 ?side3 ?side4 ?side5 ?side6 A6.out).mono ?_);(case side1=>exact zyx5_28);(case side2=>exact HC0_3.out);(case side3=>exact zyx5_29);(case side4=>exact HC0_4.out);(case side5=>exact zyx5_30);(case side6=>exact HC0_5.out);rintro e w13 ⟨rfl,hb⟩;refine ⟨_,rfl,?_⟩;have n0_:=aM5 (bB5 (g:=gb702) (o:=.cells #[.int .i64 a0_0,.int .i64 a0_1,.int .i64 a0_2,.slice A0_3 l0_3.length c0_3,.slice A0_4 l0_4.length c0_4,.slice A0_5 l0_5.length c0_5] 27 (0,0)) (zyx5_3) hb);have n1_:=aM5 (bS5 (zyx5_4) hb);clear BK702 HB;have BK702:=n0_;have HB:=n1_;clear n0_ n1_;(try clear hb);(try clear hb2);(try clear hk);(try clear hi)))
   go_meet
   case rel=>exact ⟨_,(true),(zyx5_5),H',⟨zyx5_6⟩,⟨zyx5_3⟩,⟨zyx5_4⟩⟩
 case rest =>
  clear HC4;(try clear c1);(try clear c2);(try clear p2);(try clear c7);(try clear c11);(try clear hcz12_0);(try clear hcz12_1);(try clear hcz12_2);(try clear hcz12_3);(try clear hcz12_4);(try clear hcz12_5);(try clear hcz9_0);(try clear hcz9_1);(try clear hcz9_2);(try clear hcz9_3);(try clear hcz9_4);(try clear hcz9_5);(try clear hfz12_0);(try clear hfz12_1);(try clear hfz12_2);(try clear hfz12_3);(try clear hfz12_4);(try clear hfz12_5);(try clear hfz9_0);(try clear hfz9_1);(try clear hfz9_2);(try clear hfz9_3);(try clear hfz9_4);(try clear hfz9_5);obtain ⟨kq,x18_3,rfl,HA,HJ3,BK702,HB⟩:=hcut
  cases kq with
  | zero=>exact absurd HA.out (by simp [spec_RuleValue.j0])
  | succ kj3 =>
   have H:=HA.out;clear HA;simp only [spec_RuleValue.j0] at H
   by_cases c14:x18_3=true
   ·subst c14
    rw [if_pos rfl] at H;(try dsimp only at H);simp only [Option.some.injEq,Prod.mk.injEq] at H;obtain ⟨rfl,rfl⟩:=H
    go_wp2
    go_ret2
    exact ⟨zyx5_7,zyx5_4⟩
   ·replace c14:=Bool.eq_false_iff.mpr c14
    subst c14;rw [if_neg (show ¬ (false=true) by decide)] at H;(try dsimp only at H);replace H:=bI5.mp H;obtain ⟨t705,A150,H⟩:=H;(try dsimp only at H);have A15:=aM5 A150;clear A150;replace H:=bI5.mp H;obtain ⟨⟨t708,t709⟩,A160,H⟩:=H;(try dsimp only at H);have A16:=aM5 A160;clear A160
    by_cases c17:t709=true
    ·subst c17
     rw [if_pos rfl] at H;(try dsimp only at H);replace H:=bI5.mp H;obtain ⟨t710,A180,H⟩:=H;(try dsimp only at H);have A18:=aM5 A180;clear A180
     by_cases c19:t710=true
     ·subst c19
      rw [if_pos rfl] at H;(try dsimp only at H);simp only [Option.some.injEq,Prod.mk.injEq] at H;obtain ⟨rfl,rfl⟩:=H;obtain ⟨hcz20_0,hfz20_0,hcz20_1,hfz20_1,hcz20_2,hfz20_2,hcz20_3,hfz20_3,hcz20_4,hfz20_4,hcz20_5,hfz20_5⟩:=cf6 BK702.out
      go_wp2_with (first|((with_reducible refine gC5 (f:=36) rfl ?_);refine goesL_ (some 23) rfl rfl Try.func36 (zyx5_1) rfl #[.agg #[.int .i64 a0_0,.int .i64 a0_1,.int .i64 a0_2,.slice A0_3 l0_3.length c0_3,.slice A0_4 l0_4.length c0_4,.slice A0_5 l0_5.length c0_5],.int .i64 a2] rfl (zyx5_2) ?_;(with_reducible refine (spec_vaFields.calls a0_0 a0_1 a0_2 _ _ l0_3 _ _ l0_4 _ _ l0_5 a2 t705 _ ?side1 ?side2 ?side3 ?side4 ?side5 ?side6 A15.out).mono ?_);(case side1=>exact zyx5_28);(case side2=>exact HC0_3.out);(case side3=>exact zyx5_29);(case side4=>exact HC0_4.out);(case side5=>exact zyx5_30);(case side6=>exact HC0_5.out);rintro e w21 ⟨v706,rfl,ho0,hb⟩;refine ⟨_,rfl,?_⟩;have n0_:=aM5 (Kd.R_lower ho0 (below_size (zyx5_4)));have n1_:=aM5 (bB5 (g:=gb702) (o:=.cells #[.int .i64 a0_0,.int .i64 a0_1,.int .i64 a0_2,.slice A0_3 l0_3.length c0_3,.slice A0_4 l0_4.length c0_4,.slice A0_5 l0_5.length c0_5] 27 (0,0)) (zyx5_3) hb);have n2_:=aM5 (bS5 (zyx5_4) hb);clear BK702 HB;have HO707:=n0_;have BK702:=n1_;have HB:=n2_;clear n0_ n1_ n2_;(try clear hb);(try clear hb2);(try clear hk);(try clear hi);(try clear ho0);obtain ⟨Ao22,co22,eo22⟩:=Kd.R_slice HO707.out;subst eo22)|((with_reducible refine gC5 (f:=35) rfl ?_);refine goesL_ (some 24) rfl rfl Try.func35 (zyx5_1) rfl #[.slice A1 l1.length c1,.slice Ao22 t705.length co22] rfl (zyx5_2) ?_;(with_reducible refine (spec_ruEval.calls kj3 _ _ l1 _ _ t705 t708 true _ ?side1 ?side2 ?side3 ?side4 A16.out).mono ?_);(case side1=>exact zyx5_31);(case side2=>exact HC1.out);(case side3=>exact zyx5_32);(case side4=>exact (Kd.R_reads' HO707.out).2.1);rintro e w23 ⟨rfl,hb⟩;refine ⟨_,rfl,?_⟩;have n0_:=aM5 (Kd.R_below (zyx5_8) hb);have n1_:=aM5 (bB5 (g:=gb702) (o:=.cells #[.int .i64 a0_0,.int .i64 a0_1,.int .i64 a0_2,.slice A0_3 l0_3.length c0_3,.slice A0_4 l0_4.length c0_4,.slice A0_5 l0_5.length c0_5] 27 (0,0)) (zyx5_3) hb);have n2_:=aM5 (bS5 (zyx5_4) hb);clear HO707 BK702 HB;have HO707:=n0_;have BK702:=n1_;have HB:=n2_;clear n0_ n1_ n2_;(try clear hb);(try clear hb2);(try clear hk);(try clear hi))|(go_at_call 37;(with_reducible refine (spec_l1In.calls t708 (-1000000) 1000000 true _ A18.out).mono ?_);rintro e w' ⟨rfl,⟨nd,rfl⟩⟩))
      go_ret2
      exact ⟨zyx5_7,zyx5_4⟩
     ·replace c19:=Bool.eq_false_iff.mpr c19
      subst c19;rw [if_neg (show ¬ (false=true) by decide)] at H;(try dsimp only at H);simp only [Option.some.injEq,Prod.mk.injEq] at H;obtain ⟨rfl,rfl⟩:=H;obtain ⟨hcz24_0,hfz24_0,hcz24_1,hfz24_1,hcz24_2,hfz24_2,hcz24_3,hfz24_3,hcz24_4,hfz24_4,hcz24_5,hfz24_5⟩:=cf6 BK702.out
      go_wp2_with (first|((with_reducible refine gC5 (f:=36) rfl ?_);refine goesL_ (some 23) rfl rfl Try.func36 (zyx5_1) rfl #[.agg #[.int .i64 a0_0,.int .i64 a0_1,.int .i64 a0_2,.slice A0_3 l0_3.length c0_3,.slice A0_4 l0_4.length c0_4,.slice A0_5 l0_5.length c0_5],.int .i64 a2] rfl (zyx5_2) ?_;(with_reducible refine (spec_vaFields.calls a0_0 a0_1 a0_2 _ _ l0_3 _ _ l0_4 _ _ l0_5 a2 t705 _ ?side1 ?side2 ?side3 ?side4 ?side5 ?side6 A15.out).mono ?_);(case side1=>exact zyx5_28);(case side2=>exact HC0_3.out);(case side3=>exact zyx5_29);(case side4=>exact HC0_4.out);(case side5=>exact zyx5_30);(case side6=>exact HC0_5.out);rintro e w25 ⟨v706,rfl,ho0,hb⟩;refine ⟨_,rfl,?_⟩;have n0_:=aM5 (Kd.R_lower ho0 (below_size (zyx5_4)));have n1_:=aM5 (bB5 (g:=gb702) (o:=.cells #[.int .i64 a0_0,.int .i64 a0_1,.int .i64 a0_2,.slice A0_3 l0_3.length c0_3,.slice A0_4 l0_4.length c0_4,.slice A0_5 l0_5.length c0_5] 27 (0,0)) (zyx5_3) hb);have n2_:=aM5 (bS5 (zyx5_4) hb);clear BK702 HB;have HO707:=n0_;have BK702:=n1_;have HB:=n2_;clear n0_ n1_ n2_;(try clear hb);(try clear hb2);(try clear hk);(try clear hi);(try clear ho0);obtain ⟨Ao26,co26,eo26⟩:=Kd.R_slice HO707.out;subst eo26)|((with_reducible refine gC5 (f:=35) rfl ?_);refine goesL_ (some 24) rfl rfl Try.func35 (zyx5_1) rfl #[.slice A1 l1.length c1,.slice Ao26 t705.length co26] rfl (zyx5_2) ?_;(with_reducible refine (spec_ruEval.calls kj3 _ _ l1 _ _ t705 t708 true _ ?side1 ?side2 ?side3 ?side4 A16.out).mono ?_);(case side1=>exact zyx5_31);(case side2=>exact HC1.out);(case side3=>exact zyx5_32);(case side4=>exact (Kd.R_reads' HO707.out).2.1);rintro e w27 ⟨rfl,hb⟩;refine ⟨_,rfl,?_⟩;have n0_:=aM5 (Kd.R_below (zyx5_8) hb);have n1_:=aM5 (bB5 (g:=gb702) (o:=.cells #[.int .i64 a0_0,.int .i64 a0_1,.int .i64 a0_2,.slice A0_3 l0_3.length c0_3,.slice A0_4 l0_4.length c0_4,.slice A0_5 l0_5.length c0_5] 27 (0,0)) (zyx5_3) hb);have n2_:=aM5 (bS5 (zyx5_4) hb);clear HO707 BK702 HB;have HO707:=n0_;have BK702:=n1_;have HB:=n2_;clear n0_ n1_ n2_;(try clear hb);(try clear hb2);(try clear hk);(try clear hi))|(go_at_call 37;(with_reducible refine (spec_l1In.calls t708 (-1000000) 1000000 false _ A18.out).mono ?_);rintro e w' ⟨rfl,⟨nd,rfl⟩⟩))
      go_ret2
      exact ⟨zyx5_7,zyx5_4⟩
    ·replace c17:=Bool.eq_false_iff.mpr c17
     subst c17;rw [if_neg (show ¬ (false=true) by decide)] at H;(try dsimp only at H);simp only [Option.some.injEq,Prod.mk.injEq] at H;obtain ⟨rfl,rfl⟩:=H;obtain ⟨hcz28_0,hfz28_0,hcz28_1,hfz28_1,hcz28_2,hfz28_2,hcz28_3,hfz28_3,hcz28_4,hfz28_4,hcz28_5,hfz28_5⟩:=cf6 BK702.out
     go_wp2_with (first|((with_reducible refine gC5 (f:=36) rfl ?_);refine goesL_ (some 23) rfl rfl Try.func36 (zyx5_1) rfl #[.agg #[.int .i64 a0_0,.int .i64 a0_1,.int .i64 a0_2,.slice A0_3 l0_3.length c0_3,.slice A0_4 l0_4.length c0_4,.slice A0_5 l0_5.length c0_5],.int .i64 a2] rfl (zyx5_2) ?_;(with_reducible refine (spec_vaFields.calls a0_0 a0_1 a0_2 _ _ l0_3 _ _ l0_4 _ _ l0_5 a2 t705 _ ?side1 ?side2 ?side3 ?side4 ?side5 ?side6 A15.out).mono ?_);(case side1=>exact zyx5_28);(case side2=>exact HC0_3.out);(case side3=>exact zyx5_29);(case side4=>exact HC0_4.out);(case side5=>exact zyx5_30);(case side6=>exact HC0_5.out);rintro e w29 ⟨v706,rfl,ho0,hb⟩;refine ⟨_,rfl,?_⟩;have n0_:=aM5 (Kd.R_lower ho0 (below_size (zyx5_4)));have n1_:=aM5 (bB5 (g:=gb702) (o:=.cells #[.int .i64 a0_0,.int .i64 a0_1,.int .i64 a0_2,.slice A0_3 l0_3.length c0_3,.slice A0_4 l0_4.length c0_4,.slice A0_5 l0_5.length c0_5] 27 (0,0)) (zyx5_3) hb);have n2_:=aM5 (bS5 (zyx5_4) hb);clear BK702 HB;have HO707:=n0_;have BK702:=n1_;have HB:=n2_;clear n0_ n1_ n2_;(try clear hb);(try clear hb2);(try clear hk);(try clear hi);(try clear ho0);obtain ⟨Ao30,co30,eo30⟩:=Kd.R_slice HO707.out;subst eo30)|((with_reducible refine gC5 (f:=35) rfl ?_);refine goesL_ (some 24) rfl rfl Try.func35 (zyx5_1) rfl #[.slice A1 l1.length c1,.slice Ao30 t705.length co30] rfl (zyx5_2) ?_;(with_reducible refine (spec_ruEval.calls kj3 _ _ l1 _ _ t705 t708 false _ ?side1 ?side2 ?side3 ?side4 A16.out).mono ?_);(case side1=>exact zyx5_31);(case side2=>exact HC1.out);(case side3=>exact zyx5_32);(case side4=>exact (Kd.R_reads' HO707.out).2.1);rintro e w31 ⟨rfl,hb⟩;refine ⟨_,rfl,?_⟩;have n0_:=aM5 (Kd.R_below (zyx5_8) hb);have n1_:=aM5 (bB5 (g:=gb702) (o:=.cells #[.int .i64 a0_0,.int .i64 a0_1,.int .i64 a0_2,.slice A0_3 l0_3.length c0_3,.slice A0_4 l0_4.length c0_4,.slice A0_5 l0_5.length c0_5] 27 (0,0)) (zyx5_3) hb);have n2_:=aM5 (bS5 (zyx5_4) hb);clear HO707 BK702 HB;have HO707:=n0_;have BK702:=n1_;have HB:=n2_;clear n0_ n1_ n2_;(try clear hb);(try clear hb2);(try clear hk);(try clear hi)))
     go_ret2
     exact ⟨zyx5_7,zyx5_4⟩
mutual
def spec_RuleValues.j0:Nat→List (S94)→Bool→Int→Int→Int→List Int→List Int→List Int→Option (List Int × Bool)
 | 0,_,_,_,_,_,_,_,_=>none
 | k + 1,x1,x17,x723000,x723001,x723002,x723003,x723004,x723005=>if x17=true then (some (([]:List Int),false)) else (spec_RuleValues.l0 k x1 ([]:List Int) (x723003.length:Int) 0 x723000 x723001 x723002 x723003 x723004 x723005)
def spec_RuleValues.l0:Nat→List (S94)→List Int→Int→Int→Int→Int→Int→List Int→List Int→List Int→Option (List Int × Bool)
 | 0,_,_,_,_,_,_,_,_,_,_=>none
 | k + 1,x1,x6,x20,x21,x723000,x723001,x723002,x723003,x723004,x723005=>if x21 < x20 then ((spec_RuleValue.f k x723000 x723001 x723002 x723003 x723004 x723005 x1 x21).bind fun bt725=>(if bt725.2=true then (if x6.length < 17592186044416 then (spec_RuleValues.l0 k x1 (x6 ++ [bt725.1]) x20 (wrap64 (x21 + 1)) x723000 x723001 x723002 x723003 x723004 x723005) else (none)) else (some (([]:List Int),false)))) else (some (x6,true))
end
def spec_RuleValues.f (k:Nat) (a0_0:Int) (a0_1:Int) (a0_2:Int) (l0_3:List Int) (l0_4:List Int) (l0_5:List Int) (l1:List (S94)):Option (List Int × Bool):=(spec_moGood.f k a0_0 a0_1 a0_2 l0_3 l0_4 l0_5).bind fun t723=>(if t723=true then ((spec_ruGood.f k l1).bind fun t724=>(spec_RuleValues.j0 k l1 (!t724) a0_0 a0_1 a0_2 l0_3 l0_4 l0_5)) else (spec_RuleValues.j0 k l1 true a0_0 a0_1 a0_2 l0_3 l0_4 l0_5))
set_option maxHeartbeats 8000000 in
set_option maxRecDepth 100000 in
theorem spec_RuleValues.calls (k:Nat) (a0_0:Int) (a0_1:Int) (a0_2:Int) (A0_3:Option Addr) (c0_3:Nat) (l0_3:List Int) (A0_4:Option Addr) (c0_4:Nat) (l0_4:List Int) (A0_5:Option Addr) (c0_5:Nat) (l0_5:List Int) (A1:Option Addr) (c1:Nat) (l1:List (S94)) (r1:List Int) (r2:Bool) (w:World) (hr0_3:Kd.C (Kd.int .i64) w A0_3 l0_3.length l0_3) (hc0_3:l0_3.length≤c0_3) (hr0_4:Kd.C (Kd.int .i64) w A0_4 l0_4.length l0_4) (hc0_4:l0_4.length≤c0_4) (hr0_5:Kd.C (Kd.int .i64) w A0_5 l0_5.length l0_5) (hc0_5:l0_5.length≤c0_5) (hr1:Kd.C k94 w A1 l1.length l1) (hc1:l1.length≤c1) (h:spec_RuleValues.f k a0_0 a0_1 a0_2 l0_3 l0_4 l0_5 l1=some (r1,r2)) :
  Calls Try.prog 13 #[.agg #[.int .i64 a0_0,.int .i64 a0_1,.int .i64 a0_2,.slice A0_3 l0_3.length c0_3,.slice A0_4 l0_4.length c0_4,.slice A0_5 l0_5.length c0_5],.slice A1 l1.length c1] w fun e w'=>∃ v0_:Value,e=.returned (.tuple #[v0_,.bool r2])∧Kd.R (Kd.int .i64) 3 w' w.heap.size (fun _=>True) v0_ r1∧Below w.heap.size w w':=by
 have hu27:=Try.underlying27;have HR0_3:=aM5 hr0_3;have HC0_3:=aM5 hc0_3;clear hr0_3 hc0_3;have HR0_4:=aM5 hr0_4;have HC0_4:=aM5 hc0_4;clear hr0_4 hc0_4;have HR0_5:=aM5 hr0_5;have HC0_5:=aM5 hc0_5;clear hr0_5 hc0_5;have HR1:=aM5 hr1;have HC1:=aM5 hc1;clear hr1 hc1;have HB:=aM5 (Below.refl w.heap.size w);have H:((spec_moGood.f k a0_0 a0_1 a0_2 l0_3 l0_4 l0_5).bind fun t723=>(if t723=true then ((spec_ruGood.f k l1).bind fun t724=>(spec_RuleValues.j0 k l1 (!t724) a0_0 a0_1 a0_2 l0_3 l0_4 l0_5)) else (spec_RuleValues.j0 k l1 true a0_0 a0_1 a0_2 l0_3 l0_4 l0_5)))=some (r1,r2):=h;clear h;have HC3:=aM5 H;clear H;go_enter Try.func13,Try.ntmps13
 go_upto_region 1 with (first|((with_reducible refine gate_dst (N:=2) rfl ?_);refine box_event ?hg (N:=2) ?hd (cs:=#[.int .i64 a0_0,.int .i64 a0_1,.int .i64 a0_2,.slice A0_3 l0_3.length c0_3,.slice A0_4 l0_4.length c0_4,.slice A0_5 l0_5.length c0_5]) (t:=27) ?hr ?_;(case hd=>rfl);(case hg=>rfl);(case hr=>exact zyx5_27);intro gb722 hg w4 hbox hb;have n0_:=aM5 (bS5 (zyx5_0) hb);have n1_:=aM5 (hbox);have n2_:=aM5 ((zyx5_33:w.heap.size≤gb722));have n3_:=aM5 ((zyx5_33:w.heap.size≤gb722));clear HB;have HB:=n0_;have BK722:=n1_;have GW722:=n2_;have GE722:=n3_;clear n0_ n1_ n2_ n3_ hb hbox hg))
 (try simp only [Act.put,List.setIfInBounds_toArray,List.set_cons_zero,List.set_cons_succ])
 go_cut [17] (fun v17 wc=>∃ (kq:Nat) (x17_2:Bool),v17=.bool x17_2∧Aside0 (spec_RuleValues.j0 kq l1 x17_2 a0_0 a0_1 a0_2 l0_3 l0_4 l0_5=some (r1,r2))∧Aside0 (kq≤k)∧Aside0 (wc.heap[gb722]?=some (.cells #[.int .i64 a0_0,.int .i64 a0_1,.int .i64 a0_2,(.slice A0_3 l0_3.length c0_3),(.slice A0_4 l0_4.length c0_4),(.slice A0_5 l0_5.length c0_5)] 27 (0,0)))∧Aside0 (Below w.heap.size w wc))
 case first =>
  have H:=HC3.out;clear HC3;replace H:=bI5.mp H;obtain ⟨t723,A50,H⟩:=H;(try dsimp only at H);have A5:=aM5 A50;clear A50
  by_cases c6:t723=true
  ·subst c6
   rw [if_pos rfl] at H;(try dsimp only at H);replace H:=bI5.mp H;obtain ⟨t724,A70,H⟩:=H;(try dsimp only at H);have A7:=aM5 A70;clear A70;have H':=aM5 H;clear H;obtain ⟨hcz8_0,hfz8_0,hcz8_1,hfz8_1,hcz8_2,hfz8_2,hcz8_3,hfz8_3,hcz8_4,hfz8_4,hcz8_5,hfz8_5⟩:=cf6 BK722.out
   go_wp2_with (first|((with_reducible refine gC5 (f:=29) rfl ?_);refine goesL_ (some 11) rfl rfl Try.func29 (zyx5_1) rfl #[.agg #[.int .i64 a0_0,.int .i64 a0_1,.int .i64 a0_2,.slice A0_3 l0_3.length c0_3,.slice A0_4 l0_4.length c0_4,.slice A0_5 l0_5.length c0_5]] rfl (zyx5_2) ?_;(with_reducible refine (spec_moGood.calls k a0_0 a0_1 a0_2 _ _ l0_3 _ _ l0_4 _ _ l0_5 true _ ?side1 ?side2 ?side3 ?side4 ?side5 ?side6 A5.out).mono ?_);(case side1=>exact zyx5_28);(case side2=>exact HC0_3.out);(case side3=>exact zyx5_29);(case side4=>exact HC0_4.out);(case side5=>exact zyx5_30);(case side6=>exact HC0_5.out);rintro e w9 ⟨rfl,hb⟩;refine ⟨_,rfl,?_⟩;have n0_:=aM5 (bB5 (g:=gb722) (o:=.cells #[.int .i64 a0_0,.int .i64 a0_1,.int .i64 a0_2,.slice A0_3 l0_3.length c0_3,.slice A0_4 l0_4.length c0_4,.slice A0_5 l0_5.length c0_5] 27 (0,0)) (zyx5_9) hb);have n1_:=aM5 (bS5 (zyx5_10) hb);clear BK722 HB;have BK722:=n0_;have HB:=n1_;clear n0_ n1_;(try clear hb);(try clear hb2);(try clear hk);(try clear hi))|(go_at_call 34;(with_reducible refine (spec_ruGood.calls k _ _ l1 t724 _ ?side1 ?side2 A7.out).mono ?_);(case side1=>exact zyx5_31);(case side2=>exact HC1.out);rintro e w10 ⟨rfl,hb⟩;have n0_:=aM5 (bB5 (g:=gb722) (o:=.cells #[.int .i64 a0_0,.int .i64 a0_1,.int .i64 a0_2,.slice A0_3 l0_3.length c0_3,.slice A0_4 l0_4.length c0_4,.slice A0_5 l0_5.length c0_5] 27 (0,0)) (zyx5_9) hb);have n1_:=aM5 (bS5 (zyx5_10) hb);clear BK722 HB;have BK722:=n0_;have HB:=n1_;clear n0_ n1_;(try clear hb);(try clear hb2);(try clear hk);(try clear hi)))
   go_meet
   case rel=>exact ⟨_,(!t724),(zyx5_5),H',⟨zyx5_6⟩,⟨zyx5_9⟩,⟨zyx5_10⟩⟩
  ·replace c6:=Bool.eq_false_iff.mpr c6
   subst c6;rw [if_neg (show ¬ (false=true) by decide)] at H;(try dsimp only at H);have H':=aM5 H;clear H;obtain ⟨hcz11_0,hfz11_0,hcz11_1,hfz11_1,hcz11_2,hfz11_2,hcz11_3,hfz11_3,hcz11_4,hfz11_4,hcz11_5,hfz11_5⟩:=cf6 BK722.out
   go_wp2_with (first|((with_reducible refine gC5 (f:=29) rfl ?_);refine goesL_ (some 11) rfl rfl Try.func29 (zyx5_1) rfl #[.agg #[.int .i64 a0_0,.int .i64 a0_1,.int .i64 a0_2,.slice A0_3 l0_3.length c0_3,.slice A0_4 l0_4.length c0_4,.slice A0_5 l0_5.length c0_5]] rfl (zyx5_2) ?_;(with_reducible refine (spec_moGood.calls k a0_0 a0_1 a0_2 _ _ l0_3 _ _ l0_4 _ _ l0_5 false _ ?side1 ?side2 ?side3 ?side4 ?side5 ?side6 A5.out).mono ?_);(case side1=>exact zyx5_28);(case side2=>exact HC0_3.out);(case side3=>exact zyx5_29);(case side4=>exact HC0_4.out);(case side5=>exact zyx5_30);(case side6=>exact HC0_5.out);rintro e w12 ⟨rfl,hb⟩;refine ⟨_,rfl,?_⟩;have n0_:=aM5 (bB5 (g:=gb722) (o:=.cells #[.int .i64 a0_0,.int .i64 a0_1,.int .i64 a0_2,.slice A0_3 l0_3.length c0_3,.slice A0_4 l0_4.length c0_4,.slice A0_5 l0_5.length c0_5] 27 (0,0)) (zyx5_9) hb);have n1_:=aM5 (bS5 (zyx5_10) hb);clear BK722 HB;have BK722:=n0_;have HB:=n1_;clear n0_ n1_;(try clear hb);(try clear hb2);(try clear hk);(try clear hi)))
   go_meet
   case rel=>exact ⟨_,(true),(zyx5_5),H',⟨zyx5_6⟩,⟨zyx5_9⟩,⟨zyx5_10⟩⟩
 case rest =>
  clear HC3;(try clear c1);(try clear c2);(try clear p2);(try clear c6);(try clear hcz11_0);(try clear hcz11_1);(try clear hcz11_2);(try clear hcz11_3);(try clear hcz11_4);(try clear hcz11_5);(try clear hcz8_0);(try clear hcz8_1);(try clear hcz8_2);(try clear hcz8_3);(try clear hcz8_4);(try clear hcz8_5);(try clear hfz11_0);(try clear hfz11_1);(try clear hfz11_2);(try clear hfz11_3);(try clear hfz11_4);(try clear hfz11_5);(try clear hfz8_0);(try clear hfz8_1);(try clear hfz8_2);(try clear hfz8_3);(try clear hfz8_4);(try clear hfz8_5);obtain ⟨kq,x17_2,rfl,HA,HJ2,BK722,HB⟩:=hcut
  cases kq with
  | zero=>exact absurd HA.out (by simp [spec_RuleValues.j0])
  | succ kj2 =>
   have H:=HA.out;clear HA;simp only [spec_RuleValues.j0] at H
   by_cases c13:x17_2=true
   ·subst c13
    rw [if_pos rfl] at H;(try dsimp only at H);simp only [Option.some.injEq,Prod.mk.injEq] at H;obtain ⟨rfl,rfl⟩:=H
    go_wp2
    go_ret2
    exact ⟨_,zyx5_7,zyx5_11,zyx5_10⟩
   ·replace c13:=Bool.eq_false_iff.mpr c13
    subst c13;rw [if_neg (show ¬ (false=true) by decide)] at H;(try dsimp only at H);have H':=aM5 H;clear H;obtain ⟨hcz14_0,hfz14_0,hcz14_1,hfz14_1,hcz14_2,hfz14_2,hcz14_3,hfz14_3,hcz14_4,hfz14_4,hcz14_5,hfz14_5⟩:=cf6 BK722.out
    go_wp2
    go_loopg [6,21] kj2 (fun kq v6 v21 w'=>∃ (x6_2:List Int) (x21_2:Int),v21=.int .i64 x21_2∧Aside0 (spec_RuleValues.l0 kq l1 x6_2 (l0_3.length:Int) x21_2 a0_0 a0_1 a0_2 l0_3 l0_4 l0_5=some (r1,r2))∧Aside0 (kq≤kj2)∧Aside0 (Kd.R (Kd.int .i64) 3 w' w.heap.size (fun _=>True) v6 x6_2)∧Aside0 (w'.heap[gb722]?=some (.cells #[.int .i64 a0_0,.int .i64 a0_1,.int .i64 a0_2,(.slice A0_3 l0_3.length c0_3),(.slice A0_4 l0_4.length c0_4),(.slice A0_5 l0_5.length c0_5)] 27 (0,0)))∧Aside0 (Below w.heap.size w w'))
    case atStart=>exact ⟨(([]:List Int)),(0),(zyx5_5),H',⟨Nat.le_refl _⟩,⟨zyx5_11⟩,⟨zyx5_9⟩,⟨zyx5_10⟩⟩
    case round =>
     clear H';(try clear c1);(try clear c2);(try clear p2);(try clear c6);(try clear c13);(try clear hcz11_0);(try clear hcz11_1);(try clear hcz11_2);(try clear hcz11_3);(try clear hcz11_4);(try clear hcz11_5);(try clear hcz14_0);(try clear hcz14_1);(try clear hcz14_2);(try clear hcz14_3);(try clear hcz14_4);(try clear hcz14_5);(try clear hcz8_0);(try clear hcz8_1);(try clear hcz8_2);(try clear hcz8_3);(try clear hcz8_4);(try clear hcz8_5);(try clear hfz11_0);(try clear hfz11_1);(try clear hfz11_2);(try clear hfz11_3);(try clear hfz11_4);(try clear hfz11_5);(try clear hfz14_0);(try clear hfz14_1);(try clear hfz14_2);(try clear hfz14_3);(try clear hfz14_4);(try clear hfz14_5);(try clear hfz8_0);(try clear hfz8_1);(try clear hfz8_2);(try clear hfz8_3);(try clear hfz8_4);(try clear hfz8_5);(try clear p2);obtain ⟨x6_2,x21_2,rfl,HA,HK2,HO_6,BK722,HB⟩:=hrel
     cases gk with
     | zero=>exact absurd HA.out (by simp [spec_RuleValues.l0])
     | succ k2 =>
      have H:=HA.out;clear HA;simp only [spec_RuleValues.l0] at H
      by_cases c15:x21_2 < (l0_3.length:Int)
      ·rw [if_pos c15] at H
       have c15b0:decide (x21_2 < (l0_3.length:Int))=true:=dT5 c15;clear c15;replace H:=bI5.mp H;obtain ⟨⟨t725,t726⟩,A160,H⟩:=H;(try dsimp only at H);have A16:=aM5 A160;clear A160
       by_cases c17:t726=true
       ·subst c17
        rw [if_pos rfl] at H;(try dsimp only at H)
        by_cases c18:x6_2.length < 17592186044416
        ·rw [if_pos c18] at H
         have LMc18:=aM5 c18;clear c18;obtain ⟨y727,hy727⟩:∃ y_:List Int,y_=(x6_2 ++ [t725]):=⟨_,rfl⟩
         replace H:(spec_RuleValues.l0 k2 l1 y727 (l0_3.length:Int) (wrap64 (x21_2 + 1)) a0_0 a0_1 a0_2 l0_3 l0_4 l0_5)=some (r1,r2):=by first|(rw [hy727];with_reducible exact H)|(have H2_:=(Option.bind_some _ _).symm.trans H;rw [hy727];with_reducible exact H2_)|(have H2_:=(Option.bind_some _ _).symm.trans H;with_reducible exact H2_)|with_reducible exact H|(rw [hy727];exact H)|exact H
         have Ny727:=aM5 hy727;clear hy727;have H':=aM5 H;clear H;obtain ⟨hcz19_0,hfz19_0,hcz19_1,hfz19_1,hcz19_2,hfz19_2,hcz19_3,hfz19_3,hcz19_4,hfz19_4,hcz19_5,hfz19_5⟩:=cf6 BK722.out
         go_wp2_with (first|((with_reducible refine gC5 (f:=11) rfl ?_);refine goesL_ (some 28) rfl rfl Try.func11 (zyx5_1) rfl #[.agg #[.int .i64 a0_0,.int .i64 a0_1,.int .i64 a0_2,.slice A0_3 l0_3.length c0_3,.slice A0_4 l0_4.length c0_4,.slice A0_5 l0_5.length c0_5],.slice A1 l1.length c1,.int .i64 x21_2] rfl (zyx5_2) ?_;(with_reducible refine (spec_RuleValue.calls k2 a0_0 a0_1 a0_2 _ _ l0_3 _ _ l0_4 _ _ l0_5 _ _ l1 x21_2 t725 true _ ?side1 ?side2 ?side3 ?side4 ?side5 ?side6 ?side7 ?side8 A16.out).mono ?_);(case side1=>exact zyx5_28);(case side2=>exact HC0_3.out);(case side3=>exact zyx5_29);(case side4=>exact HC0_4.out);(case side5=>exact zyx5_30);(case side6=>exact HC0_5.out);(case side7=>exact zyx5_31);(case side8=>exact HC1.out);rintro e w20 ⟨rfl,hb⟩;refine ⟨_,rfl,?_⟩;have n0_:=aM5 (Kd.R_below (zyx5_12) hb);have n1_:=aM5 (bB5 (g:=gb722) (o:=.cells #[.int .i64 a0_0,.int .i64 a0_1,.int .i64 a0_2,.slice A0_3 l0_3.length c0_3,.slice A0_4 l0_4.length c0_4,.slice A0_5 l0_5.length c0_5] 27 (0,0)) (zyx5_9) hb);have n2_:=aM5 (bS5 (zyx5_10) hb);clear HO_6 BK722 HB;have HO_6:=n0_;have BK722:=n1_;have HB:=n2_;clear n0_ n1_ n2_;(try clear hb);(try clear hb2);(try clear hk);(try clear hi))|((with_reducible refine gate_builtin (b:=.append) (xs:=#[.tmp 33,.tmp 35]) rfl ?_);at_builtin;refine Kd.R_append (Kd.int .i64) (w0:=w) w.heap.size rfl (.tmp 33) (.tmp 35) 25 3 (.int .i64 0) 8 rfl Try.underlying25 info3 rfl (by decide) (by omega) u6 x6_2 t725 [.int .i64 t725] (fun _=>True) (fun _=>False) rfl rfl ?aP (fun _ hk=>hk.elim) ?aF ?aO ?aB ?aS ?aL ?_;(case aP=>exact rfl);(case aB=>exact (zyx5_10));(case aF=>exact (fun _ _=>trivial));(case aO=>exact (zyx5_12));(case aS=>exact (below_size (zyx5_10)));(case aL=>have:=LMc18.out;omega);intro v728 w21 ho hb hg hat;rw [← Ny727.out] at ho;have n0_:=aM5 (blk_grown (g:=gb722) (o:=.cells #[.int .i64 a0_0,.int .i64 a0_1,.int .i64 a0_2,.slice A0_3 l0_3.length c0_3,.slice A0_4 l0_4.length c0_4,.slice A0_5 l0_5.length c0_5] 27 (0,0)) (zyx5_9) hg (Kd.R_ne HO_6.out BK722.out (by decide)));have n1_:=aM5 (hb);have n2_:=aM5 (ho);clear BK722 HB HO_6;have BK722:=n0_;have HB:=n1_;have HO729:=n2_;clear n0_ n1_ n2_ ho hb hg hat))
         go_roundg k2
         case measure=>have:=HJ2.out;have:=HK2.out;omega
         case rel=>exact ⟨(y727),(wrap64 (x21_2 + 1)),(zyx5_5),H',⟨by have:=HJ2.out;have:=HK2.out;omega⟩,⟨by (with_reducible repeat (first|apply Kd.R_alloc|apply Kd.R_drewN|apply Kd.R_drew));exact HO729.out⟩,⟨zyx5_9⟩,⟨zyx5_10⟩⟩
        ·rw [if_neg c18] at H
         exact absurd H (by simp)
       ·replace c17:=Bool.eq_false_iff.mpr c17
        subst c17;rw [if_neg (show ¬ (false=true) by decide)] at H;(try dsimp only at H);simp only [Option.some.injEq,Prod.mk.injEq] at H;obtain ⟨rfl,rfl⟩:=H;obtain ⟨hcz22_0,hfz22_0,hcz22_1,hfz22_1,hcz22_2,hfz22_2,hcz22_3,hfz22_3,hcz22_4,hfz22_4,hcz22_5,hfz22_5⟩:=cf6 BK722.out
        go_wp2_with (first|((with_reducible refine gC5 (f:=11) rfl ?_);refine goesL_ (some 28) rfl rfl Try.func11 (zyx5_1) rfl #[.agg #[.int .i64 a0_0,.int .i64 a0_1,.int .i64 a0_2,.slice A0_3 l0_3.length c0_3,.slice A0_4 l0_4.length c0_4,.slice A0_5 l0_5.length c0_5],.slice A1 l1.length c1,.int .i64 x21_2] rfl (zyx5_2) ?_;(with_reducible refine (spec_RuleValue.calls k2 a0_0 a0_1 a0_2 _ _ l0_3 _ _ l0_4 _ _ l0_5 _ _ l1 x21_2 t725 false _ ?side1 ?side2 ?side3 ?side4 ?side5 ?side6 ?side7 ?side8 A16.out).mono ?_);(case side1=>exact zyx5_28);(case side2=>exact HC0_3.out);(case side3=>exact zyx5_29);(case side4=>exact HC0_4.out);(case side5=>exact zyx5_30);(case side6=>exact HC0_5.out);(case side7=>exact zyx5_31);(case side8=>exact HC1.out);rintro e w23 ⟨rfl,hb⟩;refine ⟨_,rfl,?_⟩;have n0_:=aM5 (Kd.R_below (zyx5_12) hb);have n1_:=aM5 (bB5 (g:=gb722) (o:=.cells #[.int .i64 a0_0,.int .i64 a0_1,.int .i64 a0_2,.slice A0_3 l0_3.length c0_3,.slice A0_4 l0_4.length c0_4,.slice A0_5 l0_5.length c0_5] 27 (0,0)) (zyx5_9) hb);have n2_:=aM5 (bS5 (zyx5_10) hb);clear HO_6 BK722 HB;have HO_6:=n0_;have BK722:=n1_;have HB:=n2_;clear n0_ n1_ n2_;(try clear hb);(try clear hb2);(try clear hk);(try clear hi)))
        go_ret2
        exact ⟨_,zyx5_7,zyx5_11,zyx5_10⟩
      ·rw [if_neg c15] at H
       have c15b0:decide (x21_2 < (l0_3.length:Int))=false:=decide_eq_false c15;clear c15;simp only [Option.some.injEq,Prod.mk.injEq] at H;obtain ⟨rfl,rfl⟩:=H
       go_wp2
       go_ret2
       exact ⟨_,zyx5_7,zyx5_12,zyx5_10⟩
def spec_CutOff.l0:Nat→Int→Int→Int→Int→Int→Option (Int × Bool)
 | 0,_,_,_,_,_=>none
 | k + 1,x4,x742000,x742001,x742002,x742003=>if x4≤1000 then (if (wrap64 ((wrap64 (x4 * x742001)) * x742000)) ≥ (wrap64 (1000 * x742002)) then (some (x4,true)) else (spec_CutOff.l0 k (wrap64 (x4 + 1)) x742000 x742001 x742002 x742003)) else (some (0,false))
def spec_CutOff.f (k:Nat) (a0_0:Int) (a0_1:Int) (a0_2:Int) (a0_3:Int):Option (Int × Bool):=(spec_vaPrices.f k a0_0 a0_1 a0_2 a0_3).bind fun t742=>(if t742=true then (spec_CutOff.l0 k 0 a0_0 a0_1 a0_2 a0_3) else (some (0,false)))
set_option maxHeartbeats 8000000 in
set_option maxRecDepth 100000 in
theorem spec_CutOff.calls (k:Nat) (a0_0:Int) (a0_1:Int) (a0_2:Int) (a0_3:Int) (r1:Int) (r2:Bool) (w:World) (h:spec_CutOff.f k a0_0 a0_1 a0_2 a0_3=some (r1,r2)) :
  Calls Try.prog 16 #[.agg #[.int .i64 a0_0,.int .i64 a0_1,.int .i64 a0_2,.int .i64 a0_3]] w fun e w'=>e=.returned (.tuple #[.int .i64 r1,.bool r2])∧Below w.heap.size w w':=by
 have hu29:=Try.underlying29;have HB:=aM5 (Below.refl w.heap.size w);have H:((spec_vaPrices.f k a0_0 a0_1 a0_2 a0_3).bind fun t742=>(if t742=true then (spec_CutOff.l0 k 0 a0_0 a0_1 a0_2 a0_3) else (some (0,false))))=some (r1,r2):=h;clear h;replace H:=bI5.mp H;obtain ⟨t742,A20,H⟩:=H;(try dsimp only at H);have A2:=aM5 A20;clear A20
 by_cases c3:t742=true
 ·subst c3
  rw [if_pos rfl] at H;(try dsimp only at H);have H':=aM5 H;clear H;go_enter Try.func16,Try.ntmps16
  go_wp2_with (first|((with_reducible refine gate_dst (N:=1) rfl ?_);refine box_event ?hg (N:=1) ?hd (cs:=#[.int .i64 a0_0,.int .i64 a0_1,.int .i64 a0_2,.int .i64 a0_3]) (t:=29) ?hr ?_;(case hd=>rfl);(case hg=>rfl);(case hr=>exact zyx5_27);intro gb741 hg w4 hbox hb;have n0_:=aM5 (bS5 (zyx5_0) hb);have n1_:=aM5 (hbox);have n2_:=aM5 ((zyx5_33:w.heap.size≤gb741));have n3_:=aM5 ((zyx5_33:w.heap.size≤gb741));clear HB;have HB:=n0_;have BK741:=n1_;have GW741:=n2_;have GE741:=n3_;clear n0_ n1_ n2_ n3_ hb hbox hg;obtain ⟨hcz5_0,hfz5_0,hcz5_1,hfz5_1,hcz5_2,hfz5_2,hcz5_3,hfz5_3⟩:=cf4 BK741.out)|((with_reducible refine gC5 (f:=27) rfl ?_);refine goesL_ (some 6) rfl rfl Try.func27 (zyx5_1) rfl #[.agg #[.int .i64 a0_0,.int .i64 a0_1,.int .i64 a0_2,.int .i64 a0_3]] rfl (zyx5_2) ?_;(with_reducible refine (spec_vaPrices.calls k a0_0 a0_1 a0_2 a0_3 true _ A2.out).mono ?_);rintro e w6 ⟨rfl,hb⟩;refine ⟨_,rfl,?_⟩;have n0_:=aM5 (bB5 (g:=gb741) (o:=.cells #[.int .i64 a0_0,.int .i64 a0_1,.int .i64 a0_2,.int .i64 a0_3] 29 (0,0)) (zyx5_13) hb);have n1_:=aM5 (bS5 (zyx5_14) hb);clear BK741 HB;have BK741:=n0_;have HB:=n1_;clear n0_ n1_;(try clear hb);(try clear hb2);(try clear hk);(try clear hi)))
  go_loopg [4] k (fun kq v4 w'=>∃ (x4_1:Int),v4=.int .i64 x4_1∧Aside0 (spec_CutOff.l0 kq x4_1 a0_0 a0_1 a0_2 a0_3=some (r1,r2))∧Aside0 (kq≤k)∧Aside0 (w'.heap[gb741]?=some (.cells #[.int .i64 a0_0,.int .i64 a0_1,.int .i64 a0_2,.int .i64 a0_3] 29 (0,0)))∧Aside0 (Below w.heap.size w w'))
  case atStart=>exact ⟨(0),(zyx5_5),H',⟨Nat.le_refl _⟩,⟨zyx5_13⟩,⟨zyx5_14⟩⟩
  case round =>
   clear H';(try clear c1);(try clear c2);(try clear p2);(try clear c3);(try clear hcz5_0);(try clear hcz5_1);(try clear hcz5_2);(try clear hcz5_3);(try clear hfz5_0);(try clear hfz5_1);(try clear hfz5_2);(try clear hfz5_3);obtain ⟨x4_1,rfl,HA,HK1,BK741,HB⟩:=hrel
   cases gk with
   | zero=>exact absurd HA.out (by simp [spec_CutOff.l0])
   | succ k1 =>
    have H:=HA.out;clear HA;simp only [spec_CutOff.l0] at H
    by_cases c7:x4_1≤1000
    ·rw [if_pos c7] at H
     have c7b0:decide (x4_1≤1000)=true:=dT5 c7;clear c7
     by_cases c8:(wrap64 ((wrap64 (x4_1 * a0_1)) * a0_0)) ≥ (wrap64 (1000 * a0_2))
     ·rw [if_pos c8] at H
      have c8b0:decide ((wrap64 (1000 * a0_2))≤(wrap64 ((wrap64 (x4_1 * a0_1)) * a0_0)))=true:=dT5 c8;clear c8;simp only [Option.some.injEq,Prod.mk.injEq] at H;obtain ⟨rfl,rfl⟩:=H;obtain ⟨hcz9_0,hfz9_0,hcz9_1,hfz9_1,hcz9_2,hfz9_2,hcz9_3,hfz9_3⟩:=cf4 BK741.out
      go_wp2
      go_ret2
      exact ⟨zyx5_7,zyx5_14⟩
     ·rw [if_neg c8] at H
      have c8b0:decide ((wrap64 (1000 * a0_2))≤(wrap64 ((wrap64 (x4_1 * a0_1)) * a0_0)))=false:=decide_eq_false c8;clear c8;have H':=aM5 H;clear H;obtain ⟨hcz10_0,hfz10_0,hcz10_1,hfz10_1,hcz10_2,hfz10_2,hcz10_3,hfz10_3⟩:=cf4 BK741.out
      go_wp2
      go_roundg k1
      case measure=>have:=HK1.out;omega
      case rel=>exact ⟨(wrap64 (x4_1 + 1)),(zyx5_5),H',⟨by have:=HK1.out;omega⟩,⟨zyx5_13⟩,⟨zyx5_14⟩⟩
    ·rw [if_neg c7] at H
     have c7b0:decide (x4_1≤1000)=false:=decide_eq_false c7;clear c7;simp only [Option.some.injEq,Prod.mk.injEq] at H;obtain ⟨rfl,rfl⟩:=H
     go_wp2
     go_ret2
     exact ⟨zyx5_7,zyx5_14⟩
 ·replace c3:=Bool.eq_false_iff.mpr c3
  subst c3;rw [if_neg (show ¬ (false=true) by decide)] at H;(try dsimp only at H);simp only [Option.some.injEq,Prod.mk.injEq] at H;obtain ⟨rfl,rfl⟩:=H;go_enter Try.func16,Try.ntmps16
  go_wp2_with (first|((with_reducible refine gate_dst (N:=1) rfl ?_);refine box_event ?hg (N:=1) ?hd (cs:=#[.int .i64 a0_0,.int .i64 a0_1,.int .i64 a0_2,.int .i64 a0_3]) (t:=29) ?hr ?_;(case hd=>rfl);(case hg=>rfl);(case hr=>exact zyx5_27);intro gb741 hg w11 hbox hb;have n0_:=aM5 (bS5 (zyx5_0) hb);have n1_:=aM5 (hbox);have n2_:=aM5 ((zyx5_33:w.heap.size≤gb741));have n3_:=aM5 ((zyx5_33:w.heap.size≤gb741));clear HB;have HB:=n0_;have BK741:=n1_;have GW741:=n2_;have GE741:=n3_;clear n0_ n1_ n2_ n3_ hb hbox hg;obtain ⟨hcz12_0,hfz12_0,hcz12_1,hfz12_1,hcz12_2,hfz12_2,hcz12_3,hfz12_3⟩:=cf4 BK741.out)|((with_reducible refine gC5 (f:=27) rfl ?_);refine goesL_ (some 6) rfl rfl Try.func27 (zyx5_1) rfl #[.agg #[.int .i64 a0_0,.int .i64 a0_1,.int .i64 a0_2,.int .i64 a0_3]] rfl (zyx5_2) ?_;(with_reducible refine (spec_vaPrices.calls k a0_0 a0_1 a0_2 a0_3 false _ A2.out).mono ?_);rintro e w13 ⟨rfl,hb⟩;refine ⟨_,rfl,?_⟩;have n0_:=aM5 (bB5 (g:=gb741) (o:=.cells #[.int .i64 a0_0,.int .i64 a0_1,.int .i64 a0_2,.int .i64 a0_3] 29 (0,0)) (zyx5_13) hb);have n1_:=aM5 (bS5 (zyx5_14) hb);clear BK741 HB;have BK741:=n0_;have HB:=n1_;clear n0_ n1_;(try clear hb);(try clear hb2);(try clear hk);(try clear hi)))
  go_ret2
  exact ⟨zyx5_7,zyx5_14⟩
def spec_ArePrices.f (k:Nat) (a0_0:Int) (a0_1:Int) (a0_2:Int) (a0_3:Int):Option (Bool):=(spec_vaPrices.f k a0_0 a0_1 a0_2 a0_3).bind fun t746=>(some t746)
set_option maxHeartbeats 8000000 in
set_option maxRecDepth 100000 in
theorem spec_ArePrices.calls (k:Nat) (a0_0:Int) (a0_1:Int) (a0_2:Int) (a0_3:Int) (r:Bool) (w:World) (h:spec_ArePrices.f k a0_0 a0_1 a0_2 a0_3=some r) :
  Calls Try.prog 19 #[.agg #[.int .i64 a0_0,.int .i64 a0_1,.int .i64 a0_2,.int .i64 a0_3]] w fun e w'=>e=.returned (.bool r)∧Below w.heap.size w w':=by
 have hu29:=Try.underlying29;have HB:=aM5 (Below.refl w.heap.size w);have H:((spec_vaPrices.f k a0_0 a0_1 a0_2 a0_3).bind fun t746=>(some t746))=some r:=h;clear h;replace H:=bI5.mp H;obtain ⟨t746,A20,H⟩:=H;(try dsimp only at H);have A2:=aM5 A20;clear A20;obtain rfl:=Option.some.inj H;go_enter Try.func19,Try.ntmps19
 go_wp2_with (first|((with_reducible refine gate_dst (N:=1) rfl ?_);refine box_event ?hg (N:=1) ?hd (cs:=#[.int .i64 a0_0,.int .i64 a0_1,.int .i64 a0_2,.int .i64 a0_3]) (t:=29) ?hr ?_;(case hd=>rfl);(case hg=>rfl);(case hr=>exact zyx5_27);intro gb745 hg w3 hbox hb;have n0_:=aM5 (bS5 (zyx5_0) hb);have n1_:=aM5 (hbox);have n2_:=aM5 ((zyx5_33:w.heap.size≤gb745));have n3_:=aM5 ((zyx5_33:w.heap.size≤gb745));clear HB;have HB:=n0_;have BK745:=n1_;have GW745:=n2_;have GE745:=n3_;clear n0_ n1_ n2_ n3_ hb hbox hg;obtain ⟨hcz4_0,hfz4_0,hcz4_1,hfz4_1,hcz4_2,hfz4_2,hcz4_3,hfz4_3⟩:=cf4 BK745.out)|((with_reducible refine gC5 (f:=27) rfl ?_);refine goesL_ (some 4) rfl rfl Try.func27 (zyx5_1) rfl #[.agg #[.int .i64 a0_0,.int .i64 a0_1,.int .i64 a0_2,.int .i64 a0_3]] rfl (zyx5_2) ?_;(with_reducible refine (spec_vaPrices.calls k a0_0 a0_1 a0_2 a0_3 t746 _ A2.out).mono ?_);rintro e w5 ⟨rfl,hb⟩;refine ⟨_,rfl,?_⟩;have n0_:=aM5 (bB5 (g:=gb745) (o:=.cells #[.int .i64 a0_0,.int .i64 a0_1,.int .i64 a0_2,.int .i64 a0_3] 29 (0,0)) (by (with_reducible repeat (first|refine blk_drewN ?_ _|refine blk_drew ?_|refine blk_alloc ?_ _));exact BK745.out) hb);have n1_:=aM5 (bS5 (zyx5_15) hb);clear BK745 HB;have BK745:=n0_;have HB:=n1_;clear n0_ n1_;(try clear hb);(try clear hb2);(try clear hk);(try clear hi)))
 go_ret
 exact ⟨zyx5_7,zyx5_15⟩
/-- A state of type 50 at block g of W;what its slices lead to came in by w0. -/
def IsS50 (w0 W:World) (g:Nat) (f0:List Int) (f1:Int) (f2:Int):Prop:=∃ A0 c0,W.heap[g]?=some (.cells #[.slice A0 f0.length c0,.int .i64 f1,.int .u64 f2] 50 (0,0))∧w0.heap.size≤g∧Kd.C (Kd.int .u8) w0 A0 f0.length f0
theorem IsS50.grown {w0 W:World} {g:Nat} {f0:List Int} {f1:Int} {f2:Int} {W1:World} {row:Option Nat} (h:IsS50 w0 W g f0 f1 f2) (hw:W.grownBy W1 row) (hne:some g≠row):IsS50 w0 W1 g f0 f1 f2:=by
 obtain ⟨A0,c0,hb,hg,hr0⟩:=h;exact ⟨A0,c0,blk_grown hb hw hne,hg,hr0⟩
theorem IsS50.kept {w0 W:World} {g:Nat} {f0:List Int} {f1:Int} {f2:Int} {W1:World} {S:Nat→Prop} (h:IsS50 w0 W g f0 f1 f2) (hk:Kept W W1 S) (hne:¬ S g):IsS50 w0 W1 g f0 f1 f2:=by
 obtain ⟨A0,c0,hb,hg,hr0⟩:=h;exact ⟨A0,c0,blk_kept hb hk hne,hg,hr0⟩
theorem IsS50.below {w0 W:World} {g:Nat} {f0:List Int} {f1:Int} {f2:Int} {W1:World} (h:IsS50 w0 W g f0 f1 f2) (hw:Below W.heap.size W W1):IsS50 w0 W1 g f0 f1 f2:=h.grown (grown_of_below hw none) (by simp)
theorem IsS50.alloc {w0 W:World} {g:Nat} {f0:List Int} {f1:Int} {f2:Int} (h:IsS50 w0 W g f0 f1 f2) (o:Obj):IsS50 w0 (W.alloc o) g f0 f1 f2:=h.below (below_alloc (Below.refl _ _) o)
theorem IsS50.drewN {w0 W:World} {g:Nat} {f0:List Int} {f1:Int} {f2:Int} (h:IsS50 w0 W g f0 f1 f2) (m:Nat):IsS50 w0 (W.drewN m) g f0 f1 f2:=h
theorem IsS50.drew {w0 W:World} {g:Nat} {f0:List Int} {f1:Int} {f2:Int} (h:IsS50 w0 W g f0 f1 f2):IsS50 w0 W.drew g f0 f1 f2:=h
theorem IsS50.at_ {w0 W:World} {g:Nat} {f0:List Int} {f1:Int} {f2:Int} {w':World} {m:Nat} (hq:W.drewN m=w') (h:IsS50 w0 W g f0 f1 f2):IsS50 w0 w' g f0 f1 f2:=by subst hq;exact IsS50.drewN h m
theorem IsS50.apart {w0 W:World} {g:Nat} {f0:List Int} {f1:Int} {f2:Int} {α:Type} {d:Kd α} {e:Nat} {base:Nat} {ok:Nat→Prop} {v:Value} {xs:List α} (h:IsS50 w0 W g f0 f1 f2) (ho:d.R e W base ok v xs) (ht:∀ q,q ∈ e :: d.E→q≠50):d.R e W base (fun k=>ok k∧k≠g) v xs:=by
 obtain ⟨A0,c0,hb,hg,hr0⟩:=h;exact Kd.R_types ho hb ht
theorem IsS50.own_ne {w0 W:World} {g:Nat} {f0:List Int} {f1:Int} {f2:Int} {α:Type} {d:Kd α} {e:Nat} {base:Nat} {ok:Nat→Prop} {v:Value} {xs:List α} (h:IsS50 w0 W g f0 f1 f2) (ho:d.R e W base ok v xs) (ht:e≠50):some g≠v.ownBlock:=by
 obtain ⟨A0,c0,hb,hg,hr0⟩:=h;exact Kd.R_ne ho hb ht
theorem IsS50.lt {w0 W:World} {g:Nat} {f0:List Int} {f1:Int} {f2:Int} (h:IsS50 w0 W g f0 f1 f2):g < W.heap.size:=by
 obtain ⟨A0,c0,hb,hg,hr0⟩:=h;exact blk_lt hb
theorem IsS50.ge {w0 W:World} {g:Nat} {f0:List Int} {f1:Int} {f2:Int} (h:IsS50 w0 W g f0 f1 f2):w0.heap.size≤g:=by
 obtain ⟨A0,c0,hb,hg,hr0⟩:=h;exact hg
theorem IsS50.far {w0 W:World} {g:Nat} {f0:List Int} {f1:Int} {f2:Int} {p:Addr} (h:IsS50 w0 W g f0 f1 f2) (hne:g≠p.block) (u:Value):IsS50 w0 (W.setCell p u) g f0 f1 f2:=by
 obtain ⟨A0,c0,hb,hg,hr0⟩:=h;exact ⟨A0,c0,blk_far hb hne u,hg,hr0⟩
theorem cellS50_0 {W:World} {g:Nat} {A0:Option Addr} {c0:Nat} {f0:List Int} {f1:Int} {f2:Int} (h:W.heap[g]?=some (.cells #[.slice A0 f0.length c0,.int .i64 f1,.int .u64 f2] 50 (0,0))):W.cell? ⟨g,0,none⟩=some (.slice A0 f0.length c0):=(blk_cell h 0).trans rfl
theorem cellS50_1 {W:World} {g:Nat} {A0:Option Addr} {c0:Nat} {f0:List Int} {f1:Int} {f2:Int} (h:W.heap[g]?=some (.cells #[.slice A0 f0.length c0,.int .i64 f1,.int .u64 f2] 50 (0,0))):W.cell? ⟨g,1,none⟩=some (.int .i64 f1):=(blk_cell h 1).trans rfl
theorem IsS50.set_1 {w0 W:World} {g:Nat} {f0:List Int} {f1:Int} {f2:Int} (h:IsS50 w0 W g f0 f1 f2) (x:Int):IsS50 w0 (W.setCell ⟨g,1,none⟩ (.int .i64 x)) g f0 x f2:=by
 obtain ⟨A0,c0,hb,hg,hr0⟩:=h;exact ⟨A0,c0,by simpa using blk_set hb 1 (.int .i64 x),hg,hr0⟩
theorem cellS50_2 {W:World} {g:Nat} {A0:Option Addr} {c0:Nat} {f0:List Int} {f1:Int} {f2:Int} (h:W.heap[g]?=some (.cells #[.slice A0 f0.length c0,.int .i64 f1,.int .u64 f2] 50 (0,0))):W.cell? ⟨g,2,none⟩=some (.int .u64 f2):=(blk_cell h 2).trans rfl
theorem IsS50.set_2 {w0 W:World} {g:Nat} {f0:List Int} {f1:Int} {f2:Int} (h:IsS50 w0 W g f0 f1 f2) (x:Int):IsS50 w0 (W.setCell ⟨g,2,none⟩ (.int .u64 x)) g f0 f1 x:=by
 obtain ⟨A0,c0,hb,hg,hr0⟩:=h;exact ⟨A0,c0,by simpa using blk_set hb 2 (.int .u64 x),hg,hr0⟩
def spec_l1Cur_next.f (s0_0:List Int) (s0_1:Int) (s0_2:Int):Option (Int × Int × Int):=if s0_1 < (s0_0.length:Int) then (if 0≤s0_1 then (if (wrap64 (s0_1 + 1))≤(s0_0.length:Int) then (some (wrap64 (rd s0_0 s0_1),wrap64 (s0_1 + 1),IntKind.u64.wrap ((IntKind.u64.wrap ((IntKind.u64.wrap (s0_2 * 6364136223846793005)) + (IntKind.u64.wrap (wrap64 (rd s0_0 s0_1))))) + 1442695040888963407))) else (some (wrap64 (Go.bits .and .u64 ((IntKind.u64.wrap ((IntKind.u64.wrap ((IntKind.u64.wrap (s0_2 * 6364136223846793005)) + (IntKind.u64.wrap (wrap64 (rd s0_0 s0_1))))) + 1442695040888963407)) / 1099511627776) 255),wrap64 (s0_1 + 1),IntKind.u64.wrap ((IntKind.u64.wrap ((IntKind.u64.wrap (s0_2 * 6364136223846793005)) + (IntKind.u64.wrap (wrap64 (rd s0_0 s0_1))))) + 1442695040888963407)))) else (none)) else (if (wrap64 (s0_1 + 1))≤(s0_0.length:Int) then (some (0,wrap64 (s0_1 + 1),IntKind.u64.wrap ((IntKind.u64.wrap ((IntKind.u64.wrap (s0_2 * 6364136223846793005)) + 0)) + 1442695040888963407))) else (some (wrap64 (Go.bits .and .u64 ((IntKind.u64.wrap ((IntKind.u64.wrap ((IntKind.u64.wrap (s0_2 * 6364136223846793005)) + 0)) + 1442695040888963407)) / 1099511627776) 255),wrap64 (s0_1 + 1),IntKind.u64.wrap ((IntKind.u64.wrap ((IntKind.u64.wrap (s0_2 * 6364136223846793005)) + 0)) + 1442695040888963407))))
set_option maxHeartbeats 8000000 in
set_option maxRecDepth 100000 in
theorem spec_l1Cur_next.calls (g:Nat) (s0_0:List Int) (s0_1:Int) (s0_2:Int) (r1:Int) (r2:Int) (r3:Int) (w0 w:World) (hI:IsS50 w0 w g s0_0 s0_1 s0_2) (hB:Below w0.heap.size w0 w) (h:spec_l1Cur_next.f s0_0 s0_1 s0_2=some (r1,r2,r3)) :
  Calls Try.prog 44 #[.pointer (some ⟨g,0,none⟩)] w fun e w'=>e=.returned (.int .i64 r1)∧IsS50 w0 w' g s0_0 r2 r3∧Below w0.heap.size w0 w'∧KeepBut w w' g none:=by
 have HI0:=aM5 hI;have HK:=aM5 (KeepBut.refl w g none);have HL:=aM5 hB.size;clear hI;have HW0:=aM5 hB.size;have HB:=aM5 hB;clear hB;have H:(if s0_1 < (s0_0.length:Int) then (if 0≤s0_1 then (if (wrap64 (s0_1 + 1))≤(s0_0.length:Int) then (some (wrap64 (rd s0_0 s0_1),wrap64 (s0_1 + 1),IntKind.u64.wrap ((IntKind.u64.wrap ((IntKind.u64.wrap (s0_2 * 6364136223846793005)) + (IntKind.u64.wrap (wrap64 (rd s0_0 s0_1))))) + 1442695040888963407))) else (some (wrap64 (Go.bits .and .u64 ((IntKind.u64.wrap ((IntKind.u64.wrap ((IntKind.u64.wrap (s0_2 * 6364136223846793005)) + (IntKind.u64.wrap (wrap64 (rd s0_0 s0_1))))) + 1442695040888963407)) / 1099511627776) 255),wrap64 (s0_1 + 1),IntKind.u64.wrap ((IntKind.u64.wrap ((IntKind.u64.wrap (s0_2 * 6364136223846793005)) + (IntKind.u64.wrap (wrap64 (rd s0_0 s0_1))))) + 1442695040888963407)))) else (none)) else (if (wrap64 (s0_1 + 1))≤(s0_0.length:Int) then (some (0,wrap64 (s0_1 + 1),IntKind.u64.wrap ((IntKind.u64.wrap ((IntKind.u64.wrap (s0_2 * 6364136223846793005)) + 0)) + 1442695040888963407))) else (some (wrap64 (Go.bits .and .u64 ((IntKind.u64.wrap ((IntKind.u64.wrap ((IntKind.u64.wrap (s0_2 * 6364136223846793005)) + 0)) + 1442695040888963407)) / 1099511627776) 255),wrap64 (s0_1 + 1),IntKind.u64.wrap ((IntKind.u64.wrap ((IntKind.u64.wrap (s0_2 * 6364136223846793005)) + 0)) + 1442695040888963407)))))=some (r1,r2,r3):=h;clear h
 by_cases c2:s0_1 < (s0_0.length:Int)
 ·rw [if_pos c2] at H
  have c2b0:decide (s0_1 < (s0_0.length:Int))=true:=dT5 c2;clear c2
  by_cases c3:0≤s0_1
  ·rw [if_pos c3] at H
   have c3b0:decide (0≤s0_1)=true:=dT5 c3;clear c3
   by_cases c4:(wrap64 (s0_1 + 1))≤(s0_0.length:Int)
   ·rw [if_pos c4] at H
    have c4b0:decide ((wrap64 (s0_1 + 1))≤(s0_0.length:Int))=true:=dT5 c4;clear c4;simp only [Option.some.injEq,Prod.mk.injEq] at H;obtain ⟨rfl,rfl,rfl⟩:=H;obtain ⟨ASz5_0,cSz5_0,HGz5,hgz5,HSz5_0⟩:=HI0.out;have hcz5_0:=cellS50_0 HGz5;have hcz5_1:=cellS50_1 HGz5;have hcz5_2:=cellS50_2 HGz5;have hfz5_1:=blk_frozen HGz5 1;have hfz5_2:=blk_frozen HGz5 2;clear HGz5 hgz5;have p101:0≤(s0_1:Int):=oD5 (zyx5_16);have q101:s0_1 < (s0_0.length:Int):=oD5 (zyx5_16);obtain ⟨ad101,e101,hx101_0⟩:=Kd.at_int HSz5_0 s0_1 p101 q101
    cases e101
    replace hx101_0:=pw_cell_below HB.out hx101_0;replace p101:=eT5 p101;replace q101:=eT5 q101;go_enter Try.func44,Try.ntmps44
    go_wp2
    repeat (go_quiet (fail);try go_wp2)
    go_ret
    exact ⟨zyx5_7,zyx5_17,zyx5_18,zyx5_19⟩
   ·rw [if_neg c4] at H
    have c4b0:decide ((wrap64 (s0_1 + 1))≤(s0_0.length:Int))=false:=decide_eq_false c4;clear c4;simp only [Option.some.injEq,Prod.mk.injEq] at H;obtain ⟨rfl,rfl,rfl⟩:=H;obtain ⟨ASz6_0,cSz6_0,HGz6,hgz6,HSz6_0⟩:=HI0.out;have hcz6_0:=cellS50_0 HGz6;have hcz6_1:=cellS50_1 HGz6;have hcz6_2:=cellS50_2 HGz6;have hfz6_1:=blk_frozen HGz6 1;have hfz6_2:=blk_frozen HGz6 2;clear HGz6 hgz6;have p101:0≤(s0_1:Int):=oD5 (zyx5_16);have q101:s0_1 < (s0_0.length:Int):=oD5 (zyx5_16);obtain ⟨ad101,e101,hx101_0⟩:=Kd.at_int HSz6_0 s0_1 p101 q101
    cases e101
    replace hx101_0:=pw_cell_below HB.out hx101_0;replace p101:=eT5 p101;replace q101:=eT5 q101;go_enter Try.func44,Try.ntmps44
    go_wp2
    repeat (go_quiet (fail);try go_wp2)
    go_ret
    exact ⟨zyx5_7,zyx5_17,zyx5_18,zyx5_19⟩
  ·rw [if_neg c3] at H
   exact absurd H (by simp)
 ·rw [if_neg c2] at H
  have c2b0:decide (s0_1 < (s0_0.length:Int))=false:=decide_eq_false c2;clear c2
  by_cases c7:(wrap64 (s0_1 + 1))≤(s0_0.length:Int)
  ·rw [if_pos c7] at H
   have c7b0:decide ((wrap64 (s0_1 + 1))≤(s0_0.length:Int))=true:=dT5 c7;clear c7;simp only [Option.some.injEq,Prod.mk.injEq] at H;obtain ⟨rfl,rfl,rfl⟩:=H;obtain ⟨ASz8_0,cSz8_0,HGz8,hgz8,HSz8_0⟩:=HI0.out;have hcz8_0:=cellS50_0 HGz8;have hcz8_1:=cellS50_1 HGz8;have hcz8_2:=cellS50_2 HGz8;have hfz8_1:=blk_frozen HGz8 1;have hfz8_2:=blk_frozen HGz8 2;clear HGz8 hgz8;go_enter Try.func44,Try.ntmps44
   go_wp2
   repeat (go_quiet (fail);try go_wp2)
   go_ret
   exact ⟨zyx5_7,zyx5_17,zyx5_18,zyx5_19⟩
  ·rw [if_neg c7] at H
   have c7b0:decide ((wrap64 (s0_1 + 1))≤(s0_0.length:Int))=false:=decide_eq_false c7;clear c7;simp only [Option.some.injEq,Prod.mk.injEq] at H;obtain ⟨rfl,rfl,rfl⟩:=H;obtain ⟨ASz9_0,cSz9_0,HGz9,hgz9,HSz9_0⟩:=HI0.out;have hcz9_0:=cellS50_0 HGz9;have hcz9_1:=cellS50_1 HGz9;have hcz9_2:=cellS50_2 HGz9;have hfz9_1:=blk_frozen HGz9 1;have hfz9_2:=blk_frozen HGz9 2;clear HGz9 hgz9;go_enter Try.func44,Try.ntmps44
   go_wp2
   repeat (go_quiet (fail);try go_wp2)
   go_ret
   exact ⟨zyx5_7,zyx5_17,zyx5_18,zyx5_19⟩
def spec_l1Cur_pick.f (s0_0:List Int) (s0_1:Int) (s0_2:Int) (a1:Int):Option (Int × Int × Int):=if a1≤1 then (some (0,s0_1,s0_2)) else ((spec_l1Cur_next.f s0_0 s0_1 s0_2).bind fun bt102=>(if a1 > 200 then ((spec_l1Cur_next.f s0_0 bt102.2.1 bt102.2.2).bind fun bt105=>(if a1=0 then (none) else (some (Int.tmod (wrap64 ((wrap64 (bt102.1 * 256)) + bt105.1)) a1,bt105.2.1,bt105.2.2)))) else (if a1=0 then (none) else (some (Int.tmod bt102.1 a1,bt102.2.1,bt102.2.2)))))
set_option maxHeartbeats 8000000 in
set_option maxRecDepth 100000 in
theorem spec_l1Cur_pick.calls (g:Nat) (s0_0:List Int) (s0_1:Int) (s0_2:Int) (a1:Int) (r1:Int) (r2:Int) (r3:Int) (w0 w:World) (hI:IsS50 w0 w g s0_0 s0_1 s0_2) (hB:Below w0.heap.size w0 w) (h:spec_l1Cur_pick.f s0_0 s0_1 s0_2 a1=some (r1,r2,r3)) :
  Calls Try.prog 23 #[.pointer (some ⟨g,0,none⟩),.int .i64 a1] w fun e w'=>e=.returned (.int .i64 r1)∧IsS50 w0 w' g s0_0 r2 r3∧Below w0.heap.size w0 w'∧KeepBut w w' g none:=by
 have HI0:=aM5 hI;have HK:=aM5 (KeepBut.refl w g none);have HL:=aM5 hB.size;clear hI;have HW0:=aM5 hB.size;have HB:=aM5 hB;clear hB;have H:(if a1≤1 then (some (0,s0_1,s0_2)) else ((spec_l1Cur_next.f s0_0 s0_1 s0_2).bind fun bt102=>(if a1 > 200 then ((spec_l1Cur_next.f s0_0 bt102.2.1 bt102.2.2).bind fun bt105=>(if a1=0 then (none) else (some (Int.tmod (wrap64 ((wrap64 (bt102.1 * 256)) + bt105.1)) a1,bt105.2.1,bt105.2.2)))) else (if a1=0 then (none) else (some (Int.tmod bt102.1 a1,bt102.2.1,bt102.2.2))))))=some (r1,r2,r3):=h;clear h
 by_cases c3:a1≤1
 ·rw [if_pos c3] at H
  have c3b0:decide (a1≤1)=true:=dT5 c3;clear c3;simp only [Option.some.injEq,Prod.mk.injEq] at H;obtain ⟨rfl,rfl,rfl⟩:=H;go_enter Try.func23,Try.ntmps23
  go_wp2
  go_ret
  exact ⟨zyx5_7,zyx5_20,zyx5_18,zyx5_19⟩
 ·rw [if_neg c3] at H
  have c3b0:decide (a1≤1)=false:=decide_eq_false c3;clear c3;replace H:=bI5.mp H;obtain ⟨⟨t102,t103,t104⟩,A40,H⟩:=H;(try dsimp only at H);have A4:=aM5 A40;clear A40
  by_cases c5:a1 > 200
  ·rw [if_pos c5] at H
   have c5b0:decide (200 < a1)=true:=dT5 c5;clear c5;replace H:=bI5.mp H;obtain ⟨⟨t105,t106,t107⟩,A60,H⟩:=H;(try dsimp only at H);have A6:=aM5 A60;clear A60
   by_cases c7:a1=0
   ·rw [if_pos c7] at H
    exact absurd H (by simp)
   ·rw [if_neg c7] at H
    have c7b0:(a1 == 0)=false:=beq_eq_false_iff_ne.mpr c7;have c7b1:(a1 != 0)=true:=bne_iff_ne.mpr c7;simp only [Option.some.injEq,Prod.mk.injEq] at H;obtain ⟨rfl,rfl,rfl⟩:=H;go_enter Try.func23,Try.ntmps23
    go_wp2_with (first|((with_reducible refine gC5 (f:=44) rfl ?_);refine goesL_ (some 9) rfl rfl Try.func44 (zyx5_1) rfl #[.pointer (some ⟨g,0,none⟩)] rfl (zyx5_2) ?_;(with_reducible refine (spec_l1Cur_next.calls g s0_0 s0_1 s0_2 t102 t103 t104 w0 _ ?side1 ?side2 A4.out).mono ?_);(case side1=>exact zyx5_20);(case side2=>exact zyx5_18);rintro e w8 ⟨rfl,hi,hb,hk⟩;refine ⟨_,rfl,?_⟩;have n0_:=aM5 (kT5 (zyx5_19) hk (.inl rfl));have n1_:=aM5 (hb);have n2_:=aM5 (hi);clear HK HB HI0;have HK:=n0_;have HB:=n1_;have HI0:=n2_;clear n0_ n1_ n2_;(try clear hb);(try clear hb2);(try clear hk);(try clear hi))|((with_reducible refine gC5 (f:=44) rfl ?_);refine goesL_ (some 15) rfl rfl Try.func44 (zyx5_1) rfl #[.pointer (some ⟨g,0,none⟩)] rfl (zyx5_2) ?_;(with_reducible refine (spec_l1Cur_next.calls g s0_0 t103 t104 t105 t106 t107 w0 _ ?side1 ?side2 A6.out).mono ?_);(case side1=>exact zyx5_20);(case side2=>exact zyx5_18);rintro e w9 ⟨rfl,hi,hb,hk⟩;refine ⟨_,rfl,?_⟩;have n0_:=aM5 (kT5 (zyx5_19) hk (.inl rfl));have n1_:=aM5 (hb);have n2_:=aM5 (hi);clear HK HB HI0;have HK:=n0_;have HB:=n1_;have HI0:=n2_;clear n0_ n1_ n2_;(try clear hb);(try clear hb2);(try clear hk);(try clear hi)))
    go_ret
    exact ⟨zyx5_7,zyx5_20,zyx5_18,zyx5_19⟩
  ·rw [if_neg c5] at H
   have c5b0:decide (200 < a1)=false:=decide_eq_false c5;clear c5
   by_cases c10:a1=0
   ·rw [if_pos c10] at H
    exact absurd H (by simp)
   ·rw [if_neg c10] at H
    have c10b0:(a1 == 0)=false:=beq_eq_false_iff_ne.mpr c10;have c10b1:(a1 != 0)=true:=bne_iff_ne.mpr c10;simp only [Option.some.injEq,Prod.mk.injEq] at H;obtain ⟨rfl,rfl,rfl⟩:=H;go_enter Try.func23,Try.ntmps23
    go_wp2_with (first|((with_reducible refine gC5 (f:=44) rfl ?_);refine goesL_ (some 9) rfl rfl Try.func44 (zyx5_1) rfl #[.pointer (some ⟨g,0,none⟩)] rfl (zyx5_2) ?_;(with_reducible refine (spec_l1Cur_next.calls g s0_0 s0_1 s0_2 t102 t103 t104 w0 _ ?side1 ?side2 A4.out).mono ?_);(case side1=>exact zyx5_20);(case side2=>exact zyx5_18);rintro e w11 ⟨rfl,hi,hb,hk⟩;refine ⟨_,rfl,?_⟩;have n0_:=aM5 (kT5 (zyx5_19) hk (.inl rfl));have n1_:=aM5 (hb);have n2_:=aM5 (hi);clear HK HB HI0;have HK:=n0_;have HB:=n1_;have HI0:=n2_;clear n0_ n1_ n2_;(try clear hb);(try clear hb2);(try clear hk);(try clear hi)))
    go_ret
    exact ⟨zyx5_7,zyx5_20,zyx5_18,zyx5_19⟩
def spec_l1Cur_among.f (s0_0:List Int) (s0_1:Int) (s0_2:Int) (l1:List Int):Option (Int × Int × Int):=(spec_l1Cur_pick.f s0_0 s0_1 s0_2 (l1.length:Int)).bind fun bt109=>(if 0≤bt109.1 then (if bt109.1 < (l1.length:Int) then (some (rd l1 bt109.1,bt109.2.1,bt109.2.2)) else (none)) else (none))
set_option maxHeartbeats 8000000 in
set_option maxRecDepth 100000 in
theorem spec_l1Cur_among.calls (g:Nat) (s0_0:List Int) (s0_1:Int) (s0_2:Int) (A1:Option Addr) (c1:Nat) (l1:List Int) (r1:Int) (r2:Int) (r3:Int) (w0 w:World) (hI:IsS50 w0 w g s0_0 s0_1 s0_2) (hB:Below w0.heap.size w0 w) (hr1:Kd.C (Kd.int .i64) w A1 l1.length l1) (hc1:l1.length≤c1) (hf1:∀ ad,A1=some ad→0 < l1.length→ad.block≠g) (h:spec_l1Cur_among.f s0_0 s0_1 s0_2 l1=some (r1,r2,r3)) :
  Calls Try.prog 43 #[.pointer (some ⟨g,0,none⟩),.slice A1 l1.length c1] w fun e w'=>e=.returned (.int .i64 r1)∧IsS50 w0 w' g s0_0 r2 r3∧Below w0.heap.size w0 w'∧KeepBut w w' g none:=by
 have HR1:=aM5 hr1;have HC1:=aM5 hc1;clear hr1 hc1;have HI0:=aM5 hI;have HK:=aM5 (KeepBut.refl w g none);have HL:=aM5 hB.size;clear hI;have HW0:=aM5 hB.size;have HB:=aM5 hB;clear hB;have H:((spec_l1Cur_pick.f s0_0 s0_1 s0_2 (l1.length:Int)).bind fun bt109=>(if 0≤bt109.1 then (if bt109.1 < (l1.length:Int) then (some (rd l1 bt109.1,bt109.2.1,bt109.2.2)) else (none)) else (none)))=some (r1,r2,r3):=h;clear h;replace H:=bI5.mp H;obtain ⟨⟨t109,t110,t111⟩,A30,H⟩:=H;(try dsimp only at H);have A3:=aM5 A30;clear A30
 by_cases c4:0≤t109
 ·rw [if_pos c4] at H
  have c4b0:decide (0≤t109)=true:=dT5 c4;clear c4
  by_cases c5:t109 < (l1.length:Int)
  ·rw [if_pos c5] at H
   have c5b0:decide (t109 < (l1.length:Int))=true:=dT5 c5;clear c5;simp only [Option.some.injEq,Prod.mk.injEq] at H;obtain ⟨rfl,rfl,rfl⟩:=H;go_enter Try.func43,Try.ntmps43
   go_wp2_with (first|((with_reducible refine gC5 (f:=23) rfl ?_);refine goesL_ (some 9) rfl rfl Try.func23 (zyx5_1) rfl #[.pointer (some ⟨g,0,none⟩),.int .i64 (l1.length:Int)] rfl (zyx5_2) ?_;(with_reducible refine (spec_l1Cur_pick.calls g s0_0 s0_1 s0_2 (l1.length:Int) t109 t110 t111 w0 _ ?side1 ?side2 A3.out).mono ?_);(case side1=>exact zyx5_20);(case side2=>exact zyx5_18);rintro e w6 ⟨rfl,hi,hb,hk⟩;refine ⟨_,rfl,?_⟩;have n0_:=aM5 (kT5 (zyx5_19) hk (.inl rfl));have n1_:=aM5 (hb);have n2_:=aM5 (hi);clear HK HB HI0;have HK:=n0_;have HB:=n1_;have HI0:=n2_;clear n0_ n1_ n2_;(try clear hb);(try clear hb2);(try clear hk);(try clear hi);have p112:0≤(t109:Int):=oD5 (zyx5_16);have q112:t109 < (l1.length:Int):=oD5 (zyx5_16);obtain ⟨ad112,e112,hx112_0⟩:=Kd.at_int HR1.out t109 p112 q112;cases e112;replace hx112_0:=keep_cell HK.out hx112_0 (by first|(rw [add_block];exact hf1 _ rfl (by omega))|exact hf1 _ rfl (by omega)|exact hf1 ad112 rfl (by omega));replace p112:=eT5 p112;replace q112:=eT5 q112))
   go_ret
   exact ⟨zyx5_7,zyx5_20,zyx5_18,zyx5_19⟩
  ·rw [if_neg c5] at H
   exact absurd H (by simp)
 ·rw [if_neg c4] at H
  exact absurd H (by simp)
def spec_l1Cur_one.f (s0_0:List Int) (s0_1:Int) (s0_2:Int) (a1:Int):Option (Bool × Int × Int):=(spec_l1Cur_pick.f s0_0 s0_1 s0_2 a1).bind fun bt113=>(some ((bt113.1 == 0),bt113.2.1,bt113.2.2))
set_option maxHeartbeats 8000000 in
set_option maxRecDepth 100000 in
theorem spec_l1Cur_one.calls (g:Nat) (s0_0:List Int) (s0_1:Int) (s0_2:Int) (a1:Int) (r1:Bool) (r2:Int) (r3:Int) (w0 w:World) (hI:IsS50 w0 w g s0_0 s0_1 s0_2) (hB:Below w0.heap.size w0 w) (h:spec_l1Cur_one.f s0_0 s0_1 s0_2 a1=some (r1,r2,r3)) :
  Calls Try.prog 55 #[.pointer (some ⟨g,0,none⟩),.int .i64 a1] w fun e w'=>e=.returned (.bool r1)∧IsS50 w0 w' g s0_0 r2 r3∧Below w0.heap.size w0 w'∧KeepBut w w' g none:=by
 have HI0:=aM5 hI;have HK:=aM5 (KeepBut.refl w g none);have HL:=aM5 hB.size;clear hI;have HW0:=aM5 hB.size;have HB:=aM5 hB;clear hB;have H:((spec_l1Cur_pick.f s0_0 s0_1 s0_2 a1).bind fun bt113=>(some ((bt113.1 == 0),bt113.2.1,bt113.2.2)))=some (r1,r2,r3):=h;clear h;replace H:=bI5.mp H;obtain ⟨⟨t113,t114,t115⟩,A30,H⟩:=H;(try dsimp only at H);have A3:=aM5 A30;clear A30;simp only [Option.some.injEq,Prod.mk.injEq] at H;obtain ⟨rfl,rfl,rfl⟩:=H;go_enter Try.func55,Try.ntmps55
 go_wp2_with (first|((with_reducible refine gC5 (f:=23) rfl ?_);refine goesL_ (some 7) rfl rfl Try.func23 (zyx5_1) rfl #[.pointer (some ⟨g,0,none⟩),.int .i64 a1] rfl (zyx5_2) ?_;(with_reducible refine (spec_l1Cur_pick.calls g s0_0 s0_1 s0_2 a1 t113 t114 t115 w0 _ ?side1 ?side2 A3.out).mono ?_);(case side1=>exact zyx5_20);(case side2=>exact zyx5_18);rintro e w4 ⟨rfl,hi,hb,hk⟩;refine ⟨_,rfl,?_⟩;have n0_:=aM5 (kT5 (zyx5_19) hk (.inl rfl));have n1_:=aM5 (hb);have n2_:=aM5 (hi);clear HK HB HI0;have HK:=n0_;have HB:=n1_;have HI0:=n2_;clear n0_ n1_ n2_;(try clear hb);(try clear hb2);(try clear hk);(try clear hi)))
 go_ret
 exact ⟨zyx5_7,zyx5_20,zyx5_18,zyx5_19⟩
def spec_l1Cur_of.f (s0_0:List Int) (s0_1:Int) (s0_2:Int) (l1:List ByteArray):Option (ByteArray × Int × Int):=(spec_l1Cur_pick.f s0_0 s0_1 s0_2 (l1.length:Int)).bind fun bt435=>(if 0≤bt435.1 then (if bt435.1 < (l1.length:Int) then (some (rdOf ByteArray.empty l1 bt435.1,bt435.2.1,bt435.2.2)) else (none)) else (none))
set_option maxHeartbeats 8000000 in
set_option maxRecDepth 100000 in
theorem spec_l1Cur_of.calls (g:Nat) (s0_0:List Int) (s0_1:Int) (s0_2:Int) (A1:Option Addr) (c1:Nat) (l1:List ByteArray) (r1:ByteArray) (r2:Int) (r3:Int) (w0 w:World) (hI:IsS50 w0 w g s0_0 s0_1 s0_2) (hB:Below w0.heap.size w0 w) (hr1:Kd.C Kd.string w A1 l1.length l1) (hc1:l1.length≤c1) (hf1:∀ ad,A1=some ad→0 < l1.length→ad.block≠g) (h:spec_l1Cur_of.f s0_0 s0_1 s0_2 l1=some (r1,r2,r3)) :
  Calls Try.prog 53 #[.pointer (some ⟨g,0,none⟩),.slice A1 l1.length c1] w fun e w'=>e=.returned (.string r1)∧IsS50 w0 w' g s0_0 r2 r3∧Below w0.heap.size w0 w'∧KeepBut w w' g none:=by
 have HR1:=aM5 hr1;have HC1:=aM5 hc1;clear hr1 hc1;have HI0:=aM5 hI;have HK:=aM5 (KeepBut.refl w g none);have HL:=aM5 hB.size;clear hI;have HW0:=aM5 hB.size;have HB:=aM5 hB;clear hB;have H:((spec_l1Cur_pick.f s0_0 s0_1 s0_2 (l1.length:Int)).bind fun bt435=>(if 0≤bt435.1 then (if bt435.1 < (l1.length:Int) then (some (rdOf ByteArray.empty l1 bt435.1,bt435.2.1,bt435.2.2)) else (none)) else (none)))=some (r1,r2,r3):=h;clear h;replace H:=bI5.mp H;obtain ⟨⟨t435,t436,t437⟩,A30,H⟩:=H;(try dsimp only at H);have A3:=aM5 A30;clear A30
 by_cases c4:0≤t435
 ·rw [if_pos c4] at H
  have c4b0:decide (0≤t435)=true:=dT5 c4;clear c4
  by_cases c5:t435 < (l1.length:Int)
  ·rw [if_pos c5] at H
   have c5b0:decide (t435 < (l1.length:Int))=true:=dT5 c5;clear c5;simp only [Option.some.injEq,Prod.mk.injEq] at H;obtain ⟨rfl,rfl,rfl⟩:=H;go_enter Try.func53,Try.ntmps53
   go_wp2_with (first|((with_reducible refine gC5 (f:=23) rfl ?_);refine goesL_ (some 9) rfl rfl Try.func23 (zyx5_1) rfl #[.pointer (some ⟨g,0,none⟩),.int .i64 (l1.length:Int)] rfl (zyx5_2) ?_;(with_reducible refine (spec_l1Cur_pick.calls g s0_0 s0_1 s0_2 (l1.length:Int) t435 t436 t437 w0 _ ?side1 ?side2 A3.out).mono ?_);(case side1=>exact zyx5_20);(case side2=>exact zyx5_18);rintro e w6 ⟨rfl,hi,hb,hk⟩;refine ⟨_,rfl,?_⟩;have n0_:=aM5 (kT5 (zyx5_19) hk (.inl rfl));have n1_:=aM5 (hb);have n2_:=aM5 (hi);clear HK HB HI0;have HK:=n0_;have HB:=n1_;have HI0:=n2_;clear n0_ n1_ n2_;(try clear hb);(try clear hb2);(try clear hk);(try clear hi);have p438:0≤(t435:Int):=oD5 (zyx5_16);have q438:t435 < (l1.length:Int):=oD5 (zyx5_16);obtain ⟨ad438,e438,hx438_0⟩:=Kd.at_string HR1.out t435 p438 q438;cases e438;replace hx438_0:=keep_cell HK.out hx438_0 (by first|(rw [add_block];exact hf1 _ rfl (by omega))|exact hf1 _ rfl (by omega)|exact hf1 ad438 rfl (by omega));replace p438:=eT5 p438;replace q438:=eT5 q438))
   go_ret
   exact ⟨zyx5_7,zyx5_20,zyx5_18,zyx5_19⟩
  ·rw [if_neg c5] at H
   exact absurd H (by simp)
 ·rw [if_neg c4] at H
  exact absurd H (by simp)
def spec_l1Cur_grid.f (s0_0:List Int) (s0_1:Int) (s0_2:Int):Option (Int × Int × Int × Int × Int):=(spec_l1Cur_one.f s0_0 s0_1 s0_2 24).bind fun bt117=>(if bt117.1=true then ((some (([(⟨8,5,3⟩:S24),(⟨8,3,5⟩:S24),(⟨4,6,5⟩:S24),(⟨1,1,1⟩:S24)]:List (S24)):List (S24))).bind fun y120=>((spec_l1Cur_pick.f s0_0 bt117.2.1 bt117.2.2 4).bind fun bt123=>(if 0≤bt123.1 then (if bt123.1 < (y120.length:Int) then (some ((rd_T24 y120 bt123.1).f0,(rd_T24 y120 bt123.1).f1,(rd_T24 y120 bt123.1).f2,bt123.2.1,bt123.2.2)) else (none)) else (none)))) else ((spec_l1Cur_pick.f s0_0 bt117.2.1 bt117.2.2 4).bind fun bt127=>((spec_l1Cur_pick.f s0_0 bt127.2.1 bt127.2.2 3).bind fun bt130=>((spec_l1Cur_pick.f s0_0 bt130.2.1 bt130.2.2 3).bind fun bt133=>(some (wrap64 (1 + bt127.1),wrap64 (1 + bt130.1),wrap64 (1 + bt133.1),bt133.2.1,bt133.2.2))))))
set_option maxHeartbeats 8000000 in
set_option maxRecDepth 100000 in
theorem spec_l1Cur_grid.calls (g:Nat) (s0_0:List Int) (s0_1:Int) (s0_2:Int) (r1:Int) (r2:Int) (r3:Int) (r4:Int) (r5:Int) (w0 w:World) (hI:IsS50 w0 w g s0_0 s0_1 s0_2) (hB:Below w0.heap.size w0 w) (h:spec_l1Cur_grid.f s0_0 s0_1 s0_2=some (r1,r2,r3,r4,r5)) :
  Calls Try.prog 64 #[.pointer (some ⟨g,0,none⟩)] w fun e w'=>e=.returned (.agg #[.int .i64 r1,.int .i64 r2,.int .i64 r3])∧IsS50 w0 w' g s0_0 r4 r5∧Below w0.heap.size w0 w'∧KeepBut w w' g none:=by
 have hu24:=Try.underlying24;have HI0:=aM5 hI;have HK:=aM5 (KeepBut.refl w g none);have HL:=aM5 hB.size;clear hI;have HW0:=aM5 hB.size;have HB:=aM5 hB;clear hB;have H:((spec_l1Cur_one.f s0_0 s0_1 s0_2 24).bind fun bt117=>(if bt117.1=true then ((some (([(⟨8,5,3⟩:S24),(⟨8,3,5⟩:S24),(⟨4,6,5⟩:S24),(⟨1,1,1⟩:S24)]:List (S24)):List (S24))).bind fun y120=>((spec_l1Cur_pick.f s0_0 bt117.2.1 bt117.2.2 4).bind fun bt123=>(if 0≤bt123.1 then (if bt123.1 < (y120.length:Int) then (some ((rd_T24 y120 bt123.1).f0,(rd_T24 y120 bt123.1).f1,(rd_T24 y120 bt123.1).f2,bt123.2.1,bt123.2.2)) else (none)) else (none)))) else ((spec_l1Cur_pick.f s0_0 bt117.2.1 bt117.2.2 4).bind fun bt127=>((spec_l1Cur_pick.f s0_0 bt127.2.1 bt127.2.2 3).bind fun bt130=>((spec_l1Cur_pick.f s0_0 bt130.2.1 bt130.2.2 3).bind fun bt133=>(some (wrap64 (1 + bt127.1),wrap64 (1 + bt130.1),wrap64 (1 + bt133.1),bt133.2.1,bt133.2.2)))))))=some (r1,r2,r3,r4,r5):=h;clear h;replace H:=bI5.mp H;obtain ⟨⟨t117,t118,t119⟩,A20,H⟩:=H;(try dsimp only at H);have A2:=aM5 A20;clear A20
 by_cases c3:t117=true
 ·subst c3
  rw [if_pos rfl] at H;(try dsimp only at H);obtain ⟨y120,hy120⟩:∃ y_:List (S24),y_=(([(⟨8,5,3⟩:S24),(⟨8,3,5⟩:S24),(⟨4,6,5⟩:S24),(⟨1,1,1⟩:S24)]:List (S24))):=⟨_,rfl⟩
  replace H:((spec_l1Cur_pick.f s0_0 t118 t119 4).bind fun bt123=>(if 0≤bt123.1 then (if bt123.1 < (y120.length:Int) then (some ((rd_T24 y120 bt123.1).f0,(rd_T24 y120 bt123.1).f1,(rd_T24 y120 bt123.1).f2,bt123.2.1,bt123.2.2)) else (none)) else (none)))=some (r1,r2,r3,r4,r5):=by first|(rw [hy120];with_reducible exact H)|(have H2_:=(Option.bind_some _ _).symm.trans H;rw [hy120];with_reducible exact H2_)|(have H2_:=(Option.bind_some _ _).symm.trans H;with_reducible exact H2_)|with_reducible exact H|(rw [hy120];exact H)|exact H
  have Ny120:=aM5 hy120;clear hy120;replace H:=bI5.mp H;obtain ⟨⟨t123,t124,t125⟩,A40,H⟩:=H;(try dsimp only at H);have A4:=aM5 A40;clear A40
  by_cases c5:0≤t123
  ·rw [if_pos c5] at H
   have c5b0:decide (0≤t123)=true:=dT5 c5;clear c5
   by_cases c6:t123 < (y120.length:Int)
   ·rw [if_pos c6] at H
    have c6b0:decide (t123 < (y120.length:Int))=true:=dT5 c6;clear c6;simp only [Option.some.injEq,Prod.mk.injEq] at H;obtain ⟨rfl,rfl,rfl,rfl,rfl⟩:=H;go_enter Try.func64,Try.ntmps64
    go_wp2_with (first|((with_reducible refine gate_dst (N:=2) rfl ?_);refine box_event ?hg (N:=2) ?hd (cs:=#[.int .i64 0,.int .i64 0,.int .i64 0]) (t:=24) ?hr ?_;(case hd=>rfl);(case hg=>rfl);(case hr=>exact zyx5_27);intro gb116 hg w7 hbox hb;have n0_:=aM5 (IsS50.below (zyx5_20) hb);have n1_:=aM5 (kT5 (zyx5_19) (KeepBut.of_below hb g none) (.inl rfl));have n2_:=aM5 (bS5 (zyx5_18) hb);have n3_:=aM5 (hbox);have n4_:=aM5 ((zyx5_34:w.heap.size≤gb116));have n5_:=aM5 ((Nat.le_trans HW0.out (zyx5_34:w.heap.size≤gb116):w0.heap.size≤gb116));have n6_:=aM5 ((by rw [hg];exact Nat.ne_of_lt (IsS50.lt (show IsS50 w0 _ g s0_0 s0_1 s0_2 from zyx5_20)):g≠gb116));have n7_:=aM5 ((by rw [hg];exact Nat.ne_of_gt (IsS50.lt (show IsS50 w0 _ g s0_0 s0_1 s0_2 from zyx5_20)):gb116≠g));clear HI0 HK HB;have HI0:=n0_;have HK:=n1_;have HB:=n2_;have BK116:=n3_;have GW116:=n4_;have GE116:=n5_;have NB0_116:=n6_;have NB116_0:=n7_;clear n0_ n1_ n2_ n3_ n4_ n5_ n6_ n7_ hb hbox hg)|((with_reducible refine gC5 (f:=55) rfl ?_);refine goesL_ (some 4) rfl rfl Try.func55 (zyx5_1) rfl #[.pointer (some ⟨g,0,none⟩),.int .i64 24] rfl (zyx5_2) ?_;(with_reducible refine (spec_l1Cur_one.calls g s0_0 s0_1 s0_2 24 true t118 t119 w0 _ ?side1 ?side2 A2.out).mono ?_);(case side1=>exact zyx5_23);(case side2=>exact zyx5_24);rintro e w8 ⟨rfl,hi,hb,hk⟩;refine ⟨_,rfl,?_⟩;have n0_:=aM5 (KeepBut.blk hk (g':=gb116) (o:=.cells #[.int .i64 0,.int .i64 0,.int .i64 0] 24 (0,0)) (zyx5_21) NB116_0.out (by simp));have n1_:=aM5 (kT5 (zyx5_22) hk (.inl rfl));have n2_:=aM5 (hb);have n3_:=aM5 (hi);clear BK116 HK HB HI0;have BK116:=n0_;have HK:=n1_;have HB:=n2_;have HI0:=n3_;clear n0_ n1_ n2_ n3_;(try clear hb);(try clear hb2);(try clear hk);(try clear hi))|((with_reducible refine gate_dst (N:=9) rfl ?_);refine Kd.R_lit k24 _ 24 ?hg (N:=9) ?hd (xs:=([(⟨8,5,3⟩:S24),(⟨8,3,5⟩:S24),(⟨4,6,5⟩:S24),(⟨1,1,1⟩:S24)]:List (S24))) (inner:=[.int .i64 8,.int .i64 5,.int .i64 3,.int .i64 8,.int .i64 3,.int .i64 5,.int .i64 4,.int .i64 6,.int .i64 5,.int .i64 1,.int .i64 1,.int .i64 1]) (ok:=fun _=>True) (okp:=fun _=>True) ?hr ?hp (fun _ hk=>hk) trivial (Below.refl _ _) (Nat.le_refl _) (by simp) ?_;(case hd=>rfl);(case hg=>rfl);(case hr=>exact zyx5_27);(case hp=>exact (Reps.c3 (show Kd.M k24 _ _ _ (⟨8,5,3⟩:S24) [.int .i64 8,.int .i64 5,.int .i64 3] from (k24_mkM _ _ _ (⟨8,5,3⟩:S24) )) (Reps.c3 (show Kd.M k24 _ _ _ (⟨8,3,5⟩:S24) [.int .i64 8,.int .i64 3,.int .i64 5] from (k24_mkM _ _ _ (⟨8,3,5⟩:S24) )) (Reps.c3 (show Kd.M k24 _ _ _ (⟨4,6,5⟩:S24) [.int .i64 4,.int .i64 6,.int .i64 5] from (k24_mkM _ _ _ (⟨4,6,5⟩:S24) )) (Reps.c3 (show Kd.M k24 _ _ _ (⟨1,1,1⟩:S24) [.int .i64 1,.int .i64 1,.int .i64 1] from (k24_mkM _ _ _ (⟨1,1,1⟩:S24) )) (Reps.none _ _))))));intro v121 w9 ho10 hb hg_ hnew_;clear hg_ hnew_;(first|rw [← Ny120.out] at ho10|(simp only [Int.reduceToNat] at ho10;rw [← Ny120.out] at ho10));have n0_:=aM5 (Kd.R_lower (Kd.R_newB ho10 (g:=gb116) (o:=.cells #[.int .i64 0,.int .i64 0,.int .i64 0] 24 (0,0)) (zyx5_21)) (keep_size (w:=w) (g:=g) (row:=none) (zyx5_22)));have n1_:=aM5 (IsS50.below (zyx5_23) hb);have n2_:=aM5 (bB5 (g:=gb116) (o:=.cells #[.int .i64 0,.int .i64 0,.int .i64 0] 24 (0,0)) (zyx5_21) hb);have n3_:=aM5 (kT5 (zyx5_22) (KeepBut.of_below hb g none) (.inl rfl));have n4_:=aM5 (bS5 (zyx5_24) hb);clear HI0 BK116 HK HB;have HO122:=n0_;have HI0:=n1_;have BK116:=n2_;have HK:=n3_;have HB:=n4_;clear n0_ n1_ n2_ n3_ n4_ hb ho10)|((with_reducible refine gC5 (f:=23) rfl ?_);refine goesL_ (some 11) rfl rfl Try.func23 (zyx5_1) rfl #[.pointer (some ⟨g,0,none⟩),.int .i64 4] rfl (zyx5_2) ?_;(with_reducible refine (spec_l1Cur_pick.calls g s0_0 t118 t119 4 t123 t124 t125 w0 _ ?side1 ?side2 A4.out).mono ?_);(case side1=>exact zyx5_23);(case side2=>exact zyx5_24);rintro e w11 ⟨rfl,hi,hb,hk⟩;refine ⟨_,rfl,?_⟩;have n0_:=aM5 (KeepBut.blk hk (g':=gb116) (o:=.cells #[.int .i64 0,.int .i64 0,.int .i64 0] 24 (0,0)) (zyx5_21) NB116_0.out (by simp));have n1_:=aM5 (Kd.R_mono (Kd.R_keep (IsS50.apart (show IsS50 w0 _ g s0_0 t118 t119 from zyx5_23) (by (with_reducible repeat (first|apply Kd.R_alloc|apply Kd.R_drewN|apply Kd.R_drew));exact HO122.out) (by decide)) hk (fun _ h=>h.2)) (fun _ h=>h.1));have n2_:=aM5 (kT5 (zyx5_22) hk (.inl rfl));have n3_:=aM5 (hb);have n4_:=aM5 (hi);clear BK116 HO122 HK HB HI0;have BK116:=n0_;have HO122:=n1_;have HK:=n2_;have HB:=n3_;have HI0:=n4_;clear n0_ n1_ n2_ n3_ n4_;(try clear hb);(try clear hb2);(try clear hk);(try clear hi);obtain ⟨Ao12,co12,eo12⟩:=Kd.R_slice HO122.out;subst eo12;have p126:0≤(t123:Int):=oD5 (zyx5_16);have q126:t123 < (y120.length:Int):=oD5 (zyx5_16);obtain ⟨ad126,e126,hx126_0,hx126_1,hx126_2⟩:=at_T24 (Kd.R_reads' HO122.out).2.2 t123 p126 q126;cases e126;replace p126:=eT5 p126;replace q126:=eT5 q126;have hnb13:=NB116_0.out;have hnc13:=NB0_116.out;obtain ⟨hcz14_0,hfz14_0,hcz14_1,hfz14_1,hcz14_2,hfz14_2⟩:=cf3 BK116.out))
    refine bodyPost_ret (results_cell_row rfl _ _ gb116 24 #[.int .i64 ((rd_T24 y120 t123).f0),.int .i64 ((rd_T24 y120 t123).f1),.int .i64 ((rd_T24 y120 t123).f2)] (0,0) _ rfl (by (with_reducible repeat (first|refine blk_drewN ?_ _|refine blk_drew ?_|refine blk_alloc ?_ _));refine blk_put (cs:=#[.int .i64 ((rd_T24 y120 t123).f0),.int .i64 ((rd_T24 y120 t123).f1),.int .i64 0]) ?_ 2 _ rfl;(with_reducible repeat (first|refine blk_drewN ?_ _|refine blk_drew ?_|refine blk_alloc ?_ _));refine blk_put (cs:=#[.int .i64 ((rd_T24 y120 t123).f0),.int .i64 0,.int .i64 0]) ?_ 1 _ rfl;(with_reducible repeat (first|refine blk_drewN ?_ _|refine blk_drew ?_|refine blk_alloc ?_ _));refine blk_put (cs:=#[.int .i64 0,.int .i64 0,.int .i64 0]) ?_ 0 _ rfl;(with_reducible repeat (first|refine blk_drewN ?_ _|refine blk_drew ?_|refine blk_alloc ?_ _));exact BK116.out) Try.underlying24 rfl (zyx5_1)) rfl ?_;exact ⟨zyx5_7,zyx5_23,zyx5_24,zyx5_22⟩
   ·rw [if_neg c6] at H
    exact absurd H (by simp)
  ·rw [if_neg c5] at H
   exact absurd H (by simp)
 ·replace c3:=Bool.eq_false_iff.mpr c3
  subst c3;rw [if_neg (show ¬ (false=true) by decide)] at H;(try dsimp only at H);replace H:=bI5.mp H;obtain ⟨⟨t127,t128,t129⟩,A150,H⟩:=H;(try dsimp only at H);have A15:=aM5 A150;clear A150;replace H:=bI5.mp H;obtain ⟨⟨t130,t131,t132⟩,A160,H⟩:=H;(try dsimp only at H);have A16:=aM5 A160;clear A160;replace H:=bI5.mp H;obtain ⟨⟨t133,t134,t135⟩,A170,H⟩:=H;(try dsimp only at H);have A17:=aM5 A170;clear A170;simp only [Option.some.injEq,Prod.mk.injEq] at H;obtain ⟨rfl,rfl,rfl,rfl,rfl⟩:=H;go_enter Try.func64,Try.ntmps64
  go_wp2_with (first|((with_reducible refine gate_dst (N:=2) rfl ?_);refine box_event ?hg (N:=2) ?hd (cs:=#[.int .i64 0,.int .i64 0,.int .i64 0]) (t:=24) ?hr ?_;(case hd=>rfl);(case hg=>rfl);(case hr=>exact zyx5_27);intro gb116 hg w18 hbox hb;have n0_:=aM5 (IsS50.below (zyx5_20) hb);have n1_:=aM5 (kT5 (zyx5_19) (KeepBut.of_below hb g none) (.inl rfl));have n2_:=aM5 (bS5 (zyx5_18) hb);have n3_:=aM5 (hbox);have n4_:=aM5 ((zyx5_34:w.heap.size≤gb116));have n5_:=aM5 ((Nat.le_trans HW0.out (zyx5_34:w.heap.size≤gb116):w0.heap.size≤gb116));have n6_:=aM5 ((by rw [hg];exact Nat.ne_of_lt (IsS50.lt (show IsS50 w0 _ g s0_0 s0_1 s0_2 from zyx5_20)):g≠gb116));have n7_:=aM5 ((by rw [hg];exact Nat.ne_of_gt (IsS50.lt (show IsS50 w0 _ g s0_0 s0_1 s0_2 from zyx5_20)):gb116≠g));clear HI0 HK HB;have HI0:=n0_;have HK:=n1_;have HB:=n2_;have BK116:=n3_;have GW116:=n4_;have GE116:=n5_;have NB0_116:=n6_;have NB116_0:=n7_;clear n0_ n1_ n2_ n3_ n4_ n5_ n6_ n7_ hb hbox hg)|((with_reducible refine gC5 (f:=55) rfl ?_);refine goesL_ (some 4) rfl rfl Try.func55 (zyx5_1) rfl #[.pointer (some ⟨g,0,none⟩),.int .i64 24] rfl (zyx5_2) ?_;(with_reducible refine (spec_l1Cur_one.calls g s0_0 s0_1 s0_2 24 false t118 t119 w0 _ ?side1 ?side2 A2.out).mono ?_);(case side1=>exact zyx5_23);(case side2=>exact zyx5_24);rintro e w19 ⟨rfl,hi,hb,hk⟩;refine ⟨_,rfl,?_⟩;have n0_:=aM5 (KeepBut.blk hk (g':=gb116) (o:=.cells #[.int .i64 0,.int .i64 0,.int .i64 0] 24 (0,0)) (zyx5_21) NB116_0.out (by simp));have n1_:=aM5 (kT5 (zyx5_22) hk (.inl rfl));have n2_:=aM5 (hb);have n3_:=aM5 (hi);clear BK116 HK HB HI0;have BK116:=n0_;have HK:=n1_;have HB:=n2_;have HI0:=n3_;clear n0_ n1_ n2_ n3_;(try clear hb);(try clear hb2);(try clear hk);(try clear hi))|((with_reducible refine gC5 (f:=23) rfl ?_);refine goesL_ (some 15) rfl rfl Try.func23 (zyx5_1) rfl #[.pointer (some ⟨g,0,none⟩),.int .i64 4] rfl (zyx5_2) ?_;(with_reducible refine (spec_l1Cur_pick.calls g s0_0 t118 t119 4 t127 t128 t129 w0 _ ?side1 ?side2 A15.out).mono ?_);(case side1=>exact zyx5_23);(case side2=>exact zyx5_24);rintro e w20 ⟨rfl,hi,hb,hk⟩;refine ⟨_,rfl,?_⟩;have n0_:=aM5 (KeepBut.blk hk (g':=gb116) (o:=.cells #[.int .i64 0,.int .i64 0,.int .i64 0] 24 (0,0)) (zyx5_21) NB116_0.out (by simp));have n1_:=aM5 (kT5 (zyx5_22) hk (.inl rfl));have n2_:=aM5 (hb);have n3_:=aM5 (hi);clear BK116 HK HB HI0;have BK116:=n0_;have HK:=n1_;have HB:=n2_;have HI0:=n3_;clear n0_ n1_ n2_ n3_;(try clear hb);(try clear hb2);(try clear hk);(try clear hi))|((with_reducible refine gC5 (f:=23) rfl ?_);refine goesL_ (some 18) rfl rfl Try.func23 (zyx5_1) rfl #[.pointer (some ⟨g,0,none⟩),.int .i64 3] rfl (zyx5_2) ?_;(with_reducible refine (spec_l1Cur_pick.calls g s0_0 t128 t129 3 t130 t131 t132 w0 _ ?side1 ?side2 A16.out).mono ?_);(case side1=>exact zyx5_23);(case side2=>exact zyx5_24);rintro e w21 ⟨rfl,hi,hb,hk⟩;refine ⟨_,rfl,?_⟩;have n0_:=aM5 (KeepBut.blk hk (g':=gb116) (o:=.cells #[.int .i64 0,.int .i64 0,.int .i64 0] 24 (0,0)) (zyx5_21) NB116_0.out (by simp));have n1_:=aM5 (kT5 (zyx5_22) hk (.inl rfl));have n2_:=aM5 (hb);have n3_:=aM5 (hi);clear BK116 HK HB HI0;have BK116:=n0_;have HK:=n1_;have HB:=n2_;have HI0:=n3_;clear n0_ n1_ n2_ n3_;(try clear hb);(try clear hb2);(try clear hk);(try clear hi))|((with_reducible refine gC5 (f:=23) rfl ?_);refine goesL_ (some 21) rfl rfl Try.func23 (zyx5_1) rfl #[.pointer (some ⟨g,0,none⟩),.int .i64 3] rfl (zyx5_2) ?_;(with_reducible refine (spec_l1Cur_pick.calls g s0_0 t131 t132 3 t133 t134 t135 w0 _ ?side1 ?side2 A17.out).mono ?_);(case side1=>exact zyx5_23);(case side2=>exact zyx5_24);rintro e w22 ⟨rfl,hi,hb,hk⟩;refine ⟨_,rfl,?_⟩;have n0_:=aM5 (KeepBut.blk hk (g':=gb116) (o:=.cells #[.int .i64 0,.int .i64 0,.int .i64 0] 24 (0,0)) (zyx5_21) NB116_0.out (by simp));have n1_:=aM5 (kT5 (zyx5_22) hk (.inl rfl));have n2_:=aM5 (hb);have n3_:=aM5 (hi);clear BK116 HK HB HI0;have BK116:=n0_;have HK:=n1_;have HB:=n2_;have HI0:=n3_;clear n0_ n1_ n2_ n3_;(try clear hb);(try clear hb2);(try clear hk);(try clear hi);have hnb23:=NB116_0.out;have hnc23:=NB0_116.out;obtain ⟨hcz24_0,hfz24_0,hcz24_1,hfz24_1,hcz24_2,hfz24_2⟩:=cf3 BK116.out))
  refine bodyPost_ret (results_cell_row rfl _ _ gb116 24 #[.int .i64 (wrap64 (1 + t127)),.int .i64 (wrap64 (1 + t130)),.int .i64 (wrap64 (1 + t133))] (0,0) _ rfl (by (with_reducible repeat (first|refine blk_drewN ?_ _|refine blk_drew ?_|refine blk_alloc ?_ _));refine blk_put (cs:=#[.int .i64 (wrap64 (1 + t127)),.int .i64 (wrap64 (1 + t130)),.int .i64 0]) ?_ 2 _ rfl;(with_reducible repeat (first|refine blk_drewN ?_ _|refine blk_drew ?_|refine blk_alloc ?_ _));refine blk_put (cs:=#[.int .i64 (wrap64 (1 + t127)),.int .i64 0,.int .i64 0]) ?_ 1 _ rfl;(with_reducible repeat (first|refine blk_drewN ?_ _|refine blk_drew ?_|refine blk_alloc ?_ _));refine blk_put (cs:=#[.int .i64 0,.int .i64 0,.int .i64 0]) ?_ 0 _ rfl;(with_reducible repeat (first|refine blk_drewN ?_ _|refine blk_drew ?_|refine blk_alloc ?_ _));exact BK116.out) Try.underlying24 rfl (zyx5_1)) rfl ?_;exact ⟨zyx5_7,zyx5_23,zyx5_24,zyx5_22⟩
def spec_ruFields.f  : Option (List ByteArray):=some (([(⟨#[116,111,110,110,101,115]⟩:ByteArray),(⟨#[103,114,97,100,101]⟩:ByteArray),(⟨#[114,111,99,107]⟩:ByteArray),(⟨#[108,101,118,101,108]⟩:ByteArray),(⟨#[109,101,116,97,108]⟩:ByteArray)]:List ByteArray))
set_option maxHeartbeats 8000000 in
set_option maxRecDepth 100000 in
theorem spec_ruFields.calls  (r:List ByteArray) (w:World) (h:spec_ruFields.f  = some r) :
  Calls Try.prog 82 #[] w fun e w'=>∃ v0_:Value,e=.returned (v0_)∧Kd.R Kd.string 9 w' w.heap.size (fun _=>True) v0_ r∧Below w.heap.size w w':=by
 have HB:=aM5 (Below.refl w.heap.size w);have H:(some (([(⟨#[116,111,110,110,101,115]⟩:ByteArray),(⟨#[103,114,97,100,101]⟩:ByteArray),(⟨#[114,111,99,107]⟩:ByteArray),(⟨#[108,101,118,101,108]⟩:ByteArray),(⟨#[109,101,116,97,108]⟩:ByteArray)]:List ByteArray)))=some r:=h;clear h;obtain ⟨y499,hy499⟩:∃ y_:List ByteArray,y_=(([(⟨#[116,111,110,110,101,115]⟩:ByteArray),(⟨#[103,114,97,100,101]⟩:ByteArray),(⟨#[114,111,99,107]⟩:ByteArray),(⟨#[108,101,118,101,108]⟩:ByteArray),(⟨#[109,101,116,97,108]⟩:ByteArray)]:List ByteArray)):=⟨_,rfl⟩
 replace H:(some y499)=some r:=by first|(rw [hy499];with_reducible exact H)|(have H2_:=(Option.bind_some _ _).symm.trans H;rw [hy499];with_reducible exact H2_)|(have H2_:=(Option.bind_some _ _).symm.trans H;with_reducible exact H2_)|with_reducible exact H|(rw [hy499];exact H)|exact H
 have Ny499:=aM5 hy499;clear hy499;obtain rfl:=Option.some.inj H;go_enter Try.func82,Try.ntmps82
 go_wp2_with (first|((with_reducible refine gate_dst (N:=1) rfl ?_);refine Kd.R_lit Kd.string _ 9 ?hg (N:=1) ?hd (xs:=([(⟨#[116,111,110,110,101,115]⟩:ByteArray),(⟨#[103,114,97,100,101]⟩:ByteArray),(⟨#[114,111,99,107]⟩:ByteArray),(⟨#[108,101,118,101,108]⟩:ByteArray),(⟨#[109,101,116,97,108]⟩:ByteArray)]:List ByteArray)) (inner:=[.string (⟨#[116,111,110,110,101,115]⟩:ByteArray),.string (⟨#[103,114,97,100,101]⟩:ByteArray),.string (⟨#[114,111,99,107]⟩:ByteArray),.string (⟨#[108,101,118,101,108]⟩:ByteArray),.string (⟨#[109,101,116,97,108]⟩:ByteArray)]) (ok:=fun _=>True) (okp:=fun _=>True) ?hr ?hp (fun _ hk=>hk) trivial (Below.refl _ _) (Nat.le_refl _) (by simp) ?_;(case hd=>rfl);(case hg=>rfl);(case hr=>exact zyx5_27);(case hp=>exact (Reps.one (show Kd.M Kd.string _ _ _ (⟨#[116,111,110,110,101,115]⟩:ByteArray) [.string (⟨#[116,111,110,110,101,115]⟩:ByteArray)] from rfl) (Reps.one (show Kd.M Kd.string _ _ _ (⟨#[103,114,97,100,101]⟩:ByteArray) [.string (⟨#[103,114,97,100,101]⟩:ByteArray)] from rfl) (Reps.one (show Kd.M Kd.string _ _ _ (⟨#[114,111,99,107]⟩:ByteArray) [.string (⟨#[114,111,99,107]⟩:ByteArray)] from rfl) (Reps.one (show Kd.M Kd.string _ _ _ (⟨#[108,101,118,101,108]⟩:ByteArray) [.string (⟨#[108,101,118,101,108]⟩:ByteArray)] from rfl) (Reps.one (show Kd.M Kd.string _ _ _ (⟨#[109,101,116,97,108]⟩:ByteArray) [.string (⟨#[109,101,116,97,108]⟩:ByteArray)] from rfl) (Reps.none _ _)))))));intro v500 w1 ho2 hb hg_ hnew_;clear hg_ hnew_;(first|rw [← Ny499.out] at ho2|(simp only [Int.reduceToNat] at ho2;rw [← Ny499.out] at ho2));have n0_:=aM5 (Kd.R_lower ho2 (below_size (zyx5_0)));have n1_:=aM5 (bS5 (zyx5_0) hb);clear HB;have HO501:=n0_;have HB:=n1_;clear n0_ n1_ hb ho2))
 go_ret
 exact ⟨_,zyx5_7,by (with_reducible repeat (first|apply Kd.R_alloc|apply Kd.R_drewN|apply Kd.R_drew));exact HO501.out,zyx5_0⟩
def spec_l1Split.l0:Nat→ByteArray→Int→List ByteArray→Int→Int→Option (List ByteArray)
 | 0,_,_,_,_,_=>none
 | k + 1,x0,x1,x5,x6,x7=>if x7 < (x0.size:Int) then (if 0≤x7 then (if (bt x0 x7)=x1 then (if 0≤x6 then (if x6≤x7 then (if x7≤(x0.size:Int) then (if x5.length < 8796093022208 then (spec_l1Split.l0 k x0 x1 (x5 ++ [x0.extract (x6:Int).toNat (x7:Int).toNat]) (wrap64 (x7 + 1)) (wrap64 (x7 + 1))) else (none)) else (none)) else (none)) else (none)) else (spec_l1Split.l0 k x0 x1 x5 x6 (wrap64 (x7 + 1)))) else (none)) else (if 0≤x6 then (if x6≤(x0.size:Int) then (if x5.length < 8796093022208 then (some (x5 ++ [x0.extract (x6:Int).toNat x0.size])) else (none)) else (none)) else (none))
def spec_l1Split.f (k:Nat) (a0:ByteArray) (a1:Int):Option (List ByteArray):=spec_l1Split.l0 k a0 a1 ([]:List ByteArray) 0 0
set_option maxHeartbeats 8000000 in
set_option maxRecDepth 100000 in
theorem spec_l1Split.calls (k:Nat) (a0:ByteArray) (a1:Int) (r:List ByteArray) (w:World) (h:spec_l1Split.f k a0 a1=some r) :
  Calls Try.prog 75 #[.string a0,.int .u8 a1] w fun e w'=>∃ v0_:Value,e=.returned (v0_)∧Kd.R Kd.string 9 w' w.heap.size (fun _=>True) v0_ r∧Below w.heap.size w w':=by
 have HB:=aM5 (Below.refl w.heap.size w);have H:(spec_l1Split.l0 k a0 a1 ([]:List ByteArray) 0 0)=some r:=h;clear h;have H':=aM5 H;clear H;go_enter Try.func75,Try.ntmps75
 go_wp2
 go_loopg [5,6,7] k (fun kq v5 v6 v7 w'=>∃ (x5_1:List ByteArray) (x6_1:Int) (x7_1:Int),v6=.int .i64 x6_1∧v7=.int .i64 x7_1∧Aside0 (spec_l1Split.l0 kq a0 a1 x5_1 x6_1 x7_1=some r)∧Aside0 (kq≤k)∧Aside0 (Kd.R Kd.string 9 w' w.heap.size (fun _=>True) v5 x5_1)∧Aside0 (Below w.heap.size w w'))
 case atStart=>exact ⟨(([]:List ByteArray)),(0),(0),(zyx5_5),(zyx5_5),H',⟨Nat.le_refl _⟩,⟨zyx5_11⟩,⟨zyx5_0⟩⟩
 case round =>
  clear H';(try clear p2);obtain ⟨x5_1,x6_1,x7_1,rfl,rfl,HA,HK1,HO_5,HB⟩:=hrel
  cases gk with
  | zero=>exact absurd HA.out (by simp [spec_l1Split.l0])
  | succ k1 =>
   have H:=HA.out;clear HA;simp only [spec_l1Split.l0] at H
   by_cases c3:x7_1 < (a0.size:Int)
   ·rw [if_pos c3] at H
    have c3b0:decide (x7_1 < (a0.size:Int))=true:=dT5 c3;clear c3
    by_cases c4:0≤x7_1
    ·rw [if_pos c4] at H
     have c4b0:decide (0≤x7_1)=true:=dT5 c4;clear c4
     by_cases c6:(bt a0 x7_1)=a1
     ·rw [if_pos c6] at H
      have c6b0:((bt a0 x7_1) == a1)=true:=beq_iff_eq.mpr c6;have c6b1:((bt a0 x7_1) != a1)=false:=bne_eq_false_iff_eq.mpr c6;clear c6
      by_cases c7:0≤x6_1
      ·rw [if_pos c7] at H
       have c7b0:=eT5 c7;have c7b1:decide (0≤x6_1)=true:=dT5 c7;clear c7
       by_cases c8:x6_1≤x7_1
       ·rw [if_pos c8] at H
        have c8b0:=eT5 c8;have c8b1:decide (x6_1≤x7_1)=true:=dT5 c8;clear c8
        by_cases c9:x7_1≤(a0.size:Int)
        ·rw [if_pos c9] at H
         have c9b0:=eT5 c9;have c9b1:decide (x7_1≤(a0.size:Int))=true:=dT5 c9;clear c9
         by_cases c10:x5_1.length < 8796093022208
         ·rw [if_pos c10] at H
          have LMc10:=aM5 c10;clear c10;obtain ⟨y490,hy490⟩:∃ y_:List ByteArray,y_=(x5_1 ++ [a0.extract (x6_1:Int).toNat (x7_1:Int).toNat]):=⟨_,rfl⟩
          replace H:(spec_l1Split.l0 k1 a0 a1 y490 (wrap64 (x7_1 + 1)) (wrap64 (x7_1 + 1)))=some r:=by first|(rw [hy490];with_reducible exact H)|(have H2_:=(Option.bind_some _ _).symm.trans H;rw [hy490];with_reducible exact H2_)|(have H2_:=(Option.bind_some _ _).symm.trans H;with_reducible exact H2_)|with_reducible exact H|(rw [hy490];exact H)|exact H
          have Ny490:=aM5 hy490;clear hy490;have H':=aM5 H;clear H;have p5:0≤(x7_1:Int):=oD5 (zyx5_16);have q5:x7_1 < (a0.size:Int):=oD5 (zyx5_16);have hx5:=bt_at a0 x7_1;replace p5:=eT5 p5;replace q5:=eT5 q5
          go_wp2_with (first|((with_reducible refine gate_builtin (b:=.append) (xs:=#[.tmp 19,.tmp 24]) rfl ?_);at_builtin;refine Kd.R_append Kd.string (w0:=w) w.heap.size rfl (.tmp 19) (.tmp 24) 73 9 (.string ⟨#[]⟩) 16 rfl Try.underlying73 info9 rfl (by decide) (by omega) u5 x5_1 (a0.extract (x6_1:Int).toNat (x7_1:Int).toNat) [.string (a0.extract (x6_1:Int).toNat (x7_1:Int).toNat)] (fun _=>True) (fun _=>False) rfl rfl ?aP (fun _ hk=>hk.elim) ?aF ?aO ?aB ?aS ?aL ?_;(case aP=>exact rfl);(case aB=>exact (zyx5_0));(case aF=>exact (fun _ _=>trivial));(case aO=>exact (zyx5_25));(case aS=>exact (below_size (zyx5_0)));(case aL=>have:=LMc10.out;omega);intro v491 w11 ho hb hg hat;rw [← Ny490.out] at ho;have n0_:=aM5 (hb);have n1_:=aM5 (ho);clear HB HO_5;have HB:=n0_;have HO492:=n1_;clear n0_ n1_ ho hb hg hat))
          go_roundg k1
          case measure=>have:=HK1.out;omega
          case rel=>exact ⟨(y490),(wrap64 (x7_1 + 1)),(wrap64 (x7_1 + 1)),(zyx5_5),(zyx5_5),H',⟨by have:=HK1.out;omega⟩,⟨by (with_reducible repeat (first|apply Kd.R_alloc|apply Kd.R_drewN|apply Kd.R_drew));exact HO492.out⟩,⟨zyx5_0⟩⟩
         ·rw [if_neg c10] at H
          exact absurd H (by simp)
        ·rw [if_neg c9] at H
         exact absurd H (by simp)
       ·rw [if_neg c8] at H
        exact absurd H (by simp)
      ·rw [if_neg c7] at H
       exact absurd H (by simp)
     ·rw [if_neg c6] at H
      have c6b0:((bt a0 x7_1) == a1)=false:=beq_eq_false_iff_ne.mpr c6;have c6b1:((bt a0 x7_1) != a1)=true:=bne_iff_ne.mpr c6;have H':=aM5 H;clear H;have p5:0≤(x7_1:Int):=oD5 (zyx5_16);have q5:x7_1 < (a0.size:Int):=oD5 (zyx5_16);have hx5:=bt_at a0 x7_1;replace p5:=eT5 p5;replace q5:=eT5 q5
      go_wp2
      go_roundg k1
      case measure=>have:=HK1.out;omega
      case rel=>exact ⟨(x5_1),(x6_1),(wrap64 (x7_1 + 1)),(zyx5_5),(zyx5_5),H',⟨by have:=HK1.out;omega⟩,⟨zyx5_25⟩,⟨zyx5_0⟩⟩
    ·rw [if_neg c4] at H
     exact absurd H (by simp)
   ·rw [if_neg c3] at H
    have c3b0:decide (x7_1 < (a0.size:Int))=false:=decide_eq_false c3;clear c3
    by_cases c12:0≤x6_1
    ·rw [if_pos c12] at H
     have c12b0:=eT5 c12;have c12b1:decide (0≤x6_1)=true:=dT5 c12;clear c12
     by_cases c13:x6_1≤(a0.size:Int)
     ·rw [if_pos c13] at H
      have c13b0:=eT5 c13;have c13b1:decide (x6_1≤(a0.size:Int))=true:=dT5 c13;clear c13
      by_cases c14:x5_1.length < 8796093022208
      ·rw [if_pos c14] at H
       have LMc14:=aM5 c14;clear c14;obtain ⟨y493,hy493⟩:∃ y_:List ByteArray,y_=(x5_1 ++ [a0.extract (x6_1:Int).toNat a0.size]):=⟨_,rfl⟩
       replace H:(some y493)=some r:=by first|(rw [hy493];with_reducible exact H)|(have H2_:=(Option.bind_some _ _).symm.trans H;rw [hy493];with_reducible exact H2_)|(have H2_:=(Option.bind_some _ _).symm.trans H;with_reducible exact H2_)|with_reducible exact H|(rw [hy493];exact H)|exact H
       have Ny493:=aM5 hy493;clear hy493;obtain rfl:=Option.some.inj H
       go_wp2_with (first|((with_reducible refine gate_builtin (b:=.append) (xs:=#[.tmp 28,.tmp 32]) rfl ?_);at_builtin;refine Kd.R_append Kd.string (w0:=w) w.heap.size rfl (.tmp 28) (.tmp 32) 73 9 (.string ⟨#[]⟩) 16 rfl Try.underlying73 info9 rfl (by decide) (by omega) u5 x5_1 (a0.extract (x6_1:Int).toNat a0.size) [.string (a0.extract (x6_1:Int).toNat a0.size)] (fun _=>True) (fun _=>False) rfl rfl ?aP (fun _ hk=>hk.elim) ?aF ?aO ?aB ?aS ?aL ?_;(case aP=>exact rfl);(case aB=>exact (zyx5_0));(case aF=>exact (fun _ _=>trivial));(case aO=>exact (zyx5_25));(case aS=>exact (below_size (zyx5_0)));(case aL=>have:=LMc14.out;omega);intro v494 w15 ho hb hg hat;rw [← Ny493.out] at ho;have n0_:=aM5 (hb);have n1_:=aM5 (ho);clear HB HO_5;have HB:=n0_;have HO495:=n1_;clear n0_ n1_ ho hb hg hat))
       go_ret
       exact ⟨_,zyx5_7,by (with_reducible repeat (first|apply Kd.R_alloc|apply Kd.R_drewN|apply Kd.R_drew));exact HO495.out,zyx5_0⟩
      ·rw [if_neg c14] at H
       exact absurd H (by simp)
     ·rw [if_neg c13] at H
      exact absurd H (by simp)
    ·rw [if_neg c12] at H
     exact absurd H (by simp)
mutual
def spec_l1Read.j0:Nat→ByteArray→Bool→Option (Int)
 | 0,_,_=>none
 | k + 1,x0,x18=>if x18=true then (some (-1)) else (spec_l1Read.l0 k x0 0 0)
def spec_l1Read.l0:Nat→ByteArray→Int→Int→Option (Int)
 | 0,_,_,_=>none
 | k + 1,x0,x3,x4=>if x4 < (x0.size:Int) then (if 0≤x4 then (if (bt x0 x4) < 48 then (some (-1)) else (if (bt x0 x4) > 57 then (some (-1)) else (spec_l1Read.l0 k x0 (wrap64 ((wrap64 (10 * x3)) + (((bt x0 x4) - 48) % 256))) (wrap64 (x4 + 1))))) else (none)) else (some x3)
end
def spec_l1Read.f (k:Nat) (a0:ByteArray):Option (Int):=(spec_l1In.f (a0.size:Int) 1 6).bind fun t502=>(if t502=true then (if 0 < (a0.size:Int) then (if (bt a0 0)=48 then (spec_l1Read.j0 k a0 (decide ((a0.size:Int) > 1))) else (spec_l1Read.j0 k a0 false)) else (none)) else (spec_l1Read.j0 k a0 true))
set_option maxHeartbeats 8000000 in
set_option maxRecDepth 100000 in
theorem spec_l1Read.calls (k:Nat) (a0:ByteArray) (r:Int) (w:World) (h:spec_l1Read.f k a0=some r) :
  Calls Try.prog 86 #[.string a0] w fun e w'=>e=.returned (.int .i64 r)∧Drawn0 w w':=by
 have H:((spec_l1In.f (a0.size:Int) 1 6).bind fun t502=>(if t502=true then (if 0 < (a0.size:Int) then (if (bt a0 0)=48 then (spec_l1Read.j0 k a0 (decide ((a0.size:Int) > 1))) else (spec_l1Read.j0 k a0 false)) else (none)) else (spec_l1Read.j0 k a0 true)))=some r:=h;clear h;have HC2:=aM5 H;clear H;go_enter Try.func86,Try.ntmps86
 go_upto_region 1 with (fail)
 go_cut [18] (fun v18 wc=>∃ (kq:Nat) (x18_1:Bool),v18=.bool x18_1∧Aside0 (spec_l1Read.j0 kq a0 x18_1=some r)∧Aside0 (kq≤k)∧Drawn0 w wc)
 case first =>
  have H:=HC2.out;clear HC2;replace H:=bI5.mp H;obtain ⟨t502,A30,H⟩:=H;(try dsimp only at H);have A3:=aM5 A30;clear A30
  by_cases c4:t502=true
  ·subst c4
   rw [if_pos rfl] at H;(try dsimp only at H)
   by_cases c5:0 < (a0.size:Int)
   ·rw [if_pos c5] at H
    have c5b0:decide (0 < (a0.size:Int))=true:=dT5 c5;have c5b1:decide (0 < a0.size)=true:=dT5 (by omega);clear c5
    (first|rw [c5b0]|(simp only [i64_w,i32_w];rw [c5b0])|skip)
    by_cases c7:(bt a0 0)=48
    ·rw [if_pos c7] at H
     have c7b0:((bt a0 0) == 48)=true:=beq_iff_eq.mpr c7;have c7b1:((bt a0 0) != 48)=false:=bne_eq_false_iff_eq.mpr c7;clear c7;have H':=aM5 H;clear H
     go_wp2_with (first|((with_reducible refine gC5 (f:=37) rfl ?_);refine goesL_ (some 7) rfl rfl Try.func37 (zyx5_1) rfl #[.int .i64 (a0.size:Int),.int .i64 1,.int .i64 6] rfl (zyx5_2) ?_;(with_reducible refine (spec_l1In.calls (a0.size:Int) 1 6 true _ A3.out).mono ?_);rintro e w' ⟨rfl,⟨nd,rfl⟩⟩;refine ⟨_,rfl,?_⟩;have p6:0≤(0:Int):=(by omega);have q6:0 < a0.size:=(by have:(0:Int) < (a0.size:Int):=oD5 (zyx5_16);omega);have hx6:∀ h:0 < a0.size,((a0[0]'h).toNat:Int)=bt a0 0:=bt_at a0 0;clear p6;have qi6:(0 < (a0.size:Int))=True:=eT5 (oD5 (zyx5_16));replace q6:=eT5 q6))
     go_meet
     case rel=>exact ⟨_,(decide ((a0.size:Int) > 1)),(zyx5_5),H',⟨zyx5_6⟩,zyx5_26⟩
    ·rw [if_neg c7] at H
     have c7b0:((bt a0 0) == 48)=false:=beq_eq_false_iff_ne.mpr c7;have c7b1:((bt a0 0) != 48)=true:=bne_iff_ne.mpr c7;have H':=aM5 H;clear H
     go_wp2_with (first|((with_reducible refine gC5 (f:=37) rfl ?_);refine goesL_ (some 7) rfl rfl Try.func37 (zyx5_1) rfl #[.int .i64 (a0.size:Int),.int .i64 1,.int .i64 6] rfl (zyx5_2) ?_;(with_reducible refine (spec_l1In.calls (a0.size:Int) 1 6 true _ A3.out).mono ?_);rintro e w' ⟨rfl,⟨nd,rfl⟩⟩;refine ⟨_,rfl,?_⟩;have p6:0≤(0:Int):=(by omega);have q6:0 < a0.size:=(by have:(0:Int) < (a0.size:Int):=oD5 (zyx5_16);omega);have hx6:∀ h:0 < a0.size,((a0[0]'h).toNat:Int)=bt a0 0:=bt_at a0 0;clear p6;have qi6:(0 < (a0.size:Int))=True:=eT5 (oD5 (zyx5_16));replace q6:=eT5 q6))
     go_meet
     case rel=>exact ⟨_,(false),(zyx5_5),H',⟨zyx5_6⟩,zyx5_26⟩
   ·rw [if_neg c5] at H
    exact absurd H (by simp)
  ·replace c4:=Bool.eq_false_iff.mpr c4
   subst c4;rw [if_neg (show ¬ (false=true) by decide)] at H;(try dsimp only at H);have H':=aM5 H;clear H
   go_wp2_with (first|((with_reducible refine gC5 (f:=37) rfl ?_);refine goesL_ (some 7) rfl rfl Try.func37 (zyx5_1) rfl #[.int .i64 (a0.size:Int),.int .i64 1,.int .i64 6] rfl (zyx5_2) ?_;(with_reducible refine (spec_l1In.calls (a0.size:Int) 1 6 false _ A3.out).mono ?_);rintro e w' ⟨rfl,⟨nd,rfl⟩⟩;refine ⟨_,rfl,?_⟩))
   go_meet
   case rel=>exact ⟨_,(true),(zyx5_5),H',⟨zyx5_6⟩,zyx5_26⟩
 case rest =>
  clear HC2;(try clear p2);(try clear c3);(try clear c4);(try clear c5);(try clear c5b0);(try clear c5b1);(try clear p6);(try clear q6);(try clear hx6);(try clear qi6);(try clear c7);(try clear c7b0);(try clear c7b1);(try clear p6);(try clear q6);obtain ⟨kq,x18_1,rfl,HA,HJ1,⟨mc1,rfl⟩⟩:=hcut
  cases kq with
  | zero=>exact absurd HA.out (by simp [spec_l1Read.j0])
  | succ kj1 =>
   have H:=HA.out;clear HA;simp only [spec_l1Read.j0] at H
   by_cases c8:x18_1=true
   ·subst c8
    rw [if_pos rfl] at H;(try dsimp only at H);obtain rfl:=Option.some.inj H
    go_wp2
    go_ret
    exact ⟨zyx5_5,zyx5_26⟩
   ·replace c8:=Bool.eq_false_iff.mpr c8
    subst c8;rw [if_neg (show ¬ (false=true) by decide)] at H;(try dsimp only at H);have H':=aM5 H;clear H
    go_wp2
    go_loopg [3,4] kj1 (fun kq v3 v4 w'=>∃ (x3_2:Int) (x4_2:Int),v3=.int .i64 x3_2∧v4=.int .i64 x4_2∧Aside0 (spec_l1Read.l0 kq a0 x3_2 x4_2=some r)∧Aside0 (kq≤kj1)∧Drawn0 w w')
    case atStart=>exact ⟨(0),(0),(zyx5_5),(zyx5_5),H',⟨Nat.le_refl _⟩,zyx5_26⟩
    case round =>
     clear H';(try clear c1);(try clear p2);(try clear c3);(try clear c4);(try clear c5);(try clear c5b0);(try clear c5b1);(try clear p6);(try clear q6);(try clear hx6);(try clear qi6);(try clear c7);(try clear c7b0);(try clear c7b1);(try clear c8);(try clear p2);(try clear p6);(try clear q6);obtain ⟨x3_2,x4_2,rfl,rfl,HA,HK2,⟨m2,rfl⟩⟩:=hrel
     cases gk with
     | zero=>exact absurd HA.out (by simp [spec_l1Read.l0])
     | succ k2 =>
      have H:=HA.out;clear HA;simp only [spec_l1Read.l0] at H
      by_cases c9:x4_2 < (a0.size:Int)
      ·rw [if_pos c9] at H
       have c9b0:decide (x4_2 < (a0.size:Int))=true:=dT5 c9;clear c9
       by_cases c10:0≤x4_2
       ·rw [if_pos c10] at H
        have c10b0:decide (0≤x4_2)=true:=dT5 c10;clear c10
        by_cases c12:(bt a0 x4_2) < 48
        ·rw [if_pos c12] at H
         have c12b0:decide ((bt a0 x4_2) < 48)=true:=dT5 c12;clear c12;obtain rfl:=Option.some.inj H;have p11:0≤(x4_2:Int):=oD5 (zyx5_16);have q11:x4_2 < (a0.size:Int):=oD5 (zyx5_16);have hx11:=bt_at a0 x4_2;replace p11:=eT5 p11;replace q11:=eT5 q11
         go_wp2
         go_ret
         exact ⟨zyx5_5,zyx5_26⟩
        ·rw [if_neg c12] at H
         have c12b0:decide ((bt a0 x4_2) < 48)=false:=decide_eq_false c12;clear c12
         by_cases c14:(bt a0 x4_2) > 57
         ·rw [if_pos c14] at H
          have c14b0:decide (57 < (bt a0 x4_2))=true:=dT5 c14;clear c14;obtain rfl:=Option.some.inj H;have p11:0≤(x4_2:Int):=oD5 (zyx5_16);have q11:x4_2 < (a0.size:Int):=oD5 (zyx5_16);have hx11:=bt_at a0 x4_2;replace p11:=eT5 p11;replace q11:=eT5 q11;have p13:0≤(x4_2:Int):=oD5 (zyx5_16);have q13:x4_2 < (a0.size:Int):=oD5 (zyx5_16);have hx13:=bt_at a0 x4_2;replace p13:=eT5 p13;replace q13:=eT5 q13
          go_wp2
          go_ret
          exact ⟨zyx5_5,zyx5_26⟩
         ·rw [if_neg c14] at H
          have c14b0:decide (57 < (bt a0 x4_2))=false:=decide_eq_false c14;clear c14;have H':=aM5 H;clear H;have p11:0≤(x4_2:Int):=oD5 (zyx5_16);have q11:x4_2 < (a0.size:Int):=oD5 (zyx5_16);have hx11:=bt_at a0 x4_2;replace p11:=eT5 p11;replace q11:=eT5 q11;have p13:0≤(x4_2:Int):=oD5 (zyx5_16);have q13:x4_2 < (a0.size:Int):=oD5 (zyx5_16);have hx13:=bt_at a0 x4_2;replace p13:=eT5 p13;replace q13:=eT5 q13;have p15:0≤(x4_2:Int):=oD5 (zyx5_16);have q15:x4_2 < (a0.size:Int):=oD5 (zyx5_16);have hx15:=bt_at a0 x4_2;replace p15:=eT5 p15;replace q15:=eT5 q15
          go_wp2
          go_roundg k2
          case measure=>have:=HJ1.out;have:=HK2.out;omega
          case rel=>exact ⟨(wrap64 ((wrap64 (10 * x3_2)) + (((bt a0 x4_2) - 48) % 256))),(wrap64 (x4_2 + 1)),(zyx5_5),(zyx5_5),H',⟨by have:=HJ1.out;have:=HK2.out;omega⟩,zyx5_26⟩
       ·rw [if_neg c10] at H
        exact absurd H (by simp)
      ·rw [if_neg c9] at H
       have c9b0:decide (x4_2 < (a0.size:Int))=false:=decide_eq_false c9;clear c9;obtain rfl:=Option.some.inj H
       go_wp2
       go_ret
       exact ⟨zyx5_5,zyx5_26⟩
def laws_qInts.l0:Nat→List Int→List Int→Int→Int→Option (Bool)
 | 0,_,_,_,_=>none
 | k + 1,x0,x1,x12,x13=>if x13 < x12 then (if 0≤x13 then (if x13 < (x0.length:Int) then (if x13 < (x1.length:Int) then (if (rd x0 x13)=(rd x1 x13) then (laws_qInts.l0 k x0 x1 x12 (wrap64 (x13 + 1))) else (some false)) else (none)) else (none)) else (none)) else (some true)
def laws_qInts.f (k:Nat) (l0:List Int) (l1:List Int):Option (Bool):=if (l0.length:Int)=(l1.length:Int) then (laws_qInts.l0 k l0 l1 (l0.length:Int) 0) else (some false)
set_option maxHeartbeats 8000000 in
set_option maxRecDepth 100000 in
theorem laws_qInts.calls (k:Nat) (A0:Option Addr) (c0:Nat) (l0:List Int) (A1:Option Addr) (c1:Nat) (l1:List Int) (r:Bool) (w:World) (hr0:Kd.C (Kd.int .i64) w A0 l0.length l0) (hc0:l0.length≤c0) (hr1:Kd.C (Kd.int .i64) w A1 l1.length l1) (hc1:l1.length≤c1) (h:laws_qInts.f k l0 l1=some r) :
  Calls Try.prog 17 #[.slice A0 l0.length c0,.slice A1 l1.length c1] w fun e w'=>e=.returned (.bool r)∧Drawn0 w w':=by
 have HR0:=aM5 hr0;have HC0:=aM5 hc0;clear hr0 hc0;have HR1:=aM5 hr1;have HC1:=aM5 hc1;clear hr1 hc1;have H:(if (l0.length:Int)=(l1.length:Int) then (laws_qInts.l0 k l0 l1 (l0.length:Int) 0) else (some false))=some r:=h;clear h
 by_cases c3:(l0.length:Int)=(l1.length:Int)
 ·rw [if_pos c3] at H
  have c3b0:((l0.length:Int) == (l1.length:Int))=true:=beq_iff_eq.mpr c3;have c3b1:((l0.length:Int) != (l1.length:Int))=false:=bne_eq_false_iff_eq.mpr c3
  have c3b2:(l0.length == l1.length)=true:=by first|simpa using c3|(simp at c3 ⊢;omega)
  clear c3;have H':=aM5 H;clear H;go_enter Try.func17,Try.ntmps17
  go_wp2
  repeat (go_quiet (fail);try go_wp2)
  go_loopg [13] k (fun kq v13 w'=>∃ (x13_1:Int),v13=.int .i64 x13_1∧Aside0 (laws_qInts.l0 kq l0 l1 (l0.length:Int) x13_1=some r)∧Aside0 (kq≤k)∧Drawn0 w w')
  case atStart=>exact ⟨(0),(zyx5_5),H',⟨Nat.le_refl _⟩,zyx5_26⟩
  case round =>
   clear H';(try clear c1);(try clear p2);(try clear c3);(try clear c3b0);(try clear c3b1);(try clear c3b2);obtain ⟨x13_1,rfl,HA,HK1,⟨m1,rfl⟩⟩:=hrel
   cases gk with
   | zero=>exact absurd HA.out (by simp [laws_qInts.l0])
   | succ k1 =>
    have H:=HA.out;clear HA;simp only [laws_qInts.l0] at H
    by_cases c4:x13_1 < (l0.length:Int)
    ·rw [if_pos c4] at H
     have c4b0:decide (x13_1 < (l0.length:Int))=true:=dT5 c4;clear c4
     by_cases c5:0≤x13_1
     ·rw [if_pos c5] at H
      have c5b0:decide (0≤x13_1)=true:=dT5 c5;clear c5
      by_cases c6:x13_1 < (l0.length:Int)
      ·rw [if_pos c6] at H
       have c6b0:decide (x13_1 < (l0.length:Int))=true:=dT5 c6;clear c6
       by_cases c7:x13_1 < (l1.length:Int)
       ·rw [if_pos c7] at H
        have c7b0:decide (x13_1 < (l1.length:Int))=true:=dT5 c7;clear c7
        by_cases c8:(rd l0 x13_1)=(rd l1 x13_1)
        ·rw [if_pos c8] at H
         have c8b0:((rd l0 x13_1) == (rd l1 x13_1))=true:=beq_iff_eq.mpr c8;have c8b1:((rd l0 x13_1) != (rd l1 x13_1))=false:=bne_eq_false_iff_eq.mpr c8;clear c8;have H':=aM5 H;clear H;have p743:0≤(x13_1:Int):=oD5 (zyx5_16);have q743:x13_1 < (l0.length:Int):=oD5 (zyx5_16);obtain ⟨ad743,e743,hx743_0⟩:=Kd.at_int HR0.out x13_1 p743 q743
         cases e743
         replace p743:=eT5 p743;replace q743:=eT5 q743;have p744:0≤(x13_1:Int):=oD5 (zyx5_16);have q744:x13_1 < (l1.length:Int):=oD5 (zyx5_16);obtain ⟨ad744,e744,hx744_0⟩:=Kd.at_int HR1.out x13_1 p744 q744
         cases e744
         replace p744:=eT5 p744;replace q744:=eT5 q744
         go_wp2
         repeat (go_quiet (fail);try go_wp2)
         go_roundg k1
         case measure=>have:=HK1.out;omega
         case rel=>exact ⟨(wrap64 (x13_1 + 1)),(zyx5_5),H',⟨by have:=HK1.out;omega⟩,zyx5_26⟩
        ·rw [if_neg c8] at H
         have c8b0:((rd l0 x13_1) == (rd l1 x13_1))=false:=beq_eq_false_iff_ne.mpr c8;have c8b1:((rd l0 x13_1) != (rd l1 x13_1))=true:=bne_iff_ne.mpr c8;obtain rfl:=Option.some.inj H;have p743:0≤(x13_1:Int):=oD5 (zyx5_16);have q743:x13_1 < (l0.length:Int):=oD5 (zyx5_16);obtain ⟨ad743,e743,hx743_0⟩:=Kd.at_int HR0.out x13_1 p743 q743
         cases e743
         replace p743:=eT5 p743;replace q743:=eT5 q743;have p744:0≤(x13_1:Int):=oD5 (zyx5_16);have q744:x13_1 < (l1.length:Int):=oD5 (zyx5_16);obtain ⟨ad744,e744,hx744_0⟩:=Kd.at_int HR1.out x13_1 p744 q744
         cases e744
         replace p744:=eT5 p744;replace q744:=eT5 q744
         go_wp2
         repeat (go_quiet (fail);try go_wp2)
         go_ret
         exact ⟨zyx5_5,zyx5_26⟩
       ·rw [if_neg c7] at H
        exact absurd H (by simp)
      ·rw [if_neg c6] at H
       exact absurd H (by simp)
     ·rw [if_neg c5] at H
      exact absurd H (by simp)
    ·rw [if_neg c4] at H
     have c4b0:decide (x13_1 < (l0.length:Int))=false:=decide_eq_false c4;clear c4;obtain rfl:=Option.some.inj H
     go_wp2
     repeat (go_quiet (fail);try go_wp2)
     go_ret
     exact ⟨zyx5_5,zyx5_26⟩
 ·rw [if_neg c3] at H
  have c3b0:((l0.length:Int) == (l1.length:Int))=false:=beq_eq_false_iff_ne.mpr c3;have c3b1:((l0.length:Int) != (l1.length:Int))=true:=bne_iff_ne.mpr c3
  have c3b2:(l0.length == l1.length)=false:=by first|simpa using c3|(simp at c3 ⊢;omega)
  obtain rfl:=Option.some.inj H;go_enter Try.func17,Try.ntmps17
  go_wp2
  repeat (go_quiet (fail);try go_wp2)
  go_ret
  exact ⟨zyx5_5,zyx5_26⟩
end Go.Proofs.Ytahhiedlkegkgaa.PFnMoney
end
