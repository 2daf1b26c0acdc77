/- Texts that print.sh has printed for the law FnCones,one function each,put together in one file: contracts of its functions. -/
import Derived.Test.YtbhlffakpneecaaTMFnConesx0
import Derived.Test.YtbhlffakpneecaaTMFnConesx2
section
namespace Go.Proofs.Ytbhlffakpneecaa.PFnCones
open Go.RowKit Go.Proofs.YtbhlffakpneecaaW.PrintWords Go.Proofs.YtbhlffakpneecaaW.PrintLast Go.Proofs.YtbhlffakpneecaaW.PrintMore
attribute [local go_sem] max2_int min2_int max_two min_two max_three min_three max_four min_four   -- for this text's walks alone
set_option linter.unusedVariables false
set_option linter.unusedSimpArgs false
theorem aM3:type_of% @Aside0.mk:=@Aside0.mk
theorem uA3:type_of% @List.setIfInBounds_toArray.{0}:=@List.setIfInBounds_toArray.{0}
theorem uB3:type_of% @List.set_cons_zero.{0}:=@List.set_cons_zero.{0}
theorem uC3:type_of% @List.set_cons_succ.{0}:=@List.set_cons_succ.{0}
theorem oD3:type_of% @of_decide_eq_true:=@of_decide_eq_true
theorem bL3:type_of% @World.block_lt_of_cell?:=@World.block_lt_of_cell?
theorem bC3:type_of% @blk_cell:=@blk_cell
theorem zsx3_0 {P:Prop} (h:P:=by repeat (first|(with_reducible first|exact HB.out|apply below_alloc|apply pw_below_drewN|apply below_drew1)|exact HB.out)):P:=h
theorem zsx3_1 {P:Prop} (h:P:=by first|(with_reducible assumption)|assumption):P:=h
theorem zsx3_2 {P:Prop} (h:P:=by (with_reducible repeat (first|refine blk_drewN ?_ _|refine blk_drew ?_|refine blk_alloc ?_ _));refine blk_put (cs:=#[.int .i64 ((rd_T96 l0 x7_1).f0),.int .i64 ((rd_T96 l0 x7_1).f1),.int .i64 0]) ?_ 2 _ rfl;(with_reducible repeat (first|refine blk_drewN ?_ _|refine blk_drew ?_|refine blk_alloc ?_ _));refine blk_put (cs:=#[.int .i64 ((rd_T96 l0 x7_1).f0),.int .i64 0,.int .i64 0]) ?_ 1 _ rfl;(with_reducible repeat (first|refine blk_drewN ?_ _|refine blk_drew ?_|refine blk_alloc ?_ _));refine blk_put (cs:=#[.int .i64 0,.int .i64 0,.int .i64 0]) ?_ 0 _ rfl;(with_reducible repeat (first|refine blk_drewN ?_ _|refine blk_drew ?_|refine blk_alloc ?_ _));exact BK285.out):P:=h
theorem zsx3_3 {P:Prop} (h:P:=by repeat (first|(with_reducible first|exact HB.out|apply below_alloc|apply pw_below_drewN|apply below_drew1|refine below_set ?_ GE285.out)|exact HB.out)):P:=h
theorem zsx3_4 {P:Prop} (h:P:=by kernel_rfl):P:=h
theorem zsx3_5 {P:Prop} (h:P:=by (try simp only [List.map_toArray,List.map_cons,List.map_nil]);first|done|rfl|(simp only [List.length_drop,List.length_take];rfl)):P:=h
theorem zsx3_6 {P:Prop} (h:P:=by (try simp only [List.map_toArray,List.map_cons,List.map_nil]);first|done|(simp only [hji12];rfl)|rfl|(simp only [List.length_drop,List.length_take];rfl)):P:=h
theorem zsx3_7 {P:Prop} (h:P:=by first|rfl|(simp [errW_none,errW_some] <;> rfl)|(simp [*,errW_none,errW_some] <;> rfl)):P:=h
theorem zsx3_8 {P:Prop} (h:P:=by first|(go_simp;done)|(go_simp;rfl)):P:=h
theorem zsx3_9 {P:Prop} (h:P:=by rw [hg];exact (below_size (zsx3_0))):P:=h
def spec_slTemplate.l0:Nat→List (S96)→List (S96)→Int→Int→Option (Bool)
 | 0,_,_,_,_=>none
 | k + 1,x0,x5,x6,x7=>if x7 < x6 then (if 0≤x7 then (if x7 < (x5.length:Int) then ((spec_l1In.f ((rd_T96 x5 x7).f0) (-2) 2).bind fun t286=>(if t286=true then ((spec_l1In.f ((rd_T96 x5 x7).f1) (-2) 2).bind fun t287=>(if t287=true then ((spec_l1In.f ((rd_T96 x5 x7).f2) 1 2).bind fun t288=>(if t288=true then (if x7 > 0 then (if 0≤(wrap64 (x7 - 1)) then (if (wrap64 (x7 - 1)) < (x0.length:Int) then ((spec_slBefore.f ((rd_T96 x0 (wrap64 (x7 - 1))).f0) ((rd_T96 x0 (wrap64 (x7 - 1))).f1) ((rd_T96 x0 (wrap64 (x7 - 1))).f2) ((rd_T96 x5 x7).f0) ((rd_T96 x5 x7).f1) ((rd_T96 x5 x7).f2)).bind fun t290=>(if t290=true then (spec_slTemplate.l0 k x0 x5 x6 (wrap64 (x7 + 1))) else (some false))) else (none)) else (none)) else (spec_slTemplate.l0 k x0 x5 x6 (wrap64 (x7 + 1)))) else (some false))) else (some false))) else (some false))) else (none)) else (none)) else ((spec_l1In.f (x0.length:Int) 1 12).bind fun t283=>(some t283))
def spec_slTemplate.f (k:Nat) (l0:List (S96)):Option (Bool):=spec_slTemplate.l0 k l0 l0 (l0.length:Int) 0
def spec_slTemplate.T4:Bool × List (List Nat × List Nat):=(true,[([],[]),([0],[0]),([1],[1]),([2],[2]),([3,2],[3]),([4],[4]),([5,4],[4,5]),([6,4,4],[4,6]),([7,4],[4,7]),([4,8],[4,8]),([9,7],[9]),([10],[10]),([11,10],[10,11]),([12,10,10],[10,12]),([13,10],[10,13]),([10,14],[10,14]),([15,13],[15]),([16],[16]),([17,16],[16,17]),([18,16,16],[16,18]),([19],[19]),([19],[19]),([21,19],[19,21]),([20,22,19],[19,20,22]),([23,19],[19,23]),([19],[19]),([24,25,19,19],[19,24,25]),([26,19],[19,26]),([19,27,16],[16,19,27]),([16,28],[16,28])])
def spec_slTemplate.B4:List Nat:=[0,1,3,7,15,31,63,127,255,511,1023,2047,4095,8191,16383,32767,65535,131071,262143,524287,1048575,1048575,3145727,8388607,16777215,1048575,67108863,134217727,268435455,536870911]
theorem spec_slTemplate.tab4:rtab .any (opsOf Try.f99 4)=spec_slTemplate.T4:=by kernel_rfl
theorem spec_slTemplate.bits4:waitsOk spec_slTemplate.T4.2 spec_slTemplate.B4=true:=by kernel_rfl
set_option maxHeartbeats 8000000 in
set_option maxRecDepth 100000 in
theorem spec_slTemplate.calls (k:Nat) (A0:Option Addr) (c0:Nat) (l0:List (S96)) (r:Bool) (w:World) (hr0:Kd.C k96 w A0 l0.length l0) (hc0:l0.length≤c0) (h:spec_slTemplate.f k l0=some r) :
  Calls Try.prog 99 #[.slice A0 l0.length c0] w fun e w'=>e=.returned (.bool r)∧Below w.heap.size w w':=by
 have hu96:=Try.underlying96
 have HR0:=aM3 hr0
 have HC0:=aM3 hc0
 clear hr0 hc0
 have HB:=aM3 (Below.refl w.heap.size w)
 have H:(spec_slTemplate.l0 k l0 l0 (l0.length:Int) 0)=some r:=h
 clear h
 have H':=aM3 H
 clear H
 go_enter Try.func99,Try.ntmps99
 go_wp2
 go_loopg [7] k (fun kq v7 w'=>∃ (x7_1:Int),v7=.int .i64 x7_1∧Aside0 (spec_slTemplate.l0 kq l0 l0 (l0.length:Int) x7_1=some r)∧Aside0 (kq≤k)∧Aside0 (Below w.heap.size w w'))
 case atStart=>exact ⟨(0),(by first|rfl|(simp;done)|(simp [*];done)),H',⟨Nat.le_refl _⟩,⟨zsx3_0⟩⟩
 case round =>
  clear H'
  obtain ⟨x7_1,rfl,HA,HK1,HB⟩:=hrel
  cases gk with
  | zero=>exact absurd HA.out (by simp [spec_slTemplate.l0])
  | succ k1 =>
   have H:=HA.out
   clear HA
   simp only [spec_slTemplate.l0] at H
   by_cases c2:x7_1 < (l0.length:Int)
   ·rw [if_pos c2] at H
    have c2b0:decide (x7_1 < (l0.length:Int))=true:=decide_eq_true c2
    clear c2
    by_cases c3:0≤x7_1
    ·rw [if_pos c3] at H
     have c3b0:decide (0≤x7_1)=true:=decide_eq_true c3
     clear c3
     by_cases c4:x7_1 < (l0.length:Int)
     ·rw [if_pos c4] at H
      have c4b0:decide (x7_1 < (l0.length:Int))=true:=decide_eq_true c4
      clear c4
      replace H:=Option.bind_eq_some_iff.mp H
      obtain ⟨t286,A50,H⟩:=H
      replace H:(if t286=true then ((spec_l1In.f ((rd_T96 l0 x7_1).f1) (-2) 2).bind fun t287=>(if t287=true then ((spec_l1In.f ((rd_T96 l0 x7_1).f2) 1 2).bind fun t288=>(if t288=true then (if x7_1 > 0 then (if 0≤(wrap64 (x7_1 - 1)) then (if (wrap64 (x7_1 - 1)) < (l0.length:Int) then ((spec_slBefore.f ((rd_T96 l0 (wrap64 (x7_1 - 1))).f0) ((rd_T96 l0 (wrap64 (x7_1 - 1))).f1) ((rd_T96 l0 (wrap64 (x7_1 - 1))).f2) ((rd_T96 l0 x7_1).f0) ((rd_T96 l0 x7_1).f1) ((rd_T96 l0 x7_1).f2)).bind fun t290=>(if t290=true then (spec_slTemplate.l0 k1 l0 l0 (l0.length:Int) (wrap64 (x7_1 + 1))) else (some false))) else (none)) else (none)) else (spec_slTemplate.l0 k1 l0 l0 (l0.length:Int) (wrap64 (x7_1 + 1)))) else (some false))) else (some false))) else (some false))=some r:=H
      have A5:=aM3 A50
      clear A50
      by_cases c6:t286=true
      ·subst c6
       have H1:((spec_l1In.f ((rd_T96 l0 x7_1).f1) (-2) 2).bind fun t287=>(if t287=true then ((spec_l1In.f ((rd_T96 l0 x7_1).f2) 1 2).bind fun t288=>(if t288=true then (if x7_1 > 0 then (if 0≤(wrap64 (x7_1 - 1)) then (if (wrap64 (x7_1 - 1)) < (l0.length:Int) then ((spec_slBefore.f ((rd_T96 l0 (wrap64 (x7_1 - 1))).f0) ((rd_T96 l0 (wrap64 (x7_1 - 1))).f1) ((rd_T96 l0 (wrap64 (x7_1 - 1))).f2) ((rd_T96 l0 x7_1).f0) ((rd_T96 l0 x7_1).f1) ((rd_T96 l0 x7_1).f2)).bind fun t290=>(if t290=true then (spec_slTemplate.l0 k1 l0 l0 (l0.length:Int) (wrap64 (x7_1 + 1))) else (some false))) else (none)) else (none)) else (spec_slTemplate.l0 k1 l0 l0 (l0.length:Int) (wrap64 (x7_1 + 1)))) else (some false))) else (some false)))=some r:=by rw [if_pos rfl] at H;exact H
       clear H
       have H:=H1
       clear H1
       replace H:=Option.bind_eq_some_iff.mp H
       obtain ⟨t287,A70,H⟩:=H
       replace H:(if t287=true then ((spec_l1In.f ((rd_T96 l0 x7_1).f2) 1 2).bind fun t288=>(if t288=true then (if x7_1 > 0 then (if 0≤(wrap64 (x7_1 - 1)) then (if (wrap64 (x7_1 - 1)) < (l0.length:Int) then ((spec_slBefore.f ((rd_T96 l0 (wrap64 (x7_1 - 1))).f0) ((rd_T96 l0 (wrap64 (x7_1 - 1))).f1) ((rd_T96 l0 (wrap64 (x7_1 - 1))).f2) ((rd_T96 l0 x7_1).f0) ((rd_T96 l0 x7_1).f1) ((rd_T96 l0 x7_1).f2)).bind fun t290=>(if t290=true then (spec_slTemplate.l0 k1 l0 l0 (l0.length:Int) (wrap64 (x7_1 + 1))) else (some false))) else (none)) else (none)) else (spec_slTemplate.l0 k1 l0 l0 (l0.length:Int) (wrap64 (x7_1 + 1)))) else (some false))) else (some false))=some r:=H
       have A7:=aM3 A70
       clear A70
       by_cases c8:t287=true
       ·subst c8
        have H1:((spec_l1In.f ((rd_T96 l0 x7_1).f2) 1 2).bind fun t288=>(if t288=true then (if x7_1 > 0 then (if 0≤(wrap64 (x7_1 - 1)) then (if (wrap64 (x7_1 - 1)) < (l0.length:Int) then ((spec_slBefore.f ((rd_T96 l0 (wrap64 (x7_1 - 1))).f0) ((rd_T96 l0 (wrap64 (x7_1 - 1))).f1) ((rd_T96 l0 (wrap64 (x7_1 - 1))).f2) ((rd_T96 l0 x7_1).f0) ((rd_T96 l0 x7_1).f1) ((rd_T96 l0 x7_1).f2)).bind fun t290=>(if t290=true then (spec_slTemplate.l0 k1 l0 l0 (l0.length:Int) (wrap64 (x7_1 + 1))) else (some false))) else (none)) else (none)) else (spec_slTemplate.l0 k1 l0 l0 (l0.length:Int) (wrap64 (x7_1 + 1)))) else (some false)))=some r:=by rw [if_pos rfl] at H;exact H
        clear H
        have H:=H1
        clear H1
        replace H:=Option.bind_eq_some_iff.mp H
        obtain ⟨t288,A90,H⟩:=H
        replace H:(if t288=true then (if x7_1 > 0 then (if 0≤(wrap64 (x7_1 - 1)) then (if (wrap64 (x7_1 - 1)) < (l0.length:Int) then ((spec_slBefore.f ((rd_T96 l0 (wrap64 (x7_1 - 1))).f0) ((rd_T96 l0 (wrap64 (x7_1 - 1))).f1) ((rd_T96 l0 (wrap64 (x7_1 - 1))).f2) ((rd_T96 l0 x7_1).f0) ((rd_T96 l0 x7_1).f1) ((rd_T96 l0 x7_1).f2)).bind fun t290=>(if t290=true then (spec_slTemplate.l0 k1 l0 l0 (l0.length:Int) (wrap64 (x7_1 + 1))) else (some false))) else (none)) else (none)) else (spec_slTemplate.l0 k1 l0 l0 (l0.length:Int) (wrap64 (x7_1 + 1)))) else (some false))=some r:=H
        have A9:=aM3 A90
        clear A90
        by_cases c10:t288=true
        ·subst c10
         have H1:(if x7_1 > 0 then (if 0≤(wrap64 (x7_1 - 1)) then (if (wrap64 (x7_1 - 1)) < (l0.length:Int) then ((spec_slBefore.f ((rd_T96 l0 (wrap64 (x7_1 - 1))).f0) ((rd_T96 l0 (wrap64 (x7_1 - 1))).f1) ((rd_T96 l0 (wrap64 (x7_1 - 1))).f2) ((rd_T96 l0 x7_1).f0) ((rd_T96 l0 x7_1).f1) ((rd_T96 l0 x7_1).f2)).bind fun t290=>(if t290=true then (spec_slTemplate.l0 k1 l0 l0 (l0.length:Int) (wrap64 (x7_1 + 1))) else (some false))) else (none)) else (none)) else (spec_slTemplate.l0 k1 l0 l0 (l0.length:Int) (wrap64 (x7_1 + 1))))=some r:=by rw [if_pos rfl] at H;exact H
         clear H
         have H:=H1
         clear H1
         by_cases c11:x7_1 > 0
         ·rw [if_pos c11] at H
          have c11b0:decide (0 < x7_1)=true:=decide_eq_true c11
          clear c11
          obtain ⟨ji12,hji12⟩:∃ j_:Int,(wrap64 (x7_1 - 1))=j_:=⟨_,rfl⟩
          replace H:(if 0≤(ji12) then (if (ji12) < (l0.length:Int) then ((spec_slBefore.f ((rd_T96 l0 (ji12)).f0) ((rd_T96 l0 (ji12)).f1) ((rd_T96 l0 (ji12)).f2) ((rd_T96 l0 x7_1).f0) ((rd_T96 l0 x7_1).f1) ((rd_T96 l0 x7_1).f2)).bind fun t290=>(if t290=true then (spec_slTemplate.l0 k1 l0 l0 (l0.length:Int) (wrap64 (x7_1 + 1))) else (some false))) else (none)) else (none))=some r:=by first|(rw [hji12] at H;exact H)|(simp only [hji12] at H ⊢;exact H)
          (try rw [hji12] at A5)
          (try rw [hji12] at A7)
          (try rw [hji12] at A9)
          have hji12w:(IntKind.i64.wrap (x7_1 - 1))=ji12:=(i64_w _).trans hji12
          by_cases c13:0≤(ji12)
          ·rw [if_pos c13] at H
           have c13b0:decide (0≤(ji12))=true:=decide_eq_true c13
           clear c13
           by_cases c14:(ji12) < (l0.length:Int)
           ·rw [if_pos c14] at H
            have c14b0:decide ((ji12) < (l0.length:Int))=true:=decide_eq_true c14
            clear c14
            replace H:=Option.bind_eq_some_iff.mp H
            obtain ⟨t290,A150,H⟩:=H
            replace H:(if t290=true then (spec_slTemplate.l0 k1 l0 l0 (l0.length:Int) (wrap64 (x7_1 + 1))) else (some false))=some r:=H
            have A15:=aM3 A150
            clear A150
            by_cases c16:t290=true
            ·subst c16
             have H1:(spec_slTemplate.l0 k1 l0 l0 (l0.length:Int) (wrap64 (x7_1 + 1)))=some r:=by rw [if_pos rfl] at H;exact H
             clear H
             have H:=H1
             clear H1
             have H':=aM3 H
             clear H
             have p284:0≤(x7_1:Int):=oD3 (zsx3_1)
             have q284:x7_1 < (l0.length:Int):=oD3 (zsx3_1)
             obtain ⟨ad284,e284,hx284_0,hx284_1,hx284_2⟩:=at_T96 HR0.out x7_1 p284 q284
             cases e284
             replace hx284_0:=(HB.out.cell (bL3 w _ hx284_0)).trans hx284_0
             replace hx284_1:=(HB.out.cell (bL3 w _ hx284_1)).trans hx284_1
             replace hx284_2:=(HB.out.cell (bL3 w _ hx284_2)).trans hx284_2
             replace p284:=eq_true p284
             replace q284:=eq_true q284
             try go_wp2_with (first|((with_reducible refine gate_dst (N:=4) rfl ?_);refine box_event ?hg (N:=4) ?hd (cs:=#[.int .i64 0,.int .i64 0,.int .i64 0]) (t:=96) ?hr ?_;(case hd=>rfl);(case hg=>rfl);(case hr=>exact zsx3_8);intro gb285 hg w17 hbox hb;have n0_:=aM3 (below_step (zsx3_0) hb);have n1_:=aM3 (hbox);have n2_:=aM3 ((zsx3_9:w.heap.size≤gb285));have n3_:=aM3 ((zsx3_9:w.heap.size≤gb285));clear HB;have HB:=n0_;have BK285:=n1_;have GW285:=n2_;have GE285:=n3_;clear n0_ n1_ n2_ n3_ hb hbox hg;have hcz18_0:w17.cell? ⟨gb285,0,none⟩=some (.int .i64 0):=(bC3 BK285.out 0).trans rfl;have hcz18_1:w17.cell? ⟨gb285,1,none⟩=some (.int .i64 0):=(bC3 BK285.out 1).trans rfl;have hcz18_2:w17.cell? ⟨gb285,2,none⟩=some (.int .i64 0):=(bC3 BK285.out 2).trans rfl;have hfz18_0:=blk_frozen BK285.out 0;have hfz18_1:=blk_frozen BK285.out 1;have hfz18_2:=blk_frozen BK285.out 2))
             have n0_:Aside0 ((((w17.setCell ⟨gb285,0,none⟩ (.int .i64 ((rd_T96 l0 x7_1).f0))).setCell ⟨gb285,1,none⟩ (.int .i64 ((rd_T96 l0 x7_1).f1))).setCell ⟨gb285,2,none⟩ (.int .i64 ((rd_T96 l0 x7_1).f2))).heap[gb285]?=some (.cells #[.int .i64 ((rd_T96 l0 x7_1).f0),.int .i64 ((rd_T96 l0 x7_1).f1),.int .i64 ((rd_T96 l0 x7_1).f2)] 96 (0,0))):=⟨zsx3_2⟩
             have n1_:Aside0 (Below w.heap.size w (((w17.setCell ⟨gb285,0,none⟩ (.int .i64 ((rd_T96 l0 x7_1).f0))).setCell ⟨gb285,1,none⟩ (.int .i64 ((rd_T96 l0 x7_1).f1))).setCell ⟨gb285,2,none⟩ (.int .i64 ((rd_T96 l0 x7_1).f2)))):=⟨zsx3_3⟩
             (try clear BK285)
             (try clear HB)
             generalize (((w17.setCell ⟨gb285,0,none⟩ (.int .i64 ((rd_T96 l0 x7_1).f0))).setCell ⟨gb285,1,none⟩ (.int .i64 ((rd_T96 l0 x7_1).f1))).setCell ⟨gb285,2,none⟩ (.int .i64 ((rd_T96 l0 x7_1).f2)))=w19 at n0_ n1_ ⊢
             have BK285:=n0_
             have HB:=n1_
             clear n0_ n1_
             have n0_:=aM3 (blk_drew BK285.out)
             have n1_:=aM3 (below_drew1 HB.out)
             clear BK285 HB
             have BK285:=n0_
             have HB:=n1_
             clear n0_ n1_
             have p289:0≤((ji12):Int):=oD3 (zsx3_1)
             have q289:(ji12) < (l0.length:Int):=oD3 (zsx3_1)
             obtain ⟨ad289,e289,hx289_0,hx289_1,hx289_2⟩:=at_T96 HR0.out (ji12) p289 q289
             have hw289_2:=hx289_2
             have hw289_1:=hx289_1
             have hw289_0:=hx289_0
             obtain rfl:ad284=ad289:=(by injection e289)
             replace hx289_0:=(HB.out.cell (bL3 w _ hx289_0)).trans hx289_0
             replace hx289_1:=(HB.out.cell (bL3 w _ hx289_1)).trans hx289_1
             replace hx289_2:=(HB.out.cell (bL3 w _ hx289_2)).trans hx289_2
             replace p289:=eq_true p289
             replace q289:=eq_true q289
             refine start_ (n:=30) (S:=fun w'=>w'.cell? ⟨gb285,0,none⟩=some (.int .i64 ((rd_T96 l0 x7_1).f0))∧w'.cell? ⟨gb285,1,none⟩=some (.int .i64 ((rd_T96 l0 x7_1).f1))∧w'.cell? ⟨gb285,2,none⟩=some (.int .i64 ((rd_T96 l0 x7_1).f2))∧w'.cell? (ad284.add (((ji12)).toNat * 3))=some (.int .i64 ((rd_T96 l0 (ji12)).f0))∧w'.cell? ⟨(ad284.add (((ji12)).toNat * 3)).block,(ad284.add (((ji12)).toNat * 3)).off + 1,none⟩=some (.int .i64 ((rd_T96 l0 (ji12)).f1))∧w'.cell? ⟨(ad284.add (((ji12)).toNat * 3)).block,(ad284.add (((ji12)).toNat * 3)).off + 2,none⟩=some (.int .i64 ((rd_T96 l0 (ji12)).f2))) (ds:=[]) #[false,false,false,false,false,false,false,false,false,false,false,false,false,false,false,false,false,false,false,false,false,false,false,false,false,false,false,false,false,false] (zsx3_4) rfl rfl ⟨(bC3 BK285.out 0).trans rfl,(bC3 BK285.out 1).trans rfl,(bC3 BK285.out 2).trans rfl,((HB.out.cell (bL3 w _ hw289_0)).trans hw289_0),((HB.out.cell (bL3 w _ hw289_1)).trans hw289_1),((HB.out.cell (bL3 w _ hw289_2)).trans hw289_2)⟩ (fun hHeld=>?_);refine with_tabW spec_slTemplate.tab4 spec_slTemplate.bits4 (fun HT_ HW_=>?_)
             generalize w19.drew=w20 at BK285 HB hx289_0 hx289_1 hx289_2 hHeld ⊢
             refine pure_ (i:=0) (N:=some 12) (v:=?_) (a':=?_) #[true,false,false,false,false,false,false,false,false,false,false,false,false,false,false,false,false,false,false,false,false,false,false,false,false,false,false,false,false,false] rfl rfl (any_of HT_.out (zsx3_4)) (fun _ _ _ h=>h) (Or.inl ⟨by rfl,?_⟩) ?_ ?_
             rotate_left
             ·intro w'
              go_simp
              with_reducible rfl
             rotate_left
             ·simp only [Act.put,uA3,uB3,uC3,i64_w,i32_w]
              rfl
             refine take_ (i:=1) (N:=some 13) (v:=?_) (a':=?_) #[true,true,false,false,false,false,false,false,false,false,false,false,false,false,false,false,false,false,false,false,false,false,false,false,false,false,false,false,false,false] rfl rfl (take_ofW HT_.out HW_.out (zsx3_4)) (fun _ _ _ h=>h) (Or.inl ⟨by rfl,?_⟩) hHeld ?_ ?_
             rotate_left
             ·rintro w' ⟨s0,s1,s2,s3,s4,s5⟩
              go_simp
              with_reducible rfl
             rotate_left
             ·simp only [Act.put,uA3,uB3,uC3,i64_w,i32_w]
              rfl
             refine one_ (i:=2) (N:=some 14) #[true,true,true,false,false,false,false,false,false,false,false,false,false,false,false,false,false,false,false,false,false,false,false,false,false,false,false,false,false,false] rfl rfl (one_of HT_.out (zsx3_4)) (by decide) (fun K hK=>?_)
             refine goes_ Try.func70 (zsx3_4) rfl #[.int .i64 ((rd_T96 l0 x7_1).f0),.int .i64 (-2),.int .i64 2] (by rfl) rfl rfl (zsx3_5) ?_
             with_reducible refine (spec_l1In.calls ((rd_T96 l0 x7_1).f0) (-2) 2 true _ A5.out).mono ?_
             rintro e w' ⟨rfl,⟨nd,rfl⟩⟩
             refine ⟨_,rfl,?_⟩
             refine hK.out _ _ ⟨(bC3 BK285.out 0).trans rfl,(bC3 BK285.out 1).trans rfl,(bC3 BK285.out 2).trans rfl,((HB.out.cell (bL3 w _ hw289_0)).trans hw289_0),((HB.out.cell (bL3 w _ hw289_1)).trans hw289_1),((HB.out.cell (bL3 w _ hw289_2)).trans hw289_2)⟩ (fun hHeld=>?_)
             clear hK K
             refine norm_ (a':=?_) ?_ ?_
             rotate_left
             ·show Act.put _ (some 14) _=_
              simp only [Act.put,uA3,uB3,uC3,i64_w,i32_w]
              rfl
             refine pure_ (i:=3) (N:=some 15) (v:=?_) (a':=?_) #[true,true,true,true,false,false,false,false,false,false,false,false,false,false,false,false,false,false,false,false,false,false,false,false,false,false,false,false,false,false] rfl rfl (any_of HT_.out (zsx3_4)) (fun _ _ _ h=>h) (Or.inl ⟨by rfl,?_⟩) ?_ ?_
             rotate_left
             ·intro w'
              go_simp
              with_reducible rfl
             rotate_left
             ·simp only [Act.put,uA3,uB3,uC3,i64_w,i32_w]
              rfl
             refine pure_ (i:=4) (N:=some 16) (v:=?_) (a':=?_) #[true,true,true,true,true,false,false,false,false,false,false,false,false,false,false,false,false,false,false,false,false,false,false,false,false,false,false,false,false,false] rfl rfl (any_of HT_.out (zsx3_4)) (fun _ _ _ h=>h) (Or.inl ⟨by rfl,?_⟩) ?_ ?_
             rotate_left
             ·intro w'
              go_simp
              with_reducible rfl
             rotate_left
             ·simp only [Act.put,uA3,uB3,uC3,i64_w,i32_w]
              rfl
             refine pure_ (i:=5) (N:=some 17) (v:=?_) (a':=?_) #[true,true,true,true,true,true,false,false,false,false,false,false,false,false,false,false,false,false,false,false,false,false,false,false,false,false,false,false,false,false] rfl rfl (any_of HT_.out (zsx3_4)) (fun _ _ _ h=>h) (Or.inl ⟨by rfl,?_⟩) ?_ ?_
             rotate_left
             ·intro w'
              go_simp
              with_reducible rfl
             rotate_left
             ·simp only [Act.put,uA3,uB3,uC3,i64_w,i32_w]
              rfl
             refine take_ (i:=6) (N:=some 18) (v:=?_) (a':=?_) #[true,true,true,true,true,true,true,false,false,false,false,false,false,false,false,false,false,false,false,false,false,false,false,false,false,false,false,false,false,false] rfl rfl (take_ofW HT_.out HW_.out (zsx3_4)) (fun _ _ _ h=>h) (Or.inl ⟨by rfl,?_⟩) hHeld ?_ ?_
             rotate_left
             ·rintro w' ⟨s0,s1,s2,s3,s4,s5⟩
              go_simp
              with_reducible rfl
             rotate_left
             ·simp only [Act.put,uA3,uB3,uC3,i64_w,i32_w]
              rfl
             refine one_ (i:=7) (N:=some 19) #[true,true,true,true,true,true,true,true,false,false,false,false,false,false,false,false,false,false,false,false,false,false,false,false,false,false,false,false,false,false] rfl rfl (one_of HT_.out (zsx3_4)) (by decide) (fun K hK=>?_)
             refine goes_ Try.func70 (zsx3_4) rfl #[.int .i64 ((rd_T96 l0 x7_1).f1),.int .i64 (-2),.int .i64 2] (by rfl) rfl rfl (zsx3_5) ?_
             with_reducible refine (spec_l1In.calls ((rd_T96 l0 x7_1).f1) (-2) 2 true _ A7.out).mono ?_
             rintro e w' ⟨rfl,⟨nd,rfl⟩⟩
             refine ⟨_,rfl,?_⟩
             refine hK.out _ _ ⟨(bC3 BK285.out 0).trans rfl,(bC3 BK285.out 1).trans rfl,(bC3 BK285.out 2).trans rfl,((HB.out.cell (bL3 w _ hw289_0)).trans hw289_0),((HB.out.cell (bL3 w _ hw289_1)).trans hw289_1),((HB.out.cell (bL3 w _ hw289_2)).trans hw289_2)⟩ (fun hHeld=>?_)
             clear hK K
             refine norm_ (a':=?_) ?_ ?_
             rotate_left
             ·show Act.put _ (some 19) _=_
              simp only [Act.put,uA3,uB3,uC3,i64_w,i32_w]
              rfl
             refine pure_ (i:=8) (N:=some 20) (v:=?_) (a':=?_) #[true,true,true,true,true,true,true,true,true,false,false,false,false,false,false,false,false,false,false,false,false,false,false,false,false,false,false,false,false,false] rfl rfl (any_of HT_.out (zsx3_4)) (fun _ _ _ h=>h) (Or.inl ⟨by rfl,?_⟩) ?_ ?_
             rotate_left
             ·intro w'
              go_simp
              with_reducible rfl
             rotate_left
             ·simp only [Act.put,uA3,uB3,uC3,i64_w,i32_w]
              rfl
             refine pure_ (i:=9) (N:=some 21) (v:=?_) (a':=?_) #[true,true,true,true,true,true,true,true,true,true,false,false,false,false,false,false,false,false,false,false,false,false,false,false,false,false,false,false,false,false] rfl rfl (any_of HT_.out (zsx3_4)) (fun _ _ _ h=>h) (Or.inl ⟨by rfl,?_⟩) ?_ ?_
             rotate_left
             ·intro w'
              go_simp
              with_reducible rfl
             rotate_left
             ·simp only [Act.put,uA3,uB3,uC3,i64_w,i32_w]
              rfl
             refine pure_ (i:=10) (N:=some 22) (v:=?_) (a':=?_) #[true,true,true,true,true,true,true,true,true,true,true,false,false,false,false,false,false,false,false,false,false,false,false,false,false,false,false,false,false,false] rfl rfl (any_of HT_.out (zsx3_4)) (fun _ _ _ h=>h) (Or.inl ⟨by rfl,?_⟩) ?_ ?_
             rotate_left
             ·intro w'
              go_simp
              with_reducible rfl
             rotate_left
             ·simp only [Act.put,uA3,uB3,uC3,i64_w,i32_w]
              rfl
             refine pure_ (i:=11) (N:=some 23) (v:=?_) (a':=?_) #[true,true,true,true,true,true,true,true,true,true,true,true,false,false,false,false,false,false,false,false,false,false,false,false,false,false,false,false,false,false] rfl rfl (any_of HT_.out (zsx3_4)) (fun _ _ _ h=>h) (Or.inl ⟨by rfl,?_⟩) ?_ ?_
             rotate_left
             ·intro w'
              go_simp
              with_reducible rfl
             rotate_left
             ·simp only [Act.put,uA3,uB3,uC3,i64_w,i32_w]
              rfl
             refine take_ (i:=12) (N:=some 24) (v:=?_) (a':=?_) #[true,true,true,true,true,true,true,true,true,true,true,true,true,false,false,false,false,false,false,false,false,false,false,false,false,false,false,false,false,false] rfl rfl (take_ofW HT_.out HW_.out (zsx3_4)) (fun _ _ _ h=>h) (Or.inl ⟨by rfl,?_⟩) hHeld ?_ ?_
             rotate_left
             ·rintro w' ⟨s0,s1,s2,s3,s4,s5⟩
              go_simp
              with_reducible rfl
             rotate_left
             ·simp only [Act.put,uA3,uB3,uC3,i64_w,i32_w]
              rfl
             refine one_ (i:=13) (N:=some 25) #[true,true,true,true,true,true,true,true,true,true,true,true,true,true,false,false,false,false,false,false,false,false,false,false,false,false,false,false,false,false] rfl rfl (one_of HT_.out (zsx3_4)) (by decide) (fun K hK=>?_)
             refine goes_ Try.func70 (zsx3_4) rfl #[.int .i64 ((rd_T96 l0 x7_1).f2),.int .i64 1,.int .i64 2] (by rfl) rfl rfl (zsx3_5) ?_
             with_reducible refine (spec_l1In.calls ((rd_T96 l0 x7_1).f2) 1 2 true _ A9.out).mono ?_
             rintro e w' ⟨rfl,⟨nd,rfl⟩⟩
             refine ⟨_,rfl,?_⟩
             refine hK.out _ _ ⟨(bC3 BK285.out 0).trans rfl,(bC3 BK285.out 1).trans rfl,(bC3 BK285.out 2).trans rfl,((HB.out.cell (bL3 w _ hw289_0)).trans hw289_0),((HB.out.cell (bL3 w _ hw289_1)).trans hw289_1),((HB.out.cell (bL3 w _ hw289_2)).trans hw289_2)⟩ (fun hHeld=>?_)
             clear hK K
             refine norm_ (a':=?_) ?_ ?_
             rotate_left
             ·show Act.put _ (some 25) _=_
              simp only [Act.put,uA3,uB3,uC3,i64_w,i32_w]
              rfl
             refine pure_ (i:=14) (N:=some 26) (v:=?_) (a':=?_) #[true,true,true,true,true,true,true,true,true,true,true,true,true,true,true,false,false,false,false,false,false,false,false,false,false,false,false,false,false,false] rfl rfl (any_of HT_.out (zsx3_4)) (fun _ _ _ h=>h) (Or.inl ⟨by rfl,?_⟩) ?_ ?_
             rotate_left
             ·intro w'
              go_simp
              with_reducible rfl
             rotate_left
             ·simp only [Act.put,uA3,uB3,uC3,i64_w,i32_w]
              rfl
             refine pure_ (i:=15) (N:=some 27) (v:=?_) (a':=?_) #[true,true,true,true,true,true,true,true,true,true,true,true,true,true,true,true,false,false,false,false,false,false,false,false,false,false,false,false,false,false] rfl rfl (any_of HT_.out (zsx3_4)) (fun _ _ _ h=>h) (Or.inl ⟨by rfl,?_⟩) ?_ ?_
             rotate_left
             ·intro w'
              go_simp
              with_reducible rfl
             rotate_left
             ·simp only [Act.put,uA3,uB3,uC3,i64_w,i32_w]
              rfl
             refine pure_ (i:=16) (N:=some 28) (v:=?_) (a':=?_) #[true,true,true,true,true,true,true,true,true,true,true,true,true,true,true,true,true,false,false,false,false,false,false,false,false,false,false,false,false,false] rfl rfl (any_of HT_.out (zsx3_4)) (fun _ _ _ h=>h) (Or.inl ⟨by rfl,?_⟩) ?_ ?_
             rotate_left
             ·intro w'
              go_simp
              with_reducible rfl
             rotate_left
             ·simp only [Act.put,uA3,uB3,uC3,i64_w,i32_w]
              rfl
             refine pure_ (i:=17) (N:=some 29) (v:=?_) (a':=?_) #[true,true,true,true,true,true,true,true,true,true,true,true,true,true,true,true,true,true,false,false,false,false,false,false,false,false,false,false,false,false] rfl rfl (any_of HT_.out (zsx3_4)) (fun _ _ _ h=>h) (Or.inl ⟨by rfl,?_⟩) ?_ ?_
             rotate_left
             ·intro w'
              go_simp
              with_reducible rfl
             rotate_left
             ·simp only [Act.put,uA3,uB3,uC3,i64_w,i32_w]
              rfl
             refine pure_ (i:=18) (N:=some 30) (v:=?_) (a':=?_) #[true,true,true,true,true,true,true,true,true,true,true,true,true,true,true,true,true,true,true,false,false,false,false,false,false,false,false,false,false,false] rfl rfl (any_of HT_.out (zsx3_4)) (fun _ _ _ h=>h) (Or.inl ⟨by rfl,?_⟩) ?_ ?_
             rotate_left
             ·intro w'
              go_simp
              with_reducible rfl
             rotate_left
             ·simp only [Act.put,uA3,uB3,uC3,i64_w,i32_w]
              rfl
             refine pure_ (i:=19) (N:=some 31) (v:=?_) (a':=?_) #[true,true,true,true,true,true,true,true,true,true,true,true,true,true,true,true,true,true,true,true,false,false,false,false,false,false,false,false,false,false] rfl rfl (any_of HT_.out (zsx3_4)) (fun _ _ _ h=>h) (Or.inl ⟨by rfl,?_⟩) ?_ ?_
             rotate_left
             ·intro w'
              go_simp
              with_reducible rfl
             rotate_left
             ·simp only [Act.put,uA3,uB3,uC3,i64_w,i32_w]
              rfl
             refine pure_ (i:=20) (N:=some 32) (v:=?_) (a':=?_) #[true,true,true,true,true,true,true,true,true,true,true,true,true,true,true,true,true,true,true,true,true,false,false,false,false,false,false,false,false,false] rfl rfl (any_of HT_.out (zsx3_4)) (fun _ _ _ h=>h) (Or.inl ⟨by rfl,?_⟩) ?_ ?_
             rotate_left
             ·intro w'
              go_simp
              with_reducible rfl
             rotate_left
             ·simp only [Act.put,uA3,uB3,uC3,i64_w,i32_w]
              rfl
             refine pure_ (i:=21) (N:=some 33) (v:=?_) (a':=?_) #[true,true,true,true,true,true,true,true,true,true,true,true,true,true,true,true,true,true,true,true,true,true,false,false,false,false,false,false,false,false] rfl rfl (any_of HT_.out (zsx3_4)) (fun _ _ _ h=>h) (Or.inl ⟨by rfl,?_⟩) ?_ ?_
             rotate_left
             ·intro w'
              go_simp
              with_reducible rfl
             rotate_left
             ·simp only [Act.put,uA3,uB3,uC3,i64_w,i32_w]
              rfl
             refine pure_ (i:=22) (N:=some 34) (v:=?_) (a':=?_) #[true,true,true,true,true,true,true,true,true,true,true,true,true,true,true,true,true,true,true,true,true,true,true,false,false,false,false,false,false,false] rfl rfl (any_of HT_.out (zsx3_4)) (fun _ _ _ h=>h) (Or.inl ⟨by rfl,?_⟩) ?_ ?_
             rotate_left
             ·intro w'
              go_simp
              with_reducible rfl
             rotate_left
             ·simp only [Act.put,uA3,uB3,uC3,i64_w,i32_w]
              rfl
             refine pure_ (i:=23) (N:=some 35) (v:=?_) (a':=?_) #[true,true,true,true,true,true,true,true,true,true,true,true,true,true,true,true,true,true,true,true,true,true,true,true,false,false,false,false,false,false] rfl rfl (any_of HT_.out (zsx3_4)) (fun _ _ _ h=>h) (Or.inl ⟨by rfl,?_⟩) ?_ ?_
             rotate_left
             ·intro w'
              go_simp
              with_reducible rfl
             rotate_left
             ·simp only [Act.put,uA3,uB3,uC3,i64_w,i32_w]
              rfl
             refine take_ (i:=24) (N:=some 36) (v:=?_) (a':=?_) #[true,true,true,true,true,true,true,true,true,true,true,true,true,true,true,true,true,true,true,true,true,true,true,true,true,false,false,false,false,false] rfl rfl (take_ofW HT_.out HW_.out (zsx3_4)) (fun _ _ _ h=>h) (Or.inl ⟨by rfl,?_⟩) hHeld ?_ ?_
             rotate_left
             ·rintro w' ⟨s0,s1,s2,s3,s4,s5⟩
              go_simp
              with_reducible rfl
             rotate_left
             ·simp only [Act.put,uA3,uB3,uC3,i64_w,i32_w]
              rfl
             refine take_ (i:=25) (N:=some 37) (v:=?_) (a':=?_) #[true,true,true,true,true,true,true,true,true,true,true,true,true,true,true,true,true,true,true,true,true,true,true,true,true,true,false,false,false,false] rfl rfl (take_ofW HT_.out HW_.out (zsx3_4)) (fun _ _ _ h=>h) (Or.inl ⟨by rfl,?_⟩) hHeld ?_ ?_
             rotate_left
             ·rintro w' ⟨s0,s1,s2,s3,s4,s5⟩
              go_simp
              with_reducible rfl
             rotate_left
             ·simp only [Act.put,uA3,uB3,uC3,i64_w,i32_w]
              rfl
             refine one_ (i:=26) (N:=some 38) #[true,true,true,true,true,true,true,true,true,true,true,true,true,true,true,true,true,true,true,true,true,true,true,true,true,true,true,false,false,false] rfl rfl (one_of HT_.out (zsx3_4)) (by decide) (fun K hK=>?_)
             refine goes_ Try.func101 (zsx3_4) rfl #[.agg #[.int .i64 ((rd_T96 l0 (ji12)).f0),.int .i64 ((rd_T96 l0 (ji12)).f1),.int .i64 ((rd_T96 l0 (ji12)).f2)],.agg #[.int .i64 ((rd_T96 l0 x7_1).f0),.int .i64 ((rd_T96 l0 x7_1).f1),.int .i64 ((rd_T96 l0 x7_1).f2)]] (by rfl) rfl rfl (zsx3_6) ?_
             with_reducible refine (spec_slBefore.calls ((rd_T96 l0 (ji12)).f0) ((rd_T96 l0 (ji12)).f1) ((rd_T96 l0 (ji12)).f2) ((rd_T96 l0 x7_1).f0) ((rd_T96 l0 x7_1).f1) ((rd_T96 l0 x7_1).f2) true _ A15.out).mono ?_
             rintro e w21 ⟨rfl,hb⟩
             refine ⟨_,rfl,?_⟩
             have n0_:=aM3 (blk_below (g:=gb285) (o:=.cells #[.int .i64 ((rd_T96 l0 x7_1).f0),.int .i64 ((rd_T96 l0 x7_1).f1),.int .i64 ((rd_T96 l0 x7_1).f2)] 96 (0,0)) (by (with_reducible repeat (first|refine blk_drewN ?_ _|refine blk_drew ?_|refine blk_alloc ?_ _));exact BK285.out) hb)
             have n1_:=aM3 (below_step (zsx3_3) hb)
             clear BK285 HB
             have BK285:=n0_
             have HB:=n1_
             clear n0_ n1_
             (try clear hb)
             (try clear hb2)
             (try clear hk)
             (try clear hi)
             refine hK.out _ _ ⟨(bC3 BK285.out 0).trans rfl,(bC3 BK285.out 1).trans rfl,(bC3 BK285.out 2).trans rfl,((HB.out.cell (bL3 w _ hw289_0)).trans hw289_0),((HB.out.cell (bL3 w _ hw289_1)).trans hw289_1),((HB.out.cell (bL3 w _ hw289_2)).trans hw289_2)⟩ (fun hHeld=>?_)
             clear hK K
             refine norm_ (a':=?_) ?_ ?_
             rotate_left
             ·show Act.put _ (some 38) _=_
              simp only [Act.put,uA3,uB3,uC3,i64_w,i32_w]
              rfl
             refine pure_ (i:=27) (N:=some 39) (v:=?_) (a':=?_) #[true,true,true,true,true,true,true,true,true,true,true,true,true,true,true,true,true,true,true,true,true,true,true,true,true,true,true,true,false,false] rfl rfl (any_of HT_.out (zsx3_4)) (fun _ _ _ h=>h) (Or.inl ⟨by rfl,?_⟩) ?_ ?_
             rotate_left
             ·intro w'
              go_simp
              with_reducible rfl
             rotate_left
             ·simp only [Act.put,uA3,uB3,uC3,i64_w,i32_w]
              rfl
             refine pure_ (i:=28) (N:=some 40) (v:=?_) (a':=?_) #[true,true,true,true,true,true,true,true,true,true,true,true,true,true,true,true,true,true,true,true,true,true,true,true,true,true,true,true,true,false] rfl rfl (any_of HT_.out (zsx3_4)) (fun _ _ _ h=>h) (Or.inl ⟨by rfl,?_⟩) ?_ ?_
             rotate_left
             ·intro w'
              go_simp
              with_reducible rfl
             rotate_left
             ·simp only [Act.put,uA3,uB3,uC3,i64_w,i32_w]
              rfl
             refine pure_ (i:=29) (N:=some 41) (v:=?_) (a':=?_) #[true,true,true,true,true,true,true,true,true,true,true,true,true,true,true,true,true,true,true,true,true,true,true,true,true,true,true,true,true,true] rfl rfl (any_of HT_.out (zsx3_4)) (fun _ _ _ h=>h) (Or.inl ⟨by rfl,?_⟩) ?_ ?_
             rotate_left
             ·intro w'
              go_simp
              with_reducible rfl
             rotate_left
             ·simp only [Act.put,uA3,uB3,uC3,i64_w,i32_w]
              rfl
             refine done_ (done_of HT_.out (zsx3_4)) ?_
             try go_wp2
             go_roundg k1
             case measure=>have:=HK1.out;omega
             case rel=>exact ⟨(wrap64 (x7_1 + 1)),(by first|rfl|(simp;done)|(simp [*];done)),H',⟨by have:=HK1.out;omega⟩,⟨zsx3_3⟩⟩
            ·replace c16:=Bool.eq_false_iff.mpr c16
             subst c16
             have H1:(some false)=some r:=by rw [if_neg (show ¬ (false=true) by decide)] at H;exact H
             clear H
             have H:=H1
             clear H1
             obtain rfl:=Option.some.inj H
             have p284:0≤(x7_1:Int):=oD3 (zsx3_1)
             have q284:x7_1 < (l0.length:Int):=oD3 (zsx3_1)
             obtain ⟨ad284,e284,hx284_0,hx284_1,hx284_2⟩:=at_T96 HR0.out x7_1 p284 q284
             cases e284
             replace hx284_0:=(HB.out.cell (bL3 w _ hx284_0)).trans hx284_0
             replace hx284_1:=(HB.out.cell (bL3 w _ hx284_1)).trans hx284_1
             replace hx284_2:=(HB.out.cell (bL3 w _ hx284_2)).trans hx284_2
             replace p284:=eq_true p284
             replace q284:=eq_true q284
             try go_wp2_with (first|((with_reducible refine gate_dst (N:=4) rfl ?_);refine box_event ?hg (N:=4) ?hd (cs:=#[.int .i64 0,.int .i64 0,.int .i64 0]) (t:=96) ?hr ?_;(case hd=>rfl);(case hg=>rfl);(case hr=>exact zsx3_8);intro gb285 hg w22 hbox hb;have n0_:=aM3 (below_step (zsx3_0) hb);have n1_:=aM3 (hbox);have n2_:=aM3 ((zsx3_9:w.heap.size≤gb285));have n3_:=aM3 ((zsx3_9:w.heap.size≤gb285));clear HB;have HB:=n0_;have BK285:=n1_;have GW285:=n2_;have GE285:=n3_;clear n0_ n1_ n2_ n3_ hb hbox hg;have hcz23_0:w22.cell? ⟨gb285,0,none⟩=some (.int .i64 0):=(bC3 BK285.out 0).trans rfl;have hcz23_1:w22.cell? ⟨gb285,1,none⟩=some (.int .i64 0):=(bC3 BK285.out 1).trans rfl;have hcz23_2:w22.cell? ⟨gb285,2,none⟩=some (.int .i64 0):=(bC3 BK285.out 2).trans rfl;have hfz23_0:=blk_frozen BK285.out 0;have hfz23_1:=blk_frozen BK285.out 1;have hfz23_2:=blk_frozen BK285.out 2))
             have n0_:Aside0 ((((w22.setCell ⟨gb285,0,none⟩ (.int .i64 ((rd_T96 l0 x7_1).f0))).setCell ⟨gb285,1,none⟩ (.int .i64 ((rd_T96 l0 x7_1).f1))).setCell ⟨gb285,2,none⟩ (.int .i64 ((rd_T96 l0 x7_1).f2))).heap[gb285]?=some (.cells #[.int .i64 ((rd_T96 l0 x7_1).f0),.int .i64 ((rd_T96 l0 x7_1).f1),.int .i64 ((rd_T96 l0 x7_1).f2)] 96 (0,0))):=⟨zsx3_2⟩
             have n1_:Aside0 (Below w.heap.size w (((w22.setCell ⟨gb285,0,none⟩ (.int .i64 ((rd_T96 l0 x7_1).f0))).setCell ⟨gb285,1,none⟩ (.int .i64 ((rd_T96 l0 x7_1).f1))).setCell ⟨gb285,2,none⟩ (.int .i64 ((rd_T96 l0 x7_1).f2)))):=⟨zsx3_3⟩
             (try clear BK285)
             (try clear HB)
             generalize (((w22.setCell ⟨gb285,0,none⟩ (.int .i64 ((rd_T96 l0 x7_1).f0))).setCell ⟨gb285,1,none⟩ (.int .i64 ((rd_T96 l0 x7_1).f1))).setCell ⟨gb285,2,none⟩ (.int .i64 ((rd_T96 l0 x7_1).f2)))=w24 at n0_ n1_ ⊢
             have BK285:=n0_
             have HB:=n1_
             clear n0_ n1_
             have n0_:=aM3 (blk_drew BK285.out)
             have n1_:=aM3 (below_drew1 HB.out)
             clear BK285 HB
             have BK285:=n0_
             have HB:=n1_
             clear n0_ n1_
             have p289:0≤((ji12):Int):=oD3 (zsx3_1)
             have q289:(ji12) < (l0.length:Int):=oD3 (zsx3_1)
             obtain ⟨ad289,e289,hx289_0,hx289_1,hx289_2⟩:=at_T96 HR0.out (ji12) p289 q289
             have hw289_2:=hx289_2
             have hw289_1:=hx289_1
             have hw289_0:=hx289_0
             obtain rfl:ad284=ad289:=(by injection e289)
             replace hx289_0:=(HB.out.cell (bL3 w _ hx289_0)).trans hx289_0
             replace hx289_1:=(HB.out.cell (bL3 w _ hx289_1)).trans hx289_1
             replace hx289_2:=(HB.out.cell (bL3 w _ hx289_2)).trans hx289_2
             replace p289:=eq_true p289
             replace q289:=eq_true q289
             refine start_ (n:=30) (S:=fun w'=>w'.cell? ⟨gb285,0,none⟩=some (.int .i64 ((rd_T96 l0 x7_1).f0))∧w'.cell? ⟨gb285,1,none⟩=some (.int .i64 ((rd_T96 l0 x7_1).f1))∧w'.cell? ⟨gb285,2,none⟩=some (.int .i64 ((rd_T96 l0 x7_1).f2))∧w'.cell? (ad284.add (((ji12)).toNat * 3))=some (.int .i64 ((rd_T96 l0 (ji12)).f0))∧w'.cell? ⟨(ad284.add (((ji12)).toNat * 3)).block,(ad284.add (((ji12)).toNat * 3)).off + 1,none⟩=some (.int .i64 ((rd_T96 l0 (ji12)).f1))∧w'.cell? ⟨(ad284.add (((ji12)).toNat * 3)).block,(ad284.add (((ji12)).toNat * 3)).off + 2,none⟩=some (.int .i64 ((rd_T96 l0 (ji12)).f2))) (ds:=[]) #[false,false,false,false,false,false,false,false,false,false,false,false,false,false,false,false,false,false,false,false,false,false,false,false,false,false,false,false,false,false] (zsx3_4) rfl rfl ⟨(bC3 BK285.out 0).trans rfl,(bC3 BK285.out 1).trans rfl,(bC3 BK285.out 2).trans rfl,((HB.out.cell (bL3 w _ hw289_0)).trans hw289_0),((HB.out.cell (bL3 w _ hw289_1)).trans hw289_1),((HB.out.cell (bL3 w _ hw289_2)).trans hw289_2)⟩ (fun hHeld=>?_);refine with_tabW spec_slTemplate.tab4 spec_slTemplate.bits4 (fun HT_ HW_=>?_)
             generalize w24.drew=w25 at BK285 HB hx289_0 hx289_1 hx289_2 hHeld ⊢
             refine pure_ (i:=0) (N:=some 12) (v:=?_) (a':=?_) #[true,false,false,false,false,false,false,false,false,false,false,false,false,false,false,false,false,false,false,false,false,false,false,false,false,false,false,false,false,false] rfl rfl (any_of HT_.out (zsx3_4)) (fun _ _ _ h=>h) (Or.inl ⟨by rfl,?_⟩) ?_ ?_
             rotate_left
             ·intro w'
              go_simp
              with_reducible rfl
             rotate_left
             ·simp only [Act.put,uA3,uB3,uC3,i64_w,i32_w]
              rfl
             refine take_ (i:=1) (N:=some 13) (v:=?_) (a':=?_) #[true,true,false,false,false,false,false,false,false,false,false,false,false,false,false,false,false,false,false,false,false,false,false,false,false,false,false,false,false,false] rfl rfl (take_ofW HT_.out HW_.out (zsx3_4)) (fun _ _ _ h=>h) (Or.inl ⟨by rfl,?_⟩) hHeld ?_ ?_
             rotate_left
             ·rintro w' ⟨s0,s1,s2,s3,s4,s5⟩
              go_simp
              with_reducible rfl
             rotate_left
             ·simp only [Act.put,uA3,uB3,uC3,i64_w,i32_w]
              rfl
             refine one_ (i:=2) (N:=some 14) #[true,true,true,false,false,false,false,false,false,false,false,false,false,false,false,false,false,false,false,false,false,false,false,false,false,false,false,false,false,false] rfl rfl (one_of HT_.out (zsx3_4)) (by decide) (fun K hK=>?_)
             refine goes_ Try.func70 (zsx3_4) rfl #[.int .i64 ((rd_T96 l0 x7_1).f0),.int .i64 (-2),.int .i64 2] (by rfl) rfl rfl (zsx3_5) ?_
             with_reducible refine (spec_l1In.calls ((rd_T96 l0 x7_1).f0) (-2) 2 true _ A5.out).mono ?_
             rintro e w' ⟨rfl,⟨nd,rfl⟩⟩
             refine ⟨_,rfl,?_⟩
             refine hK.out _ _ ⟨(bC3 BK285.out 0).trans rfl,(bC3 BK285.out 1).trans rfl,(bC3 BK285.out 2).trans rfl,((HB.out.cell (bL3 w _ hw289_0)).trans hw289_0),((HB.out.cell (bL3 w _ hw289_1)).trans hw289_1),((HB.out.cell (bL3 w _ hw289_2)).trans hw289_2)⟩ (fun hHeld=>?_)
             clear hK K
             refine norm_ (a':=?_) ?_ ?_
             rotate_left
             ·show Act.put _ (some 14) _=_
              simp only [Act.put,uA3,uB3,uC3,i64_w,i32_w]
              rfl
             refine pure_ (i:=3) (N:=some 15) (v:=?_) (a':=?_) #[true,true,true,true,false,false,false,false,false,false,false,false,false,false,false,false,false,false,false,false,false,false,false,false,false,false,false,false,false,false] rfl rfl (any_of HT_.out (zsx3_4)) (fun _ _ _ h=>h) (Or.inl ⟨by rfl,?_⟩) ?_ ?_
             rotate_left
             ·intro w'
              go_simp
              with_reducible rfl
             rotate_left
             ·simp only [Act.put,uA3,uB3,uC3,i64_w,i32_w]
              rfl
             refine pure_ (i:=4) (N:=some 16) (v:=?_) (a':=?_) #[true,true,true,true,true,false,false,false,false,false,false,false,false,false,false,false,false,false,false,false,false,false,false,false,false,false,false,false,false,false] rfl rfl (any_of HT_.out (zsx3_4)) (fun _ _ _ h=>h) (Or.inl ⟨by rfl,?_⟩) ?_ ?_
             rotate_left
             ·intro w'
              go_simp
              with_reducible rfl
             rotate_left
             ·simp only [Act.put,uA3,uB3,uC3,i64_w,i32_w]
              rfl
             refine pure_ (i:=5) (N:=some 17) (v:=?_) (a':=?_) #[true,true,true,true,true,true,false,false,false,false,false,false,false,false,false,false,false,false,false,false,false,false,false,false,false,false,false,false,false,false] rfl rfl (any_of HT_.out (zsx3_4)) (fun _ _ _ h=>h) (Or.inl ⟨by rfl,?_⟩) ?_ ?_
             rotate_left
             ·intro w'
              go_simp
              with_reducible rfl
             rotate_left
             ·simp only [Act.put,uA3,uB3,uC3,i64_w,i32_w]
              rfl
             refine take_ (i:=6) (N:=some 18) (v:=?_) (a':=?_) #[true,true,true,true,true,true,true,false,false,false,false,false,false,false,false,false,false,false,false,false,false,false,false,false,false,false,false,false,false,false] rfl rfl (take_ofW HT_.out HW_.out (zsx3_4)) (fun _ _ _ h=>h) (Or.inl ⟨by rfl,?_⟩) hHeld ?_ ?_
             rotate_left
             ·rintro w' ⟨s0,s1,s2,s3,s4,s5⟩
              go_simp
              with_reducible rfl
             rotate_left
             ·simp only [Act.put,uA3,uB3,uC3,i64_w,i32_w]
              rfl
             refine one_ (i:=7) (N:=some 19) #[true,true,true,true,true,true,true,true,false,false,false,false,false,false,false,false,false,false,false,false,false,false,false,false,false,false,false,false,false,false] rfl rfl (one_of HT_.out (zsx3_4)) (by decide) (fun K hK=>?_)
             refine goes_ Try.func70 (zsx3_4) rfl #[.int .i64 ((rd_T96 l0 x7_1).f1),.int .i64 (-2),.int .i64 2] (by rfl) rfl rfl (zsx3_5) ?_
             with_reducible refine (spec_l1In.calls ((rd_T96 l0 x7_1).f1) (-2) 2 true _ A7.out).mono ?_
             rintro e w' ⟨rfl,⟨nd,rfl⟩⟩
             refine ⟨_,rfl,?_⟩
             refine hK.out _ _ ⟨(bC3 BK285.out 0).trans rfl,(bC3 BK285.out 1).trans rfl,(bC3 BK285.out 2).trans rfl,((HB.out.cell (bL3 w _ hw289_0)).trans hw289_0),((HB.out.cell (bL3 w _ hw289_1)).trans hw289_1),((HB.out.cell (bL3 w _ hw289_2)).trans hw289_2)⟩ (fun hHeld=>?_)
             clear hK K
             refine norm_ (a':=?_) ?_ ?_
             rotate_left
             ·show Act.put _ (some 19) _=_
              simp only [Act.put,uA3,uB3,uC3,i64_w,i32_w]
              rfl
             refine pure_ (i:=8) (N:=some 20) (v:=?_) (a':=?_) #[true,true,true,true,true,true,true,true,true,false,false,false,false,false,false,false,false,false,false,false,false,false,false,false,false,false,false,false,false,false] rfl rfl (any_of HT_.out (zsx3_4)) (fun _ _ _ h=>h) (Or.inl ⟨by rfl,?_⟩) ?_ ?_
             rotate_left
             ·intro w'
              go_simp
              with_reducible rfl
             rotate_left
             ·simp only [Act.put,uA3,uB3,uC3,i64_w,i32_w]
              rfl
             refine pure_ (i:=9) (N:=some 21) (v:=?_) (a':=?_) #[true,true,true,true,true,true,true,true,true,true,false,false,false,false,false,false,false,false,false,false,false,false,false,false,false,false,false,false,false,false] rfl rfl (any_of HT_.out (zsx3_4)) (fun _ _ _ h=>h) (Or.inl ⟨by rfl,?_⟩) ?_ ?_
             rotate_left
             ·intro w'
              go_simp
              with_reducible rfl
             rotate_left
             ·simp only [Act.put,uA3,uB3,uC3,i64_w,i32_w]
              rfl
             refine pure_ (i:=10) (N:=some 22) (v:=?_) (a':=?_) #[true,true,true,true,true,true,true,true,true,true,true,false,false,false,false,false,false,false,false,false,false,false,false,false,false,false,false,false,false,false] rfl rfl (any_of HT_.out (zsx3_4)) (fun _ _ _ h=>h) (Or.inl ⟨by rfl,?_⟩) ?_ ?_
             rotate_left
             ·intro w'
              go_simp
              with_reducible rfl
             rotate_left
             ·simp only [Act.put,uA3,uB3,uC3,i64_w,i32_w]
              rfl
             refine pure_ (i:=11) (N:=some 23) (v:=?_) (a':=?_) #[true,true,true,true,true,true,true,true,true,true,true,true,false,false,false,false,false,false,false,false,false,false,false,false,false,false,false,false,false,false] rfl rfl (any_of HT_.out (zsx3_4)) (fun _ _ _ h=>h) (Or.inl ⟨by rfl,?_⟩) ?_ ?_
             rotate_left
             ·intro w'
              go_simp
              with_reducible rfl
             rotate_left
             ·simp only [Act.put,uA3,uB3,uC3,i64_w,i32_w]
              rfl
             refine take_ (i:=12) (N:=some 24) (v:=?_) (a':=?_) #[true,true,true,true,true,true,true,true,true,true,true,true,true,false,false,false,false,false,false,false,false,false,false,false,false,false,false,false,false,false] rfl rfl (take_ofW HT_.out HW_.out (zsx3_4)) (fun _ _ _ h=>h) (Or.inl ⟨by rfl,?_⟩) hHeld ?_ ?_
             rotate_left
             ·rintro w' ⟨s0,s1,s2,s3,s4,s5⟩
              go_simp
              with_reducible rfl
             rotate_left
             ·simp only [Act.put,uA3,uB3,uC3,i64_w,i32_w]
              rfl
             refine one_ (i:=13) (N:=some 25) #[true,true,true,true,true,true,true,true,true,true,true,true,true,true,false,false,false,false,false,false,false,false,false,false,false,false,false,false,false,false] rfl rfl (one_of HT_.out (zsx3_4)) (by decide) (fun K hK=>?_)
             refine goes_ Try.func70 (zsx3_4) rfl #[.int .i64 ((rd_T96 l0 x7_1).f2),.int .i64 1,.int .i64 2] (by rfl) rfl rfl (zsx3_5) ?_
             with_reducible refine (spec_l1In.calls ((rd_T96 l0 x7_1).f2) 1 2 true _ A9.out).mono ?_
             rintro e w' ⟨rfl,⟨nd,rfl⟩⟩
             refine ⟨_,rfl,?_⟩
             refine hK.out _ _ ⟨(bC3 BK285.out 0).trans rfl,(bC3 BK285.out 1).trans rfl,(bC3 BK285.out 2).trans rfl,((HB.out.cell (bL3 w _ hw289_0)).trans hw289_0),((HB.out.cell (bL3 w _ hw289_1)).trans hw289_1),((HB.out.cell (bL3 w _ hw289_2)).trans hw289_2)⟩ (fun hHeld=>?_)
             clear hK K
             refine norm_ (a':=?_) ?_ ?_
             rotate_left
             ·show Act.put _ (some 25) _=_
              simp only [Act.put,uA3,uB3,uC3,i64_w,i32_w]
              rfl
             refine pure_ (i:=14) (N:=some 26) (v:=?_) (a':=?_) #[true,true,true,true,true,true,true,true,true,true,true,true,true,true,true,false,false,false,false,false,false,false,false,false,false,false,false,false,false,false] rfl rfl (any_of HT_.out (zsx3_4)) (fun _ _ _ h=>h) (Or.inl ⟨by rfl,?_⟩) ?_ ?_
             rotate_left
             ·intro w'
              go_simp
              with_reducible rfl
             rotate_left
             ·simp only [Act.put,uA3,uB3,uC3,i64_w,i32_w]
              rfl
             refine pure_ (i:=15) (N:=some 27) (v:=?_) (a':=?_) #[true,true,true,true,true,true,true,true,true,true,true,true,true,true,true,true,false,false,false,false,false,false,false,false,false,false,false,false,false,false] rfl rfl (any_of HT_.out (zsx3_4)) (fun _ _ _ h=>h) (Or.inl ⟨by rfl,?_⟩) ?_ ?_
             rotate_left
             ·intro w'
              go_simp
              with_reducible rfl
             rotate_left
             ·simp only [Act.put,uA3,uB3,uC3,i64_w,i32_w]
              rfl
             refine pure_ (i:=16) (N:=some 28) (v:=?_) (a':=?_) #[true,true,true,true,true,true,true,true,true,true,true,true,true,true,true,true,true,false,false,false,false,false,false,false,false,false,false,false,false,false] rfl rfl (any_of HT_.out (zsx3_4)) (fun _ _ _ h=>h) (Or.inl ⟨by rfl,?_⟩) ?_ ?_
             rotate_left
             ·intro w'
              go_simp
              with_reducible rfl
             rotate_left
             ·simp only [Act.put,uA3,uB3,uC3,i64_w,i32_w]
              rfl
             refine pure_ (i:=17) (N:=some 29) (v:=?_) (a':=?_) #[true,true,true,true,true,true,true,true,true,true,true,true,true,true,true,true,true,true,false,false,false,false,false,false,false,false,false,false,false,false] rfl rfl (any_of HT_.out (zsx3_4)) (fun _ _ _ h=>h) (Or.inl ⟨by rfl,?_⟩) ?_ ?_
             rotate_left
             ·intro w'
              go_simp
              with_reducible rfl
             rotate_left
             ·simp only [Act.put,uA3,uB3,uC3,i64_w,i32_w]
              rfl
             refine pure_ (i:=18) (N:=some 30) (v:=?_) (a':=?_) #[true,true,true,true,true,true,true,true,true,true,true,true,true,true,true,true,true,true,true,false,false,false,false,false,false,false,false,false,false,false] rfl rfl (any_of HT_.out (zsx3_4)) (fun _ _ _ h=>h) (Or.inl ⟨by rfl,?_⟩) ?_ ?_
             rotate_left
             ·intro w'
              go_simp
              with_reducible rfl
             rotate_left
             ·simp only [Act.put,uA3,uB3,uC3,i64_w,i32_w]
              rfl
             refine pure_ (i:=19) (N:=some 31) (v:=?_) (a':=?_) #[true,true,true,true,true,true,true,true,true,true,true,true,true,true,true,true,true,true,true,true,false,false,false,false,false,false,false,false,false,false] rfl rfl (any_of HT_.out (zsx3_4)) (fun _ _ _ h=>h) (Or.inl ⟨by rfl,?_⟩) ?_ ?_
             rotate_left
             ·intro w'
              go_simp
              with_reducible rfl
             rotate_left
             ·simp only [Act.put,uA3,uB3,uC3,i64_w,i32_w]
              rfl
             refine pure_ (i:=20) (N:=some 32) (v:=?_) (a':=?_) #[true,true,true,true,true,true,true,true,true,true,true,true,true,true,true,true,true,true,true,true,true,false,false,false,false,false,false,false,false,false] rfl rfl (any_of HT_.out (zsx3_4)) (fun _ _ _ h=>h) (Or.inl ⟨by rfl,?_⟩) ?_ ?_
             rotate_left
             ·intro w'
              go_simp
              with_reducible rfl
             rotate_left
             ·simp only [Act.put,uA3,uB3,uC3,i64_w,i32_w]
              rfl
             refine pure_ (i:=21) (N:=some 33) (v:=?_) (a':=?_) #[true,true,true,true,true,true,true,true,true,true,true,true,true,true,true,true,true,true,true,true,true,true,false,false,false,false,false,false,false,false] rfl rfl (any_of HT_.out (zsx3_4)) (fun _ _ _ h=>h) (Or.inl ⟨by rfl,?_⟩) ?_ ?_
             rotate_left
             ·intro w'
              go_simp
              with_reducible rfl
             rotate_left
             ·simp only [Act.put,uA3,uB3,uC3,i64_w,i32_w]
              rfl
             refine pure_ (i:=22) (N:=some 34) (v:=?_) (a':=?_) #[true,true,true,true,true,true,true,true,true,true,true,true,true,true,true,true,true,true,true,true,true,true,true,false,false,false,false,false,false,false] rfl rfl (any_of HT_.out (zsx3_4)) (fun _ _ _ h=>h) (Or.inl ⟨by rfl,?_⟩) ?_ ?_
             rotate_left
             ·intro w'
              go_simp
              with_reducible rfl
             rotate_left
             ·simp only [Act.put,uA3,uB3,uC3,i64_w,i32_w]
              rfl
             refine pure_ (i:=23) (N:=some 35) (v:=?_) (a':=?_) #[true,true,true,true,true,true,true,true,true,true,true,true,true,true,true,true,true,true,true,true,true,true,true,true,false,false,false,false,false,false] rfl rfl (any_of HT_.out (zsx3_4)) (fun _ _ _ h=>h) (Or.inl ⟨by rfl,?_⟩) ?_ ?_
             rotate_left
             ·intro w'
              go_simp
              with_reducible rfl
             rotate_left
             ·simp only [Act.put,uA3,uB3,uC3,i64_w,i32_w]
              rfl
             refine take_ (i:=24) (N:=some 36) (v:=?_) (a':=?_) #[true,true,true,true,true,true,true,true,true,true,true,true,true,true,true,true,true,true,true,true,true,true,true,true,true,false,false,false,false,false] rfl rfl (take_ofW HT_.out HW_.out (zsx3_4)) (fun _ _ _ h=>h) (Or.inl ⟨by rfl,?_⟩) hHeld ?_ ?_
             rotate_left
             ·rintro w' ⟨s0,s1,s2,s3,s4,s5⟩
              go_simp
              with_reducible rfl
             rotate_left
             ·simp only [Act.put,uA3,uB3,uC3,i64_w,i32_w]
              rfl
             refine take_ (i:=25) (N:=some 37) (v:=?_) (a':=?_) #[true,true,true,true,true,true,true,true,true,true,true,true,true,true,true,true,true,true,true,true,true,true,true,true,true,true,false,false,false,false] rfl rfl (take_ofW HT_.out HW_.out (zsx3_4)) (fun _ _ _ h=>h) (Or.inl ⟨by rfl,?_⟩) hHeld ?_ ?_
             rotate_left
             ·rintro w' ⟨s0,s1,s2,s3,s4,s5⟩
              go_simp
              with_reducible rfl
             rotate_left
             ·simp only [Act.put,uA3,uB3,uC3,i64_w,i32_w]
              rfl
             refine one_ (i:=26) (N:=some 38) #[true,true,true,true,true,true,true,true,true,true,true,true,true,true,true,true,true,true,true,true,true,true,true,true,true,true,true,false,false,false] rfl rfl (one_of HT_.out (zsx3_4)) (by decide) (fun K hK=>?_)
             refine goes_ Try.func101 (zsx3_4) rfl #[.agg #[.int .i64 ((rd_T96 l0 (ji12)).f0),.int .i64 ((rd_T96 l0 (ji12)).f1),.int .i64 ((rd_T96 l0 (ji12)).f2)],.agg #[.int .i64 ((rd_T96 l0 x7_1).f0),.int .i64 ((rd_T96 l0 x7_1).f1),.int .i64 ((rd_T96 l0 x7_1).f2)]] (by rfl) rfl rfl (zsx3_6) ?_
             with_reducible refine (spec_slBefore.calls ((rd_T96 l0 (ji12)).f0) ((rd_T96 l0 (ji12)).f1) ((rd_T96 l0 (ji12)).f2) ((rd_T96 l0 x7_1).f0) ((rd_T96 l0 x7_1).f1) ((rd_T96 l0 x7_1).f2) false _ A15.out).mono ?_
             rintro e w26 ⟨rfl,hb⟩
             refine ⟨_,rfl,?_⟩
             have n0_:=aM3 (blk_below (g:=gb285) (o:=.cells #[.int .i64 ((rd_T96 l0 x7_1).f0),.int .i64 ((rd_T96 l0 x7_1).f1),.int .i64 ((rd_T96 l0 x7_1).f2)] 96 (0,0)) (by (with_reducible repeat (first|refine blk_drewN ?_ _|refine blk_drew ?_|refine blk_alloc ?_ _));exact BK285.out) hb)
             have n1_:=aM3 (below_step (zsx3_3) hb)
             clear BK285 HB
             have BK285:=n0_
             have HB:=n1_
             clear n0_ n1_
             (try clear hb)
             (try clear hb2)
             (try clear hk)
             (try clear hi)
             refine hK.out _ _ ⟨(bC3 BK285.out 0).trans rfl,(bC3 BK285.out 1).trans rfl,(bC3 BK285.out 2).trans rfl,((HB.out.cell (bL3 w _ hw289_0)).trans hw289_0),((HB.out.cell (bL3 w _ hw289_1)).trans hw289_1),((HB.out.cell (bL3 w _ hw289_2)).trans hw289_2)⟩ (fun hHeld=>?_)
             clear hK K
             refine norm_ (a':=?_) ?_ ?_
             rotate_left
             ·show Act.put _ (some 38) _=_
              simp only [Act.put,uA3,uB3,uC3,i64_w,i32_w]
              rfl
             refine pure_ (i:=27) (N:=some 39) (v:=?_) (a':=?_) #[true,true,true,true,true,true,true,true,true,true,true,true,true,true,true,true,true,true,true,true,true,true,true,true,true,true,true,true,false,false] rfl rfl (any_of HT_.out (zsx3_4)) (fun _ _ _ h=>h) (Or.inl ⟨by rfl,?_⟩) ?_ ?_
             rotate_left
             ·intro w'
              go_simp
              with_reducible rfl
             rotate_left
             ·simp only [Act.put,uA3,uB3,uC3,i64_w,i32_w]
              rfl
             refine pure_ (i:=28) (N:=some 40) (v:=?_) (a':=?_) #[true,true,true,true,true,true,true,true,true,true,true,true,true,true,true,true,true,true,true,true,true,true,true,true,true,true,true,true,true,false] rfl rfl (any_of HT_.out (zsx3_4)) (fun _ _ _ h=>h) (Or.inl ⟨by rfl,?_⟩) ?_ ?_
             rotate_left
             ·intro w'
              go_simp
              with_reducible rfl
             rotate_left
             ·simp only [Act.put,uA3,uB3,uC3,i64_w,i32_w]
              rfl
             refine pure_ (i:=29) (N:=some 41) (v:=?_) (a':=?_) #[true,true,true,true,true,true,true,true,true,true,true,true,true,true,true,true,true,true,true,true,true,true,true,true,true,true,true,true,true,true] rfl rfl (any_of HT_.out (zsx3_4)) (fun _ _ _ h=>h) (Or.inl ⟨by rfl,?_⟩) ?_ ?_
             rotate_left
             ·intro w'
              go_simp
              with_reducible rfl
             rotate_left
             ·simp only [Act.put,uA3,uB3,uC3,i64_w,i32_w]
              rfl
             refine done_ (done_of HT_.out (zsx3_4)) ?_
             try go_wp2
             go_ret
             exact ⟨by first|rfl|(simp [errW_none,errW_some] <;> rfl)|(simp only [← hji12];first|rfl|(simp [errW_none,errW_some] <;> rfl))|(simp [*,errW_none,errW_some] <;> rfl),zsx3_3⟩
           ·rw [if_neg c14] at H
            exact absurd H (by simp)
          ·rw [if_neg c13] at H
           exact absurd H (by simp)
         ·rw [if_neg c11] at H
          have c11b0:decide (0 < x7_1)=false:=decide_eq_false c11
          clear c11
          have H':=aM3 H
          clear H
          have p284:0≤(x7_1:Int):=oD3 (zsx3_1)
          have q284:x7_1 < (l0.length:Int):=oD3 (zsx3_1)
          obtain ⟨ad284,e284,hx284_0,hx284_1,hx284_2⟩:=at_T96 HR0.out x7_1 p284 q284
          cases e284
          replace hx284_0:=(HB.out.cell (bL3 w _ hx284_0)).trans hx284_0
          replace hx284_1:=(HB.out.cell (bL3 w _ hx284_1)).trans hx284_1
          replace hx284_2:=(HB.out.cell (bL3 w _ hx284_2)).trans hx284_2
          replace p284:=eq_true p284
          replace q284:=eq_true q284
          try go_wp2_with (first|((with_reducible refine gate_dst (N:=4) rfl ?_);refine box_event ?hg (N:=4) ?hd (cs:=#[.int .i64 0,.int .i64 0,.int .i64 0]) (t:=96) ?hr ?_;(case hd=>rfl);(case hg=>rfl);(case hr=>exact zsx3_8);intro gb285 hg w27 hbox hb;have n0_:=aM3 (below_step (zsx3_0) hb);have n1_:=aM3 (hbox);have n2_:=aM3 ((zsx3_9:w.heap.size≤gb285));have n3_:=aM3 ((zsx3_9:w.heap.size≤gb285));clear HB;have HB:=n0_;have BK285:=n1_;have GW285:=n2_;have GE285:=n3_;clear n0_ n1_ n2_ n3_ hb hbox hg;have hcz28_0:w27.cell? ⟨gb285,0,none⟩=some (.int .i64 0):=(bC3 BK285.out 0).trans rfl;have hcz28_1:w27.cell? ⟨gb285,1,none⟩=some (.int .i64 0):=(bC3 BK285.out 1).trans rfl;have hcz28_2:w27.cell? ⟨gb285,2,none⟩=some (.int .i64 0):=(bC3 BK285.out 2).trans rfl;have hfz28_0:=blk_frozen BK285.out 0;have hfz28_1:=blk_frozen BK285.out 1;have hfz28_2:=blk_frozen BK285.out 2))
          have n0_:Aside0 ((((w27.setCell ⟨gb285,0,none⟩ (.int .i64 ((rd_T96 l0 x7_1).f0))).setCell ⟨gb285,1,none⟩ (.int .i64 ((rd_T96 l0 x7_1).f1))).setCell ⟨gb285,2,none⟩ (.int .i64 ((rd_T96 l0 x7_1).f2))).heap[gb285]?=some (.cells #[.int .i64 ((rd_T96 l0 x7_1).f0),.int .i64 ((rd_T96 l0 x7_1).f1),.int .i64 ((rd_T96 l0 x7_1).f2)] 96 (0,0))):=⟨zsx3_2⟩
          have n1_:Aside0 (Below w.heap.size w (((w27.setCell ⟨gb285,0,none⟩ (.int .i64 ((rd_T96 l0 x7_1).f0))).setCell ⟨gb285,1,none⟩ (.int .i64 ((rd_T96 l0 x7_1).f1))).setCell ⟨gb285,2,none⟩ (.int .i64 ((rd_T96 l0 x7_1).f2)))):=⟨zsx3_3⟩
          (try clear BK285)
          (try clear HB)
          generalize (((w27.setCell ⟨gb285,0,none⟩ (.int .i64 ((rd_T96 l0 x7_1).f0))).setCell ⟨gb285,1,none⟩ (.int .i64 ((rd_T96 l0 x7_1).f1))).setCell ⟨gb285,2,none⟩ (.int .i64 ((rd_T96 l0 x7_1).f2)))=w29 at n0_ n1_ ⊢
          have BK285:=n0_
          have HB:=n1_
          clear n0_ n1_
          have n0_:=aM3 (blk_drew BK285.out)
          have n1_:=aM3 (below_drew1 HB.out)
          clear BK285 HB
          have BK285:=n0_
          have HB:=n1_
          clear n0_ n1_
          refine start_ (n:=30) (S:=fun w'=>w'.cell? ⟨gb285,0,none⟩=some (.int .i64 ((rd_T96 l0 x7_1).f0))∧w'.cell? ⟨gb285,1,none⟩=some (.int .i64 ((rd_T96 l0 x7_1).f1))∧w'.cell? ⟨gb285,2,none⟩=some (.int .i64 ((rd_T96 l0 x7_1).f2))) (ds:=[]) #[false,false,false,false,false,false,false,false,false,false,false,false,false,false,false,false,false,false,false,false,false,false,false,false,false,false,false,false,false,false] (zsx3_4) rfl rfl ⟨(bC3 BK285.out 0).trans rfl,(bC3 BK285.out 1).trans rfl,(bC3 BK285.out 2).trans rfl⟩ (fun hHeld=>?_);refine with_tabW spec_slTemplate.tab4 spec_slTemplate.bits4 (fun HT_ HW_=>?_)
          generalize w29.drew=w30 at BK285 HB hHeld ⊢
          refine pure_ (i:=0) (N:=some 12) (v:=?_) (a':=?_) #[true,false,false,false,false,false,false,false,false,false,false,false,false,false,false,false,false,false,false,false,false,false,false,false,false,false,false,false,false,false] rfl rfl (any_of HT_.out (zsx3_4)) (fun _ _ _ h=>h) (Or.inl ⟨by rfl,?_⟩) ?_ ?_
          rotate_left
          ·intro w'
           go_simp
           with_reducible rfl
          rotate_left
          ·simp only [Act.put,uA3,uB3,uC3,i64_w,i32_w]
           rfl
          refine take_ (i:=1) (N:=some 13) (v:=?_) (a':=?_) #[true,true,false,false,false,false,false,false,false,false,false,false,false,false,false,false,false,false,false,false,false,false,false,false,false,false,false,false,false,false] rfl rfl (take_ofW HT_.out HW_.out (zsx3_4)) (fun _ _ _ h=>h) (Or.inl ⟨by rfl,?_⟩) hHeld ?_ ?_
          rotate_left
          ·rintro w' ⟨s0,s1,s2⟩
           go_simp
           with_reducible rfl
          rotate_left
          ·simp only [Act.put,uA3,uB3,uC3,i64_w,i32_w]
           rfl
          refine one_ (i:=2) (N:=some 14) #[true,true,true,false,false,false,false,false,false,false,false,false,false,false,false,false,false,false,false,false,false,false,false,false,false,false,false,false,false,false] rfl rfl (one_of HT_.out (zsx3_4)) (by decide) (fun K hK=>?_)
          refine goes_ Try.func70 (zsx3_4) rfl #[.int .i64 ((rd_T96 l0 x7_1).f0),.int .i64 (-2),.int .i64 2] (by rfl) rfl rfl (zsx3_5) ?_
          with_reducible refine (spec_l1In.calls ((rd_T96 l0 x7_1).f0) (-2) 2 true _ A5.out).mono ?_
          rintro e w' ⟨rfl,⟨nd,rfl⟩⟩
          refine ⟨_,rfl,?_⟩
          refine hK.out _ _ ⟨(bC3 BK285.out 0).trans rfl,(bC3 BK285.out 1).trans rfl,(bC3 BK285.out 2).trans rfl⟩ (fun hHeld=>?_)
          clear hK K
          refine norm_ (a':=?_) ?_ ?_
          rotate_left
          ·show Act.put _ (some 14) _=_
           simp only [Act.put,uA3,uB3,uC3,i64_w,i32_w]
           rfl
          refine pure_ (i:=3) (N:=some 15) (v:=?_) (a':=?_) #[true,true,true,true,false,false,false,false,false,false,false,false,false,false,false,false,false,false,false,false,false,false,false,false,false,false,false,false,false,false] rfl rfl (any_of HT_.out (zsx3_4)) (fun _ _ _ h=>h) (Or.inl ⟨by rfl,?_⟩) ?_ ?_
          rotate_left
          ·intro w'
           go_simp
           with_reducible rfl
          rotate_left
          ·simp only [Act.put,uA3,uB3,uC3,i64_w,i32_w]
           rfl
          refine pure_ (i:=4) (N:=some 16) (v:=?_) (a':=?_) #[true,true,true,true,true,false,false,false,false,false,false,false,false,false,false,false,false,false,false,false,false,false,false,false,false,false,false,false,false,false] rfl rfl (any_of HT_.out (zsx3_4)) (fun _ _ _ h=>h) (Or.inl ⟨by rfl,?_⟩) ?_ ?_
          rotate_left
          ·intro w'
           go_simp
           with_reducible rfl
          rotate_left
          ·simp only [Act.put,uA3,uB3,uC3,i64_w,i32_w]
           rfl
          refine pure_ (i:=5) (N:=some 17) (v:=?_) (a':=?_) #[true,true,true,true,true,true,false,false,false,false,false,false,false,false,false,false,false,false,false,false,false,false,false,false,false,false,false,false,false,false] rfl rfl (any_of HT_.out (zsx3_4)) (fun _ _ _ h=>h) (Or.inl ⟨by rfl,?_⟩) ?_ ?_
          rotate_left
          ·intro w'
           go_simp
           with_reducible rfl
          rotate_left
          ·simp only [Act.put,uA3,uB3,uC3,i64_w,i32_w]
           rfl
          refine take_ (i:=6) (N:=some 18) (v:=?_) (a':=?_) #[true,true,true,true,true,true,true,false,false,false,false,false,false,false,false,false,false,false,false,false,false,false,false,false,false,false,false,false,false,false] rfl rfl (take_ofW HT_.out HW_.out (zsx3_4)) (fun _ _ _ h=>h) (Or.inl ⟨by rfl,?_⟩) hHeld ?_ ?_
          rotate_left
          ·rintro w' ⟨s0,s1,s2⟩
           go_simp
           with_reducible rfl
          rotate_left
          ·simp only [Act.put,uA3,uB3,uC3,i64_w,i32_w]
           rfl
          refine one_ (i:=7) (N:=some 19) #[true,true,true,true,true,true,true,true,false,false,false,false,false,false,false,false,false,false,false,false,false,false,false,false,false,false,false,false,false,false] rfl rfl (one_of HT_.out (zsx3_4)) (by decide) (fun K hK=>?_)
          refine goes_ Try.func70 (zsx3_4) rfl #[.int .i64 ((rd_T96 l0 x7_1).f1),.int .i64 (-2),.int .i64 2] (by rfl) rfl rfl (zsx3_5) ?_
          with_reducible refine (spec_l1In.calls ((rd_T96 l0 x7_1).f1) (-2) 2 true _ A7.out).mono ?_
          rintro e w' ⟨rfl,⟨nd,rfl⟩⟩
          refine ⟨_,rfl,?_⟩
          refine hK.out _ _ ⟨(bC3 BK285.out 0).trans rfl,(bC3 BK285.out 1).trans rfl,(bC3 BK285.out 2).trans rfl⟩ (fun hHeld=>?_)
          clear hK K
          refine norm_ (a':=?_) ?_ ?_
          rotate_left
          ·show Act.put _ (some 19) _=_
           simp only [Act.put,uA3,uB3,uC3,i64_w,i32_w]
           rfl
          refine pure_ (i:=8) (N:=some 20) (v:=?_) (a':=?_) #[true,true,true,true,true,true,true,true,true,false,false,false,false,false,false,false,false,false,false,false,false,false,false,false,false,false,false,false,false,false] rfl rfl (any_of HT_.out (zsx3_4)) (fun _ _ _ h=>h) (Or.inl ⟨by rfl,?_⟩) ?_ ?_
          rotate_left
          ·intro w'
           go_simp
           with_reducible rfl
          rotate_left
          ·simp only [Act.put,uA3,uB3,uC3,i64_w,i32_w]
           rfl
          refine pure_ (i:=9) (N:=some 21) (v:=?_) (a':=?_) #[true,true,true,true,true,true,true,true,true,true,false,false,false,false,false,false,false,false,false,false,false,false,false,false,false,false,false,false,false,false] rfl rfl (any_of HT_.out (zsx3_4)) (fun _ _ _ h=>h) (Or.inl ⟨by rfl,?_⟩) ?_ ?_
          rotate_left
          ·intro w'
           go_simp
           with_reducible rfl
          rotate_left
          ·simp only [Act.put,uA3,uB3,uC3,i64_w,i32_w]
           rfl
          refine pure_ (i:=10) (N:=some 22) (v:=?_) (a':=?_) #[true,true,true,true,true,true,true,true,true,true,true,false,false,false,false,false,false,false,false,false,false,false,false,false,false,false,false,false,false,false] rfl rfl (any_of HT_.out (zsx3_4)) (fun _ _ _ h=>h) (Or.inl ⟨by rfl,?_⟩) ?_ ?_
          rotate_left
          ·intro w'
           go_simp
           with_reducible rfl
          rotate_left
          ·simp only [Act.put,uA3,uB3,uC3,i64_w,i32_w]
           rfl
          refine pure_ (i:=11) (N:=some 23) (v:=?_) (a':=?_) #[true,true,true,true,true,true,true,true,true,true,true,true,false,false,false,false,false,false,false,false,false,false,false,false,false,false,false,false,false,false] rfl rfl (any_of HT_.out (zsx3_4)) (fun _ _ _ h=>h) (Or.inl ⟨by rfl,?_⟩) ?_ ?_
          rotate_left
          ·intro w'
           go_simp
           with_reducible rfl
          rotate_left
          ·simp only [Act.put,uA3,uB3,uC3,i64_w,i32_w]
           rfl
          refine take_ (i:=12) (N:=some 24) (v:=?_) (a':=?_) #[true,true,true,true,true,true,true,true,true,true,true,true,true,false,false,false,false,false,false,false,false,false,false,false,false,false,false,false,false,false] rfl rfl (take_ofW HT_.out HW_.out (zsx3_4)) (fun _ _ _ h=>h) (Or.inl ⟨by rfl,?_⟩) hHeld ?_ ?_
          rotate_left
          ·rintro w' ⟨s0,s1,s2⟩
           go_simp
           with_reducible rfl
          rotate_left
          ·simp only [Act.put,uA3,uB3,uC3,i64_w,i32_w]
           rfl
          refine one_ (i:=13) (N:=some 25) #[true,true,true,true,true,true,true,true,true,true,true,true,true,true,false,false,false,false,false,false,false,false,false,false,false,false,false,false,false,false] rfl rfl (one_of HT_.out (zsx3_4)) (by decide) (fun K hK=>?_)
          refine goes_ Try.func70 (zsx3_4) rfl #[.int .i64 ((rd_T96 l0 x7_1).f2),.int .i64 1,.int .i64 2] (by rfl) rfl rfl (zsx3_5) ?_
          with_reducible refine (spec_l1In.calls ((rd_T96 l0 x7_1).f2) 1 2 true _ A9.out).mono ?_
          rintro e w' ⟨rfl,⟨nd,rfl⟩⟩
          refine ⟨_,rfl,?_⟩
          refine hK.out _ _ ⟨(bC3 BK285.out 0).trans rfl,(bC3 BK285.out 1).trans rfl,(bC3 BK285.out 2).trans rfl⟩ (fun hHeld=>?_)
          clear hK K
          refine norm_ (a':=?_) ?_ ?_
          rotate_left
          ·show Act.put _ (some 25) _=_
           simp only [Act.put,uA3,uB3,uC3,i64_w,i32_w]
           rfl
          refine pure_ (i:=14) (N:=some 26) (v:=?_) (a':=?_) #[true,true,true,true,true,true,true,true,true,true,true,true,true,true,true,false,false,false,false,false,false,false,false,false,false,false,false,false,false,false] rfl rfl (any_of HT_.out (zsx3_4)) (fun _ _ _ h=>h) (Or.inl ⟨by rfl,?_⟩) ?_ ?_
          rotate_left
          ·intro w'
           go_simp
           with_reducible rfl
          rotate_left
          ·simp only [Act.put,uA3,uB3,uC3,i64_w,i32_w]
           rfl
          refine pure_ (i:=15) (N:=some 27) (v:=?_) (a':=?_) #[true,true,true,true,true,true,true,true,true,true,true,true,true,true,true,true,false,false,false,false,false,false,false,false,false,false,false,false,false,false] rfl rfl (any_of HT_.out (zsx3_4)) (fun _ _ _ h=>h) (Or.inl ⟨by rfl,?_⟩) ?_ ?_
          rotate_left
          ·intro w'
           go_simp
           with_reducible rfl
          rotate_left
          ·simp only [Act.put,uA3,uB3,uC3,i64_w,i32_w]
           rfl
          refine pure_ (i:=16) (N:=some 28) (v:=?_) (a':=?_) #[true,true,true,true,true,true,true,true,true,true,true,true,true,true,true,true,true,false,false,false,false,false,false,false,false,false,false,false,false,false] rfl rfl (any_of HT_.out (zsx3_4)) (fun _ _ _ h=>h) (Or.inl ⟨by rfl,?_⟩) ?_ ?_
          rotate_left
          ·intro w'
           go_simp
           with_reducible rfl
          rotate_left
          ·simp only [Act.put,uA3,uB3,uC3,i64_w,i32_w]
           rfl
          refine pure_ (i:=17) (N:=some 29) (v:=?_) (a':=?_) #[true,true,true,true,true,true,true,true,true,true,true,true,true,true,true,true,true,true,false,false,false,false,false,false,false,false,false,false,false,false] rfl rfl (any_of HT_.out (zsx3_4)) (fun _ _ _ h=>h) (Or.inl ⟨by rfl,?_⟩) ?_ ?_
          rotate_left
          ·intro w'
           go_simp
           with_reducible rfl
          rotate_left
          ·simp only [Act.put,uA3,uB3,uC3,i64_w,i32_w]
           rfl
          refine pure_ (i:=18) (N:=some 30) (v:=?_) (a':=?_) #[true,true,true,true,true,true,true,true,true,true,true,true,true,true,true,true,true,true,true,false,false,false,false,false,false,false,false,false,false,false] rfl rfl (any_of HT_.out (zsx3_4)) (fun _ _ _ h=>h) (Or.inl ⟨by rfl,?_⟩) ?_ ?_
          rotate_left
          ·intro w'
           go_simp
           with_reducible rfl
          rotate_left
          ·simp only [Act.put,uA3,uB3,uC3,i64_w,i32_w]
           rfl
          refine pure_ (i:=19) (N:=some 31) (v:=?_) (a':=?_) #[true,true,true,true,true,true,true,true,true,true,true,true,true,true,true,true,true,true,true,true,false,false,false,false,false,false,false,false,false,false] rfl rfl (any_of HT_.out (zsx3_4)) (fun _ _ _ h=>h) (Or.inl ⟨by rfl,?_⟩) ?_ ?_
          rotate_left
          ·intro w'
           go_simp
           with_reducible rfl
          rotate_left
          ·simp only [Act.put,uA3,uB3,uC3,i64_w,i32_w]
           rfl
          refine pure_ (i:=20) (N:=some 32) (v:=undef) (a':=?_) #[true,true,true,true,true,true,true,true,true,true,true,true,true,true,true,true,true,true,true,true,true,false,false,false,false,false,false,false,false,false] rfl rfl (any_of HT_.out (zsx3_4)) (fun _ _ _ h=>h) (Or.inr ⟨by rfl,rfl⟩) ?_ ?_
          rotate_left
          ·simp only [Act.put,uA3,uB3,uC3,i64_w,i32_w]
           rfl
          refine pure_ (i:=21) (N:=some 33) (v:=undef) (a':=?_) #[true,true,true,true,true,true,true,true,true,true,true,true,true,true,true,true,true,true,true,true,true,true,false,false,false,false,false,false,false,false] rfl rfl (any_of HT_.out (zsx3_4)) (fun _ _ _ h=>h) (Or.inr ⟨by rfl,rfl⟩) ?_ ?_
          rotate_left
          ·simp only [Act.put,uA3,uB3,uC3,i64_w,i32_w]
           rfl
          refine pure_ (i:=22) (N:=some 34) (v:=undef) (a':=?_) #[true,true,true,true,true,true,true,true,true,true,true,true,true,true,true,true,true,true,true,true,true,true,true,false,false,false,false,false,false,false] rfl rfl (any_of HT_.out (zsx3_4)) (fun _ _ _ h=>h) (Or.inr ⟨by rfl,rfl⟩) ?_ ?_
          rotate_left
          ·simp only [Act.put,uA3,uB3,uC3,i64_w,i32_w]
           rfl
          refine pure_ (i:=23) (N:=some 35) (v:=undef) (a':=?_) #[true,true,true,true,true,true,true,true,true,true,true,true,true,true,true,true,true,true,true,true,true,true,true,true,false,false,false,false,false,false] rfl rfl (any_of HT_.out (zsx3_4)) (fun _ _ _ h=>h) (Or.inr ⟨by rfl,rfl⟩) ?_ ?_
          rotate_left
          ·simp only [Act.put,uA3,uB3,uC3,i64_w,i32_w]
           rfl
          refine pure_ (i:=24) (N:=some 36) (v:=undef) (a':=?_) #[true,true,true,true,true,true,true,true,true,true,true,true,true,true,true,true,true,true,true,true,true,true,true,true,true,false,false,false,false,false] rfl rfl (any_of HT_.out (zsx3_4)) (fun _ _ _ h=>h) (Or.inr ⟨by rfl,rfl⟩) ?_ ?_
          rotate_left
          ·simp only [Act.put,uA3,uB3,uC3,i64_w,i32_w]
           rfl
          refine pure_ (i:=25) (N:=some 37) (v:=undef) (a':=?_) #[true,true,true,true,true,true,true,true,true,true,true,true,true,true,true,true,true,true,true,true,true,true,true,true,true,true,false,false,false,false] rfl rfl (any_of HT_.out (zsx3_4)) (fun _ _ _ h=>h) (Or.inr ⟨by rfl,rfl⟩) ?_ ?_
          rotate_left
          ·simp only [Act.put,uA3,uB3,uC3,i64_w,i32_w]
           rfl
          refine pure_ (i:=26) (N:=some 38) (v:=undef) (a':=?_) #[true,true,true,true,true,true,true,true,true,true,true,true,true,true,true,true,true,true,true,true,true,true,true,true,true,true,true,false,false,false] rfl rfl (any_of HT_.out (zsx3_4)) (fun _ _ _ h=>h) (Or.inr ⟨by rfl,rfl⟩) ?_ ?_
          rotate_left
          ·simp only [Act.put,uA3,uB3,uC3,i64_w,i32_w]
           rfl
          refine pure_ (i:=27) (N:=some 39) (v:=undef) (a':=?_) #[true,true,true,true,true,true,true,true,true,true,true,true,true,true,true,true,true,true,true,true,true,true,true,true,true,true,true,true,false,false] rfl rfl (any_of HT_.out (zsx3_4)) (fun _ _ _ h=>h) (Or.inr ⟨by rfl,rfl⟩) ?_ ?_
          rotate_left
          ·simp only [Act.put,uA3,uB3,uC3,i64_w,i32_w]
           rfl
          refine pure_ (i:=28) (N:=some 40) (v:=?_) (a':=?_) #[true,true,true,true,true,true,true,true,true,true,true,true,true,true,true,true,true,true,true,true,true,true,true,true,true,true,true,true,true,false] rfl rfl (any_of HT_.out (zsx3_4)) (fun _ _ _ h=>h) (Or.inl ⟨by rfl,?_⟩) ?_ ?_
          rotate_left
          ·intro w'
           go_simp
           with_reducible rfl
          rotate_left
          ·simp only [Act.put,uA3,uB3,uC3,i64_w,i32_w]
           rfl
          refine pure_ (i:=29) (N:=some 41) (v:=?_) (a':=?_) #[true,true,true,true,true,true,true,true,true,true,true,true,true,true,true,true,true,true,true,true,true,true,true,true,true,true,true,true,true,true] rfl rfl (any_of HT_.out (zsx3_4)) (fun _ _ _ h=>h) (Or.inl ⟨by rfl,?_⟩) ?_ ?_
          rotate_left
          ·intro w'
           go_simp
           with_reducible rfl
          rotate_left
          ·simp only [Act.put,uA3,uB3,uC3,i64_w,i32_w]
           rfl
          refine done_ (done_of HT_.out (zsx3_4)) ?_
          try go_wp2
          go_roundg k1
          case measure=>have:=HK1.out;omega
          case rel=>exact ⟨(wrap64 (x7_1 + 1)),(by first|rfl|(simp;done)|(simp [*];done)),H',⟨by have:=HK1.out;omega⟩,⟨zsx3_3⟩⟩
        ·replace c10:=Bool.eq_false_iff.mpr c10
         subst c10
         have H1:(some false)=some r:=by rw [if_neg (show ¬ (false=true) by decide)] at H;exact H
         clear H
         have H:=H1
         clear H1
         obtain rfl:=Option.some.inj H
         have p284:0≤(x7_1:Int):=oD3 (zsx3_1)
         have q284:x7_1 < (l0.length:Int):=oD3 (zsx3_1)
         obtain ⟨ad284,e284,hx284_0,hx284_1,hx284_2⟩:=at_T96 HR0.out x7_1 p284 q284
         cases e284
         replace hx284_0:=(HB.out.cell (bL3 w _ hx284_0)).trans hx284_0
         replace hx284_1:=(HB.out.cell (bL3 w _ hx284_1)).trans hx284_1
         replace hx284_2:=(HB.out.cell (bL3 w _ hx284_2)).trans hx284_2
         replace p284:=eq_true p284
         replace q284:=eq_true q284
         try go_wp2_with (first|((with_reducible refine gate_dst (N:=4) rfl ?_);refine box_event ?hg (N:=4) ?hd (cs:=#[.int .i64 0,.int .i64 0,.int .i64 0]) (t:=96) ?hr ?_;(case hd=>rfl);(case hg=>rfl);(case hr=>exact zsx3_8);intro gb285 hg w31 hbox hb;have n0_:=aM3 (below_step (zsx3_0) hb);have n1_:=aM3 (hbox);have n2_:=aM3 ((zsx3_9:w.heap.size≤gb285));have n3_:=aM3 ((zsx3_9:w.heap.size≤gb285));clear HB;have HB:=n0_;have BK285:=n1_;have GW285:=n2_;have GE285:=n3_;clear n0_ n1_ n2_ n3_ hb hbox hg;have hcz32_0:w31.cell? ⟨gb285,0,none⟩=some (.int .i64 0):=(bC3 BK285.out 0).trans rfl;have hcz32_1:w31.cell? ⟨gb285,1,none⟩=some (.int .i64 0):=(bC3 BK285.out 1).trans rfl;have hcz32_2:w31.cell? ⟨gb285,2,none⟩=some (.int .i64 0):=(bC3 BK285.out 2).trans rfl;have hfz32_0:=blk_frozen BK285.out 0;have hfz32_1:=blk_frozen BK285.out 1;have hfz32_2:=blk_frozen BK285.out 2))
         have n0_:Aside0 ((((w31.setCell ⟨gb285,0,none⟩ (.int .i64 ((rd_T96 l0 x7_1).f0))).setCell ⟨gb285,1,none⟩ (.int .i64 ((rd_T96 l0 x7_1).f1))).setCell ⟨gb285,2,none⟩ (.int .i64 ((rd_T96 l0 x7_1).f2))).heap[gb285]?=some (.cells #[.int .i64 ((rd_T96 l0 x7_1).f0),.int .i64 ((rd_T96 l0 x7_1).f1),.int .i64 ((rd_T96 l0 x7_1).f2)] 96 (0,0))):=⟨zsx3_2⟩
         have n1_:Aside0 (Below w.heap.size w (((w31.setCell ⟨gb285,0,none⟩ (.int .i64 ((rd_T96 l0 x7_1).f0))).setCell ⟨gb285,1,none⟩ (.int .i64 ((rd_T96 l0 x7_1).f1))).setCell ⟨gb285,2,none⟩ (.int .i64 ((rd_T96 l0 x7_1).f2)))):=⟨zsx3_3⟩
         (try clear BK285)
         (try clear HB)
         generalize (((w31.setCell ⟨gb285,0,none⟩ (.int .i64 ((rd_T96 l0 x7_1).f0))).setCell ⟨gb285,1,none⟩ (.int .i64 ((rd_T96 l0 x7_1).f1))).setCell ⟨gb285,2,none⟩ (.int .i64 ((rd_T96 l0 x7_1).f2)))=w33 at n0_ n1_ ⊢
         have BK285:=n0_
         have HB:=n1_
         clear n0_ n1_
         have n0_:=aM3 (blk_drew BK285.out)
         have n1_:=aM3 (below_drew1 HB.out)
         clear BK285 HB
         have BK285:=n0_
         have HB:=n1_
         clear n0_ n1_
         refine start_ (n:=30) (S:=fun w'=>w'.cell? ⟨gb285,0,none⟩=some (.int .i64 ((rd_T96 l0 x7_1).f0))∧w'.cell? ⟨gb285,1,none⟩=some (.int .i64 ((rd_T96 l0 x7_1).f1))∧w'.cell? ⟨gb285,2,none⟩=some (.int .i64 ((rd_T96 l0 x7_1).f2))) (ds:=[]) #[false,false,false,false,false,false,false,false,false,false,false,false,false,false,false,false,false,false,false,false,false,false,false,false,false,false,false,false,false,false] (zsx3_4) rfl rfl ⟨(bC3 BK285.out 0).trans rfl,(bC3 BK285.out 1).trans rfl,(bC3 BK285.out 2).trans rfl⟩ (fun hHeld=>?_);refine with_tabW spec_slTemplate.tab4 spec_slTemplate.bits4 (fun HT_ HW_=>?_)
         generalize w33.drew=w34 at BK285 HB hHeld ⊢
         refine pure_ (i:=0) (N:=some 12) (v:=?_) (a':=?_) #[true,false,false,false,false,false,false,false,false,false,false,false,false,false,false,false,false,false,false,false,false,false,false,false,false,false,false,false,false,false] rfl rfl (any_of HT_.out (zsx3_4)) (fun _ _ _ h=>h) (Or.inl ⟨by rfl,?_⟩) ?_ ?_
         rotate_left
         ·intro w'
          go_simp
          with_reducible rfl
         rotate_left
         ·simp only [Act.put,uA3,uB3,uC3,i64_w,i32_w]
          rfl
         refine take_ (i:=1) (N:=some 13) (v:=?_) (a':=?_) #[true,true,false,false,false,false,false,false,false,false,false,false,false,false,false,false,false,false,false,false,false,false,false,false,false,false,false,false,false,false] rfl rfl (take_ofW HT_.out HW_.out (zsx3_4)) (fun _ _ _ h=>h) (Or.inl ⟨by rfl,?_⟩) hHeld ?_ ?_
         rotate_left
         ·rintro w' ⟨s0,s1,s2⟩
          go_simp
          with_reducible rfl
         rotate_left
         ·simp only [Act.put,uA3,uB3,uC3,i64_w,i32_w]
          rfl
         refine one_ (i:=2) (N:=some 14) #[true,true,true,false,false,false,false,false,false,false,false,false,false,false,false,false,false,false,false,false,false,false,false,false,false,false,false,false,false,false] rfl rfl (one_of HT_.out (zsx3_4)) (by decide) (fun K hK=>?_)
         refine goes_ Try.func70 (zsx3_4) rfl #[.int .i64 ((rd_T96 l0 x7_1).f0),.int .i64 (-2),.int .i64 2] (by rfl) rfl rfl (zsx3_5) ?_
         with_reducible refine (spec_l1In.calls ((rd_T96 l0 x7_1).f0) (-2) 2 true _ A5.out).mono ?_
         rintro e w' ⟨rfl,⟨nd,rfl⟩⟩
         refine ⟨_,rfl,?_⟩
         refine hK.out _ _ ⟨(bC3 BK285.out 0).trans rfl,(bC3 BK285.out 1).trans rfl,(bC3 BK285.out 2).trans rfl⟩ (fun hHeld=>?_)
         clear hK K
         refine norm_ (a':=?_) ?_ ?_
         rotate_left
         ·show Act.put _ (some 14) _=_
          simp only [Act.put,uA3,uB3,uC3,i64_w,i32_w]
          rfl
         refine pure_ (i:=3) (N:=some 15) (v:=?_) (a':=?_) #[true,true,true,true,false,false,false,false,false,false,false,false,false,false,false,false,false,false,false,false,false,false,false,false,false,false,false,false,false,false] rfl rfl (any_of HT_.out (zsx3_4)) (fun _ _ _ h=>h) (Or.inl ⟨by rfl,?_⟩) ?_ ?_
         rotate_left
         ·intro w'
          go_simp
          with_reducible rfl
         rotate_left
         ·simp only [Act.put,uA3,uB3,uC3,i64_w,i32_w]
          rfl
         refine pure_ (i:=4) (N:=some 16) (v:=?_) (a':=?_) #[true,true,true,true,true,false,false,false,false,false,false,false,false,false,false,false,false,false,false,false,false,false,false,false,false,false,false,false,false,false] rfl rfl (any_of HT_.out (zsx3_4)) (fun _ _ _ h=>h) (Or.inl ⟨by rfl,?_⟩) ?_ ?_
         rotate_left
         ·intro w'
          go_simp
          with_reducible rfl
         rotate_left
         ·simp only [Act.put,uA3,uB3,uC3,i64_w,i32_w]
          rfl
         refine pure_ (i:=5) (N:=some 17) (v:=?_) (a':=?_) #[true,true,true,true,true,true,false,false,false,false,false,false,false,false,false,false,false,false,false,false,false,false,false,false,false,false,false,false,false,false] rfl rfl (any_of HT_.out (zsx3_4)) (fun _ _ _ h=>h) (Or.inl ⟨by rfl,?_⟩) ?_ ?_
         rotate_left
         ·intro w'
          go_simp
          with_reducible rfl
         rotate_left
         ·simp only [Act.put,uA3,uB3,uC3,i64_w,i32_w]
          rfl
         refine take_ (i:=6) (N:=some 18) (v:=?_) (a':=?_) #[true,true,true,true,true,true,true,false,false,false,false,false,false,false,false,false,false,false,false,false,false,false,false,false,false,false,false,false,false,false] rfl rfl (take_ofW HT_.out HW_.out (zsx3_4)) (fun _ _ _ h=>h) (Or.inl ⟨by rfl,?_⟩) hHeld ?_ ?_
         rotate_left
         ·rintro w' ⟨s0,s1,s2⟩
          go_simp
          with_reducible rfl
         rotate_left
         ·simp only [Act.put,uA3,uB3,uC3,i64_w,i32_w]
          rfl
         refine one_ (i:=7) (N:=some 19) #[true,true,true,true,true,true,true,true,false,false,false,false,false,false,false,false,false,false,false,false,false,false,false,false,false,false,false,false,false,false] rfl rfl (one_of HT_.out (zsx3_4)) (by decide) (fun K hK=>?_)
         refine goes_ Try.func70 (zsx3_4) rfl #[.int .i64 ((rd_T96 l0 x7_1).f1),.int .i64 (-2),.int .i64 2] (by rfl) rfl rfl (zsx3_5) ?_
         with_reducible refine (spec_l1In.calls ((rd_T96 l0 x7_1).f1) (-2) 2 true _ A7.out).mono ?_
         rintro e w' ⟨rfl,⟨nd,rfl⟩⟩
         refine ⟨_,rfl,?_⟩
         refine hK.out _ _ ⟨(bC3 BK285.out 0).trans rfl,(bC3 BK285.out 1).trans rfl,(bC3 BK285.out 2).trans rfl⟩ (fun hHeld=>?_)
         clear hK K
         refine norm_ (a':=?_) ?_ ?_
         rotate_left
         ·show Act.put _ (some 19) _=_
          simp only [Act.put,uA3,uB3,uC3,i64_w,i32_w]
          rfl
         refine pure_ (i:=8) (N:=some 20) (v:=?_) (a':=?_) #[true,true,true,true,true,true,true,true,true,false,false,false,false,false,false,false,false,false,false,false,false,false,false,false,false,false,false,false,false,false] rfl rfl (any_of HT_.out (zsx3_4)) (fun _ _ _ h=>h) (Or.inl ⟨by rfl,?_⟩) ?_ ?_
         rotate_left
         ·intro w'
          go_simp
          with_reducible rfl
         rotate_left
         ·simp only [Act.put,uA3,uB3,uC3,i64_w,i32_w]
          rfl
         refine pure_ (i:=9) (N:=some 21) (v:=?_) (a':=?_) #[true,true,true,true,true,true,true,true,true,true,false,false,false,false,false,false,false,false,false,false,false,false,false,false,false,false,false,false,false,false] rfl rfl (any_of HT_.out (zsx3_4)) (fun _ _ _ h=>h) (Or.inl ⟨by rfl,?_⟩) ?_ ?_
         rotate_left
         ·intro w'
          go_simp
          with_reducible rfl
         rotate_left
         ·simp only [Act.put,uA3,uB3,uC3,i64_w,i32_w]
          rfl
         refine pure_ (i:=10) (N:=some 22) (v:=?_) (a':=?_) #[true,true,true,true,true,true,true,true,true,true,true,false,false,false,false,false,false,false,false,false,false,false,false,false,false,false,false,false,false,false] rfl rfl (any_of HT_.out (zsx3_4)) (fun _ _ _ h=>h) (Or.inl ⟨by rfl,?_⟩) ?_ ?_
         rotate_left
         ·intro w'
          go_simp
          with_reducible rfl
         rotate_left
         ·simp only [Act.put,uA3,uB3,uC3,i64_w,i32_w]
          rfl
         refine pure_ (i:=11) (N:=some 23) (v:=?_) (a':=?_) #[true,true,true,true,true,true,true,true,true,true,true,true,false,false,false,false,false,false,false,false,false,false,false,false,false,false,false,false,false,false] rfl rfl (any_of HT_.out (zsx3_4)) (fun _ _ _ h=>h) (Or.inl ⟨by rfl,?_⟩) ?_ ?_
         rotate_left
         ·intro w'
          go_simp
          with_reducible rfl
         rotate_left
         ·simp only [Act.put,uA3,uB3,uC3,i64_w,i32_w]
          rfl
         refine take_ (i:=12) (N:=some 24) (v:=?_) (a':=?_) #[true,true,true,true,true,true,true,true,true,true,true,true,true,false,false,false,false,false,false,false,false,false,false,false,false,false,false,false,false,false] rfl rfl (take_ofW HT_.out HW_.out (zsx3_4)) (fun _ _ _ h=>h) (Or.inl ⟨by rfl,?_⟩) hHeld ?_ ?_
         rotate_left
         ·rintro w' ⟨s0,s1,s2⟩
          go_simp
          with_reducible rfl
         rotate_left
         ·simp only [Act.put,uA3,uB3,uC3,i64_w,i32_w]
          rfl
         refine one_ (i:=13) (N:=some 25) #[true,true,true,true,true,true,true,true,true,true,true,true,true,true,false,false,false,false,false,false,false,false,false,false,false,false,false,false,false,false] rfl rfl (one_of HT_.out (zsx3_4)) (by decide) (fun K hK=>?_)
         refine goes_ Try.func70 (zsx3_4) rfl #[.int .i64 ((rd_T96 l0 x7_1).f2),.int .i64 1,.int .i64 2] (by rfl) rfl rfl (zsx3_5) ?_
         with_reducible refine (spec_l1In.calls ((rd_T96 l0 x7_1).f2) 1 2 false _ A9.out).mono ?_
         rintro e w' ⟨rfl,⟨nd,rfl⟩⟩
         refine ⟨_,rfl,?_⟩
         refine hK.out _ _ ⟨(bC3 BK285.out 0).trans rfl,(bC3 BK285.out 1).trans rfl,(bC3 BK285.out 2).trans rfl⟩ (fun hHeld=>?_)
         clear hK K
         refine norm_ (a':=?_) ?_ ?_
         rotate_left
         ·show Act.put _ (some 25) _=_
          simp only [Act.put,uA3,uB3,uC3,i64_w,i32_w]
          rfl
         refine pure_ (i:=14) (N:=some 26) (v:=?_) (a':=?_) #[true,true,true,true,true,true,true,true,true,true,true,true,true,true,true,false,false,false,false,false,false,false,false,false,false,false,false,false,false,false] rfl rfl (any_of HT_.out (zsx3_4)) (fun _ _ _ h=>h) (Or.inl ⟨by rfl,?_⟩) ?_ ?_
         rotate_left
         ·intro w'
          go_simp
          with_reducible rfl
         rotate_left
         ·simp only [Act.put,uA3,uB3,uC3,i64_w,i32_w]
          rfl
         refine pure_ (i:=15) (N:=some 27) (v:=?_) (a':=?_) #[true,true,true,true,true,true,true,true,true,true,true,true,true,true,true,true,false,false,false,false,false,false,false,false,false,false,false,false,false,false] rfl rfl (any_of HT_.out (zsx3_4)) (fun _ _ _ h=>h) (Or.inl ⟨by rfl,?_⟩) ?_ ?_
         rotate_left
         ·intro w'
          go_simp
          with_reducible rfl
         rotate_left
         ·simp only [Act.put,uA3,uB3,uC3,i64_w,i32_w]
          rfl
         refine pure_ (i:=16) (N:=some 28) (v:=?_) (a':=?_) #[true,true,true,true,true,true,true,true,true,true,true,true,true,true,true,true,true,false,false,false,false,false,false,false,false,false,false,false,false,false] rfl rfl (any_of HT_.out (zsx3_4)) (fun _ _ _ h=>h) (Or.inl ⟨by rfl,?_⟩) ?_ ?_
         rotate_left
         ·intro w'
          go_simp
          with_reducible rfl
         rotate_left
         ·simp only [Act.put,uA3,uB3,uC3,i64_w,i32_w]
          rfl
         refine pure_ (i:=17) (N:=some 29) (v:=undef) (a':=?_) #[true,true,true,true,true,true,true,true,true,true,true,true,true,true,true,true,true,true,false,false,false,false,false,false,false,false,false,false,false,false] rfl rfl (any_of HT_.out (zsx3_4)) (fun _ _ _ h=>h) (Or.inr ⟨by rfl,rfl⟩) ?_ ?_
         rotate_left
         ·simp only [Act.put,uA3,uB3,uC3,i64_w,i32_w]
          rfl
         refine pure_ (i:=18) (N:=some 30) (v:=undef) (a':=?_) #[true,true,true,true,true,true,true,true,true,true,true,true,true,true,true,true,true,true,true,false,false,false,false,false,false,false,false,false,false,false] rfl rfl (any_of HT_.out (zsx3_4)) (fun _ _ _ h=>h) (Or.inr ⟨by rfl,rfl⟩) ?_ ?_
         rotate_left
         ·simp only [Act.put,uA3,uB3,uC3,i64_w,i32_w]
          rfl
         refine pure_ (i:=19) (N:=some 31) (v:=undef) (a':=?_) #[true,true,true,true,true,true,true,true,true,true,true,true,true,true,true,true,true,true,true,true,false,false,false,false,false,false,false,false,false,false] rfl rfl (any_of HT_.out (zsx3_4)) (fun _ _ _ h=>h) (Or.inr ⟨by rfl,rfl⟩) ?_ ?_
         rotate_left
         ·simp only [Act.put,uA3,uB3,uC3,i64_w,i32_w]
          rfl
         refine pure_ (i:=20) (N:=some 32) (v:=undef) (a':=?_) #[true,true,true,true,true,true,true,true,true,true,true,true,true,true,true,true,true,true,true,true,true,false,false,false,false,false,false,false,false,false] rfl rfl (any_of HT_.out (zsx3_4)) (fun _ _ _ h=>h) (Or.inr ⟨by rfl,rfl⟩) ?_ ?_
         rotate_left
         ·simp only [Act.put,uA3,uB3,uC3,i64_w,i32_w]
          rfl
         refine pure_ (i:=21) (N:=some 33) (v:=undef) (a':=?_) #[true,true,true,true,true,true,true,true,true,true,true,true,true,true,true,true,true,true,true,true,true,true,false,false,false,false,false,false,false,false] rfl rfl (any_of HT_.out (zsx3_4)) (fun _ _ _ h=>h) (Or.inr ⟨by rfl,rfl⟩) ?_ ?_
         rotate_left
         ·simp only [Act.put,uA3,uB3,uC3,i64_w,i32_w]
          rfl
         refine pure_ (i:=22) (N:=some 34) (v:=undef) (a':=?_) #[true,true,true,true,true,true,true,true,true,true,true,true,true,true,true,true,true,true,true,true,true,true,true,false,false,false,false,false,false,false] rfl rfl (any_of HT_.out (zsx3_4)) (fun _ _ _ h=>h) (Or.inr ⟨by rfl,rfl⟩) ?_ ?_
         rotate_left
         ·simp only [Act.put,uA3,uB3,uC3,i64_w,i32_w]
          rfl
         refine pure_ (i:=23) (N:=some 35) (v:=undef) (a':=?_) #[true,true,true,true,true,true,true,true,true,true,true,true,true,true,true,true,true,true,true,true,true,true,true,true,false,false,false,false,false,false] rfl rfl (any_of HT_.out (zsx3_4)) (fun _ _ _ h=>h) (Or.inr ⟨by rfl,rfl⟩) ?_ ?_
         rotate_left
         ·simp only [Act.put,uA3,uB3,uC3,i64_w,i32_w]
          rfl
         refine pure_ (i:=24) (N:=some 36) (v:=undef) (a':=?_) #[true,true,true,true,true,true,true,true,true,true,true,true,true,true,true,true,true,true,true,true,true,true,true,true,true,false,false,false,false,false] rfl rfl (any_of HT_.out (zsx3_4)) (fun _ _ _ h=>h) (Or.inr ⟨by rfl,rfl⟩) ?_ ?_
         rotate_left
         ·simp only [Act.put,uA3,uB3,uC3,i64_w,i32_w]
          rfl
         refine pure_ (i:=25) (N:=some 37) (v:=undef) (a':=?_) #[true,true,true,true,true,true,true,true,true,true,true,true,true,true,true,true,true,true,true,true,true,true,true,true,true,true,false,false,false,false] rfl rfl (any_of HT_.out (zsx3_4)) (fun _ _ _ h=>h) (Or.inr ⟨by rfl,rfl⟩) ?_ ?_
         rotate_left
         ·simp only [Act.put,uA3,uB3,uC3,i64_w,i32_w]
          rfl
         refine pure_ (i:=26) (N:=some 38) (v:=undef) (a':=?_) #[true,true,true,true,true,true,true,true,true,true,true,true,true,true,true,true,true,true,true,true,true,true,true,true,true,true,true,false,false,false] rfl rfl (any_of HT_.out (zsx3_4)) (fun _ _ _ h=>h) (Or.inr ⟨by rfl,rfl⟩) ?_ ?_
         rotate_left
         ·simp only [Act.put,uA3,uB3,uC3,i64_w,i32_w]
          rfl
         refine pure_ (i:=27) (N:=some 39) (v:=undef) (a':=?_) #[true,true,true,true,true,true,true,true,true,true,true,true,true,true,true,true,true,true,true,true,true,true,true,true,true,true,true,true,false,false] rfl rfl (any_of HT_.out (zsx3_4)) (fun _ _ _ h=>h) (Or.inr ⟨by rfl,rfl⟩) ?_ ?_
         rotate_left
         ·simp only [Act.put,uA3,uB3,uC3,i64_w,i32_w]
          rfl
         refine pure_ (i:=28) (N:=some 40) (v:=undef) (a':=?_) #[true,true,true,true,true,true,true,true,true,true,true,true,true,true,true,true,true,true,true,true,true,true,true,true,true,true,true,true,true,false] rfl rfl (any_of HT_.out (zsx3_4)) (fun _ _ _ h=>h) (Or.inr ⟨by rfl,rfl⟩) ?_ ?_
         rotate_left
         ·simp only [Act.put,uA3,uB3,uC3,i64_w,i32_w]
          rfl
         refine pure_ (i:=29) (N:=some 41) (v:=?_) (a':=?_) #[true,true,true,true,true,true,true,true,true,true,true,true,true,true,true,true,true,true,true,true,true,true,true,true,true,true,true,true,true,true] rfl rfl (any_of HT_.out (zsx3_4)) (fun _ _ _ h=>h) (Or.inl ⟨by rfl,?_⟩) ?_ ?_
         rotate_left
         ·intro w'
          go_simp
          with_reducible rfl
         rotate_left
         ·simp only [Act.put,uA3,uB3,uC3,i64_w,i32_w]
          rfl
         refine done_ (done_of HT_.out (zsx3_4)) ?_
         try go_wp2
         go_ret
         exact ⟨zsx3_7,zsx3_3⟩
       ·replace c8:=Bool.eq_false_iff.mpr c8
        subst c8
        have H1:(some false)=some r:=by rw [if_neg (show ¬ (false=true) by decide)] at H;exact H
        clear H
        have H:=H1
        clear H1
        obtain rfl:=Option.some.inj H
        have p284:0≤(x7_1:Int):=oD3 (zsx3_1)
        have q284:x7_1 < (l0.length:Int):=oD3 (zsx3_1)
        obtain ⟨ad284,e284,hx284_0,hx284_1,hx284_2⟩:=at_T96 HR0.out x7_1 p284 q284
        cases e284
        replace hx284_0:=(HB.out.cell (bL3 w _ hx284_0)).trans hx284_0
        replace hx284_1:=(HB.out.cell (bL3 w _ hx284_1)).trans hx284_1
        replace hx284_2:=(HB.out.cell (bL3 w _ hx284_2)).trans hx284_2
        replace p284:=eq_true p284
        replace q284:=eq_true q284
        try go_wp2_with (first|((with_reducible refine gate_dst (N:=4) rfl ?_);refine box_event ?hg (N:=4) ?hd (cs:=#[.int .i64 0,.int .i64 0,.int .i64 0]) (t:=96) ?hr ?_;(case hd=>rfl);(case hg=>rfl);(case hr=>exact zsx3_8);intro gb285 hg w35 hbox hb;have n0_:=aM3 (below_step (zsx3_0) hb);have n1_:=aM3 (hbox);have n2_:=aM3 ((zsx3_9:w.heap.size≤gb285));have n3_:=aM3 ((zsx3_9:w.heap.size≤gb285));clear HB;have HB:=n0_;have BK285:=n1_;have GW285:=n2_;have GE285:=n3_;clear n0_ n1_ n2_ n3_ hb hbox hg;have hcz36_0:w35.cell? ⟨gb285,0,none⟩=some (.int .i64 0):=(bC3 BK285.out 0).trans rfl;have hcz36_1:w35.cell? ⟨gb285,1,none⟩=some (.int .i64 0):=(bC3 BK285.out 1).trans rfl;have hcz36_2:w35.cell? ⟨gb285,2,none⟩=some (.int .i64 0):=(bC3 BK285.out 2).trans rfl;have hfz36_0:=blk_frozen BK285.out 0;have hfz36_1:=blk_frozen BK285.out 1;have hfz36_2:=blk_frozen BK285.out 2))
        have n0_:Aside0 ((((w35.setCell ⟨gb285,0,none⟩ (.int .i64 ((rd_T96 l0 x7_1).f0))).setCell ⟨gb285,1,none⟩ (.int .i64 ((rd_T96 l0 x7_1).f1))).setCell ⟨gb285,2,none⟩ (.int .i64 ((rd_T96 l0 x7_1).f2))).heap[gb285]?=some (.cells #[.int .i64 ((rd_T96 l0 x7_1).f0),.int .i64 ((rd_T96 l0 x7_1).f1),.int .i64 ((rd_T96 l0 x7_1).f2)] 96 (0,0))):=⟨zsx3_2⟩
        have n1_:Aside0 (Below w.heap.size w (((w35.setCell ⟨gb285,0,none⟩ (.int .i64 ((rd_T96 l0 x7_1).f0))).setCell ⟨gb285,1,none⟩ (.int .i64 ((rd_T96 l0 x7_1).f1))).setCell ⟨gb285,2,none⟩ (.int .i64 ((rd_T96 l0 x7_1).f2)))):=⟨zsx3_3⟩
        (try clear BK285)
        (try clear HB)
        generalize (((w35.setCell ⟨gb285,0,none⟩ (.int .i64 ((rd_T96 l0 x7_1).f0))).setCell ⟨gb285,1,none⟩ (.int .i64 ((rd_T96 l0 x7_1).f1))).setCell ⟨gb285,2,none⟩ (.int .i64 ((rd_T96 l0 x7_1).f2)))=w37 at n0_ n1_ ⊢
        have BK285:=n0_
        have HB:=n1_
        clear n0_ n1_
        have n0_:=aM3 (blk_drew BK285.out)
        have n1_:=aM3 (below_drew1 HB.out)
        clear BK285 HB
        have BK285:=n0_
        have HB:=n1_
        clear n0_ n1_
        refine start_ (n:=30) (S:=fun w'=>w'.cell? ⟨gb285,0,none⟩=some (.int .i64 ((rd_T96 l0 x7_1).f0))∧w'.cell? ⟨gb285,1,none⟩=some (.int .i64 ((rd_T96 l0 x7_1).f1))∧w'.cell? ⟨gb285,2,none⟩=some (.int .i64 ((rd_T96 l0 x7_1).f2))) (ds:=[]) #[false,false,false,false,false,false,false,false,false,false,false,false,false,false,false,false,false,false,false,false,false,false,false,false,false,false,false,false,false,false] (zsx3_4) rfl rfl ⟨(bC3 BK285.out 0).trans rfl,(bC3 BK285.out 1).trans rfl,(bC3 BK285.out 2).trans rfl⟩ (fun hHeld=>?_);refine with_tabW spec_slTemplate.tab4 spec_slTemplate.bits4 (fun HT_ HW_=>?_)
        generalize w37.drew=w38 at BK285 HB hHeld ⊢
        refine pure_ (i:=0) (N:=some 12) (v:=?_) (a':=?_) #[true,false,false,false,false,false,false,false,false,false,false,false,false,false,false,false,false,false,false,false,false,false,false,false,false,false,false,false,false,false] rfl rfl (any_of HT_.out (zsx3_4)) (fun _ _ _ h=>h) (Or.inl ⟨by rfl,?_⟩) ?_ ?_
        rotate_left
        ·intro w'
         go_simp
         with_reducible rfl
        rotate_left
        ·simp only [Act.put,uA3,uB3,uC3,i64_w,i32_w]
         rfl
        refine take_ (i:=1) (N:=some 13) (v:=?_) (a':=?_) #[true,true,false,false,false,false,false,false,false,false,false,false,false,false,false,false,false,false,false,false,false,false,false,false,false,false,false,false,false,false] rfl rfl (take_ofW HT_.out HW_.out (zsx3_4)) (fun _ _ _ h=>h) (Or.inl ⟨by rfl,?_⟩) hHeld ?_ ?_
        rotate_left
        ·rintro w' ⟨s0,s1,s2⟩
         go_simp
         with_reducible rfl
        rotate_left
        ·simp only [Act.put,uA3,uB3,uC3,i64_w,i32_w]
         rfl
        refine one_ (i:=2) (N:=some 14) #[true,true,true,false,false,false,false,false,false,false,false,false,false,false,false,false,false,false,false,false,false,false,false,false,false,false,false,false,false,false] rfl rfl (one_of HT_.out (zsx3_4)) (by decide) (fun K hK=>?_)
        refine goes_ Try.func70 (zsx3_4) rfl #[.int .i64 ((rd_T96 l0 x7_1).f0),.int .i64 (-2),.int .i64 2] (by rfl) rfl rfl (zsx3_5) ?_
        with_reducible refine (spec_l1In.calls ((rd_T96 l0 x7_1).f0) (-2) 2 true _ A5.out).mono ?_
        rintro e w' ⟨rfl,⟨nd,rfl⟩⟩
        refine ⟨_,rfl,?_⟩
        refine hK.out _ _ ⟨(bC3 BK285.out 0).trans rfl,(bC3 BK285.out 1).trans rfl,(bC3 BK285.out 2).trans rfl⟩ (fun hHeld=>?_)
        clear hK K
        refine norm_ (a':=?_) ?_ ?_
        rotate_left
        ·show Act.put _ (some 14) _=_
         simp only [Act.put,uA3,uB3,uC3,i64_w,i32_w]
         rfl
        refine pure_ (i:=3) (N:=some 15) (v:=?_) (a':=?_) #[true,true,true,true,false,false,false,false,false,false,false,false,false,false,false,false,false,false,false,false,false,false,false,false,false,false,false,false,false,false] rfl rfl (any_of HT_.out (zsx3_4)) (fun _ _ _ h=>h) (Or.inl ⟨by rfl,?_⟩) ?_ ?_
        rotate_left
        ·intro w'
         go_simp
         with_reducible rfl
        rotate_left
        ·simp only [Act.put,uA3,uB3,uC3,i64_w,i32_w]
         rfl
        refine pure_ (i:=4) (N:=some 16) (v:=?_) (a':=?_) #[true,true,true,true,true,false,false,false,false,false,false,false,false,false,false,false,false,false,false,false,false,false,false,false,false,false,false,false,false,false] rfl rfl (any_of HT_.out (zsx3_4)) (fun _ _ _ h=>h) (Or.inl ⟨by rfl,?_⟩) ?_ ?_
        rotate_left
        ·intro w'
         go_simp
         with_reducible rfl
        rotate_left
        ·simp only [Act.put,uA3,uB3,uC3,i64_w,i32_w]
         rfl
        refine pure_ (i:=5) (N:=some 17) (v:=?_) (a':=?_) #[true,true,true,true,true,true,false,false,false,false,false,false,false,false,false,false,false,false,false,false,false,false,false,false,false,false,false,false,false,false] rfl rfl (any_of HT_.out (zsx3_4)) (fun _ _ _ h=>h) (Or.inl ⟨by rfl,?_⟩) ?_ ?_
        rotate_left
        ·intro w'
         go_simp
         with_reducible rfl
        rotate_left
        ·simp only [Act.put,uA3,uB3,uC3,i64_w,i32_w]
         rfl
        refine take_ (i:=6) (N:=some 18) (v:=?_) (a':=?_) #[true,true,true,true,true,true,true,false,false,false,false,false,false,false,false,false,false,false,false,false,false,false,false,false,false,false,false,false,false,false] rfl rfl (take_ofW HT_.out HW_.out (zsx3_4)) (fun _ _ _ h=>h) (Or.inl ⟨by rfl,?_⟩) hHeld ?_ ?_
        rotate_left
        ·rintro w' ⟨s0,s1,s2⟩
         go_simp
         with_reducible rfl
        rotate_left
        ·simp only [Act.put,uA3,uB3,uC3,i64_w,i32_w]
         rfl
        refine one_ (i:=7) (N:=some 19) #[true,true,true,true,true,true,true,true,false,false,false,false,false,false,false,false,false,false,false,false,false,false,false,false,false,false,false,false,false,false] rfl rfl (one_of HT_.out (zsx3_4)) (by decide) (fun K hK=>?_)
        refine goes_ Try.func70 (zsx3_4) rfl #[.int .i64 ((rd_T96 l0 x7_1).f1),.int .i64 (-2),.int .i64 2] (by rfl) rfl rfl (zsx3_5) ?_
        with_reducible refine (spec_l1In.calls ((rd_T96 l0 x7_1).f1) (-2) 2 false _ A7.out).mono ?_
        rintro e w' ⟨rfl,⟨nd,rfl⟩⟩
        refine ⟨_,rfl,?_⟩
        refine hK.out _ _ ⟨(bC3 BK285.out 0).trans rfl,(bC3 BK285.out 1).trans rfl,(bC3 BK285.out 2).trans rfl⟩ (fun hHeld=>?_)
        clear hK K
        refine norm_ (a':=?_) ?_ ?_
        rotate_left
        ·show Act.put _ (some 19) _=_
         simp only [Act.put,uA3,uB3,uC3,i64_w,i32_w]
         rfl
        refine pure_ (i:=8) (N:=some 20) (v:=?_) (a':=?_) #[true,true,true,true,true,true,true,true,true,false,false,false,false,false,false,false,false,false,false,false,false,false,false,false,false,false,false,false,false,false] rfl rfl (any_of HT_.out (zsx3_4)) (fun _ _ _ h=>h) (Or.inl ⟨by rfl,?_⟩) ?_ ?_
        rotate_left
        ·intro w'
         go_simp
         with_reducible rfl
        rotate_left
        ·simp only [Act.put,uA3,uB3,uC3,i64_w,i32_w]
         rfl
        refine pure_ (i:=9) (N:=some 21) (v:=?_) (a':=?_) #[true,true,true,true,true,true,true,true,true,true,false,false,false,false,false,false,false,false,false,false,false,false,false,false,false,false,false,false,false,false] rfl rfl (any_of HT_.out (zsx3_4)) (fun _ _ _ h=>h) (Or.inl ⟨by rfl,?_⟩) ?_ ?_
        rotate_left
        ·intro w'
         go_simp
         with_reducible rfl
        rotate_left
        ·simp only [Act.put,uA3,uB3,uC3,i64_w,i32_w]
         rfl
        refine pure_ (i:=10) (N:=some 22) (v:=?_) (a':=?_) #[true,true,true,true,true,true,true,true,true,true,true,false,false,false,false,false,false,false,false,false,false,false,false,false,false,false,false,false,false,false] rfl rfl (any_of HT_.out (zsx3_4)) (fun _ _ _ h=>h) (Or.inl ⟨by rfl,?_⟩) ?_ ?_
        rotate_left
        ·intro w'
         go_simp
         with_reducible rfl
        rotate_left
        ·simp only [Act.put,uA3,uB3,uC3,i64_w,i32_w]
         rfl
        refine pure_ (i:=11) (N:=some 23) (v:=undef) (a':=?_) #[true,true,true,true,true,true,true,true,true,true,true,true,false,false,false,false,false,false,false,false,false,false,false,false,false,false,false,false,false,false] rfl rfl (any_of HT_.out (zsx3_4)) (fun _ _ _ h=>h) (Or.inr ⟨by rfl,rfl⟩) ?_ ?_
        rotate_left
        ·simp only [Act.put,uA3,uB3,uC3,i64_w,i32_w]
         rfl
        refine pure_ (i:=12) (N:=some 24) (v:=undef) (a':=?_) #[true,true,true,true,true,true,true,true,true,true,true,true,true,false,false,false,false,false,false,false,false,false,false,false,false,false,false,false,false,false] rfl rfl (any_of HT_.out (zsx3_4)) (fun _ _ _ h=>h) (Or.inr ⟨by rfl,rfl⟩) ?_ ?_
        rotate_left
        ·simp only [Act.put,uA3,uB3,uC3,i64_w,i32_w]
         rfl
        refine pure_ (i:=13) (N:=some 25) (v:=undef) (a':=?_) #[true,true,true,true,true,true,true,true,true,true,true,true,true,true,false,false,false,false,false,false,false,false,false,false,false,false,false,false,false,false] rfl rfl (any_of HT_.out (zsx3_4)) (fun _ _ _ h=>h) (Or.inr ⟨by rfl,rfl⟩) ?_ ?_
        rotate_left
        ·simp only [Act.put,uA3,uB3,uC3,i64_w,i32_w]
         rfl
        refine pure_ (i:=14) (N:=some 26) (v:=undef) (a':=?_) #[true,true,true,true,true,true,true,true,true,true,true,true,true,true,true,false,false,false,false,false,false,false,false,false,false,false,false,false,false,false] rfl rfl (any_of HT_.out (zsx3_4)) (fun _ _ _ h=>h) (Or.inr ⟨by rfl,rfl⟩) ?_ ?_
        rotate_left
        ·simp only [Act.put,uA3,uB3,uC3,i64_w,i32_w]
         rfl
        refine pure_ (i:=15) (N:=some 27) (v:=?_) (a':=?_) #[true,true,true,true,true,true,true,true,true,true,true,true,true,true,true,true,false,false,false,false,false,false,false,false,false,false,false,false,false,false] rfl rfl (any_of HT_.out (zsx3_4)) (fun _ _ _ h=>h) (Or.inl ⟨by rfl,?_⟩) ?_ ?_
        rotate_left
        ·intro w'
         go_simp
         with_reducible rfl
        rotate_left
        ·simp only [Act.put,uA3,uB3,uC3,i64_w,i32_w]
         rfl
        refine pure_ (i:=16) (N:=some 28) (v:=?_) (a':=?_) #[true,true,true,true,true,true,true,true,true,true,true,true,true,true,true,true,true,false,false,false,false,false,false,false,false,false,false,false,false,false] rfl rfl (any_of HT_.out (zsx3_4)) (fun _ _ _ h=>h) (Or.inl ⟨by rfl,?_⟩) ?_ ?_
        rotate_left
        ·intro w'
         go_simp
         with_reducible rfl
        rotate_left
        ·simp only [Act.put,uA3,uB3,uC3,i64_w,i32_w]
         rfl
        refine pure_ (i:=17) (N:=some 29) (v:=undef) (a':=?_) #[true,true,true,true,true,true,true,true,true,true,true,true,true,true,true,true,true,true,false,false,false,false,false,false,false,false,false,false,false,false] rfl rfl (any_of HT_.out (zsx3_4)) (fun _ _ _ h=>h) (Or.inr ⟨by rfl,rfl⟩) ?_ ?_
        rotate_left
        ·simp only [Act.put,uA3,uB3,uC3,i64_w,i32_w]
         rfl
        refine pure_ (i:=18) (N:=some 30) (v:=undef) (a':=?_) #[true,true,true,true,true,true,true,true,true,true,true,true,true,true,true,true,true,true,true,false,false,false,false,false,false,false,false,false,false,false] rfl rfl (any_of HT_.out (zsx3_4)) (fun _ _ _ h=>h) (Or.inr ⟨by rfl,rfl⟩) ?_ ?_
        rotate_left
        ·simp only [Act.put,uA3,uB3,uC3,i64_w,i32_w]
         rfl
        refine pure_ (i:=19) (N:=some 31) (v:=undef) (a':=?_) #[true,true,true,true,true,true,true,true,true,true,true,true,true,true,true,true,true,true,true,true,false,false,false,false,false,false,false,false,false,false] rfl rfl (any_of HT_.out (zsx3_4)) (fun _ _ _ h=>h) (Or.inr ⟨by rfl,rfl⟩) ?_ ?_
        rotate_left
        ·simp only [Act.put,uA3,uB3,uC3,i64_w,i32_w]
         rfl
        refine pure_ (i:=20) (N:=some 32) (v:=undef) (a':=?_) #[true,true,true,true,true,true,true,true,true,true,true,true,true,true,true,true,true,true,true,true,true,false,false,false,false,false,false,false,false,false] rfl rfl (any_of HT_.out (zsx3_4)) (fun _ _ _ h=>h) (Or.inr ⟨by rfl,rfl⟩) ?_ ?_
        rotate_left
        ·simp only [Act.put,uA3,uB3,uC3,i64_w,i32_w]
         rfl
        refine pure_ (i:=21) (N:=some 33) (v:=undef) (a':=?_) #[true,true,true,true,true,true,true,true,true,true,true,true,true,true,true,true,true,true,true,true,true,true,false,false,false,false,false,false,false,false] rfl rfl (any_of HT_.out (zsx3_4)) (fun _ _ _ h=>h) (Or.inr ⟨by rfl,rfl⟩) ?_ ?_
        rotate_left
        ·simp only [Act.put,uA3,uB3,uC3,i64_w,i32_w]
         rfl
        refine pure_ (i:=22) (N:=some 34) (v:=undef) (a':=?_) #[true,true,true,true,true,true,true,true,true,true,true,true,true,true,true,true,true,true,true,true,true,true,true,false,false,false,false,false,false,false] rfl rfl (any_of HT_.out (zsx3_4)) (fun _ _ _ h=>h) (Or.inr ⟨by rfl,rfl⟩) ?_ ?_
        rotate_left
        ·simp only [Act.put,uA3,uB3,uC3,i64_w,i32_w]
         rfl
        refine pure_ (i:=23) (N:=some 35) (v:=undef) (a':=?_) #[true,true,true,true,true,true,true,true,true,true,true,true,true,true,true,true,true,true,true,true,true,true,true,true,false,false,false,false,false,false] rfl rfl (any_of HT_.out (zsx3_4)) (fun _ _ _ h=>h) (Or.inr ⟨by rfl,rfl⟩) ?_ ?_
        rotate_left
        ·simp only [Act.put,uA3,uB3,uC3,i64_w,i32_w]
         rfl
        refine pure_ (i:=24) (N:=some 36) (v:=undef) (a':=?_) #[true,true,true,true,true,true,true,true,true,true,true,true,true,true,true,true,true,true,true,true,true,true,true,true,true,false,false,false,false,false] rfl rfl (any_of HT_.out (zsx3_4)) (fun _ _ _ h=>h) (Or.inr ⟨by rfl,rfl⟩) ?_ ?_
        rotate_left
        ·simp only [Act.put,uA3,uB3,uC3,i64_w,i32_w]
         rfl
        refine pure_ (i:=25) (N:=some 37) (v:=undef) (a':=?_) #[true,true,true,true,true,true,true,true,true,true,true,true,true,true,true,true,true,true,true,true,true,true,true,true,true,true,false,false,false,false] rfl rfl (any_of HT_.out (zsx3_4)) (fun _ _ _ h=>h) (Or.inr ⟨by rfl,rfl⟩) ?_ ?_
        rotate_left
        ·simp only [Act.put,uA3,uB3,uC3,i64_w,i32_w]
         rfl
        refine pure_ (i:=26) (N:=some 38) (v:=undef) (a':=?_) #[true,true,true,true,true,true,true,true,true,true,true,true,true,true,true,true,true,true,true,true,true,true,true,true,true,true,true,false,false,false] rfl rfl (any_of HT_.out (zsx3_4)) (fun _ _ _ h=>h) (Or.inr ⟨by rfl,rfl⟩) ?_ ?_
        rotate_left
        ·simp only [Act.put,uA3,uB3,uC3,i64_w,i32_w]
         rfl
        refine pure_ (i:=27) (N:=some 39) (v:=undef) (a':=?_) #[true,true,true,true,true,true,true,true,true,true,true,true,true,true,true,true,true,true,true,true,true,true,true,true,true,true,true,true,false,false] rfl rfl (any_of HT_.out (zsx3_4)) (fun _ _ _ h=>h) (Or.inr ⟨by rfl,rfl⟩) ?_ ?_
        rotate_left
        ·simp only [Act.put,uA3,uB3,uC3,i64_w,i32_w]
         rfl
        refine pure_ (i:=28) (N:=some 40) (v:=undef) (a':=?_) #[true,true,true,true,true,true,true,true,true,true,true,true,true,true,true,true,true,true,true,true,true,true,true,true,true,true,true,true,true,false] rfl rfl (any_of HT_.out (zsx3_4)) (fun _ _ _ h=>h) (Or.inr ⟨by rfl,rfl⟩) ?_ ?_
        rotate_left
        ·simp only [Act.put,uA3,uB3,uC3,i64_w,i32_w]
         rfl
        refine pure_ (i:=29) (N:=some 41) (v:=?_) (a':=?_) #[true,true,true,true,true,true,true,true,true,true,true,true,true,true,true,true,true,true,true,true,true,true,true,true,true,true,true,true,true,true] rfl rfl (any_of HT_.out (zsx3_4)) (fun _ _ _ h=>h) (Or.inl ⟨by rfl,?_⟩) ?_ ?_
        rotate_left
        ·intro w'
         go_simp
         with_reducible rfl
        rotate_left
        ·simp only [Act.put,uA3,uB3,uC3,i64_w,i32_w]
         rfl
        refine done_ (done_of HT_.out (zsx3_4)) ?_
        try go_wp2
        go_ret
        exact ⟨zsx3_7,zsx3_3⟩
      ·replace c6:=Bool.eq_false_iff.mpr c6
       subst c6
       have H1:(some false)=some r:=by rw [if_neg (show ¬ (false=true) by decide)] at H;exact H
       clear H
       have H:=H1
       clear H1
       obtain rfl:=Option.some.inj H
       have p284:0≤(x7_1:Int):=oD3 (zsx3_1)
       have q284:x7_1 < (l0.length:Int):=oD3 (zsx3_1)
       obtain ⟨ad284,e284,hx284_0,hx284_1,hx284_2⟩:=at_T96 HR0.out x7_1 p284 q284
       cases e284
       replace hx284_0:=(HB.out.cell (bL3 w _ hx284_0)).trans hx284_0
       replace hx284_1:=(HB.out.cell (bL3 w _ hx284_1)).trans hx284_1
       replace hx284_2:=(HB.out.cell (bL3 w _ hx284_2)).trans hx284_2
       replace p284:=eq_true p284
       replace q284:=eq_true q284
       try go_wp2_with (first|((with_reducible refine gate_dst (N:=4) rfl ?_);refine box_event ?hg (N:=4) ?hd (cs:=#[.int .i64 0,.int .i64 0,.int .i64 0]) (t:=96) ?hr ?_;(case hd=>rfl);(case hg=>rfl);(case hr=>exact zsx3_8);intro gb285 hg w39 hbox hb;have n0_:=aM3 (below_step (zsx3_0) hb);have n1_:=aM3 (hbox);have n2_:=aM3 ((zsx3_9:w.heap.size≤gb285));have n3_:=aM3 ((zsx3_9:w.heap.size≤gb285));clear HB;have HB:=n0_;have BK285:=n1_;have GW285:=n2_;have GE285:=n3_;clear n0_ n1_ n2_ n3_ hb hbox hg;have hcz40_0:w39.cell? ⟨gb285,0,none⟩=some (.int .i64 0):=(bC3 BK285.out 0).trans rfl;have hcz40_1:w39.cell? ⟨gb285,1,none⟩=some (.int .i64 0):=(bC3 BK285.out 1).trans rfl;have hcz40_2:w39.cell? ⟨gb285,2,none⟩=some (.int .i64 0):=(bC3 BK285.out 2).trans rfl;have hfz40_0:=blk_frozen BK285.out 0;have hfz40_1:=blk_frozen BK285.out 1;have hfz40_2:=blk_frozen BK285.out 2))
       have n0_:Aside0 ((((w39.setCell ⟨gb285,0,none⟩ (.int .i64 ((rd_T96 l0 x7_1).f0))).setCell ⟨gb285,1,none⟩ (.int .i64 ((rd_T96 l0 x7_1).f1))).setCell ⟨gb285,2,none⟩ (.int .i64 ((rd_T96 l0 x7_1).f2))).heap[gb285]?=some (.cells #[.int .i64 ((rd_T96 l0 x7_1).f0),.int .i64 ((rd_T96 l0 x7_1).f1),.int .i64 ((rd_T96 l0 x7_1).f2)] 96 (0,0))):=⟨zsx3_2⟩
       have n1_:Aside0 (Below w.heap.size w (((w39.setCell ⟨gb285,0,none⟩ (.int .i64 ((rd_T96 l0 x7_1).f0))).setCell ⟨gb285,1,none⟩ (.int .i64 ((rd_T96 l0 x7_1).f1))).setCell ⟨gb285,2,none⟩ (.int .i64 ((rd_T96 l0 x7_1).f2)))):=⟨zsx3_3⟩
       (try clear BK285)
       (try clear HB)
       generalize (((w39.setCell ⟨gb285,0,none⟩ (.int .i64 ((rd_T96 l0 x7_1).f0))).setCell ⟨gb285,1,none⟩ (.int .i64 ((rd_T96 l0 x7_1).f1))).setCell ⟨gb285,2,none⟩ (.int .i64 ((rd_T96 l0 x7_1).f2)))=w41 at n0_ n1_ ⊢
       have BK285:=n0_
       have HB:=n1_
       clear n0_ n1_
       have n0_:=aM3 (blk_drew BK285.out)
       have n1_:=aM3 (below_drew1 HB.out)
       clear BK285 HB
       have BK285:=n0_
       have HB:=n1_
       clear n0_ n1_
       refine start_ (n:=30) (S:=fun w'=>w'.cell? ⟨gb285,0,none⟩=some (.int .i64 ((rd_T96 l0 x7_1).f0))∧w'.cell? ⟨gb285,1,none⟩=some (.int .i64 ((rd_T96 l0 x7_1).f1))∧w'.cell? ⟨gb285,2,none⟩=some (.int .i64 ((rd_T96 l0 x7_1).f2))) (ds:=[]) #[false,false,false,false,false,false,false,false,false,false,false,false,false,false,false,false,false,false,false,false,false,false,false,false,false,false,false,false,false,false] (zsx3_4) rfl rfl ⟨(bC3 BK285.out 0).trans rfl,(bC3 BK285.out 1).trans rfl,(bC3 BK285.out 2).trans rfl⟩ (fun hHeld=>?_);refine with_tabW spec_slTemplate.tab4 spec_slTemplate.bits4 (fun HT_ HW_=>?_)
       generalize w41.drew=w42 at BK285 HB hHeld ⊢
       refine pure_ (i:=0) (N:=some 12) (v:=?_) (a':=?_) #[true,false,false,false,false,false,false,false,false,false,false,false,false,false,false,false,false,false,false,false,false,false,false,false,false,false,false,false,false,false] rfl rfl (any_of HT_.out (zsx3_4)) (fun _ _ _ h=>h) (Or.inl ⟨by rfl,?_⟩) ?_ ?_
       rotate_left
       ·intro w'
        go_simp
        with_reducible rfl
       rotate_left
       ·simp only [Act.put,uA3,uB3,uC3,i64_w,i32_w]
        rfl
       refine take_ (i:=1) (N:=some 13) (v:=?_) (a':=?_) #[true,true,false,false,false,false,false,false,false,false,false,false,false,false,false,false,false,false,false,false,false,false,false,false,false,false,false,false,false,false] rfl rfl (take_ofW HT_.out HW_.out (zsx3_4)) (fun _ _ _ h=>h) (Or.inl ⟨by rfl,?_⟩) hHeld ?_ ?_
       rotate_left
       ·rintro w' ⟨s0,s1,s2⟩
        go_simp
        with_reducible rfl
       rotate_left
       ·simp only [Act.put,uA3,uB3,uC3,i64_w,i32_w]
        rfl
       refine one_ (i:=2) (N:=some 14) #[true,true,true,false,false,false,false,false,false,false,false,false,false,false,false,false,false,false,false,false,false,false,false,false,false,false,false,false,false,false] rfl rfl (one_of HT_.out (zsx3_4)) (by decide) (fun K hK=>?_)
       refine goes_ Try.func70 (zsx3_4) rfl #[.int .i64 ((rd_T96 l0 x7_1).f0),.int .i64 (-2),.int .i64 2] (by rfl) rfl rfl (zsx3_5) ?_
       with_reducible refine (spec_l1In.calls ((rd_T96 l0 x7_1).f0) (-2) 2 false _ A5.out).mono ?_
       rintro e w' ⟨rfl,⟨nd,rfl⟩⟩
       refine ⟨_,rfl,?_⟩
       refine hK.out _ _ ⟨(bC3 BK285.out 0).trans rfl,(bC3 BK285.out 1).trans rfl,(bC3 BK285.out 2).trans rfl⟩ (fun hHeld=>?_)
       clear hK K
       refine norm_ (a':=?_) ?_ ?_
       rotate_left
       ·show Act.put _ (some 14) _=_
        simp only [Act.put,uA3,uB3,uC3,i64_w,i32_w]
        rfl
       refine pure_ (i:=3) (N:=some 15) (v:=?_) (a':=?_) #[true,true,true,true,false,false,false,false,false,false,false,false,false,false,false,false,false,false,false,false,false,false,false,false,false,false,false,false,false,false] rfl rfl (any_of HT_.out (zsx3_4)) (fun _ _ _ h=>h) (Or.inl ⟨by rfl,?_⟩) ?_ ?_
       rotate_left
       ·intro w'
        go_simp
        with_reducible rfl
       rotate_left
       ·simp only [Act.put,uA3,uB3,uC3,i64_w,i32_w]
        rfl
       refine pure_ (i:=4) (N:=some 16) (v:=?_) (a':=?_) #[true,true,true,true,true,false,false,false,false,false,false,false,false,false,false,false,false,false,false,false,false,false,false,false,false,false,false,false,false,false] rfl rfl (any_of HT_.out (zsx3_4)) (fun _ _ _ h=>h) (Or.inl ⟨by rfl,?_⟩) ?_ ?_
       rotate_left
       ·intro w'
        go_simp
        with_reducible rfl
       rotate_left
       ·simp only [Act.put,uA3,uB3,uC3,i64_w,i32_w]
        rfl
       refine pure_ (i:=5) (N:=some 17) (v:=undef) (a':=?_) #[true,true,true,true,true,true,false,false,false,false,false,false,false,false,false,false,false,false,false,false,false,false,false,false,false,false,false,false,false,false] rfl rfl (any_of HT_.out (zsx3_4)) (fun _ _ _ h=>h) (Or.inr ⟨by rfl,rfl⟩) ?_ ?_
       rotate_left
       ·simp only [Act.put,uA3,uB3,uC3,i64_w,i32_w]
        rfl
       refine pure_ (i:=6) (N:=some 18) (v:=undef) (a':=?_) #[true,true,true,true,true,true,true,false,false,false,false,false,false,false,false,false,false,false,false,false,false,false,false,false,false,false,false,false,false,false] rfl rfl (any_of HT_.out (zsx3_4)) (fun _ _ _ h=>h) (Or.inr ⟨by rfl,rfl⟩) ?_ ?_
       rotate_left
       ·simp only [Act.put,uA3,uB3,uC3,i64_w,i32_w]
        rfl
       refine pure_ (i:=7) (N:=some 19) (v:=undef) (a':=?_) #[true,true,true,true,true,true,true,true,false,false,false,false,false,false,false,false,false,false,false,false,false,false,false,false,false,false,false,false,false,false] rfl rfl (any_of HT_.out (zsx3_4)) (fun _ _ _ h=>h) (Or.inr ⟨by rfl,rfl⟩) ?_ ?_
       rotate_left
       ·simp only [Act.put,uA3,uB3,uC3,i64_w,i32_w]
        rfl
       refine pure_ (i:=8) (N:=some 20) (v:=undef) (a':=?_) #[true,true,true,true,true,true,true,true,true,false,false,false,false,false,false,false,false,false,false,false,false,false,false,false,false,false,false,false,false,false] rfl rfl (any_of HT_.out (zsx3_4)) (fun _ _ _ h=>h) (Or.inr ⟨by rfl,rfl⟩) ?_ ?_
       rotate_left
       ·simp only [Act.put,uA3,uB3,uC3,i64_w,i32_w]
        rfl
       refine pure_ (i:=9) (N:=some 21) (v:=?_) (a':=?_) #[true,true,true,true,true,true,true,true,true,true,false,false,false,false,false,false,false,false,false,false,false,false,false,false,false,false,false,false,false,false] rfl rfl (any_of HT_.out (zsx3_4)) (fun _ _ _ h=>h) (Or.inl ⟨by rfl,?_⟩) ?_ ?_
       rotate_left
       ·intro w'
        go_simp
        with_reducible rfl
       rotate_left
       ·simp only [Act.put,uA3,uB3,uC3,i64_w,i32_w]
        rfl
       refine pure_ (i:=10) (N:=some 22) (v:=?_) (a':=?_) #[true,true,true,true,true,true,true,true,true,true,true,false,false,false,false,false,false,false,false,false,false,false,false,false,false,false,false,false,false,false] rfl rfl (any_of HT_.out (zsx3_4)) (fun _ _ _ h=>h) (Or.inl ⟨by rfl,?_⟩) ?_ ?_
       rotate_left
       ·intro w'
        go_simp
        with_reducible rfl
       rotate_left
       ·simp only [Act.put,uA3,uB3,uC3,i64_w,i32_w]
        rfl
       refine pure_ (i:=11) (N:=some 23) (v:=undef) (a':=?_) #[true,true,true,true,true,true,true,true,true,true,true,true,false,false,false,false,false,false,false,false,false,false,false,false,false,false,false,false,false,false] rfl rfl (any_of HT_.out (zsx3_4)) (fun _ _ _ h=>h) (Or.inr ⟨by rfl,rfl⟩) ?_ ?_
       rotate_left
       ·simp only [Act.put,uA3,uB3,uC3,i64_w,i32_w]
        rfl
       refine pure_ (i:=12) (N:=some 24) (v:=undef) (a':=?_) #[true,true,true,true,true,true,true,true,true,true,true,true,true,false,false,false,false,false,false,false,false,false,false,false,false,false,false,false,false,false] rfl rfl (any_of HT_.out (zsx3_4)) (fun _ _ _ h=>h) (Or.inr ⟨by rfl,rfl⟩) ?_ ?_
       rotate_left
       ·simp only [Act.put,uA3,uB3,uC3,i64_w,i32_w]
        rfl
       refine pure_ (i:=13) (N:=some 25) (v:=undef) (a':=?_) #[true,true,true,true,true,true,true,true,true,true,true,true,true,true,false,false,false,false,false,false,false,false,false,false,false,false,false,false,false,false] rfl rfl (any_of HT_.out (zsx3_4)) (fun _ _ _ h=>h) (Or.inr ⟨by rfl,rfl⟩) ?_ ?_
       rotate_left
       ·simp only [Act.put,uA3,uB3,uC3,i64_w,i32_w]
        rfl
       refine pure_ (i:=14) (N:=some 26) (v:=undef) (a':=?_) #[true,true,true,true,true,true,true,true,true,true,true,true,true,true,true,false,false,false,false,false,false,false,false,false,false,false,false,false,false,false] rfl rfl (any_of HT_.out (zsx3_4)) (fun _ _ _ h=>h) (Or.inr ⟨by rfl,rfl⟩) ?_ ?_
       rotate_left
       ·simp only [Act.put,uA3,uB3,uC3,i64_w,i32_w]
        rfl
       refine pure_ (i:=15) (N:=some 27) (v:=?_) (a':=?_) #[true,true,true,true,true,true,true,true,true,true,true,true,true,true,true,true,false,false,false,false,false,false,false,false,false,false,false,false,false,false] rfl rfl (any_of HT_.out (zsx3_4)) (fun _ _ _ h=>h) (Or.inl ⟨by rfl,?_⟩) ?_ ?_
       rotate_left
       ·intro w'
        go_simp
        with_reducible rfl
       rotate_left
       ·simp only [Act.put,uA3,uB3,uC3,i64_w,i32_w]
        rfl
       refine pure_ (i:=16) (N:=some 28) (v:=?_) (a':=?_) #[true,true,true,true,true,true,true,true,true,true,true,true,true,true,true,true,true,false,false,false,false,false,false,false,false,false,false,false,false,false] rfl rfl (any_of HT_.out (zsx3_4)) (fun _ _ _ h=>h) (Or.inl ⟨by rfl,?_⟩) ?_ ?_
       rotate_left
       ·intro w'
        go_simp
        with_reducible rfl
       rotate_left
       ·simp only [Act.put,uA3,uB3,uC3,i64_w,i32_w]
        rfl
       refine pure_ (i:=17) (N:=some 29) (v:=undef) (a':=?_) #[true,true,true,true,true,true,true,true,true,true,true,true,true,true,true,true,true,true,false,false,false,false,false,false,false,false,false,false,false,false] rfl rfl (any_of HT_.out (zsx3_4)) (fun _ _ _ h=>h) (Or.inr ⟨by rfl,rfl⟩) ?_ ?_
       rotate_left
       ·simp only [Act.put,uA3,uB3,uC3,i64_w,i32_w]
        rfl
       refine pure_ (i:=18) (N:=some 30) (v:=undef) (a':=?_) #[true,true,true,true,true,true,true,true,true,true,true,true,true,true,true,true,true,true,true,false,false,false,false,false,false,false,false,false,false,false] rfl rfl (any_of HT_.out (zsx3_4)) (fun _ _ _ h=>h) (Or.inr ⟨by rfl,rfl⟩) ?_ ?_
       rotate_left
       ·simp only [Act.put,uA3,uB3,uC3,i64_w,i32_w]
        rfl
       refine pure_ (i:=19) (N:=some 31) (v:=undef) (a':=?_) #[true,true,true,true,true,true,true,true,true,true,true,true,true,true,true,true,true,true,true,true,false,false,false,false,false,false,false,false,false,false] rfl rfl (any_of HT_.out (zsx3_4)) (fun _ _ _ h=>h) (Or.inr ⟨by rfl,rfl⟩) ?_ ?_
       rotate_left
       ·simp only [Act.put,uA3,uB3,uC3,i64_w,i32_w]
        rfl
       refine pure_ (i:=20) (N:=some 32) (v:=undef) (a':=?_) #[true,true,true,true,true,true,true,true,true,true,true,true,true,true,true,true,true,true,true,true,true,false,false,false,false,false,false,false,false,false] rfl rfl (any_of HT_.out (zsx3_4)) (fun _ _ _ h=>h) (Or.inr ⟨by rfl,rfl⟩) ?_ ?_
       rotate_left
       ·simp only [Act.put,uA3,uB3,uC3,i64_w,i32_w]
        rfl
       refine pure_ (i:=21) (N:=some 33) (v:=undef) (a':=?_) #[true,true,true,true,true,true,true,true,true,true,true,true,true,true,true,true,true,true,true,true,true,true,false,false,false,false,false,false,false,false] rfl rfl (any_of HT_.out (zsx3_4)) (fun _ _ _ h=>h) (Or.inr ⟨by rfl,rfl⟩) ?_ ?_
       rotate_left
       ·simp only [Act.put,uA3,uB3,uC3,i64_w,i32_w]
        rfl
       refine pure_ (i:=22) (N:=some 34) (v:=undef) (a':=?_) #[true,true,true,true,true,true,true,true,true,true,true,true,true,true,true,true,true,true,true,true,true,true,true,false,false,false,false,false,false,false] rfl rfl (any_of HT_.out (zsx3_4)) (fun _ _ _ h=>h) (Or.inr ⟨by rfl,rfl⟩) ?_ ?_
       rotate_left
       ·simp only [Act.put,uA3,uB3,uC3,i64_w,i32_w]
        rfl
       refine pure_ (i:=23) (N:=some 35) (v:=undef) (a':=?_) #[true,true,true,true,true,true,true,true,true,true,true,true,true,true,true,true,true,true,true,true,true,true,true,true,false,false,false,false,false,false] rfl rfl (any_of HT_.out (zsx3_4)) (fun _ _ _ h=>h) (Or.inr ⟨by rfl,rfl⟩) ?_ ?_
       rotate_left
       ·simp only [Act.put,uA3,uB3,uC3,i64_w,i32_w]
        rfl
       refine pure_ (i:=24) (N:=some 36) (v:=undef) (a':=?_) #[true,true,true,true,true,true,true,true,true,true,true,true,true,true,true,true,true,true,true,true,true,true,true,true,true,false,false,false,false,false] rfl rfl (any_of HT_.out (zsx3_4)) (fun _ _ _ h=>h) (Or.inr ⟨by rfl,rfl⟩) ?_ ?_
       rotate_left
       ·simp only [Act.put,uA3,uB3,uC3,i64_w,i32_w]
        rfl
       refine pure_ (i:=25) (N:=some 37) (v:=undef) (a':=?_) #[true,true,true,true,true,true,true,true,true,true,true,true,true,true,true,true,true,true,true,true,true,true,true,true,true,true,false,false,false,false] rfl rfl (any_of HT_.out (zsx3_4)) (fun _ _ _ h=>h) (Or.inr ⟨by rfl,rfl⟩) ?_ ?_
       rotate_left
       ·simp only [Act.put,uA3,uB3,uC3,i64_w,i32_w]
        rfl
       refine pure_ (i:=26) (N:=some 38) (v:=undef) (a':=?_) #[true,true,true,true,true,true,true,true,true,true,true,true,true,true,true,true,true,true,true,true,true,true,true,true,true,true,true,false,false,false] rfl rfl (any_of HT_.out (zsx3_4)) (fun _ _ _ h=>h) (Or.inr ⟨by rfl,rfl⟩) ?_ ?_
       rotate_left
       ·simp only [Act.put,uA3,uB3,uC3,i64_w,i32_w]
        rfl
       refine pure_ (i:=27) (N:=some 39) (v:=undef) (a':=?_) #[true,true,true,true,true,true,true,true,true,true,true,true,true,true,true,true,true,true,true,true,true,true,true,true,true,true,true,true,false,false] rfl rfl (any_of HT_.out (zsx3_4)) (fun _ _ _ h=>h) (Or.inr ⟨by rfl,rfl⟩) ?_ ?_
       rotate_left
       ·simp only [Act.put,uA3,uB3,uC3,i64_w,i32_w]
        rfl
       refine pure_ (i:=28) (N:=some 40) (v:=undef) (a':=?_) #[true,true,true,true,true,true,true,true,true,true,true,true,true,true,true,true,true,true,true,true,true,true,true,true,true,true,true,true,true,false] rfl rfl (any_of HT_.out (zsx3_4)) (fun _ _ _ h=>h) (Or.inr ⟨by rfl,rfl⟩) ?_ ?_
       rotate_left
       ·simp only [Act.put,uA3,uB3,uC3,i64_w,i32_w]
        rfl
       refine pure_ (i:=29) (N:=some 41) (v:=?_) (a':=?_) #[true,true,true,true,true,true,true,true,true,true,true,true,true,true,true,true,true,true,true,true,true,true,true,true,true,true,true,true,true,true] rfl rfl (any_of HT_.out (zsx3_4)) (fun _ _ _ h=>h) (Or.inl ⟨by rfl,?_⟩) ?_ ?_
       rotate_left
       ·intro w'
        go_simp
        with_reducible rfl
       rotate_left
       ·simp only [Act.put,uA3,uB3,uC3,i64_w,i32_w]
        rfl
       refine done_ (done_of HT_.out (zsx3_4)) ?_
       try go_wp2
       go_ret
       exact ⟨zsx3_7,zsx3_3⟩
     ·rw [if_neg c4] at H
      exact absurd H (by simp)
    ·rw [if_neg c3] at H
     exact absurd H (by simp)
   ·rw [if_neg c2] at H
    have c2b0:decide (x7_1 < (l0.length:Int))=false:=decide_eq_false c2
    clear c2
    replace H:=Option.bind_eq_some_iff.mp H
    obtain ⟨t283,A430,H⟩:=H
    replace H:(some t283)=some r:=H
    have A43:=aM3 A430
    clear A430
    obtain rfl:=Option.some.inj H
    go_wp2_with (first|((with_reducible refine gate_callee (f:=70) rfl ?_);refine goesL_ (some 45) rfl rfl Try.func70 (zsx3_4) rfl #[.int .i64 (l0.length:Int),.int .i64 1,.int .i64 12] rfl (zsx3_5) ?_;(with_reducible refine (spec_l1In.calls (l0.length:Int) 1 12 t283 _ A43.out).mono ?_);rintro e w' ⟨rfl,⟨nd,rfl⟩⟩;refine ⟨_,rfl,?_⟩))
    go_ret
    exact ⟨zsx3_7,zsx3_0⟩
end Go.Proofs.Ytbhlffakpneecaa.PFnCones
end
