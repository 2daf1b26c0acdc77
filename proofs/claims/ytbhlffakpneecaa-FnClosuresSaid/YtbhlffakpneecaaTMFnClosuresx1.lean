/- Texts that print.sh has printed for the law FnClosures,one function each,put together in one file: contracts of its functions. -/
import Derived.Test.YtbhlffakpneecaaTStepW
import Derived.Test.YtbhlffakpneecaaTMFnClosuresx0
section
namespace Go.Proofs.Ytbhlffakpneecaa.PFnClosures
open Go.RowKit Go.Proofs.YtbhlffakpneecaaW.PrintWords Go.Proofs.YtbhlffakpneecaaW.PrintLast Go.Proofs.YtbhlffakpneecaaW.PrintMore
attribute [local go_sem] max2_int min2_int max_two min_two max_three min_three max_four min_four   -- for this text's walks alone
set_option linter.unusedVariables false
set_option linter.unusedSimpArgs false
theorem aM1:type_of% @Aside0.mk:=@Aside0.mk
theorem uA1:type_of% @List.setIfInBounds_toArray.{0}:=@List.setIfInBounds_toArray.{0}
theorem uB1:type_of% @List.set_cons_zero.{0}:=@List.set_cons_zero.{0}
theorem uC1:type_of% @List.set_cons_succ.{0}:=@List.set_cons_succ.{0}
theorem oD1:type_of% @of_decide_eq_true:=@of_decide_eq_true
theorem dT1:type_of% @decide_eq_true:=@decide_eq_true
theorem bI1:type_of% @Option.bind_eq_some_iff.{0,0}:=@Option.bind_eq_some_iff.{0,0}
theorem bC1:type_of% @blk_cell:=@blk_cell
theorem bZ1:type_of% @below_size:=@below_size
theorem zsx1_0 {P:Prop} (h:P:=by first|rfl|(simp;done)|(simp [*];done)):P:=h
theorem zsx1_1 {P:Prop} (h:P:=by repeat (first|exact Drawn0.refl _|apply Drawn0.step)):P:=h
theorem zsx1_2 {P:Prop} (h:P:=by kernel_rfl):P:=h
theorem zsx1_3 {P:Prop} (h:P:=by (try simp only [List.map_toArray,List.map_cons,List.map_nil]);first|done|rfl|(simp only [List.length_drop,List.length_take];rfl)):P:=h
theorem zsx1_4 {P:Prop} (h:P:=by repeat (first|(with_reducible first|exact HB.out|apply below_alloc|apply pw_below_drewN|apply below_drew1)|exact HB.out)):P:=h
theorem zsx1_5 {P:Prop} (h:P:=by (with_reducible repeat (first|apply Kd.R_alloc|apply Kd.R_drewN|apply Kd.R_drew));exact HO_3.out):P:=h
theorem zsx1_6 {P:Prop} (h:P:=by (with_reducible repeat (first|refine blk_drewN ?_ _|refine blk_drew ?_|refine blk_alloc ?_ _));exact BK271.out):P:=h
theorem zsx1_7 {P:Prop} (h:P:=by repeat (first|(with_reducible first|exact HB.out|apply below_alloc|apply pw_below_drewN|apply below_drew1|refine below_set ?_ GE271.out)|exact HB.out)):P:=h
theorem zsx1_8 {P:Prop} (h:P:=by first|(with_reducible assumption)|assumption):P:=h
theorem zsx1_9 {P:Prop} (h:P:=by repeat (first|(with_reducible first|exact HB.out|apply below_alloc|apply pw_below_drewN|apply below_drew1|refine below_set ?_ GE271.out|refine below_set ?_ GE272.out)|exact HB.out)):P:=h
theorem zsx1_10 {P:Prop} (h:P:=by (with_reducible repeat (first|refine blk_drewN ?_ _|refine blk_drew ?_|refine blk_alloc ?_ _));exact BK272.out):P:=h
theorem zsx1_11 {P:Prop} (h:P:=by (with_reducible repeat (first|apply Kd.R_alloc|apply Kd.R_drewN|apply Kd.R_drew));exact HO275.out):P:=h
theorem zsx1_12 {P:Prop} (h:P:=by simp only [putAll,Act.put,List.setIfInBounds_toArray,List.set_cons_zero,List.set_cons_succ]):P:=h
theorem zsx1_13 {P:Prop} (h:P:=by (with_reducible repeat (first|apply Kd.R_alloc|apply Kd.R_drewN|apply Kd.R_drew));exact Kd.R_mono HO275.out (fun _ hk=>hk.1)):P:=h
theorem zsx1_14 {P:Prop} (h:P:=by (with_reducible repeat (first|apply Kd.N_alloc|apply Kd.N_drewN|apply Kd.N_drew));exact HO281.out):P:=h
theorem zsx1_15 {P:Prop} (h:P:=by repeat (first|(with_reducible first|exact HK.out|apply KeepBut.set_|apply keep_drewN|apply keep_drew|apply keep_alloc)|exact HK.out)):P:=h
theorem zsx1_16 {P:Prop} (h:P:=by repeat (first|(with_reducible first|exact HI0.out|apply IsS61.alloc|apply IsS61.drewN|apply IsS61.drew|apply IsS61.set_1|apply IsS61.set_2)|exact HI0.out)):P:=h
theorem zsx1_17 {P:Prop} (h:P:=by repeat (first|(with_reducible first|exact HB.out|apply below_alloc|apply pw_below_drewN|apply below_drew1|refine below_set ?_ (IsS61.ge HI0.out))|exact HB.out)):P:=h
theorem zsx1_18 {P:Prop} (h:P:=by first|(go_simp;done)|(go_simp;rfl)):P:=h
def spec_l1Most.f (a0:Int) (a1:Int):Option (Int):=if a0 > a1 then (some a0) else (some a1)
set_option maxHeartbeats 8000000 in
set_option maxRecDepth 100000 in
theorem spec_l1Most.calls (a0:Int) (a1:Int) (r:Int) (w:World) (h:spec_l1Most.f a0 a1=some r) :
  Calls Try.prog 104 #[.int .i64 a0,.int .i64 a1] w fun e w'=>e=.returned (.int .i64 r)∧Drawn0 w w':=by
 have H:(if a0 > a1 then (some a0) else (some a1))=some r:=h;clear h
 by_cases c3:a0 > a1
 ·rw [if_pos c3] at H
  have c3b0:decide (a1 < a0)=true:=dT1 c3;clear c3;obtain rfl:=Option.some.inj H;go_enter Try.func104,Try.ntmps104
  go_wp2
  go_ret
  exact ⟨zsx1_0,zsx1_1⟩
 ·rw [if_neg c3] at H
  have c3b0:decide (a1 < a0)=false:=decide_eq_false c3;clear c3;obtain rfl:=Option.some.inj H;go_enter Try.func104,Try.ntmps104
  go_wp2
  go_ret
  exact ⟨zsx1_0,zsx1_1⟩
def spec_l1Abs.f (a0:Int):Option (Int):=(spec_l1Most.f a0 (wrap64 (-a0))).bind fun t262=>(some t262)
set_option maxHeartbeats 8000000 in
set_option maxRecDepth 100000 in
theorem spec_l1Abs.calls (a0:Int) (r:Int) (w:World) (h:spec_l1Abs.f a0=some r) :
  Calls Try.prog 103 #[.int .i64 a0] w fun e w'=>e=.returned (.int .i64 r)∧Drawn0 w w':=by
 have H:((spec_l1Most.f a0 (wrap64 (-a0))).bind fun t262=>(some t262))=some r:=h;clear h;replace H:=bI1.mp H;obtain ⟨t262,A20,H⟩:=H;(try dsimp only at H);have A2:=aM1 A20;clear A20;obtain rfl:=Option.some.inj H;go_enter Try.func103,Try.ntmps103
 go_wp2_with (first|((with_reducible refine gate_callee (f:=104) rfl ?_);refine goesL_ (some 6) rfl rfl Try.func104 (zsx1_2) rfl #[.int .i64 a0,.int .i64 (wrap64 (-a0))] rfl (zsx1_3) ?_;(with_reducible refine (spec_l1Most.calls a0 (wrap64 (-a0)) t262 _ A2.out).mono ?_);rintro e w' ⟨rfl,⟨nd,rfl⟩⟩;refine ⟨_,rfl,?_⟩))
 go_ret
 exact ⟨zsx1_0,zsx1_1⟩
def spec_slHas.f (a0:Int) (a1:Int) (a2:Int) (a3:Int):Option (Bool):=(spec_l1Abs.f a1).bind fun t263=>((spec_l1Abs.f a2).bind fun t264=>(if a0=1 then (if a3=1 then (some ((wrap64 (t263 + t264)) == 0)) else (some false)) else (if a0=2 then (if a3=1 then (some (decide ((wrap64 (t263 + t264))≤1))) else (some false)) else (if a0=3 then (if a3=1 then ((spec_l1Abs.f a1).bind fun t265=>(if t265≤1 then ((spec_l1Abs.f a2).bind fun t266=>(some (decide (t266≤1)))) else (some false))) else (some false)) else (if a3=1 then (if (wrap64 (t263 + t264))≤1 then (some true) else (if a3=2 then (if (wrap64 (t263 + t264))=2 then (some ((wrap64 (a1 * a2)) == 0)) else (some false)) else (some false))) else (if a3=2 then (if (wrap64 (t263 + t264))=2 then (some ((wrap64 (a1 * a2)) == 0)) else (some false)) else (some false)))))))
set_option maxHeartbeats 8000000 in
set_option maxRecDepth 100000 in
theorem spec_slHas.calls (a0:Int) (a1:Int) (a2:Int) (a3:Int) (r:Bool) (w:World) (h:spec_slHas.f a0 a1 a2 a3=some r) :
  Calls Try.prog 102 #[.int .i64 a0,.int .i64 a1,.int .i64 a2,.int .i64 a3] w fun e w'=>e=.returned (.bool r)∧Drawn0 w w':=by
 have H:((spec_l1Abs.f a1).bind fun t263=>((spec_l1Abs.f a2).bind fun t264=>(if a0=1 then (if a3=1 then (some ((wrap64 (t263 + t264)) == 0)) else (some false)) else (if a0=2 then (if a3=1 then (some (decide ((wrap64 (t263 + t264))≤1))) else (some false)) else (if a0=3 then (if a3=1 then ((spec_l1Abs.f a1).bind fun t265=>(if t265≤1 then ((spec_l1Abs.f a2).bind fun t266=>(some (decide (t266≤1)))) else (some false))) else (some false)) else (if a3=1 then (if (wrap64 (t263 + t264))≤1 then (some true) else (if a3=2 then (if (wrap64 (t263 + t264))=2 then (some ((wrap64 (a1 * a2)) == 0)) else (some false)) else (some false))) else (if a3=2 then (if (wrap64 (t263 + t264))=2 then (some ((wrap64 (a1 * a2)) == 0)) else (some false)) else (some false))))))))=some r:=h;clear h;replace H:=bI1.mp H;obtain ⟨t263,A50,H⟩:=H;(try dsimp only at H);have A5:=aM1 A50;clear A50;replace H:=bI1.mp H;obtain ⟨t264,A60,H⟩:=H;(try dsimp only at H);have A6:=aM1 A60;clear A60
 by_cases c7:a0=1
 ·rw [if_pos c7] at H
  have c7b0:(a0 == 1)=true:=beq_iff_eq.mpr c7;have c7b1:(a0 != 1)=false:=bne_eq_false_iff_eq.mpr c7;clear c7
  by_cases c8:a3=1
  ·rw [if_pos c8] at H
   have c8b0:(a3 == 1)=true:=beq_iff_eq.mpr c8;have c8b1:(a3 != 1)=false:=bne_eq_false_iff_eq.mpr c8;clear c8;obtain rfl:=Option.some.inj H;go_enter Try.func102,Try.ntmps102
   go_wp2_with (first|((with_reducible refine gate_callee (f:=103) rfl ?_);refine goesL_ (some 11) rfl rfl Try.func103 (zsx1_2) rfl #[.int .i64 a1] rfl (zsx1_3) ?_;(with_reducible refine (spec_l1Abs.calls a1 t263 _ A5.out).mono ?_);rintro e w' ⟨rfl,⟨nd,rfl⟩⟩;refine ⟨_,rfl,?_⟩)|((with_reducible refine gate_callee (f:=103) rfl ?_);refine goesL_ (some 13) rfl rfl Try.func103 (zsx1_2) rfl #[.int .i64 a2] rfl (zsx1_3) ?_;(with_reducible refine (spec_l1Abs.calls a2 t264 _ A6.out).mono ?_);rintro e w' ⟨rfl,⟨nd,rfl⟩⟩;refine ⟨_,rfl,?_⟩))
   go_ret
   exact ⟨zsx1_0,zsx1_1⟩
  ·rw [if_neg c8] at H
   have c8b0:(a3 == 1)=false:=beq_eq_false_iff_ne.mpr c8;have c8b1:(a3 != 1)=true:=bne_iff_ne.mpr c8;obtain rfl:=Option.some.inj H;go_enter Try.func102,Try.ntmps102
   go_wp2_with (first|((with_reducible refine gate_callee (f:=103) rfl ?_);refine goesL_ (some 11) rfl rfl Try.func103 (zsx1_2) rfl #[.int .i64 a1] rfl (zsx1_3) ?_;(with_reducible refine (spec_l1Abs.calls a1 t263 _ A5.out).mono ?_);rintro e w' ⟨rfl,⟨nd,rfl⟩⟩;refine ⟨_,rfl,?_⟩)|((with_reducible refine gate_callee (f:=103) rfl ?_);refine goesL_ (some 13) rfl rfl Try.func103 (zsx1_2) rfl #[.int .i64 a2] rfl (zsx1_3) ?_;(with_reducible refine (spec_l1Abs.calls a2 t264 _ A6.out).mono ?_);rintro e w' ⟨rfl,⟨nd,rfl⟩⟩;refine ⟨_,rfl,?_⟩))
   go_ret
   exact ⟨zsx1_0,zsx1_1⟩
 ·rw [if_neg c7] at H
  have c7b0:(a0 == 1)=false:=beq_eq_false_iff_ne.mpr c7;have c7b1:(a0 != 1)=true:=bne_iff_ne.mpr c7
  by_cases c9:a0=2
  ·rw [if_pos c9] at H
   have c9b0:(a0 == 2)=true:=beq_iff_eq.mpr c9;have c9b1:(a0 != 2)=false:=bne_eq_false_iff_eq.mpr c9;clear c9
   by_cases c10:a3=1
   ·rw [if_pos c10] at H
    have c10b0:(a3 == 1)=true:=beq_iff_eq.mpr c10;have c10b1:(a3 != 1)=false:=bne_eq_false_iff_eq.mpr c10;clear c10;obtain rfl:=Option.some.inj H;go_enter Try.func102,Try.ntmps102
    go_wp2_with (first|((with_reducible refine gate_callee (f:=103) rfl ?_);refine goesL_ (some 11) rfl rfl Try.func103 (zsx1_2) rfl #[.int .i64 a1] rfl (zsx1_3) ?_;(with_reducible refine (spec_l1Abs.calls a1 t263 _ A5.out).mono ?_);rintro e w' ⟨rfl,⟨nd,rfl⟩⟩;refine ⟨_,rfl,?_⟩)|((with_reducible refine gate_callee (f:=103) rfl ?_);refine goesL_ (some 13) rfl rfl Try.func103 (zsx1_2) rfl #[.int .i64 a2] rfl (zsx1_3) ?_;(with_reducible refine (spec_l1Abs.calls a2 t264 _ A6.out).mono ?_);rintro e w' ⟨rfl,⟨nd,rfl⟩⟩;refine ⟨_,rfl,?_⟩))
    go_ret
    exact ⟨zsx1_0,zsx1_1⟩
   ·rw [if_neg c10] at H
    have c10b0:(a3 == 1)=false:=beq_eq_false_iff_ne.mpr c10;have c10b1:(a3 != 1)=true:=bne_iff_ne.mpr c10;obtain rfl:=Option.some.inj H;go_enter Try.func102,Try.ntmps102
    go_wp2_with (first|((with_reducible refine gate_callee (f:=103) rfl ?_);refine goesL_ (some 11) rfl rfl Try.func103 (zsx1_2) rfl #[.int .i64 a1] rfl (zsx1_3) ?_;(with_reducible refine (spec_l1Abs.calls a1 t263 _ A5.out).mono ?_);rintro e w' ⟨rfl,⟨nd,rfl⟩⟩;refine ⟨_,rfl,?_⟩)|((with_reducible refine gate_callee (f:=103) rfl ?_);refine goesL_ (some 13) rfl rfl Try.func103 (zsx1_2) rfl #[.int .i64 a2] rfl (zsx1_3) ?_;(with_reducible refine (spec_l1Abs.calls a2 t264 _ A6.out).mono ?_);rintro e w' ⟨rfl,⟨nd,rfl⟩⟩;refine ⟨_,rfl,?_⟩))
    go_ret
    exact ⟨zsx1_0,zsx1_1⟩
  ·rw [if_neg c9] at H
   have c9b0:(a0 == 2)=false:=beq_eq_false_iff_ne.mpr c9;have c9b1:(a0 != 2)=true:=bne_iff_ne.mpr c9
   by_cases c11:a0=3
   ·rw [if_pos c11] at H
    have c11b0:(a0 == 3)=true:=beq_iff_eq.mpr c11;have c11b1:(a0 != 3)=false:=bne_eq_false_iff_eq.mpr c11;clear c11
    by_cases c12:a3=1
    ·rw [if_pos c12] at H
     have c12b0:(a3 == 1)=true:=beq_iff_eq.mpr c12;have c12b1:(a3 != 1)=false:=bne_eq_false_iff_eq.mpr c12;clear c12;replace H:=bI1.mp H;obtain ⟨t265,A130,H⟩:=H;(try dsimp only at H);have A13:=aM1 A130;clear A130
     by_cases c14:t265≤1
     ·rw [if_pos c14] at H
      have c14b0:decide (t265≤1)=true:=dT1 c14;clear c14;replace H:=bI1.mp H;obtain ⟨t266,A150,H⟩:=H;(try dsimp only at H);have A15:=aM1 A150;clear A150;obtain rfl:=Option.some.inj H;go_enter Try.func102,Try.ntmps102
      go_wp2_with (first|((with_reducible refine gate_callee (f:=103) rfl ?_);refine goesL_ (some 11) rfl rfl Try.func103 (zsx1_2) rfl #[.int .i64 a1] rfl (zsx1_3) ?_;(with_reducible refine (spec_l1Abs.calls a1 t263 _ A5.out).mono ?_);rintro e w' ⟨rfl,⟨nd,rfl⟩⟩;refine ⟨_,rfl,?_⟩)|((with_reducible refine gate_callee (f:=103) rfl ?_);refine goesL_ (some 13) rfl rfl Try.func103 (zsx1_2) rfl #[.int .i64 a2] rfl (zsx1_3) ?_;(with_reducible refine (spec_l1Abs.calls a2 t264 _ A6.out).mono ?_);rintro e w' ⟨rfl,⟨nd,rfl⟩⟩;refine ⟨_,rfl,?_⟩)|(go_at_call 103;(with_reducible refine (spec_l1Abs.calls a1 t265 _ A13.out).mono ?_);rintro e w' ⟨rfl,⟨nd,rfl⟩⟩)|(go_at_call 103;(with_reducible refine (spec_l1Abs.calls a2 t266 _ A15.out).mono ?_);rintro e w' ⟨rfl,⟨nd,rfl⟩⟩))
      go_ret
      exact ⟨zsx1_0,zsx1_1⟩
     ·rw [if_neg c14] at H
      have c14b0:decide (t265≤1)=false:=decide_eq_false c14;clear c14;obtain rfl:=Option.some.inj H;go_enter Try.func102,Try.ntmps102
      go_wp2_with (first|((with_reducible refine gate_callee (f:=103) rfl ?_);refine goesL_ (some 11) rfl rfl Try.func103 (zsx1_2) rfl #[.int .i64 a1] rfl (zsx1_3) ?_;(with_reducible refine (spec_l1Abs.calls a1 t263 _ A5.out).mono ?_);rintro e w' ⟨rfl,⟨nd,rfl⟩⟩;refine ⟨_,rfl,?_⟩)|((with_reducible refine gate_callee (f:=103) rfl ?_);refine goesL_ (some 13) rfl rfl Try.func103 (zsx1_2) rfl #[.int .i64 a2] rfl (zsx1_3) ?_;(with_reducible refine (spec_l1Abs.calls a2 t264 _ A6.out).mono ?_);rintro e w' ⟨rfl,⟨nd,rfl⟩⟩;refine ⟨_,rfl,?_⟩)|(go_at_call 103;(with_reducible refine (spec_l1Abs.calls a1 t265 _ A13.out).mono ?_);rintro e w' ⟨rfl,⟨nd,rfl⟩⟩))
      go_ret
      exact ⟨zsx1_0,zsx1_1⟩
    ·rw [if_neg c12] at H
     have c12b0:(a3 == 1)=false:=beq_eq_false_iff_ne.mpr c12;have c12b1:(a3 != 1)=true:=bne_iff_ne.mpr c12;obtain rfl:=Option.some.inj H;go_enter Try.func102,Try.ntmps102
     go_wp2_with (first|((with_reducible refine gate_callee (f:=103) rfl ?_);refine goesL_ (some 11) rfl rfl Try.func103 (zsx1_2) rfl #[.int .i64 a1] rfl (zsx1_3) ?_;(with_reducible refine (spec_l1Abs.calls a1 t263 _ A5.out).mono ?_);rintro e w' ⟨rfl,⟨nd,rfl⟩⟩;refine ⟨_,rfl,?_⟩)|((with_reducible refine gate_callee (f:=103) rfl ?_);refine goesL_ (some 13) rfl rfl Try.func103 (zsx1_2) rfl #[.int .i64 a2] rfl (zsx1_3) ?_;(with_reducible refine (spec_l1Abs.calls a2 t264 _ A6.out).mono ?_);rintro e w' ⟨rfl,⟨nd,rfl⟩⟩;refine ⟨_,rfl,?_⟩))
     go_ret
     exact ⟨zsx1_0,zsx1_1⟩
   ·rw [if_neg c11] at H
    have c11b0:(a0 == 3)=false:=beq_eq_false_iff_ne.mpr c11;have c11b1:(a0 != 3)=true:=bne_iff_ne.mpr c11
    by_cases c16:a3=1
    ·rw [if_pos c16] at H
     have c16b0:(a3 == 1)=true:=beq_iff_eq.mpr c16;have c16b1:(a3 != 1)=false:=bne_eq_false_iff_eq.mpr c16;clear c16
     by_cases c17:(wrap64 (t263 + t264))≤1
     ·rw [if_pos c17] at H
      have c17b0:decide ((wrap64 (t263 + t264))≤1)=true:=dT1 c17;clear c17;obtain rfl:=Option.some.inj H;go_enter Try.func102,Try.ntmps102
      go_wp2_with (first|((with_reducible refine gate_callee (f:=103) rfl ?_);refine goesL_ (some 11) rfl rfl Try.func103 (zsx1_2) rfl #[.int .i64 a1] rfl (zsx1_3) ?_;(with_reducible refine (spec_l1Abs.calls a1 t263 _ A5.out).mono ?_);rintro e w' ⟨rfl,⟨nd,rfl⟩⟩;refine ⟨_,rfl,?_⟩)|((with_reducible refine gate_callee (f:=103) rfl ?_);refine goesL_ (some 13) rfl rfl Try.func103 (zsx1_2) rfl #[.int .i64 a2] rfl (zsx1_3) ?_;(with_reducible refine (spec_l1Abs.calls a2 t264 _ A6.out).mono ?_);rintro e w' ⟨rfl,⟨nd,rfl⟩⟩;refine ⟨_,rfl,?_⟩))
      go_ret
      exact ⟨zsx1_0,zsx1_1⟩
     ·rw [if_neg c17] at H
      have c17b0:decide ((wrap64 (t263 + t264))≤1)=false:=decide_eq_false c17;clear c17
      by_cases c18:a3=2
      ·rw [if_pos c18] at H
       have c18b0:(a3 == 2)=true:=beq_iff_eq.mpr c18;have c18b1:(a3 != 2)=false:=bne_eq_false_iff_eq.mpr c18;clear c18
       by_cases c19:(wrap64 (t263 + t264))=2
       ·rw [if_pos c19] at H
        have c19b0:((wrap64 (t263 + t264)) == 2)=true:=beq_iff_eq.mpr c19;have c19b1:((wrap64 (t263 + t264)) != 2)=false:=bne_eq_false_iff_eq.mpr c19;clear c19;obtain rfl:=Option.some.inj H;go_enter Try.func102,Try.ntmps102
        go_wp2_with (first|((with_reducible refine gate_callee (f:=103) rfl ?_);refine goesL_ (some 11) rfl rfl Try.func103 (zsx1_2) rfl #[.int .i64 a1] rfl (zsx1_3) ?_;(with_reducible refine (spec_l1Abs.calls a1 t263 _ A5.out).mono ?_);rintro e w' ⟨rfl,⟨nd,rfl⟩⟩;refine ⟨_,rfl,?_⟩)|((with_reducible refine gate_callee (f:=103) rfl ?_);refine goesL_ (some 13) rfl rfl Try.func103 (zsx1_2) rfl #[.int .i64 a2] rfl (zsx1_3) ?_;(with_reducible refine (spec_l1Abs.calls a2 t264 _ A6.out).mono ?_);rintro e w' ⟨rfl,⟨nd,rfl⟩⟩;refine ⟨_,rfl,?_⟩))
        go_ret
        exact ⟨zsx1_0,zsx1_1⟩
       ·rw [if_neg c19] at H
        have c19b0:((wrap64 (t263 + t264)) == 2)=false:=beq_eq_false_iff_ne.mpr c19;have c19b1:((wrap64 (t263 + t264)) != 2)=true:=bne_iff_ne.mpr c19;obtain rfl:=Option.some.inj H;go_enter Try.func102,Try.ntmps102
        go_wp2_with (first|((with_reducible refine gate_callee (f:=103) rfl ?_);refine goesL_ (some 11) rfl rfl Try.func103 (zsx1_2) rfl #[.int .i64 a1] rfl (zsx1_3) ?_;(with_reducible refine (spec_l1Abs.calls a1 t263 _ A5.out).mono ?_);rintro e w' ⟨rfl,⟨nd,rfl⟩⟩;refine ⟨_,rfl,?_⟩)|((with_reducible refine gate_callee (f:=103) rfl ?_);refine goesL_ (some 13) rfl rfl Try.func103 (zsx1_2) rfl #[.int .i64 a2] rfl (zsx1_3) ?_;(with_reducible refine (spec_l1Abs.calls a2 t264 _ A6.out).mono ?_);rintro e w' ⟨rfl,⟨nd,rfl⟩⟩;refine ⟨_,rfl,?_⟩))
        go_ret
        exact ⟨zsx1_0,zsx1_1⟩
      ·rw [if_neg c18] at H
       have c18b0:(a3 == 2)=false:=beq_eq_false_iff_ne.mpr c18;have c18b1:(a3 != 2)=true:=bne_iff_ne.mpr c18;obtain rfl:=Option.some.inj H;go_enter Try.func102,Try.ntmps102
       go_wp2_with (first|((with_reducible refine gate_callee (f:=103) rfl ?_);refine goesL_ (some 11) rfl rfl Try.func103 (zsx1_2) rfl #[.int .i64 a1] rfl (zsx1_3) ?_;(with_reducible refine (spec_l1Abs.calls a1 t263 _ A5.out).mono ?_);rintro e w' ⟨rfl,⟨nd,rfl⟩⟩;refine ⟨_,rfl,?_⟩)|((with_reducible refine gate_callee (f:=103) rfl ?_);refine goesL_ (some 13) rfl rfl Try.func103 (zsx1_2) rfl #[.int .i64 a2] rfl (zsx1_3) ?_;(with_reducible refine (spec_l1Abs.calls a2 t264 _ A6.out).mono ?_);rintro e w' ⟨rfl,⟨nd,rfl⟩⟩;refine ⟨_,rfl,?_⟩))
       go_ret
       exact ⟨zsx1_0,zsx1_1⟩
    ·rw [if_neg c16] at H
     have c16b0:(a3 == 1)=false:=beq_eq_false_iff_ne.mpr c16;have c16b1:(a3 != 1)=true:=bne_iff_ne.mpr c16
     by_cases c20:a3=2
     ·rw [if_pos c20] at H
      have c20b0:(a3 == 2)=true:=beq_iff_eq.mpr c20;have c20b1:(a3 != 2)=false:=bne_eq_false_iff_eq.mpr c20;clear c20
      by_cases c21:(wrap64 (t263 + t264))=2
      ·rw [if_pos c21] at H
       have c21b0:((wrap64 (t263 + t264)) == 2)=true:=beq_iff_eq.mpr c21;have c21b1:((wrap64 (t263 + t264)) != 2)=false:=bne_eq_false_iff_eq.mpr c21;clear c21;obtain rfl:=Option.some.inj H;go_enter Try.func102,Try.ntmps102
       go_wp2_with (first|((with_reducible refine gate_callee (f:=103) rfl ?_);refine goesL_ (some 11) rfl rfl Try.func103 (zsx1_2) rfl #[.int .i64 a1] rfl (zsx1_3) ?_;(with_reducible refine (spec_l1Abs.calls a1 t263 _ A5.out).mono ?_);rintro e w' ⟨rfl,⟨nd,rfl⟩⟩;refine ⟨_,rfl,?_⟩)|((with_reducible refine gate_callee (f:=103) rfl ?_);refine goesL_ (some 13) rfl rfl Try.func103 (zsx1_2) rfl #[.int .i64 a2] rfl (zsx1_3) ?_;(with_reducible refine (spec_l1Abs.calls a2 t264 _ A6.out).mono ?_);rintro e w' ⟨rfl,⟨nd,rfl⟩⟩;refine ⟨_,rfl,?_⟩))
       go_ret
       exact ⟨zsx1_0,zsx1_1⟩
      ·rw [if_neg c21] at H
       have c21b0:((wrap64 (t263 + t264)) == 2)=false:=beq_eq_false_iff_ne.mpr c21;have c21b1:((wrap64 (t263 + t264)) != 2)=true:=bne_iff_ne.mpr c21;obtain rfl:=Option.some.inj H;go_enter Try.func102,Try.ntmps102
       go_wp2_with (first|((with_reducible refine gate_callee (f:=103) rfl ?_);refine goesL_ (some 11) rfl rfl Try.func103 (zsx1_2) rfl #[.int .i64 a1] rfl (zsx1_3) ?_;(with_reducible refine (spec_l1Abs.calls a1 t263 _ A5.out).mono ?_);rintro e w' ⟨rfl,⟨nd,rfl⟩⟩;refine ⟨_,rfl,?_⟩)|((with_reducible refine gate_callee (f:=103) rfl ?_);refine goesL_ (some 13) rfl rfl Try.func103 (zsx1_2) rfl #[.int .i64 a2] rfl (zsx1_3) ?_;(with_reducible refine (spec_l1Abs.calls a2 t264 _ A6.out).mono ?_);rintro e w' ⟨rfl,⟨nd,rfl⟩⟩;refine ⟨_,rfl,?_⟩))
       go_ret
       exact ⟨zsx1_0,zsx1_1⟩
     ·rw [if_neg c20] at H
      have c20b0:(a3 == 2)=false:=beq_eq_false_iff_ne.mpr c20;have c20b1:(a3 != 2)=true:=bne_iff_ne.mpr c20;obtain rfl:=Option.some.inj H;go_enter Try.func102,Try.ntmps102
      go_wp2_with (first|((with_reducible refine gate_callee (f:=103) rfl ?_);refine goesL_ (some 11) rfl rfl Try.func103 (zsx1_2) rfl #[.int .i64 a1] rfl (zsx1_3) ?_;(with_reducible refine (spec_l1Abs.calls a1 t263 _ A5.out).mono ?_);rintro e w' ⟨rfl,⟨nd,rfl⟩⟩;refine ⟨_,rfl,?_⟩)|((with_reducible refine gate_callee (f:=103) rfl ?_);refine goesL_ (some 13) rfl rfl Try.func103 (zsx1_2) rfl #[.int .i64 a2] rfl (zsx1_3) ?_;(with_reducible refine (spec_l1Abs.calls a2 t264 _ A6.out).mono ?_);rintro e w' ⟨rfl,⟨nd,rfl⟩⟩;refine ⟨_,rfl,?_⟩))
      go_ret
      exact ⟨zsx1_0,zsx1_1⟩
mutual
def spec_slStandard.l0:Nat→Int→List (S96)→Int→Option ((List (S96)))
 | 0,_,_,_=>none
 | k + 1,x0,x3,x4=>if x4≤2 then (spec_slStandard.l1 k x0 x3 x4 (-2)) else (some x3)
def spec_slStandard.l1:Nat→Int→List (S96)→Int→Int→Option ((List (S96)))
 | 0,_,_,_,_=>none
 | k + 1,x0,x3,x4,x5=>if x5≤2 then (spec_slStandard.l2 k x0 x3 x4 x5 (-2)) else (spec_slStandard.l0 k x0 x3 (wrap64 (x4 + 1)))
def spec_slStandard.l2:Nat→Int→List (S96)→Int→Int→Int→Option ((List (S96)))
 | 0,_,_,_,_,_=>none
 | k + 1,x0,x3,x4,x5,x6=>if x6≤2 then ((spec_slHas.f x0 x6 x5 x4).bind fun t267=>(if t267=true then (if x3.length < 5864062014805 then (spec_slStandard.l2 k x0 (x3 ++ [(⟨x6,x5,x4⟩:S96)]) x4 x5 (wrap64 (x6 + 1))) else (none)) else (spec_slStandard.l2 k x0 x3 x4 x5 (wrap64 (x6 + 1))))) else (spec_slStandard.l1 k x0 x3 x4 (wrap64 (x5 + 1)))
end
def spec_slStandard.f (k:Nat) (a0:Int):Option ((List (S96))):=spec_slStandard.l0 k a0 ([]:List (S96)) 1
set_option maxHeartbeats 8000000 in
set_option maxRecDepth 100000 in
theorem spec_slStandard.calls (k:Nat) (a0:Int) (r:List (S96)) (w:World) (h:spec_slStandard.f k a0=some r) :
  Calls Try.prog 100 #[.int .i64 a0] w fun e w'=>∃ v0_:Value,e=.returned (v0_)∧Kd.R k96 96 w' w.heap.size (fun _=>True) v0_ r∧Below w.heap.size w w':=by
 have hu96:=Try.underlying96;have HB:=aM1 (Below.refl w.heap.size w);have H:(spec_slStandard.l0 k a0 ([]:List (S96)) 1)=some r:=h;clear h;have H':=aM1 H;clear H;go_enter Try.func100,Try.ntmps100
 go_wp2
 go_loopg [3,4] k (fun kq v3 v4 w'=>∃ (x3_1:List (S96)) (x4_1:Int),v4=.int .i64 x4_1∧Aside0 (spec_slStandard.l0 kq a0 x3_1 x4_1=some r)∧Aside0 (kq≤k)∧Aside0 (Kd.R k96 96 w' w.heap.size (fun _=>True) v3 x3_1)∧Aside0 (Below w.heap.size w w'))
 case atStart=>exact ⟨(([]:List (S96))),(1),(zsx1_0),H',⟨Nat.le_refl _⟩,⟨by first|exact Kd.R_nil _ _ _ _ _|exact Kd.N_nil _ _ _ _ _|exact Kd.V_nil _ _ _ _ _|exact Kd.Q_nil _ _ _ _ _|exact Kd.S_nil _ _ _ _ _⟩,⟨zsx1_4⟩⟩
 case round =>
  clear H';(try clear c1);obtain ⟨x3_1,x4_1,rfl,HA,HK1,HO_3,HB⟩:=hrel
  cases gk with
  | zero=>exact absurd HA.out (by simp [spec_slStandard.l0])
  | succ k1 =>
   have H:=HA.out;clear HA;simp only [spec_slStandard.l0] at H
   by_cases c2:x4_1≤2
   ·rw [if_pos c2] at H
    have c2b0:decide (x4_1≤2)=true:=dT1 c2;clear c2;have H':=aM1 H;clear H
    go_wp2
    go_loopg [3,5] k1 (fun kq v3 v5 w'=>∃ (x3_2:List (S96)) (x5_2:Int),v5=.int .i64 x5_2∧Aside0 (spec_slStandard.l1 kq a0 x3_2 x4_1 x5_2=some r)∧Aside0 (kq≤k1)∧Aside0 (Kd.R k96 96 w' w.heap.size (fun _=>True) v3 x3_2)∧Aside0 (Below w.heap.size w w'))
    case atStart=>exact ⟨(x3_1),((-2)),(zsx1_0),H',⟨Nat.le_refl _⟩,⟨zsx1_5⟩,⟨zsx1_4⟩⟩
    case round =>
     clear H';(try clear c1);(try clear c2);(try clear c2b0);(try clear p2);obtain ⟨x3_2,x5_2,rfl,HA,HK2,HO_3,HB⟩:=hrel
     cases gk with
     | zero=>exact absurd HA.out (by simp [spec_slStandard.l1])
     | succ k2 =>
      have H:=HA.out;clear HA;simp only [spec_slStandard.l1] at H
      by_cases c3:x5_2≤2
      ·rw [if_pos c3] at H
       have c3b0:decide (x5_2≤2)=true:=dT1 c3;clear c3;have H':=aM1 H;clear H
       go_wp2
       go_loopg [3,6] k2 (fun kq v3 v6 w'=>∃ (x3_3:List (S96)) (x6_3:Int),v6=.int .i64 x6_3∧Aside0 (spec_slStandard.l2 kq a0 x3_3 x4_1 x5_2 x6_3=some r)∧Aside0 (kq≤k2)∧Aside0 (Kd.R k96 96 w' w.heap.size (fun _=>True) v3 x3_3)∧Aside0 (Below w.heap.size w w'))
       case atStart=>exact ⟨(x3_2),((-2)),(zsx1_0),H',⟨Nat.le_refl _⟩,⟨zsx1_5⟩,⟨zsx1_4⟩⟩
       case round =>
        clear H';(try clear c1);(try clear c2);(try clear c2b0);(try clear p2);(try clear c3);(try clear c3b0);(try clear p2);obtain ⟨x3_3,x6_3,rfl,HA,HK3,HO_3,HB⟩:=hrel
        cases gk with
        | zero=>exact absurd HA.out (by simp [spec_slStandard.l2])
        | succ k3 =>
         have H:=HA.out;clear HA;simp only [spec_slStandard.l2] at H
         by_cases c4:x6_3≤2
         ·rw [if_pos c4] at H
          have c4b0:decide (x6_3≤2)=true:=dT1 c4;clear c4;replace H:=bI1.mp H;obtain ⟨t267,A50,H⟩:=H;(try dsimp only at H);have A5:=aM1 A50;clear A50
          by_cases c6:t267=true
          ·subst c6
           rw [if_pos rfl] at H;(try dsimp only at H)
           by_cases c7:x3_3.length < 5864062014805
           ·rw [if_pos c7] at H
            have LMc7:=aM1 c7;clear c7;obtain ⟨y268,hy268⟩:∃ y_:List (S96),y_=(x3_3 ++ [(⟨x6_3,x5_2,x4_1⟩:S96)]):=⟨_,rfl⟩
            replace H:(spec_slStandard.l2 k3 a0 y268 x4_1 x5_2 (wrap64 (x6_3 + 1)))=some r:=by first|(rw [hy268];with_reducible exact H)|(have H2_:=(Option.bind_some _ _).symm.trans H;rw [hy268];with_reducible exact H2_)|(have H2_:=(Option.bind_some _ _).symm.trans H;with_reducible exact H2_)|with_reducible exact H|(rw [hy268];exact H)|exact H
            have Ny268:=aM1 hy268;clear hy268;have H':=aM1 H;clear H
            go_wp2_with (first|((with_reducible refine gate_callee (f:=102) rfl ?_);refine goesL_ (some 23) rfl rfl Try.func102 (zsx1_2) rfl #[.int .i64 a0,.int .i64 x6_3,.int .i64 x5_2,.int .i64 x4_1] rfl (zsx1_3) ?_;(with_reducible refine (spec_slHas.calls a0 x6_3 x5_2 x4_1 true _ A5.out).mono ?_);rintro e w' ⟨rfl,⟨nd,rfl⟩⟩;refine ⟨_,rfl,?_⟩)|((with_reducible refine gate_builtin (b:=.append) (xs:=#[.tmp 24,.tmp 29]) rfl ?_);at_builtin;refine Kd.R_append k96 (w0:=w) w.heap.size rfl (.tmp 24) (.tmp 29) 94 96 (.agg #[(.int .i64 0),(.int .i64 0),(.int .i64 0)]) 24 rfl Try.underlying94 info96 rfl (by decide) (by omega) u3 x3_3 (⟨x6_3,x5_2,x4_1⟩:S96) [.int .i64 x6_3,.int .i64 x5_2,.int .i64 x4_1] (fun _=>True) (fun _=>False) rfl rfl ?aP (fun _ hk=>hk.elim) ?aF ?aO ?aB ?aS ?aL ?_;(case aP=>exact k96_mkM _ _ _ (⟨x6_3,x5_2,x4_1⟩:S96));(case aB=>exact (zsx1_4));(case aF=>exact (fun _ _=>trivial));(case aO=>exact (zsx1_5));(case aS=>exact (bZ1 (zsx1_4)));(case aL=>have:=LMc7.out;omega);intro v269 w8 ho hb hg hat;rw [← Ny268.out] at ho;have n0_:=aM1 (hb);have n1_:=aM1 (ho);clear HB HO_3;have HB:=n0_;have HO270:=n1_;clear n0_ n1_ ho hb hg hat))
            go_roundg k3
            case measure=>have:=HK1.out;have:=HK2.out;have:=HK3.out;omega
            case rel=>exact ⟨(y268),(wrap64 (x6_3 + 1)),(zsx1_0),H',⟨by have:=HK1.out;have:=HK2.out;have:=HK3.out;omega⟩,⟨by (with_reducible repeat (first|apply Kd.R_alloc|apply Kd.R_drewN|apply Kd.R_drew));exact HO270.out⟩,⟨zsx1_4⟩⟩
           ·rw [if_neg c7] at H
            exact absurd H (by simp)
          ·replace c6:=Bool.eq_false_iff.mpr c6
           subst c6;rw [if_neg (show ¬ (false=true) by decide)] at H;(try dsimp only at H);have H':=aM1 H;clear H
           go_wp2_with (first|((with_reducible refine gate_callee (f:=102) rfl ?_);refine goesL_ (some 23) rfl rfl Try.func102 (zsx1_2) rfl #[.int .i64 a0,.int .i64 x6_3,.int .i64 x5_2,.int .i64 x4_1] rfl (zsx1_3) ?_;(with_reducible refine (spec_slHas.calls a0 x6_3 x5_2 x4_1 false _ A5.out).mono ?_);rintro e w' ⟨rfl,⟨nd,rfl⟩⟩;refine ⟨_,rfl,?_⟩))
           go_roundg k3
           case measure=>have:=HK1.out;have:=HK2.out;have:=HK3.out;omega
           case rel=>exact ⟨(x3_3),(wrap64 (x6_3 + 1)),(zsx1_0),H',⟨by have:=HK1.out;have:=HK2.out;have:=HK3.out;omega⟩,⟨zsx1_5⟩,⟨zsx1_4⟩⟩
         ·rw [if_neg c4] at H
          have c4b0:decide (x6_3≤2)=false:=decide_eq_false c4;clear c4;have H':=aM1 H;clear H
          go_wp2
          go_roundg k3
          case measure=>have:=HK1.out;have:=HK2.out;have:=HK3.out;omega
          case rel=>exact ⟨(x3_3),(wrap64 (x5_2 + 1)),(zsx1_0),H',⟨by have:=HK1.out;have:=HK2.out;have:=HK3.out;omega⟩,⟨zsx1_5⟩,⟨zsx1_4⟩⟩
      ·rw [if_neg c3] at H
       have c3b0:decide (x5_2≤2)=false:=decide_eq_false c3;clear c3;have H':=aM1 H;clear H
       go_wp2
       go_roundg k2
       case measure=>have:=HK1.out;have:=HK2.out;omega
       case rel=>exact ⟨(x3_2),(wrap64 (x4_1 + 1)),(zsx1_0),H',⟨by have:=HK1.out;have:=HK2.out;omega⟩,⟨zsx1_5⟩,⟨zsx1_4⟩⟩
   ·rw [if_neg c2] at H
    have c2b0:decide (x4_1≤2)=false:=decide_eq_false c2;clear c2;obtain rfl:=Option.some.inj H
    go_wp2
    go_ret
    exact ⟨_,by first|rfl|(simp [errW_none,errW_some] <;> rfl)|(simp [*,errW_none,errW_some] <;> rfl),zsx1_5,zsx1_4⟩
def spec_slUniform.f (k:Nat) (a0_0:Int) (a0_1:Int) (a0_2:Int) (a1:Int):Option (List Int × (List (List (S96)))):=if 0≤(wrap64 (a0_0 * a0_1)) then (if (wrap64 (a0_0 * a0_1):Int).toNat≤35184372088832 then ((spec_slStandard.f k a1).bind fun t276=>(some ((List.replicate (wrap64 (a0_0 * a0_1):Int).toNat 0),(([t276]:List (List (S96))))))) else (none)) else (none)
def spec_slUniform.T1:Bool × List (List Nat × List Nat):=(true,[([],[]),([0],[0]),([],[]),([2],[2]),([1,3],[1,3]),([4,4],[4]),([],[]),([6],[6]),([7],[7]),([5,8],[5,8]),([9,7,0,1,2,3,4,5,6,7,8,9],[9])])
def spec_slUniform.B1:List Nat:=[0,1,0,4,15,31,0,64,192,511,1023]
theorem spec_slUniform.tab1:rtab .any (opsOf Try.f97 1)=spec_slUniform.T1:=by kernel_rfl
theorem spec_slUniform.bits1:waitsOk spec_slUniform.T1.2 spec_slUniform.B1=true:=by kernel_rfl
set_option maxHeartbeats 8000000 in
set_option maxRecDepth 100000 in
theorem spec_slUniform.calls (k:Nat) (a0_0:Int) (a0_1:Int) (a0_2:Int) (a1:Int) (r1:List Int) (r2:List (List (S96))) (w:World) (h:spec_slUniform.f k a0_0 a0_1 a0_2 a1=some (r1,r2)) :
  Calls Try.prog 97 #[.agg #[.int .i64 a0_0,.int .i64 a0_1,.int .i64 a0_2],.int .i64 a1] w fun e w'=>∃ v0_ v1_:Value,e=.returned (.agg #[v0_,v1_])∧Kd.R (Kd.int .i64) 3 w' w.heap.size (fun k_=>(w.heap.size≤k_)) v0_ r1∧Kd.N (Kd.slice 96 k96) 94 w' w.heap.size (fun k_=>(w.heap.size≤k_)∧some k_≠(v0_:Value).ownBlock) v1_ r2∧Below w.heap.size w w':=by
 have hu84:=Try.underlying84;have hu89:=Try.underlying89;have HB:=aM1 (Below.refl w.heap.size w);have H:(if 0≤(wrap64 (a0_0 * a0_1)) then (if (wrap64 (a0_0 * a0_1):Int).toNat≤35184372088832 then ((spec_slStandard.f k a1).bind fun t276=>(some ((List.replicate (wrap64 (a0_0 * a0_1):Int).toNat 0),(([t276]:List (List (S96))))))) else (none)) else (none))=some (r1,r2):=h;clear h;obtain ⟨ji3,hji3⟩:∃ j_:Int,(wrap64 (a0_0 * a0_1))=j_:=⟨_,rfl⟩
 replace H:(if 0≤(ji3) then (if (ji3:Int).toNat≤35184372088832 then ((spec_slStandard.f k a1).bind fun t276=>(some ((List.replicate (ji3:Int).toNat 0),(([t276]:List (List (S96))))))) else (none)) else (none))=some (r1,r2):=by first|(rw [hji3] at H;exact H)|(simp only [hji3] at H ⊢;exact H)
 have hji3w:(IntKind.i64.wrap (a0_0 * a0_1))=ji3:=(i64_w _).trans hji3
 by_cases c4:0≤(ji3)
 ·rw [if_pos c4] at H
  have c4b0:=eq_true c4;have c4b1:decide (0≤(ji3))=true:=dT1 c4;clear c4
  by_cases c5:(ji3:Int).toNat≤35184372088832
  ·rw [if_pos c5] at H
   have c5b0:=eq_true c5;have c5b1:decide ((ji3:Int).toNat≤35184372088832)=true:=dT1 c5;clear c5;obtain ⟨y273,hy273⟩:∃ y_:List Int,y_=(List.replicate (ji3:Int).toNat 0):=⟨_,rfl⟩
   replace H:((spec_slStandard.f k a1).bind fun t276=>(some (y273,(([t276]:List (List (S96)))))))=some (r1,r2):=by first|(rw [hy273];with_reducible exact H)|(have H2_:=(Option.bind_some _ _).symm.trans H;rw [hy273];with_reducible exact H2_)|(have H2_:=(Option.bind_some _ _).symm.trans H;with_reducible exact H2_)|with_reducible exact H|(rw [hy273];exact H)|exact H
   have Ny273:=aM1 hy273;clear hy273;replace H:=bI1.mp H;obtain ⟨t276,A60,H⟩:=H;(try dsimp only at H);have A6:=aM1 A60;clear A60;obtain ⟨y279,hy279⟩:∃ y_:List (List (S96)),y_=(([t276]:List (List (S96)))):=⟨_,rfl⟩
   replace H:(some (y273,y279))=some (r1,r2):=by first|(rw [hy279];with_reducible exact H)|(have H2_:=(Option.bind_some _ _).symm.trans H;rw [hy279];with_reducible exact H2_)|(have H2_:=(Option.bind_some _ _).symm.trans H;with_reducible exact H2_)|with_reducible exact H|(rw [hy279];exact H)|exact H
   have Ny279:=aM1 hy279;clear hy279;simp only [Option.some.injEq,Prod.mk.injEq] at H;obtain ⟨rfl,rfl⟩:=H;go_enter Try.func97,Try.ntmps97
   try go_wp2_with (first|((with_reducible refine gate_dst (N:=2) rfl ?_);refine box_event ?hg (N:=2) ?hd (cs:=#[.int .i64 a0_0,.int .i64 a0_1,.int .i64 a0_2]) (t:=84) ?hr ?_;(case hd=>rfl);(case hg=>rfl);(case hr=>exact zsx1_18);intro gb271 hg w7 hbox hb;have n0_:=aM1 (below_step (zsx1_4) hb);have n1_:=aM1 (hbox);have n2_:=aM1 ((by rw [hg];exact (bZ1 (zsx1_4)):w.heap.size≤gb271));have n3_:=aM1 ((by rw [hg];exact (bZ1 (zsx1_4)):w.heap.size≤gb271));clear HB;have HB:=n0_;have BK271:=n1_;have GW271:=n2_;have GE271:=n3_;clear n0_ n1_ n2_ n3_ hb hbox hg)|((with_reducible refine gate_dst (N:=4) rfl ?_);refine box_event ?hg (N:=4) ?hd (cs:=#[.slice none 0 0,.slice none 0 0]) (t:=89) ?hr ?_;(case hd=>rfl);(case hg=>rfl);(case hr=>exact zsx1_18);intro gb272 hg w8 hbox hb;have n0_:=aM1 (blk_below (g:=gb271) (o:=.cells #[.int .i64 a0_0,.int .i64 a0_1,.int .i64 a0_2] 84 (0,0)) (zsx1_6) hb);have n1_:=aM1 (below_step (zsx1_7) hb);have n2_:=aM1 (hbox);have n3_:=aM1 ((by rw [hg];exact (bZ1 (zsx1_7)):w.heap.size≤gb272));have n4_:=aM1 ((by rw [hg];exact (bZ1 (zsx1_7)):w.heap.size≤gb272));have n5_:=aM1 ((by rw [hg];exact Nat.ne_of_lt (blk_lt (g:=gb271) (o:=.cells #[.int .i64 a0_0,.int .i64 a0_1,.int .i64 a0_2] 84 (0,0)) (zsx1_6)):gb271≠gb272));have n6_:=aM1 ((by rw [hg];exact Nat.ne_of_gt (blk_lt (g:=gb271) (o:=.cells #[.int .i64 a0_0,.int .i64 a0_1,.int .i64 a0_2] 84 (0,0)) (zsx1_6)):gb272≠gb271));clear BK271 HB;have BK271:=n0_;have HB:=n1_;have BK272:=n2_;have GW272:=n3_;have GE272:=n4_;have NB271_272:=n5_;have NB272_271:=n6_;clear n0_ n1_ n2_ n3_ n4_ n5_ n6_ hb hbox hg))
   have n0_:=aM1 (blk_drew BK271.out);have n1_:=aM1 (blk_drew BK272.out);have n2_:=aM1 (below_drew1 HB.out);clear BK271 BK272 HB;have BK271:=n0_;have BK272:=n1_;have HB:=n2_;clear n0_ n1_ n2_
   refine start_ (n:=11) (S:=fun w'=>w'.cell? ⟨gb271,0,none⟩=some (.int .i64 a0_0)∧w'.cell? ⟨gb271,1,none⟩=some (.int .i64 a0_1)∧w'.cell? ⟨gb271,2,none⟩=some (.int .i64 a0_2)) (ds:=[]) #[false,false,false,false,false,false,false,false,false,false,false] (zsx1_2) rfl rfl ⟨(bC1 BK271.out 0).trans rfl,(bC1 BK271.out 1).trans rfl,(bC1 BK271.out 2).trans rfl⟩ (fun hHeld=>?_);refine with_tabW spec_slUniform.tab1 spec_slUniform.bits1 (fun HT_ HW_=>?_);generalize w8.drew=w9 at BK271 BK272 HB hHeld ⊢;refine wp_in [(0,5,1,0),(2,7,5,0),(6,11,69,0),(1,6,71,1),(3,8,79,1),(4,9,95,0)] 11 ?_
   iterate 6 (first|(refine pn_ (oi:=?_) (v:=?_) (a':=?_) HT_.out ?_ ?_ ?_ ?_ ?_ ?_ ?_ ?_;rotate_left 3;rfl;rfl;kernel_rfl;exact fun _ _ _ h=>h;rfl;intro w';go_simp;with_reducible rfl;simp only [Act.put,uA1,uB1,uC1,i64_w,i32_w];rfl)|(refine tn_ (oi:=?_) (v:=?_) (a':=?_) HT_.out HW_.out hHeld ?_ ?_ ?_ ?_ ?_ ?_ ?_ ?_;rotate_left 3;rfl;rfl;kernel_rfl;exact fun _ _ _ h=>h;rfl;rintro w' ⟨s0,s1,s2⟩;go_simp;with_reducible rfl;simp only [Act.put,uA1,uB1,uC1,i64_w,i32_w];rfl))
   refine wp_out ?_;refine join_ (σ:=Value × Value × Value) 2 #[true,true,true,true,true,true,true,true,true,false,false] (fun s_=>[(10,s_.1),(12,s_.2.1),(13,s_.2.2)]) (fun s_ w'=>(w'.cell? ⟨gb271,0,none⟩=some (.int .i64 a0_0)∧w'.cell? ⟨gb271,1,none⟩=some (.int .i64 a0_1)∧w'.cell? ⟨gb271,2,none⟩=some (.int .i64 a0_2))∧(Kd.R (Kd.int .i64) 3 w' w.heap.size (fun k_=>(w.heap.size≤k_)) s_.1 y273)∧(Kd.N (Kd.slice 96 k96) 94 w' w.heap.size (fun k_=>(w.heap.size≤k_)∧some k_≠(s_.1:Value).ownBlock∧k_≠gb271∧k_≠gb272) s_.2.2 y279)∧(w'.heap[gb271]?=some (.cells #[.int .i64 a0_0,.int .i64 a0_1,.int .i64 a0_2] 84 (0,0)))∧(w'.heap[gb272]?=some (.cells #[.slice none 0 0,.slice none 0 0] 89 (0,0)))∧(Below w.heap.size w w')) ?_ ?_;rotate_left
   ·intro hCont
    refine two_ (i:=5) (j:=7) (Ni:=some 10) (Nj:=some 12) #[true,true,true,true,true,true,true,false,false,false,false] #[true,true,true,true,true,false,true,true,false,false,false] rfl rfl rfl rfl (two_of HT_.out (zsx1_2)) (by decide) (by decide) (fun K hK=>?_) (fun K hK=>?_)
    ·skip
     refine Kd.R_make_step (Kd.int .i64) _ 3 (by rfl) (N:=10) rfl 33 _ _ rfl ji3 rfl rfl Try.underlying33 (.int .i64 0) 8 info3 rfl (by decide) (by omega) 0 (ok:=fun _=>True) (okp:=fun _=>True) rfl (fun _ hk=>hk) trivial (oD1 (zsx1_8)) (Nat.le_trans (Nat.mul_le_mul_right _ (oD1 (zsx1_8):ji3.toNat≤35184372088832)) (by omega)) (Below.refl _ _) (Nat.le_refl _) ?_;intro v274 w10 ho11 hb hg_ hnew_;clear hg_ hnew_
     (first|rw [← Ny273.out] at ho11|(simp only [Int.reduceToNat] at ho11;rw [← Ny273.out] at ho11))
     have n0_:=aM1 (Kd.R_lower (Kd.R_newM (M:=fun k_=>(w.heap.size≤k_)) ho11 (bZ1 (zsx1_9)) (fun k_ h_=>h_)) (bZ1 (zsx1_9)));have n1_:=aM1 (blk_below (g:=gb271) (o:=.cells #[.int .i64 a0_0,.int .i64 a0_1,.int .i64 a0_2] 84 (0,0)) (zsx1_6) hb);have n2_:=aM1 (blk_below (g:=gb272) (o:=.cells #[.slice none 0 0,.slice none 0 0] 89 (0,0)) (zsx1_10) hb);have n3_:=aM1 (below_step (zsx1_9) hb);clear BK271 BK272 HB;have HO275:=n0_;have BK271:=n1_;have BK272:=n2_;have HB:=n3_;clear n0_ n1_ n2_ n3_ hb ho11;refine hK.out _ _ ⟨(bC1 BK271.out 0).trans rfl,(bC1 BK271.out 1).trans rfl,(bC1 BK271.out 2).trans rfl⟩ (fun hHeld=>?_);clear hK K;refine norm_ (a':=?_) ?_ ?_;rotate_left
     ·show Act.put _ (some 10) _=_
      simp only [Act.put,uA1,uB1,uC1,i64_w,i32_w]
      rfl
     refine one_ (i:=7) (N:=some 12) #[true,true,true,true,true,true,true,true,false,false,false] rfl rfl (one_of HT_.out (zsx1_2)) (by decide) (fun K hK=>?_);refine goes_ Try.func100 (zsx1_2) rfl #[.int .i64 a1] (by rfl) rfl rfl (zsx1_3) ?_
     with_reducible refine (spec_slStandard.calls k a1 t276 _ A6.out).mono ?_
     rintro e w12 ⟨v277,rfl,ho0,hb⟩;refine ⟨_,rfl,?_⟩;have n0_:=aM1 (Kd.R_below (zsx1_11) hb);have n1_:=aM1 (Kd.R_lower (Kd.R_newM (M:=fun k_=>(w.heap.size≤k_)) ho0 (bZ1 (zsx1_9)) (fun k_ h_=>h_)) (bZ1 (zsx1_9)));have n2_:=aM1 (blk_below (g:=gb271) (o:=.cells #[.int .i64 a0_0,.int .i64 a0_1,.int .i64 a0_2] 84 (0,0)) (zsx1_6) hb);have n3_:=aM1 (blk_below (g:=gb272) (o:=.cells #[.slice none 0 0,.slice none 0 0] 89 (0,0)) (zsx1_10) hb);have n4_:=aM1 (below_step (zsx1_9) hb);clear HO275 BK271 BK272 HB;have HO275:=n0_;have HO278:=n1_;have BK271:=n2_;have BK272:=n3_;have HB:=n4_;clear n0_ n1_ n2_ n3_ n4_;(try clear hb);(try clear hb2);(try clear hk);(try clear hi);(try clear ho0);obtain ⟨Ao13,co13,eo13⟩:=Kd.R_slice HO278.out
     (first|subst eo13|(injection eo13 with f1_ f2_ f3_;have f4_:=f1_.symm;have f5_:=f3_.symm;clear f1_ f2_ f3_;subst f4_;subst f5_))
     refine hK.out _ _ ⟨(bC1 BK271.out 0).trans rfl,(bC1 BK271.out 1).trans rfl,(bC1 BK271.out 2).trans rfl⟩ (fun hHeld=>?_);clear hK K;refine norm_ (a':=?_) ?_ ?_;rotate_left
     ·show Act.put _ (some 12) _=_
      simp only [Act.put,uA1,uB1,uC1,i64_w,i32_w]
      rfl
     refine one_ (i:=8) (N:=some 13) #[true,true,true,true,true,true,true,true,true,false,false] rfl rfl (one_of HT_.out (zsx1_2)) (by decide) (fun K hK=>?_)
     refine Kd.N_lit_step (Kd.slice 96 k96) _ 94 ?hg (N':=13) ?hd (xs:=([t276]:List (List (S96)))) (inner:=[.slice Ao13 t276.length co13]) (ok:=(fun k_=>(w.heap.size≤k_)∧some k_≠(v274:Value).ownBlock∧k_≠gb271∧k_≠gb272)) (okp:=(fun k_=>(w.heap.size≤k_)∧some k_≠(v274:Value).ownBlock∧k_≠gb271∧k_≠gb272)) ?hr ?hp (fun _ hk=>hk) ((show ∀ k_,w12.heap.size≤k_→(fun k_=>(w.heap.size≤k_)∧some k_≠(v274:Value).ownBlock∧k_≠gb271∧k_≠gb272) k_ from fun k_ hk=>⟨(Nat.le_trans (bZ1 (zsx1_9)) hk),Kd.fresh' (Kd.R_lt (zsx1_11)) k_ hk,Kd.freshB (g:=gb271) (o:=.cells #[.int .i64 a0_0,.int .i64 a0_1,.int .i64 a0_2] 84 (0,0)) (zsx1_6) k_ hk,Kd.freshB (g:=gb272) (o:=.cells #[.slice none 0 0,.slice none 0 0] 89 (0,0)) (zsx1_10) k_ hk⟩) _ (Nat.le_refl _)) (Below.refl _ _) (Nat.le_refl _) (by simp) ?_;(case hd=>rfl);(case hg=>rfl);(case hr=>exact zsx1_18);(case hp=>exact (Reps.one (show Kd.FK (Kd.slice 96 k96) _ _ t276 [.slice Ao13 t276.length co13] from (Kd.FK_slice_mk (Kd.R_reads' (Kd.R_mono (ok':=(fun k_=>(w.heap.size≤k_)∧some k_≠(v274:Value).ownBlock∧k_≠gb271∧k_≠gb272)) (Kd.R_types (Kd.R_types (Kd.R_apart' (HO278.out) (Kd.R_typed HO275.out) (by decide)) BK271.out (by decide)) BK272.out (by decide)) (fun k_ hk=>⟨hk.1.1.1.1,⟨hk.1.1.2,⟨hk.1.2,hk.2⟩⟩⟩))).2.1 (Kd.R_F (Kd.R_mono (ok':=(fun k_=>(w.heap.size≤k_)∧some k_≠(v274:Value).ownBlock∧k_≠gb271∧k_≠gb272)) (Kd.R_types (Kd.R_types (Kd.R_apart' (HO278.out) (Kd.R_typed HO275.out) (by decide)) BK271.out (by decide)) BK272.out (by decide)) (fun k_ hk=>⟨hk.1.1.1.1,⟨hk.1.1.2,⟨hk.1.2,hk.2⟩⟩⟩))))) (Reps.none _ _)))
     intro v280 w14 ho15 hb hg_ hnew_;clear hg_ hnew_
     (first|rw [← Ny279.out] at ho15|(simp only [Int.reduceToNat] at ho15;rw [← Ny279.out] at ho15))
     have n0_:=aM1 (Kd.R_below (zsx1_11) hb);have n1_:=aM1 (Kd.N_lower ho15 (bZ1 (zsx1_9)));have n2_:=aM1 (blk_below (g:=gb271) (o:=.cells #[.int .i64 a0_0,.int .i64 a0_1,.int .i64 a0_2] 84 (0,0)) (zsx1_6) hb);have n3_:=aM1 (blk_below (g:=gb272) (o:=.cells #[.slice none 0 0,.slice none 0 0] 89 (0,0)) (zsx1_10) hb);have n4_:=aM1 (below_step (zsx1_9) hb);clear HO275 BK271 BK272 HB HO278;have HO275:=n0_;have HO281:=n1_;have BK271:=n2_;have BK272:=n3_;have HB:=n4_;clear n0_ n1_ n2_ n3_ n4_ hb ho15;obtain ⟨Ao16,co16,eo16⟩:=Kd.N_slice HO281.out
     (first|subst eo16|(injection eo16 with f1_ f2_ f3_;have f4_:=f1_.symm;have f5_:=f3_.symm;clear f1_ f2_ f3_;subst f4_;subst f5_))
     obtain ⟨Ao17,co17,eo17⟩:=Kd.R_slice HO275.out
     (first|subst eo17|(injection eo17 with f1_ f2_ f3_;have f4_:=f1_.symm;have f5_:=f3_.symm;clear f1_ f2_ f3_;subst f4_;subst f5_))
     refine hK.out _ _ ⟨(bC1 BK271.out 0).trans rfl,(bC1 BK271.out 1).trans rfl,(bC1 BK271.out 2).trans rfl⟩ (fun hHeld=>?_);clear hK K;refine norm_ (a':=?_) ?_ ?_;rotate_left
     ·show Act.put _ (some 13) _=_
      simp only [Act.put,uA1,uB1,uC1,i64_w,i32_w]
      rfl
     exact norm_ (zsx1_12) (hCont (.slice Ao17 y273.length co17,.slice Ao13 t276.length co13,.slice Ao16 y279.length co16) _ ⟨hHeld,(zsx1_13),(zsx1_14),(zsx1_6),(zsx1_10),(zsx1_9)⟩)
    ·skip
     refine goes_ Try.func100 (zsx1_2) rfl #[.int .i64 a1] (by rfl) rfl rfl (zsx1_3) ?_
     with_reducible refine (spec_slStandard.calls k a1 t276 _ A6.out).mono ?_
     rintro e w10 ⟨v277,rfl,ho0,hb⟩;refine ⟨_,rfl,?_⟩;have n0_:=aM1 (Kd.R_lower (Kd.R_newM (M:=fun k_=>(w.heap.size≤k_)) ho0 (bZ1 (zsx1_9)) (fun k_ h_=>h_)) (bZ1 (zsx1_9)));have n1_:=aM1 (blk_below (g:=gb271) (o:=.cells #[.int .i64 a0_0,.int .i64 a0_1,.int .i64 a0_2] 84 (0,0)) (zsx1_6) hb);have n2_:=aM1 (blk_below (g:=gb272) (o:=.cells #[.slice none 0 0,.slice none 0 0] 89 (0,0)) (zsx1_10) hb);have n3_:=aM1 (below_step (zsx1_9) hb);clear BK271 BK272 HB;have HO278:=n0_;have BK271:=n1_;have BK272:=n2_;have HB:=n3_;clear n0_ n1_ n2_ n3_;(try clear hb);(try clear hb2);(try clear hk);(try clear hi);(try clear ho0);refine hK.out _ _ ⟨(bC1 BK271.out 0).trans rfl,(bC1 BK271.out 1).trans rfl,(bC1 BK271.out 2).trans rfl⟩ (fun hHeld=>?_);clear hK K;refine norm_ (a':=?_) ?_ ?_;rotate_left
     ·show Act.put _ (some 12) _=_
      simp only [Act.put,uA1,uB1,uC1,i64_w,i32_w]
      rfl
     refine two_ (i:=5) (j:=8) (Ni:=some 10) (Nj:=some 13) #[true,true,true,true,true,true,true,true,false,false,false] #[true,true,true,true,true,false,true,true,true,false,false] rfl rfl rfl rfl (two_of HT_.out (zsx1_2)) (by decide) (by decide) (fun K hK=>?_) (fun K hK=>?_)
     ·skip
      refine Kd.R_make_step (Kd.int .i64) _ 3 (by rfl) (N:=10) rfl 33 _ _ rfl ji3 rfl rfl Try.underlying33 (.int .i64 0) 8 info3 rfl (by decide) (by omega) 0 (ok:=fun _=>True) (okp:=fun _=>True) rfl (fun _ hk=>hk) trivial (oD1 (zsx1_8)) (Nat.le_trans (Nat.mul_le_mul_right _ (oD1 (zsx1_8):ji3.toNat≤35184372088832)) (by omega)) (Below.refl _ _) (Nat.le_refl _) ?_;intro v274 w11 ho12 hb hg_ hnew_;clear hg_ hnew_
      (first|rw [← Ny273.out] at ho12|(simp only [Int.reduceToNat] at ho12;rw [← Ny273.out] at ho12))
      have n0_:=aM1 (Kd.R_below (by (with_reducible repeat (first|apply Kd.R_alloc|apply Kd.R_drewN|apply Kd.R_drew));exact HO278.out) hb);have n1_:=aM1 (Kd.R_lower (Kd.R_newM (M:=fun k_=>(w.heap.size≤k_)) ho12 (bZ1 (zsx1_9)) (fun k_ h_=>h_)) (bZ1 (zsx1_9)));have n2_:=aM1 (blk_below (g:=gb271) (o:=.cells #[.int .i64 a0_0,.int .i64 a0_1,.int .i64 a0_2] 84 (0,0)) (zsx1_6) hb);have n3_:=aM1 (blk_below (g:=gb272) (o:=.cells #[.slice none 0 0,.slice none 0 0] 89 (0,0)) (zsx1_10) hb);have n4_:=aM1 (below_step (zsx1_9) hb);clear HO278 BK271 BK272 HB;have HO278:=n0_;have HO275:=n1_;have BK271:=n2_;have BK272:=n3_;have HB:=n4_;clear n0_ n1_ n2_ n3_ n4_ hb ho12;obtain ⟨Ao13,co13,eo13⟩:=Kd.R_slice HO278.out
      (first|subst eo13|(injection eo13 with f1_ f2_ f3_;have f4_:=f1_.symm;have f5_:=f3_.symm;clear f1_ f2_ f3_;subst f4_;subst f5_))
      refine hK.out _ _ ⟨(bC1 BK271.out 0).trans rfl,(bC1 BK271.out 1).trans rfl,(bC1 BK271.out 2).trans rfl⟩ (fun hHeld=>?_);clear hK K;refine norm_ (a':=?_) ?_ ?_;rotate_left
      ·show Act.put _ (some 10) _=_
       simp only [Act.put,uA1,uB1,uC1,i64_w,i32_w]
       rfl
      refine one_ (i:=8) (N:=some 13) #[true,true,true,true,true,true,true,true,true,false,false] rfl rfl (one_of HT_.out (zsx1_2)) (by decide) (fun K hK=>?_)
      refine Kd.N_lit_step (Kd.slice 96 k96) _ 94 ?hg (N':=13) ?hd (xs:=([t276]:List (List (S96)))) (inner:=[.slice Ao13 t276.length co13]) (ok:=(fun k_=>(w.heap.size≤k_)∧some k_≠(v274:Value).ownBlock∧k_≠gb271∧k_≠gb272)) (okp:=(fun k_=>(w.heap.size≤k_)∧some k_≠(v274:Value).ownBlock∧k_≠gb271∧k_≠gb272)) ?hr ?hp (fun _ hk=>hk) ((show ∀ k_,w11.heap.size≤k_→(fun k_=>(w.heap.size≤k_)∧some k_≠(v274:Value).ownBlock∧k_≠gb271∧k_≠gb272) k_ from fun k_ hk=>⟨(Nat.le_trans (bZ1 (zsx1_9)) hk),Kd.fresh' (Kd.R_lt (zsx1_11)) k_ hk,Kd.freshB (g:=gb271) (o:=.cells #[.int .i64 a0_0,.int .i64 a0_1,.int .i64 a0_2] 84 (0,0)) (zsx1_6) k_ hk,Kd.freshB (g:=gb272) (o:=.cells #[.slice none 0 0,.slice none 0 0] 89 (0,0)) (zsx1_10) k_ hk⟩) _ (Nat.le_refl _)) (Below.refl _ _) (Nat.le_refl _) (by simp) ?_;(case hd=>rfl);(case hg=>rfl);(case hr=>exact zsx1_18);(case hp=>exact (Reps.one (show Kd.FK (Kd.slice 96 k96) _ _ t276 [.slice Ao13 t276.length co13] from (Kd.FK_slice_mk (Kd.R_reads' (Kd.R_mono (ok':=(fun k_=>(w.heap.size≤k_)∧some k_≠(v274:Value).ownBlock∧k_≠gb271∧k_≠gb272)) (Kd.R_types (Kd.R_types (Kd.R_apart' (HO278.out) (Kd.R_typed HO275.out) (by decide)) BK271.out (by decide)) BK272.out (by decide)) (fun k_ hk=>⟨hk.1.1.1.1,⟨hk.1.1.2,⟨hk.1.2,hk.2⟩⟩⟩))).2.1 (Kd.R_F (Kd.R_mono (ok':=(fun k_=>(w.heap.size≤k_)∧some k_≠(v274:Value).ownBlock∧k_≠gb271∧k_≠gb272)) (Kd.R_types (Kd.R_types (Kd.R_apart' (HO278.out) (Kd.R_typed HO275.out) (by decide)) BK271.out (by decide)) BK272.out (by decide)) (fun k_ hk=>⟨hk.1.1.1.1,⟨hk.1.1.2,⟨hk.1.2,hk.2⟩⟩⟩))))) (Reps.none _ _)))
      intro v280 w14 ho15 hb hg_ hnew_;clear hg_ hnew_
      (first|rw [← Ny279.out] at ho15|(simp only [Int.reduceToNat] at ho15;rw [← Ny279.out] at ho15))
      have n0_:=aM1 (Kd.R_below (zsx1_11) hb);have n1_:=aM1 (Kd.N_lower ho15 (bZ1 (zsx1_9)));have n2_:=aM1 (blk_below (g:=gb271) (o:=.cells #[.int .i64 a0_0,.int .i64 a0_1,.int .i64 a0_2] 84 (0,0)) (zsx1_6) hb);have n3_:=aM1 (blk_below (g:=gb272) (o:=.cells #[.slice none 0 0,.slice none 0 0] 89 (0,0)) (zsx1_10) hb);have n4_:=aM1 (below_step (zsx1_9) hb);clear HO275 BK271 BK272 HB HO278;have HO275:=n0_;have HO281:=n1_;have BK271:=n2_;have BK272:=n3_;have HB:=n4_;clear n0_ n1_ n2_ n3_ n4_ hb ho15;obtain ⟨Ao16,co16,eo16⟩:=Kd.N_slice HO281.out
      (first|subst eo16|(injection eo16 with f1_ f2_ f3_;have f4_:=f1_.symm;have f5_:=f3_.symm;clear f1_ f2_ f3_;subst f4_;subst f5_))
      obtain ⟨Ao17,co17,eo17⟩:=Kd.R_slice HO275.out
      (first|subst eo17|(injection eo17 with f1_ f2_ f3_;have f4_:=f1_.symm;have f5_:=f3_.symm;clear f1_ f2_ f3_;subst f4_;subst f5_))
      refine hK.out _ _ ⟨(bC1 BK271.out 0).trans rfl,(bC1 BK271.out 1).trans rfl,(bC1 BK271.out 2).trans rfl⟩ (fun hHeld=>?_);clear hK K;refine norm_ (a':=?_) ?_ ?_;rotate_left
      ·show Act.put _ (some 13) _=_
       simp only [Act.put,uA1,uB1,uC1,i64_w,i32_w]
       rfl
      exact norm_ (zsx1_12) (hCont (.slice Ao17 y273.length co17,.slice Ao13 t276.length co13,.slice Ao16 y279.length co16) _ ⟨hHeld,(zsx1_13),(zsx1_14),(zsx1_6),(zsx1_10),(zsx1_9)⟩)
     ·skip
      obtain ⟨Ao11,co11,eo11⟩:=Kd.R_slice HO278.out;subst eo11
      refine Kd.N_lit_step (Kd.slice 96 k96) _ 94 ?hg (N':=13) ?hd (xs:=([t276]:List (List (S96)))) (inner:=[.slice Ao11 t276.length co11]) (ok:=(fun k_=>(w.heap.size≤k_)∧k_≠gb271∧k_≠gb272)) (okp:=(fun k_=>(w.heap.size≤k_)∧k_≠gb271∧k_≠gb272)) ?hr ?hp (fun _ hk=>hk) ((show ∀ k_,w10.heap.size≤k_→(fun k_=>(w.heap.size≤k_)∧k_≠gb271∧k_≠gb272) k_ from fun k_ hk=>⟨(Nat.le_trans (bZ1 (zsx1_9)) hk),Kd.freshB (g:=gb271) (o:=.cells #[.int .i64 a0_0,.int .i64 a0_1,.int .i64 a0_2] 84 (0,0)) (zsx1_6) k_ hk,Kd.freshB (g:=gb272) (o:=.cells #[.slice none 0 0,.slice none 0 0] 89 (0,0)) (zsx1_10) k_ hk⟩) _ (Nat.le_refl _)) (Below.refl _ _) (Nat.le_refl _) (by simp) ?_;(case hd=>rfl);(case hg=>rfl);(case hr=>exact zsx1_18);(case hp=>exact (Reps.one (show Kd.FK (Kd.slice 96 k96) _ _ t276 [.slice Ao11 t276.length co11] from (Kd.FK_slice_mk (Kd.R_reads' (Kd.R_mono (ok':=(fun k_=>(w.heap.size≤k_)∧k_≠gb271∧k_≠gb272)) (Kd.R_types (Kd.R_types (HO278.out) BK271.out (by decide)) BK272.out (by decide)) (fun k_ hk=>⟨hk.1.1.1,⟨hk.1.2,hk.2⟩⟩))).2.1 (Kd.R_F (Kd.R_mono (ok':=(fun k_=>(w.heap.size≤k_)∧k_≠gb271∧k_≠gb272)) (Kd.R_types (Kd.R_types (HO278.out) BK271.out (by decide)) BK272.out (by decide)) (fun k_ hk=>⟨hk.1.1.1,⟨hk.1.2,hk.2⟩⟩))))) (Reps.none _ _)))
      intro v280 w12 ho13 hb hg_ hnew_;clear hg_ hnew_
      (first|rw [← Ny279.out] at ho13|(simp only [Int.reduceToNat] at ho13;rw [← Ny279.out] at ho13))
      have n0_:=aM1 (Kd.N_lower ho13 (bZ1 (zsx1_9)));have n1_:=aM1 (blk_below (g:=gb271) (o:=.cells #[.int .i64 a0_0,.int .i64 a0_1,.int .i64 a0_2] 84 (0,0)) (zsx1_6) hb);have n2_:=aM1 (blk_below (g:=gb272) (o:=.cells #[.slice none 0 0,.slice none 0 0] 89 (0,0)) (zsx1_10) hb);have n3_:=aM1 (below_step (zsx1_9) hb);clear BK271 BK272 HB HO278;have HO281:=n0_;have BK271:=n1_;have BK272:=n2_;have HB:=n3_;clear n0_ n1_ n2_ n3_ hb ho13;refine hK.out _ _ ⟨(bC1 BK271.out 0).trans rfl,(bC1 BK271.out 1).trans rfl,(bC1 BK271.out 2).trans rfl⟩ (fun hHeld=>?_);clear hK K;refine norm_ (a':=?_) ?_ ?_;rotate_left
      ·show Act.put _ (some 13) _=_
       simp only [Act.put,uA1,uB1,uC1,i64_w,i32_w]
       rfl
      refine one_ (i:=5) (N:=some 10) #[true,true,true,true,true,true,true,true,true,false,false] rfl rfl (one_of HT_.out (zsx1_2)) (by decide) (fun K hK=>?_);refine Kd.R_make_step (Kd.int .i64) _ 3 (by rfl) (N:=10) rfl 33 _ _ rfl ji3 rfl rfl Try.underlying33 (.int .i64 0) 8 info3 rfl (by decide) (by omega) 0 (ok:=fun _=>True) (okp:=fun _=>True) rfl (fun _ hk=>hk) trivial (oD1 (zsx1_8)) (Nat.le_trans (Nat.mul_le_mul_right _ (oD1 (zsx1_8):ji3.toNat≤35184372088832)) (by omega)) (Below.refl _ _) (Nat.le_refl _) ?_;intro v274 w14 ho15 hb hg_ hnew_;clear hg_ hnew_
      (first|rw [← Ny273.out] at ho15|(simp only [Int.reduceToNat] at ho15;rw [← Ny273.out] at ho15))
      have n0_:=aM1 (Kd.N_elder' (zsx1_14) (Kd.R_base ho15) hb);have n1_:=aM1 (Kd.R_lower (Kd.R_newM (M:=fun k_=>(w.heap.size≤k_)) ho15 (bZ1 (zsx1_9)) (fun k_ h_=>h_)) (bZ1 (zsx1_9)));have n2_:=aM1 (blk_below (g:=gb271) (o:=.cells #[.int .i64 a0_0,.int .i64 a0_1,.int .i64 a0_2] 84 (0,0)) (zsx1_6) hb);have n3_:=aM1 (blk_below (g:=gb272) (o:=.cells #[.slice none 0 0,.slice none 0 0] 89 (0,0)) (zsx1_10) hb);have n4_:=aM1 (below_step (zsx1_9) hb);clear HO281 BK271 BK272 HB;have HO281:=n0_;have HO275:=n1_;have BK271:=n2_;have BK272:=n3_;have HB:=n4_;clear n0_ n1_ n2_ n3_ n4_ hb ho15;obtain ⟨Ao16,co16,eo16⟩:=Kd.N_slice HO281.out
      (first|subst eo16|(injection eo16 with f1_ f2_ f3_;have f4_:=f1_.symm;have f5_:=f3_.symm;clear f1_ f2_ f3_;subst f4_;subst f5_))
      obtain ⟨Ao17,co17,eo17⟩:=Kd.R_slice HO275.out
      (first|subst eo17|(injection eo17 with f1_ f2_ f3_;have f4_:=f1_.symm;have f5_:=f3_.symm;clear f1_ f2_ f3_;subst f4_;subst f5_))
      refine hK.out _ _ ⟨(bC1 BK271.out 0).trans rfl,(bC1 BK271.out 1).trans rfl,(bC1 BK271.out 2).trans rfl⟩ (fun hHeld=>?_);clear hK K;refine norm_ (a':=?_) ?_ ?_;rotate_left
      ·show Act.put _ (some 10) _=_
       simp only [Act.put,uA1,uB1,uC1,i64_w,i32_w]
       rfl
      exact norm_ (zsx1_12) (hCont (.slice Ao17 y273.length co17,.slice Ao11 t276.length co11,.slice Ao16 y279.length co16) _ ⟨hHeld,(zsx1_13),(by (with_reducible repeat (first|apply Kd.N_alloc|apply Kd.N_drewN|apply Kd.N_drew));exact Kd.N_mono HO281.out (fun _ hk=>⟨hk.1.1,⟨hk.2,⟨hk.1.2.1,hk.1.2.2⟩⟩⟩)),(zsx1_6),(zsx1_10),(zsx1_9)⟩)
   rintro ⟨v274,v277,v280⟩ w18 ⟨hS_,h0_,h1_,h2_,h3_,h4_⟩;have n0_:Aside0 (Kd.R (Kd.int .i64) 3 w18 w.heap.size (fun k_=>(w.heap.size≤k_)) v274 y273):=⟨h0_⟩;have n1_:Aside0 (Kd.N (Kd.slice 96 k96) 94 w18 w.heap.size (fun k_=>(w.heap.size≤k_)∧some k_≠(v274:Value).ownBlock∧k_≠gb271∧k_≠gb272) v280 y279):=⟨h1_⟩;have n2_:Aside0 (w18.heap[gb271]?=some (.cells #[.int .i64 a0_0,.int .i64 a0_1,.int .i64 a0_2] 84 (0,0))):=⟨h2_⟩;have n3_:Aside0 (w18.heap[gb272]?=some (.cells #[.slice none 0 0,.slice none 0 0] 89 (0,0))):=⟨h3_⟩;have n4_:Aside0 (Below w.heap.size w w18):=⟨h4_⟩;clear BK271 BK272 HB h0_ h1_ h2_ h3_ h4_;have HO275:=n0_;have HO281:=n1_;have BK271:=n2_;have BK272:=n3_;have HB:=n4_;clear n0_ n1_ n2_ n3_ n4_;have hHeld:w18.cell? ⟨gb271,0,none⟩=some (.int .i64 a0_0)∧w18.cell? ⟨gb271,1,none⟩=some (.int .i64 a0_1)∧w18.cell? ⟨gb271,2,none⟩=some (.int .i64 a0_2):=hS_;obtain ⟨Ao19,co19,eo19⟩:=Kd.N_slice HO281.out
   (first|subst eo19|(injection eo19 with f1_ f2_ f3_;have f4_:=f1_.symm;have f5_:=f3_.symm;clear f1_ f2_ f3_;subst f4_;subst f5_))
   obtain ⟨Ao20,co20,eo20⟩:=Kd.R_slice HO275.out
   (first|subst eo20|(injection eo20 with f1_ f2_ f3_;have f4_:=f1_.symm;have f5_:=f3_.symm;clear f1_ f2_ f3_;subst f4_;subst f5_))
   refine norm_ (a':=?_) ?_ ?_;rotate_left
   ·simp only [putAll,Act.put,uA1,uB1,uC1]
    rfl
   refine pure_ (i:=9) (N:=some 14) (v:=?_) (a':=?_) #[true,true,true,true,true,true,true,true,true,true,false] rfl rfl (any_of HT_.out (zsx1_2)) (fun _ _ _ h=>h) (Or.inl ⟨by rfl,?_⟩) ?_ ?_;rotate_left
   ·intro w'
    go_simp
    with_reducible rfl
   rotate_left
   ·simp only [Act.put,uA1,uB1,uC1,i64_w,i32_w]
    rfl
   refine one_ (i:=10) (N:=none) #[true,true,true,true,true,true,true,true,true,true,true] rfl rfl (one_of HT_.out (zsx1_2)) (by decide) (fun K hK=>?_);have hs21:w18.cell? ⟨gb272,0,none⟩=some (.slice none 0 0):=(bC1 BK272.out 0).trans rfl;have hfs21:=blk_frozen BK272.out 0;have hns21_0:=NB271_272.out;have hms21_0:=NB272_271.out;have hs22:w18.cell? ⟨gb272,1,none⟩=some (.slice none 0 0):=(bC1 BK272.out 1).trans rfl;have hfs22:=blk_frozen BK272.out 1;have hns22_0:=NB271_272.out;have hms22_0:=NB272_271.out;refine skip_ (w1:=?_) (by rfl) rfl ?_ ?_;rotate_left
   ·go_simp
    rfl
   refine hK.out _ _ ⟨((cell_far (p:=⟨gb272,_,none⟩) NB271_272.out _).trans (((cell_far (p:=⟨gb272,_,none⟩) NB271_272.out _).trans (hHeld.1)))),((cell_far (p:=⟨gb272,_,none⟩) NB271_272.out _).trans (((cell_far (p:=⟨gb272,_,none⟩) NB271_272.out _).trans (hHeld.2.1)))),((cell_far (p:=⟨gb272,_,none⟩) NB271_272.out _).trans (((cell_far (p:=⟨gb272,_,none⟩) NB271_272.out _).trans (hHeld.2.2))))⟩ (fun hHeld=>?_);clear hK K;refine done_ (done_of HT_.out (zsx1_2)) ?_
   try go_wp2
   refine bodyPost_ret (results_cell_row rfl _ _ gb272 89 #[.slice Ao20 y273.length co20,.slice Ao19 y279.length co19] (0,0) _ rfl (by (with_reducible repeat (first|refine blk_drewN ?_ _|refine blk_drew ?_|refine blk_alloc ?_ _));refine blk_put (cs:=#[.slice Ao20 y273.length co20,.slice none 0 0]) ?_ 1 _ rfl;(with_reducible repeat (first|refine blk_drewN ?_ _|refine blk_drew ?_|refine blk_alloc ?_ _));refine blk_put (cs:=#[.slice none 0 0,.slice none 0 0]) ?_ 0 _ rfl;(with_reducible repeat (first|refine blk_drewN ?_ _|refine blk_drew ?_|refine blk_alloc ?_ _));exact BK272.out) Try.underlying89 rfl (zsx1_2)) rfl ?_;exact ⟨_,_,by first|rfl|(simp [errW_none,errW_some] <;> rfl)|(simp only [← hji3];first|rfl|(simp [errW_none,errW_some] <;> rfl))|(simp [*,errW_none,errW_some] <;> rfl),by (with_reducible repeat (first|apply Kd.R_alloc|apply Kd.R_drewN|apply Kd.R_drew));exact Kd.R_mono (Kd.R_far (p:=⟨gb272,1,none⟩) (Kd.R_far (p:=⟨gb272,0,none⟩) (Kd.R_types HO275.out BK272.out (by decide)) (fun _ hk=>hk.2) (.slice Ao20 y273.length co20)) (fun _ hk=>hk.2) (.slice Ao19 y279.length co19)) (fun _ hk=>hk.1),by (with_reducible repeat (first|apply Kd.N_alloc|apply Kd.N_drewN|apply Kd.N_drew));exact Kd.N_mono (Kd.N_far (p:=⟨gb272,1,none⟩) (Kd.N_far (p:=⟨gb272,0,none⟩) (Kd.N_mono HO281.out (fun k_ hk=>(⟨hk,hk.2.2.2⟩:_∧k_≠gb272))) (fun _ hk=>hk.2) (.slice Ao20 y273.length co20)) (fun _ hk=>hk.2) (.slice Ao19 y279.length co19)) (fun _ hk=>⟨hk.1.1,hk.1.2.1⟩),zsx1_9⟩
  ·rw [if_neg c5] at H
   exact absurd H (by simp)
 ·rw [if_neg c4] at H
  exact absurd H (by simp)
def spec_l1Cur_among.f (s0_0:List Int) (s0_1:Int) (s0_2:Int) (l1:List Int):Option (Int × Int × Int):=(spec_l1Cur_pick.f s0_0 s0_1 s0_2 (l1.length:Int)).bind fun bt168=>(if 0≤bt168.1 then (if bt168.1 < (l1.length:Int) then (some (rd l1 bt168.1,bt168.2.1,bt168.2.2)) else (none)) else (none))
set_option maxHeartbeats 8000000 in
set_option maxRecDepth 100000 in
theorem spec_l1Cur_among.calls (g:Nat) (s0_0:List Int) (s0_1:Int) (s0_2:Int) (A1:Option Addr) (c1:Nat) (l1:List Int) (r1:Int) (r2:Int) (r3:Int) (w0 w:World) (hI:IsS61 w0 w g s0_0 s0_1 s0_2) (hB:Below w0.heap.size w0 w) (hr1:Kd.C (Kd.int .i64) w A1 l1.length l1) (hc1:l1.length≤c1) (hf1:∀ ad,A1=some ad→0 < l1.length→ad.block≠g) (h:spec_l1Cur_among.f s0_0 s0_1 s0_2 l1=some (r1,r2,r3)) :
  Calls Try.prog 66 #[.pointer (some ⟨g,0,none⟩),.slice A1 l1.length c1] w fun e w'=>e=.returned (.int .i64 r1)∧IsS61 w0 w' g s0_0 r2 r3∧Below w0.heap.size w0 w'∧KeepBut w w' g none:=by
 have HR1:=aM1 hr1;have HC1:=aM1 hc1;clear hr1 hc1;have HI0:=aM1 hI;have HK:=aM1 (KeepBut.refl w g none);have HL:=aM1 hB.size;clear hI;have HW0:=aM1 hB.size;have HB:=aM1 hB;clear hB;have H:((spec_l1Cur_pick.f s0_0 s0_1 s0_2 (l1.length:Int)).bind fun bt168=>(if 0≤bt168.1 then (if bt168.1 < (l1.length:Int) then (some (rd l1 bt168.1,bt168.2.1,bt168.2.2)) else (none)) else (none)))=some (r1,r2,r3):=h;clear h;replace H:=bI1.mp H;obtain ⟨⟨t168,t169,t170⟩,A30,H⟩:=H;(try dsimp only at H);have A3:=aM1 A30;clear A30
 by_cases c4:0≤t168
 ·rw [if_pos c4] at H
  have c4b0:decide (0≤t168)=true:=dT1 c4;clear c4
  by_cases c5:t168 < (l1.length:Int)
  ·rw [if_pos c5] at H
   have c5b0:decide (t168 < (l1.length:Int))=true:=dT1 c5;clear c5;simp only [Option.some.injEq,Prod.mk.injEq] at H;obtain ⟨rfl,rfl,rfl⟩:=H;go_enter Try.func66,Try.ntmps66
   go_wp2_with (first|((with_reducible refine gate_callee (f:=53) rfl ?_);refine goesL_ (some 9) rfl rfl Try.func53 (zsx1_2) rfl #[.pointer (some ⟨g,0,none⟩),.int .i64 (l1.length:Int)] rfl (zsx1_3) ?_;(with_reducible refine (spec_l1Cur_pick.calls g s0_0 s0_1 s0_2 (l1.length:Int) t168 t169 t170 w0 _ ?side1 ?side2 A3.out).mono ?_);(case side1=>exact zsx1_16);(case side2=>exact zsx1_17);rintro e w6 ⟨rfl,hi,hb,hk⟩;refine ⟨_,rfl,?_⟩;have n0_:=aM1 (KeepBut.trans (zsx1_15) hk (.inl rfl));have n1_:=aM1 (hb);have n2_:=aM1 (hi);clear HK HB HI0;have HK:=n0_;have HB:=n1_;have HI0:=n2_;clear n0_ n1_ n2_;(try clear hb);(try clear hb2);(try clear hk);(try clear hi);have p171:0≤(t168:Int):=oD1 (zsx1_8);have q171:t168 < (l1.length:Int):=oD1 (zsx1_8);obtain ⟨ad171,e171,hx171_0⟩:=Kd.at_int HR1.out t168 p171 q171;cases e171;replace hx171_0:=keep_cell HK.out hx171_0 (by first|(rw [add_block];exact hf1 _ rfl (by omega))|exact hf1 _ rfl (by omega)|exact hf1 ad171 rfl (by omega));replace p171:=eq_true p171;replace q171:=eq_true q171))
   go_ret
   exact ⟨by first|rfl|(simp [errW_none,errW_some] <;> rfl)|(simp [*,errW_none,errW_some] <;> rfl),zsx1_16,zsx1_17,zsx1_15⟩
  ·rw [if_neg c5] at H
   exact absurd H (by simp)
 ·rw [if_neg c4] at H
  exact absurd H (by simp)
end Go.Proofs.Ytbhlffakpneecaa.PFnClosures
end
