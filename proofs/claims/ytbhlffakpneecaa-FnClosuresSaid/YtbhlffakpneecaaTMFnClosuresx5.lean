/- Texts that print.sh has printed for the law FnClosures,one function each,put together in one file: contracts of its functions. -/
import Derived.Test.YtbhlffakpneecaaTMFnClosuresx0
import Derived.Test.YtbhlffakpneecaaTMFnClosuresx4
import Derived.Test.YtbhlffakpneecaaTMFnClosuresx1
section
namespace Go.Proofs.Ytbhlffakpneecaa.PFnClosures
open Go.RowKit Go.Proofs.YtbhlffakpneecaaW.PrintWords Go.Proofs.YtbhlffakpneecaaW.PrintLast Go.Proofs.YtbhlffakpneecaaW.PrintMore
attribute [local go_sem] max2_int min2_int max_two min_two max_three min_three max_four min_four   -- for this text's walks alone
set_option linter.unusedVariables false
set_option linter.unusedSimpArgs false
theorem aM5:type_of% @Aside0.mk:=@Aside0.mk
theorem uA5:type_of% @List.setIfInBounds_toArray.{0}:=@List.setIfInBounds_toArray.{0}
theorem uB5:type_of% @List.set_cons_zero.{0}:=@List.set_cons_zero.{0}
theorem uC5:type_of% @List.set_cons_succ.{0}:=@List.set_cons_succ.{0}
theorem oD5:type_of% @of_decide_eq_true:=@of_decide_eq_true
theorem dT5:type_of% @decide_eq_true:=@decide_eq_true
theorem bI5:type_of% @Option.bind_eq_some_iff.{0,0}:=@Option.bind_eq_some_iff.{0,0}
theorem kT5:type_of% @KeepBut.trans:=@KeepBut.trans
theorem zsx5_0 {P:Prop} (h:P:=by kernel_rfl):P:=h
theorem zsx5_1 {P:Prop} (h:P:=by (try simp only [List.map_toArray,List.map_cons,List.map_nil]);first|done|rfl|(simp only [List.length_drop,List.length_take];rfl)):P:=h
theorem zsx5_2 {P:Prop} (h:P:=by repeat (first|(with_reducible first|exact HK.out|apply KeepBut.set_|apply keep_drewN|apply keep_drew|apply keep_alloc)|exact HK.out)):P:=h
theorem zsx5_3 {P:Prop} (h:P:=by first|rfl|(simp;done)|(simp [*];done)):P:=h
theorem zsx5_4 {P:Prop} (h:P:=by repeat (first|(with_reducible first|exact HI0.out|apply IsS61.alloc|apply IsS61.drewN|apply IsS61.drew|apply IsS61.set_1|apply IsS61.set_2)|exact HI0.out)):P:=h
theorem zsx5_5 {P:Prop} (h:P:=by repeat (first|(with_reducible first|exact HB.out|apply below_alloc|apply pw_below_drewN|apply below_drew1|refine below_set ?_ (IsS61.ge HI0.out))|exact HB.out)):P:=h
theorem zsx5_6 {P:Prop} (h:P:=by (with_reducible repeat (first|apply Kd.S_alloc|apply Kd.S_drewN|apply Kd.S_drew));exact HO_3.out):P:=h
theorem zsx5_7 {P:Prop} (h:P:=by (with_reducible repeat (first|apply Kd.R_alloc|apply Kd.R_drewN|apply Kd.R_drew));exact HO_6.out):P:=h
theorem zsx5_8 {P:Prop} (h:P:=by first|rfl|(simp [errW_none,errW_some] <;> rfl)|(simp [*,errW_none,errW_some] <;> rfl)):P:=h
theorem zsx5_9 {P:Prop} (h:P:=by repeat (first|(with_reducible first|exact HI0.out|apply IsS61.alloc|apply IsS61.drewN|apply IsS61.drew|apply IsS61.set_1|apply IsS61.set_2|refine IsS61.far ?_ NB0_405.out _)|exact HI0.out)):P:=h
theorem zsx5_10 {P:Prop} (h:P:=by repeat (first|(with_reducible first|exact HK.out|apply KeepBut.set_|apply keep_drewN|apply keep_drew|apply keep_alloc|refine keep_far ?_ GW405.out _)|exact HK.out)):P:=h
theorem zsx5_11 {P:Prop} (h:P:=by repeat (first|(with_reducible first|exact HB.out|apply below_alloc|apply pw_below_drewN|apply below_drew1|refine below_set ?_ (IsS61.ge HI0.out)|refine below_set ?_ GE405.out)|exact HB.out)):P:=h
theorem zsx5_12 {P:Prop} (h:P:=by (with_reducible repeat (first|refine blk_drewN ?_ _|refine blk_drew ?_|refine blk_alloc ?_ _));exact BK405.out):P:=h
theorem zsx5_13 {P:Prop} (h:P:=by first|exact Kd.R_nil _ _ _ _ _|exact Kd.N_nil _ _ _ _ _|exact Kd.V_nil _ _ _ _ _|exact Kd.Q_nil _ _ _ _ _|exact Kd.S_nil _ _ _ _ _):P:=h
theorem zsx5_14 {P:Prop} (h:P:=by (with_reducible repeat (first|apply Kd.R_alloc|apply Kd.R_drewN|apply Kd.R_drew));exact HO_5.out):P:=h
theorem zsx5_15 {P:Prop} (h:P:=by have:=HK1.out;omega):P:=h
theorem zsx5_16 {P:Prop} (h:P:=by (with_reducible repeat (first|apply Kd.R_alloc|apply Kd.R_drewN|apply Kd.R_drew));exact HO446.out):P:=h
theorem zsx5_17 {P:Prop} (h:P:=by repeat (first|exact Drawn0.refl _|apply Drawn0.step)):P:=h
theorem zsx5_18 {P:Prop} (h:P:=by first|(with_reducible assumption)|assumption):P:=h
theorem zsx5_19 {P:Prop} (h:P:=by repeat (first|(with_reducible first|exact HB.out|apply below_alloc|apply pw_below_drewN|apply below_drew1)|exact HB.out)):P:=h
theorem zsx5_20 {P:Prop} (h:P:=by (with_reducible repeat (first|apply Kd.R_alloc|apply Kd.R_drewN|apply Kd.R_drew));exact HO_3.out):P:=h
theorem zsx5_21 {P:Prop} (h:P:=by (try simp only [hl5_2]);(with_reducible repeat (first|apply Kd.R_alloc|apply Kd.R_drewN|apply Kd.R_drew));exact HO_5.out):P:=h
theorem zsx5_22 {P:Prop} (h:P:=by (with_reducible repeat (first|apply Kd.R_alloc|apply Kd.R_drewN|apply Kd.R_drew));exact HO479.out):P:=h
theorem zsx5_23 {P:Prop} (h:P:=by repeat (first|exact HR104_0.out|(with_reducible refine Kd.C_alloc ?_ _)|(with_reducible refine Kd.C_drewN ?_ _)|(with_reducible refine Kd.C_drew ?_))):P:=h
theorem zsx5_24 {P:Prop} (h:P:=by repeat (first|exact HR0.out|(with_reducible refine Kd.C_alloc ?_ _)|(with_reducible refine Kd.C_drewN ?_ _)|(with_reducible refine Kd.C_drew ?_))):P:=h
theorem zsx5_25 {P:Prop} (h:P:=by repeat (first|exact HR1.out|(with_reducible refine Kd.C_alloc ?_ _)|(with_reducible refine Kd.C_drewN ?_ _)|(with_reducible refine Kd.C_drew ?_))):P:=h
theorem zsx5_26 {P:Prop} (h:P:=by repeat (first|exact (Kd.R_reads' HO479.out).2.2|(with_reducible refine Kd.C_alloc ?_ _)|(with_reducible refine Kd.C_drewN ?_ _)|(with_reducible refine Kd.C_drew ?_))):P:=h
mutual
def spec_l1Cur_arcs.j0:Nat→List (List Int)→Int→List Int→Int→Int→Option ((List (List Int)) × Int × Int)
 | 0,_,_,_,_,_=>none
 | k + 1,x3,x4,x1000,x1001,x1002=>spec_l1Cur_arcs.l0 k x3 x4 0 x1000 x1001 x1002
def spec_l1Cur_arcs.l0:Nat→List (List Int)→Int→Int→List Int→Int→Int→Option ((List (List Int)) × Int × Int)
 | 0,_,_,_,_,_,_=>none
 | k + 1,x3,x4,x5,x1000,x1001,x1002=>if x5 < x4 then (spec_l1Cur_arcs.l1 k x3 x4 x5 ([]:List Int) 0 x1000 x1001 x1002) else (some (x3,x1001,x1002))
def spec_l1Cur_arcs.l1:Nat→List (List Int)→Int→Int→List Int→Int→List Int→Int→Int→Option ((List (List Int)) × Int × Int)
 | 0,_,_,_,_,_,_,_,_=>none
 | k + 1,x3,x4,x5,x6,x7,x1000,x1001,x1002=>if x7 < x5 then ((spec_l1Cur_one.f x1000 x1001 x1002 4).bind fun bt391=>(if bt391.1=true then (if x6.length < 17592186044416 then (spec_l1Cur_arcs.l1 k x3 x4 x5 (x6 ++ [x7]) (wrap64 (x7 + 1)) x1000 bt391.2.1 bt391.2.2) else (none)) else (spec_l1Cur_arcs.l1 k x3 x4 x5 x6 (wrap64 (x7 + 1)) x1000 bt391.2.1 bt391.2.2))) else (if x3.length < 5864062014805 then (spec_l1Cur_arcs.l0 k (x3 ++ [x6]) x4 (wrap64 (x5 + 1)) x1000 x1001 x1002) else (none))
end
def spec_l1Cur_arcs.f (k:Nat) (s0_0:List Int) (s0_1:Int) (s0_2:Int):Option ((List (List Int)) × Int × Int):=(spec_l1Cur_one.f s0_0 s0_1 s0_2 3).bind fun bt379=>(if bt379.1=true then ((spec_l1Cur_pick.f s0_0 bt379.2.1 bt379.2.2 14).bind fun bt382=>((spec_l1Cur_one.f s0_0 bt382.2.1 bt382.2.2 16).bind fun bt385=>(if bt385.1=true then ((spec_l1Cur_pick.f s0_0 bt385.2.1 bt385.2.2 2).bind fun bt388=>(spec_l1Cur_arcs.j0 k ([]:List (List Int)) (wrap64 (20 + bt388.1)) s0_0 bt388.2.1 bt388.2.2)) else (spec_l1Cur_arcs.j0 k ([]:List (List Int)) (wrap64 (1 + bt382.1)) s0_0 bt385.2.1 bt385.2.2)))) else ((spec_l1Cur_grid.f s0_0 bt379.2.1 bt379.2.2).bind fun bt400=>((spec_l1Cur_slopes.f k s0_0 bt400.2.2.2.1 bt400.2.2.2.2 bt400.1 bt400.2.1 bt400.2.2.1).bind fun bt406=>((spec_slArcs.f k bt400.1 bt400.2.1 bt400.2.2.1 bt406.1 bt406.2.1).bind fun t414=>(some (t414,bt406.2.2.1,bt406.2.2.2))))))
set_option maxHeartbeats 8000000 in
set_option maxRecDepth 100000 in
theorem spec_l1Cur_arcs.callsS (k:Nat) (g:Nat) (s0_0:List Int) (s0_1:Int) (s0_2:Int) (r1:List (List Int)) (r2:Int) (r3:Int) (w0 w:World) (hI:IsS61 w0 w g s0_0 s0_1 s0_2) (hB:Below w0.heap.size w0 w) (h:spec_l1Cur_arcs.f k s0_0 s0_1 s0_2=some (r1,r2,r3)) :
  Calls Try.prog 87 #[.pointer (some ⟨g,0,none⟩)] w fun e w'=>∃ v0_:Value,e=.returned (v0_)∧Kd.S (Kd.slice 3 (Kd.int .i64)) 33 w' w.heap.size (fun k_=>(w.heap.size≤k_)) v0_ r1∧IsS61 w0 w' g s0_0 r2 r3∧Below w0.heap.size w0 w'∧KeepBut w w' g none:=by
 have hu84:=Try.underlying84;have HI0:=aM5 hI;have HK:=aM5 (KeepBut.refl w g none);have HL:=aM5 hB.size;clear hI;have HW0:=aM5 hB.size;have HB:=aM5 hB;clear hB;have H:((spec_l1Cur_one.f s0_0 s0_1 s0_2 3).bind fun bt379=>(if bt379.1=true then ((spec_l1Cur_pick.f s0_0 bt379.2.1 bt379.2.2 14).bind fun bt382=>((spec_l1Cur_one.f s0_0 bt382.2.1 bt382.2.2 16).bind fun bt385=>(if bt385.1=true then ((spec_l1Cur_pick.f s0_0 bt385.2.1 bt385.2.2 2).bind fun bt388=>(spec_l1Cur_arcs.j0 k ([]:List (List Int)) (wrap64 (20 + bt388.1)) s0_0 bt388.2.1 bt388.2.2)) else (spec_l1Cur_arcs.j0 k ([]:List (List Int)) (wrap64 (1 + bt382.1)) s0_0 bt385.2.1 bt385.2.2)))) else ((spec_l1Cur_grid.f s0_0 bt379.2.1 bt379.2.2).bind fun bt400=>((spec_l1Cur_slopes.f k s0_0 bt400.2.2.2.1 bt400.2.2.2.2 bt400.1 bt400.2.1 bt400.2.2.1).bind fun bt406=>((spec_slArcs.f k bt400.1 bt400.2.1 bt400.2.2.1 bt406.1 bt406.2.1).bind fun t414=>(some (t414,bt406.2.2.1,bt406.2.2.2)))))))=some (r1,r2,r3):=h;clear h;replace H:=bI5.mp H;obtain ⟨⟨t379,t380,t381⟩,A20,H⟩:=H;(try dsimp only at H);have A2:=aM5 A20;clear A20
 by_cases c3:t379=true
 ·subst c3
  rw [if_pos rfl] at H;(try dsimp only at H);replace H:=bI5.mp H;obtain ⟨⟨t382,t383,t384⟩,A40,H⟩:=H;(try dsimp only at H);have A4:=aM5 A40;clear A40;replace H:=bI5.mp H;obtain ⟨⟨t385,t386,t387⟩,A50,H⟩:=H;(try dsimp only at H);have A5:=aM5 A50;clear A50;have HC6:=aM5 H;clear H;go_enter Try.func87,Try.ntmps87
  go_upto_if 15 with (first|((with_reducible refine gate_callee (f:=86) rfl ?_);refine goesL_ (some 10) rfl rfl Try.func86 (zsx5_0) rfl #[.pointer (some ⟨g,0,none⟩),.int .i64 3] rfl (zsx5_1) ?_;(with_reducible refine (spec_l1Cur_one.calls g s0_0 s0_1 s0_2 3 true t380 t381 w0 _ ?side1 ?side2 A2.out).mono ?_);(case side1=>exact zsx5_4);(case side2=>exact zsx5_5);rintro e w7 ⟨rfl,hi,hb,hk⟩;refine ⟨_,rfl,?_⟩;have n0_:=aM5 (kT5 (zsx5_2) hk (.inl rfl));have n1_:=aM5 (hb);have n2_:=aM5 (hi);clear HK HB HI0;have HK:=n0_;have HB:=n1_;have HI0:=n2_;clear n0_ n1_ n2_;(try clear hb);(try clear hb2);(try clear hk);(try clear hi))|((with_reducible refine gate_callee (f:=53) rfl ?_);refine goesL_ (some 12) rfl rfl Try.func53 (zsx5_0) rfl #[.pointer (some ⟨g,0,none⟩),.int .i64 14] rfl (zsx5_1) ?_;(with_reducible refine (spec_l1Cur_pick.calls g s0_0 t380 t381 14 t382 t383 t384 w0 _ ?side1 ?side2 A4.out).mono ?_);(case side1=>exact zsx5_4);(case side2=>exact zsx5_5);rintro e w8 ⟨rfl,hi,hb,hk⟩;refine ⟨_,rfl,?_⟩;have n0_:=aM5 (kT5 (zsx5_2) hk (.inl rfl));have n1_:=aM5 (hb);have n2_:=aM5 (hi);clear HK HB HI0;have HK:=n0_;have HB:=n1_;have HI0:=n2_;clear n0_ n1_ n2_;(try clear hb);(try clear hb2);(try clear hk);(try clear hi))|((with_reducible refine gate_callee (f:=86) rfl ?_);refine goesL_ (some 15) rfl rfl Try.func86 (zsx5_0) rfl #[.pointer (some ⟨g,0,none⟩),.int .i64 16] rfl (zsx5_1) ?_;(with_reducible refine (spec_l1Cur_one.calls g s0_0 t383 t384 16 t385 t386 t387 w0 _ ?side1 ?side2 A5.out).mono ?_);(case side1=>exact zsx5_4);(case side2=>exact zsx5_5);rintro e w9 ⟨rfl,hi,hb,hk⟩;refine ⟨_,rfl,?_⟩;have n0_:=aM5 (kT5 (zsx5_2) hk (.inl rfl));have n1_:=aM5 (hb);have n2_:=aM5 (hi);clear HK HB HI0;have HK:=n0_;have HB:=n1_;have HI0:=n2_;clear n0_ n1_ n2_;(try clear hb);(try clear hb2);(try clear hk);(try clear hi)))
  (try simp only [Act.put,uA5,uB5,uC5])
  go_cut [4] (fun v4 wc=>∃ (kq:Nat) (x4_5:Int) (x1001_5:Int) (x1002_5:Int),v4=.int .i64 x4_5∧Aside0 (spec_l1Cur_arcs.j0 kq ([]:List (List Int)) x4_5 s0_0 x1001_5 x1002_5=some (r1,r2,r3))∧Aside0 (kq≤k)∧Aside0 (Kd.S (Kd.slice 3 (Kd.int .i64)) 33 wc w.heap.size (fun k_=>(w.heap.size≤k_)∧k_≠g) (.slice none 0 0) ([]:List (List Int)))∧Aside0 (IsS61 w0 wc g s0_0 x1001_5 x1002_5)∧Aside0 (KeepBut w wc g none)∧Aside0 (Below w0.heap.size w0 wc))
  case first =>
   have H:=HC6.out;clear HC6
   by_cases c10:t385=true
   ·subst c10
    rw [if_pos rfl] at H;(try dsimp only at H);replace H:=bI5.mp H;obtain ⟨⟨t388,t389,t390⟩,A110,H⟩:=H;(try dsimp only at H);have A11:=aM5 A110;clear A110;have H':=aM5 H;clear H
    go_wp2_with (first|((with_reducible refine gate_callee (f:=53) rfl ?_);refine goesL_ (some 17) rfl rfl Try.func53 (zsx5_0) rfl #[.pointer (some ⟨g,0,none⟩),.int .i64 2] rfl (zsx5_1) ?_;(with_reducible refine (spec_l1Cur_pick.calls g s0_0 t386 t387 2 t388 t389 t390 w0 _ ?side1 ?side2 A11.out).mono ?_);(case side1=>exact zsx5_4);(case side2=>exact zsx5_5);rintro e w12 ⟨rfl,hi,hb,hk⟩;refine ⟨_,rfl,?_⟩;have n0_:=aM5 (kT5 (zsx5_2) hk (.inl rfl));have n1_:=aM5 (hb);have n2_:=aM5 (hi);clear HK HB HI0;have HK:=n0_;have HB:=n1_;have HI0:=n2_;clear n0_ n1_ n2_;(try clear hb);(try clear hb2);(try clear hk);(try clear hi)))
    go_meet
    case rel=>exact ⟨_,(wrap64 (20 + t388)),(t389),(t390),(zsx5_3),H',⟨by first|omega|exact Nat.le_refl _⟩,⟨by first|exact Kd.S_nil _ _ _ _ _|exact Kd.V_nil _ _ _ _ _|exact Kd.Q_nil _ _ _ _ _|exact Kd.R_nil _ _ _ _ _⟩,⟨zsx5_4⟩,⟨zsx5_2⟩,⟨zsx5_5⟩⟩
   ·replace c10:=Bool.eq_false_iff.mpr c10
    subst c10;rw [if_neg (show ¬ (false=true) by decide)] at H;(try dsimp only at H);have H':=aM5 H;clear H
    go_wp2
    go_meet
    case rel=>exact ⟨_,(wrap64 (1 + t382)),(t386),(t387),(zsx5_3),H',⟨by first|omega|exact Nat.le_refl _⟩,⟨by first|exact Kd.S_nil _ _ _ _ _|exact Kd.V_nil _ _ _ _ _|exact Kd.Q_nil _ _ _ _ _|exact Kd.R_nil _ _ _ _ _⟩,⟨zsx5_4⟩,⟨zsx5_2⟩,⟨zsx5_5⟩⟩
  case rest =>
   clear HC6;(try clear c1);(try clear p2);(try clear c3);(try clear c5);(try clear p6);(try clear c8);(try clear c10);obtain ⟨kq,x4_5,x1001_5,x1002_5,rfl,HA,HJ5,HO_3,HI0,HK,HB⟩:=hcut
   cases kq with
   | zero=>exact absurd HA.out (by simp [spec_l1Cur_arcs.j0])
   | succ kj5 =>
    have H:=HA.out;clear HA;simp only [spec_l1Cur_arcs.j0] at H;have H':=aM5 H;clear H
    go_wp2
    go_loopg [3,5] kj5 (fun kq v3 v5 w'=>∃ (x3_2:List (List Int)) (x5_2:Int) (x1001_2:Int) (x1002_2:Int),v5=.int .i64 x5_2∧Aside0 (spec_l1Cur_arcs.l0 kq x3_2 x4_5 x5_2 s0_0 x1001_2 x1002_2=some (r1,r2,r3))∧Aside0 (kq≤kj5)∧Aside0 (Kd.S (Kd.slice 3 (Kd.int .i64)) 33 w' w.heap.size (fun k_=>(w.heap.size≤k_)∧k_≠g) v3 x3_2)∧Aside0 (IsS61 w0 w' g s0_0 x1001_2 x1002_2)∧Aside0 (KeepBut w w' g none)∧Aside0 (Below w0.heap.size w0 w'))
    case atStart=>exact ⟨(([]:List (List Int))),(0),(x1001_5),(x1002_5),(zsx5_3),H',⟨Nat.le_refl _⟩,⟨zsx5_6⟩,⟨zsx5_4⟩,⟨zsx5_2⟩,⟨zsx5_5⟩⟩
    case round =>
     clear H';(try clear c1);(try clear p2);(try clear c3);(try clear c5);(try clear p6);(try clear c8);(try clear c10);(try clear p2);(try clear p6);obtain ⟨x3_2,x5_2,x1001_2,x1002_2,rfl,HA,HK2,HO_3,HI0,HK,HB⟩:=hrel
     cases gk with
     | zero=>exact absurd HA.out (by simp [spec_l1Cur_arcs.l0])
     | succ k2 =>
      have H:=HA.out;clear HA;simp only [spec_l1Cur_arcs.l0] at H
      by_cases c13:x5_2 < x4_5
      ·rw [if_pos c13] at H
       have c13b0:decide (x5_2 < x4_5)=true:=dT5 c13;clear c13;have H':=aM5 H;clear H
       go_wp2
       go_loopg [6,7] k2 (fun kq v6 v7 w'=>∃ (x6_3:List Int) (x7_3:Int) (x1001_3:Int) (x1002_3:Int),v7=.int .i64 x7_3∧Aside0 (spec_l1Cur_arcs.l1 kq x3_2 x4_5 x5_2 x6_3 x7_3 s0_0 x1001_3 x1002_3=some (r1,r2,r3))∧Aside0 (kq≤k2)∧Aside0 (Kd.S (Kd.slice 3 (Kd.int .i64)) 33 w' w.heap.size (fun k_=>(w.heap.size≤k_)∧some k_≠(v6:Value).ownBlock∧k_≠g) u3 x3_2)∧Aside0 (Kd.R (Kd.int .i64) 3 w' w.heap.size (fun k_=>(w.heap.size≤k_)) v6 x6_3)∧Aside0 (IsS61 w0 w' g s0_0 x1001_3 x1002_3)∧Aside0 (KeepBut w w' g none)∧Aside0 (Below w0.heap.size w0 w'))
       case atStart=>exact ⟨(([]:List Int)),(0),(x1001_2),(x1002_2),(zsx5_3),H',⟨Nat.le_refl _⟩,⟨by (with_reducible repeat (first|apply Kd.S_alloc|apply Kd.S_drewN|apply Kd.S_drew));exact Kd.S_mono HO_3.out (fun _ hk=>⟨hk.1,⟨(by simp [Value.ownBlock]),hk.2⟩⟩)⟩,⟨by first|exact Kd.R_nil _ _ _ _ _|exact Kd.S_nil _ _ _ _ _|exact Kd.V_nil _ _ _ _ _|exact Kd.Q_nil _ _ _ _ _|exact Kd.S_nil _ _ _ _ _⟩,⟨zsx5_4⟩,⟨zsx5_2⟩,⟨zsx5_5⟩⟩
       case round =>
        clear H';(try clear c1);(try clear p2);(try clear c3);(try clear c5);(try clear p6);(try clear c8);(try clear c10);(try clear c13);(try clear c13b0);(try clear p2);(try clear p6);obtain ⟨x6_3,x7_3,x1001_3,x1002_3,rfl,HA,HK3,HO_3,HO_6,HI0,HK,HB⟩:=hrel
        cases gk with
        | zero=>exact absurd HA.out (by simp [spec_l1Cur_arcs.l1])
        | succ k3 =>
         have H:=HA.out;clear HA;simp only [spec_l1Cur_arcs.l1] at H
         by_cases c14:x7_3 < x5_2
         ·rw [if_pos c14] at H
          have c14b0:decide (x7_3 < x5_2)=true:=dT5 c14;clear c14;replace H:=bI5.mp H;obtain ⟨⟨t391,t392,t393⟩,A150,H⟩:=H;(try dsimp only at H);have A15:=aM5 A150;clear A150
          by_cases c16:t391=true
          ·subst c16
           rw [if_pos rfl] at H;(try dsimp only at H)
           by_cases c17:x6_3.length < 17592186044416
           ·rw [if_pos c17] at H
            have LMc17:=aM5 c17;clear c17;obtain ⟨y394,hy394⟩:∃ y_:List Int,y_=(x6_3 ++ [x7_3]):=⟨_,rfl⟩
            replace H:(spec_l1Cur_arcs.l1 k3 x3_2 x4_5 x5_2 y394 (wrap64 (x7_3 + 1)) s0_0 t392 t393)=some (r1,r2,r3):=by first|(rw [hy394];with_reducible exact H)|(have H2_:=(Option.bind_some _ _).symm.trans H;rw [hy394];with_reducible exact H2_)|(have H2_:=(Option.bind_some _ _).symm.trans H;with_reducible exact H2_)|with_reducible exact H|(rw [hy394];exact H)|exact H
            have Ny394:=aM5 hy394;clear hy394;have H':=aM5 H;clear H
            go_wp2_with (first|((with_reducible refine gate_callee (f:=86) rfl ?_);refine goesL_ (some 30) rfl rfl Try.func86 (zsx5_0) rfl #[.pointer (some ⟨g,0,none⟩),.int .i64 4] rfl (zsx5_1) ?_;(with_reducible refine (spec_l1Cur_one.calls g s0_0 x1001_3 x1002_3 4 true t392 t393 w0 _ ?side1 ?side2 A15.out).mono ?_);(case side1=>exact zsx5_4);(case side2=>exact zsx5_5);rintro e w18 ⟨rfl,hi,hb,hk⟩;refine ⟨_,rfl,?_⟩;have n0_:=aM5 (Kd.S_mono (Kd.S_keep (Kd.S_mono (ok:=fun k_=>(((w.heap.size≤k_))∧(some k_≠(u6:Value).ownBlock∧k_≠g))) (zsx5_6) (fun k_ hk_=>(⟨hk_,hk_.2.2⟩:_∧k_≠g))) hk (fun _ h=>h.2)) (fun _ h=>h.1));have n1_:=aM5 (Kd.R_mono (Kd.R_keep (IsS61.apart (show IsS61 w0 _ g s0_0 x1001_3 x1002_3 from zsx5_4) (zsx5_7) (by decide)) hk (fun _ h=>h.2)) (fun _ h=>h.1));have n2_:=aM5 (kT5 (zsx5_2) hk (.inl rfl));have n3_:=aM5 (hb);have n4_:=aM5 (hi);clear HO_3 HO_6 HK HB HI0;have HO_3:=n0_;have HO_6:=n1_;have HK:=n2_;have HB:=n3_;have HI0:=n4_;clear n0_ n1_ n2_ n3_ n4_;(try clear hb);(try clear hb2);(try clear hk);(try clear hi))|((with_reducible refine gate_builtin (b:=.append) (xs:=#[.tmp 31,.tmp 33]) rfl ?_);at_builtin;refine Kd.R_append (Kd.int .i64) w.heap.size rfl (.tmp 31) (.tmp 33) 33 3 (.int .i64 0) 8 rfl Try.underlying33 info3 rfl (by decide) (by omega) u6 x6_3 x7_3 [.int .i64 x7_3] (fun k_=>(w.heap.size≤k_)) (fun _=>False) rfl rfl ?aP (fun _ hk=>hk.elim) ?aF ?aO (Below.refl _ _) ?aS ?aL ?_;(case aP=>exact rfl);(case aF=>exact (fun k_ hk=>(Nat.le_trans (keep_size (w:=w) (g:=g) (row:=none) (zsx5_2)) hk)));(case aO=>exact (zsx5_7));(case aS=>exact (keep_size (w:=w) (g:=g) (row:=none) (zsx5_2)));(case aL=>have:=LMc17.out;omega);intro v395 w19 ho hb hg hat;rw [← Ny394.out] at ho;have n0_:=aM5 (Kd.S_after (ok:=(fun k_=>(w.heap.size≤k_)∧k_≠g)) (by (with_reducible repeat (first|apply Kd.S_alloc|apply Kd.S_drewN|apply Kd.S_drew));exact Kd.S_mono HO_3.out (fun _ hk=>⟨⟨hk.1,hk.2.2⟩,hk.2.1⟩)) hg hat);have n1_:=aM5 (IsS61.grown (zsx5_4) hg (IsS61.own_ne HI0.out HO_6.out (by decide)));have n2_:=aM5 (below_weaken (zsx5_5) HL.out hb);have n3_:=aM5 (kT5 (zsx5_2) (KeepBut.of_grown hg g) (Kd.R_base2 HO_6.out));have n4_:=aM5 (ho);clear HO_3 HI0 HB HK HO_6;have HO_3:=n0_;have HI0:=n1_;have HB:=n2_;have HK:=n3_;have HO396:=n4_;clear n0_ n1_ n2_ n3_ n4_ ho hb hg hat))
            go_roundg k3
            case measure=>have:=HJ5.out;have:=HK2.out;have:=HK3.out;omega
            case rel=>exact ⟨(y394),(wrap64 (x7_3 + 1)),(t392),(t393),(zsx5_3),H',⟨by have:=HJ5.out;have:=HK2.out;have:=HK3.out;omega⟩,⟨by (with_reducible repeat (first|apply Kd.S_alloc|apply Kd.S_drewN|apply Kd.S_drew));exact Kd.S_mono HO_3.out (fun _ hk=>⟨hk.1.1,⟨hk.2,hk.1.2⟩⟩)⟩,⟨by (with_reducible repeat (first|apply Kd.R_alloc|apply Kd.R_drewN|apply Kd.R_drew));exact HO396.out⟩,⟨zsx5_4⟩,⟨zsx5_2⟩,⟨zsx5_5⟩⟩
           ·rw [if_neg c17] at H
            exact absurd H (by simp)
          ·replace c16:=Bool.eq_false_iff.mpr c16
           subst c16;rw [if_neg (show ¬ (false=true) by decide)] at H;(try dsimp only at H);have H':=aM5 H;clear H
           go_wp2_with (first|((with_reducible refine gate_callee (f:=86) rfl ?_);refine goesL_ (some 30) rfl rfl Try.func86 (zsx5_0) rfl #[.pointer (some ⟨g,0,none⟩),.int .i64 4] rfl (zsx5_1) ?_;(with_reducible refine (spec_l1Cur_one.calls g s0_0 x1001_3 x1002_3 4 false t392 t393 w0 _ ?side1 ?side2 A15.out).mono ?_);(case side1=>exact zsx5_4);(case side2=>exact zsx5_5);rintro e w20 ⟨rfl,hi,hb,hk⟩;refine ⟨_,rfl,?_⟩;have n0_:=aM5 (Kd.S_mono (Kd.S_keep (Kd.S_mono (ok:=fun k_=>(((w.heap.size≤k_))∧(some k_≠(u6:Value).ownBlock∧k_≠g))) (zsx5_6) (fun k_ hk_=>(⟨hk_,hk_.2.2⟩:_∧k_≠g))) hk (fun _ h=>h.2)) (fun _ h=>h.1));have n1_:=aM5 (Kd.R_mono (Kd.R_keep (IsS61.apart (show IsS61 w0 _ g s0_0 x1001_3 x1002_3 from zsx5_4) (zsx5_7) (by decide)) hk (fun _ h=>h.2)) (fun _ h=>h.1));have n2_:=aM5 (kT5 (zsx5_2) hk (.inl rfl));have n3_:=aM5 (hb);have n4_:=aM5 (hi);clear HO_3 HO_6 HK HB HI0;have HO_3:=n0_;have HO_6:=n1_;have HK:=n2_;have HB:=n3_;have HI0:=n4_;clear n0_ n1_ n2_ n3_ n4_;(try clear hb);(try clear hb2);(try clear hk);(try clear hi)))
           go_roundg k3
           case measure=>have:=HJ5.out;have:=HK2.out;have:=HK3.out;omega
           case rel=>exact ⟨(x6_3),(wrap64 (x7_3 + 1)),(t392),(t393),(zsx5_3),H',⟨by have:=HJ5.out;have:=HK2.out;have:=HK3.out;omega⟩,⟨zsx5_6⟩,⟨zsx5_7⟩,⟨zsx5_4⟩,⟨zsx5_2⟩,⟨zsx5_5⟩⟩
         ·rw [if_neg c14] at H
          have c14b0:decide (x7_3 < x5_2)=false:=decide_eq_false c14;clear c14
          by_cases c21:x3_2.length < 5864062014805
          ·rw [if_pos c21] at H
           have LMc21:=aM5 c21;clear c21;obtain ⟨y397,hy397⟩:∃ y_:List (List Int),y_=(x3_2 ++ [x6_3]):=⟨_,rfl⟩
           replace H:(spec_l1Cur_arcs.l0 k3 y397 x4_5 (wrap64 (x5_2 + 1)) s0_0 x1001_3 x1002_3)=some (r1,r2,r3):=by first|(rw [hy397];with_reducible exact H)|(have H2_:=(Option.bind_some _ _).symm.trans H;rw [hy397];with_reducible exact H2_)|(have H2_:=(Option.bind_some _ _).symm.trans H;with_reducible exact H2_)|with_reducible exact H|(rw [hy397];exact H)|exact H
           have Ny397:=aM5 hy397;clear hy397;have H':=aM5 H;clear H;obtain ⟨Ao23,co23,eo23⟩:=Kd.R_slice HO_6.out;subst eo23
           go_wp2_with (first|((with_reducible refine gate_builtin (b:=.append) (xs:=#[.tmp 35,.tmp 37]) rfl ?_);at_builtin;refine Kd.S_append (Kd.slice 3 (Kd.int .i64)) w.heap.size rfl (.tmp 35) (.tmp 37) 22 33 (.slice none 0 0) 24 rfl Try.underlying22 info33 rfl (by decide) (by omega) u3 x3_2 x6_3 [.slice Ao23 x6_3.length co23] (fun k_=>(w.heap.size≤k_)∧k_≠g) (fun k_=>some k_=(.slice Ao23 x6_3.length co23:Value).ownBlock) rfl rfl ?aP (fun k_ hk_=>(Kd.R_mono (ok':=(fun k_=>((fun k_=>(w.heap.size≤k_)∧k_≠g)) k_∧some k_≠(u3:Value).ownBlock)) (IsS61.apart HI0.out (Kd.R_apart' (HO_6.out) (Kd.S_typed HO_3.out) (by decide)) (by decide)) (fun k_ hk=>⟨⟨hk.1.1,hk.2⟩,hk.1.2⟩)).1 k_ hk_.symm) ?aF ?aO (Below.refl _ _) ?aS ?aL ?_;(case aP=>exact Kd.M_row (Kd.R_mono (Kd.R_tight rfl (Kd.R_mono (ok':=(fun k_=>((fun k_=>(w.heap.size≤k_)∧k_≠g)) k_∧some k_≠(u3:Value).ownBlock)) (IsS61.apart HI0.out (Kd.R_apart' (HO_6.out) (Kd.S_typed HO_3.out) (by decide)) (by decide)) (fun k_ hk=>⟨⟨hk.1.1,hk.2⟩,hk.1.2⟩))) (fun _ h_=>h_)));(case aF=>exact (fun k_ hk=>⟨(Nat.le_trans (keep_size (w:=w) (g:=g) (row:=none) (zsx5_2)) hk),IsS61.fresh (zsx5_4) k_ hk⟩));(case aO=>exact (by (with_reducible repeat (first|apply Kd.S_alloc|apply Kd.S_drewN|apply Kd.S_drew));exact Kd.S_mono HO_3.out (fun k_ hk=>⟨⟨hk.1,hk.2.2⟩,fun e_=>hk.2.1 e_⟩)));(case aS=>exact (keep_size (w:=w) (g:=g) (row:=none) (zsx5_2)));(case aL=>have:=LMc21.out;omega);intro v398 w22 ho hb hg hat;rw [← Ny397.out] at ho;have n0_:=aM5 (IsS61.grown (zsx5_4) hg (IsS61.own_neN HI0.out (Kd.S_N HO_3.out) (by decide)));have n1_:=aM5 (below_weaken (zsx5_5) HL.out hb);have n2_:=aM5 (kT5 (zsx5_2) (KeepBut.of_grown hg g) (Kd.S_base2 HO_3.out));have n3_:=aM5 (ho);clear HI0 HB HK HO_3 HO_6;have HI0:=n0_;have HB:=n1_;have HK:=n2_;have HO399:=n3_;clear n0_ n1_ n2_ n3_ ho hb hg hat))
           go_roundg k3
           case measure=>have:=HJ5.out;have:=HK2.out;have:=HK3.out;omega
           case rel=>exact ⟨(y397),(wrap64 (x5_2 + 1)),(x1001_3),(x1002_3),(zsx5_3),H',⟨by have:=HJ5.out;have:=HK2.out;have:=HK3.out;omega⟩,⟨by (with_reducible repeat (first|apply Kd.S_alloc|apply Kd.S_drewN|apply Kd.S_drew));exact HO399.out⟩,⟨zsx5_4⟩,⟨zsx5_2⟩,⟨zsx5_5⟩⟩
          ·rw [if_neg c21] at H
           exact absurd H (by simp)
      ·rw [if_neg c13] at H
       have c13b0:decide (x5_2 < x4_5)=false:=decide_eq_false c13;clear c13;simp only [Option.some.injEq,Prod.mk.injEq] at H;obtain ⟨rfl,rfl,rfl⟩:=H
       go_wp2
       go_ret
       exact ⟨_,zsx5_8,by (with_reducible repeat (first|apply Kd.S_alloc|apply Kd.S_drewN|apply Kd.S_drew));exact Kd.S_mono HO_3.out (fun _ hk=>hk.1),zsx5_4,zsx5_5,zsx5_2⟩
 ·replace c3:=Bool.eq_false_iff.mpr c3
  subst c3;rw [if_neg (show ¬ (false=true) by decide)] at H;(try dsimp only at H);replace H:=bI5.mp H;obtain ⟨⟨t400,t401,t402,t403,t404⟩,A240,H⟩:=H;(try dsimp only at H);have A24:=aM5 A240;clear A240;replace H:=bI5.mp H;obtain ⟨⟨t406,t409,t412,t413⟩,A250,H⟩:=H;(try dsimp only at H);have A25:=aM5 A250;clear A250;replace H:=bI5.mp H;obtain ⟨t414,A260,H⟩:=H;(try dsimp only at H);have A26:=aM5 A260;clear A260;simp only [Option.some.injEq,Prod.mk.injEq] at H;obtain ⟨rfl,rfl,rfl⟩:=H;go_enter Try.func87,Try.ntmps87
  try go_wp2_with (first|((with_reducible refine gate_callee (f:=86) rfl ?_);refine goesL_ (some 10) rfl rfl Try.func86 (zsx5_0) rfl #[.pointer (some ⟨g,0,none⟩),.int .i64 3] rfl (zsx5_1) ?_;(with_reducible refine (spec_l1Cur_one.calls g s0_0 s0_1 s0_2 3 false t380 t381 w0 _ ?side1 ?side2 A2.out).mono ?_);(case side1=>exact zsx5_4);(case side2=>exact zsx5_5);rintro e w27 ⟨rfl,hi,hb,hk⟩;refine ⟨_,rfl,?_⟩;have n0_:=aM5 (kT5 (zsx5_2) hk (.inl rfl));have n1_:=aM5 (hb);have n2_:=aM5 (hi);clear HK HB HI0;have HK:=n0_;have HB:=n1_;have HI0:=n2_;clear n0_ n1_ n2_;(try clear hb);(try clear hb2);(try clear hk);(try clear hi))|((with_reducible refine gate_callee (f:=89) rfl ?_);refine goesL_ (some 41) rfl rfl Try.func89 (zsx5_0) rfl #[.pointer (some ⟨g,0,none⟩)] rfl (zsx5_1) ?_;(with_reducible refine (spec_l1Cur_grid.calls g s0_0 t380 t381 t400 t401 t402 t403 t404 w0 _ ?side1 ?side2 A24.out).mono ?_);(case side1=>exact zsx5_4);(case side2=>exact zsx5_5);rintro e w28 ⟨rfl,hi,hb,hk⟩;refine ⟨_,rfl,?_⟩;have n0_:=aM5 (kT5 (zsx5_2) hk (.inl rfl));have n1_:=aM5 (hb);have n2_:=aM5 (hi);clear HK HB HI0;have HK:=n0_;have HB:=n1_;have HI0:=n2_;clear n0_ n1_ n2_;(try clear hb);(try clear hb2);(try clear hk);(try clear hi))|((with_reducible refine gate_dst (N:=8) rfl ?_);refine box_event ?hg (N:=8) ?hd (cs:=#[.int .i64 0,.int .i64 0,.int .i64 0]) (t:=84) ?hr ?_;(case hd=>rfl);(case hg=>rfl);(case hr=>first|(go_simp;done)|(go_simp;rfl));intro gb405 hg w29 hbox hb;have n0_:=aM5 (IsS61.below (zsx5_4) hb);have n1_:=aM5 (kT5 (zsx5_2) (KeepBut.of_below hb g none) (.inl rfl));have n2_:=aM5 (below_step (zsx5_5) hb);have n3_:=aM5 (hbox);have n4_:=aM5 ((by rw [hg];exact (keep_size (w:=w) (g:=g) (row:=none) (zsx5_2)):w.heap.size≤gb405));have n5_:=aM5 ((Nat.le_trans HW0.out (by rw [hg];exact (keep_size (w:=w) (g:=g) (row:=none) (zsx5_2)):w.heap.size≤gb405):w0.heap.size≤gb405));have n6_:=aM5 ((by rw [hg];exact Nat.ne_of_lt (IsS61.lt (show IsS61 w0 _ g s0_0 t403 t404 from zsx5_4)):g≠gb405));have n7_:=aM5 ((by rw [hg];exact Nat.ne_of_gt (IsS61.lt (show IsS61 w0 _ g s0_0 t403 t404 from zsx5_4)):gb405≠g));clear HI0 HK HB;have HI0:=n0_;have HK:=n1_;have HB:=n2_;have BK405:=n3_;have GW405:=n4_;have GE405:=n5_;have NB0_405:=n6_;have NB405_0:=n7_;clear n0_ n1_ n2_ n3_ n4_ n5_ n6_ n7_ hb hbox hg;have hnb30:=NB405_0.out;have hnc30:=NB0_405.out;have hcz31_0:w29.cell? ⟨gb405,0,none⟩=some (.int .i64 0):=(blk_cell BK405.out 0).trans rfl;have hcz31_1:w29.cell? ⟨gb405,1,none⟩=some (.int .i64 0):=(blk_cell BK405.out 1).trans rfl;have hcz31_2:w29.cell? ⟨gb405,2,none⟩=some (.int .i64 0):=(blk_cell BK405.out 2).trans rfl;have hfz31_0:=blk_frozen BK405.out 0;have hfz31_1:=blk_frozen BK405.out 1;have hfz31_2:=blk_frozen BK405.out 2))
  have n0_:Aside0 ((((w29.setCell ⟨gb405,0,none⟩ (.int .i64 t400)).setCell ⟨gb405,1,none⟩ (.int .i64 t401)).setCell ⟨gb405,2,none⟩ (.int .i64 t402)).heap[gb405]?=some (.cells #[.int .i64 t400,.int .i64 t401,.int .i64 t402] 84 (0,0))):=⟨by (with_reducible repeat (first|refine blk_drewN ?_ _|refine blk_drew ?_|refine blk_alloc ?_ _));refine blk_put (cs:=#[.int .i64 t400,.int .i64 t401,.int .i64 0]) ?_ 2 _ rfl;(with_reducible repeat (first|refine blk_drewN ?_ _|refine blk_drew ?_|refine blk_alloc ?_ _));refine blk_put (cs:=#[.int .i64 t400,.int .i64 0,.int .i64 0]) ?_ 1 _ rfl;(with_reducible repeat (first|refine blk_drewN ?_ _|refine blk_drew ?_|refine blk_alloc ?_ _));refine blk_put (cs:=#[.int .i64 0,.int .i64 0,.int .i64 0]) ?_ 0 _ rfl;(with_reducible repeat (first|refine blk_drewN ?_ _|refine blk_drew ?_|refine blk_alloc ?_ _));exact BK405.out⟩;have n1_:Aside0 (IsS61 w0 (((w29.setCell ⟨gb405,0,none⟩ (.int .i64 t400)).setCell ⟨gb405,1,none⟩ (.int .i64 t401)).setCell ⟨gb405,2,none⟩ (.int .i64 t402)) g s0_0 t403 t404):=⟨zsx5_9⟩;have n2_:Aside0 (KeepBut w (((w29.setCell ⟨gb405,0,none⟩ (.int .i64 t400)).setCell ⟨gb405,1,none⟩ (.int .i64 t401)).setCell ⟨gb405,2,none⟩ (.int .i64 t402)) g none):=⟨zsx5_10⟩;have n3_:Aside0 (Below w0.heap.size w0 (((w29.setCell ⟨gb405,0,none⟩ (.int .i64 t400)).setCell ⟨gb405,1,none⟩ (.int .i64 t401)).setCell ⟨gb405,2,none⟩ (.int .i64 t402))):=⟨zsx5_11⟩;(try clear BK405);(try clear HI0);(try clear HK);(try clear HB);generalize (((w29.setCell ⟨gb405,0,none⟩ (.int .i64 t400)).setCell ⟨gb405,1,none⟩ (.int .i64 t401)).setCell ⟨gb405,2,none⟩ (.int .i64 t402))=w32 at n0_ n1_ n2_ n3_ ⊢;have BK405:=n0_;have HI0:=n1_;have HK:=n2_;have HB:=n3_;clear n0_ n1_ n2_ n3_;have n0_:=aM5 (blk_drew BK405.out);have n1_:=aM5 (IsS61.drew HI0.out);have n2_:=aM5 (keep_drew HK.out);have n3_:=aM5 (below_drew1 HB.out);clear BK405 HI0 HK HB;have BK405:=n0_;have HI0:=n1_;have HK:=n2_;have HB:=n3_;clear n0_ n1_ n2_ n3_;refine start_ (n:=6) (S:=fun w'=>w'.cell? ⟨gb405,0,none⟩=some (.int .i64 t400)∧w'.cell? ⟨gb405,1,none⟩=some (.int .i64 t401)∧w'.cell? ⟨gb405,2,none⟩=some (.int .i64 t402)) (ds:=[]) #[false,false,false,false,false,false] (zsx5_0) rfl rfl ⟨(blk_cell BK405.out 0).trans rfl,(blk_cell BK405.out 1).trans rfl,(blk_cell BK405.out 2).trans rfl⟩ (fun hHeld=>?_);generalize w32.drew=w33 at BK405 HI0 HK HB hHeld ⊢;refine pure_ (i:=1) (N:=some 43) (v:=?_) (a':=?_) #[false,true,false,false,false,false] rfl rfl (zsx5_0) (fun _ _ _ h=>h) (Or.inl ⟨by rfl,?_⟩) ?_ ?_;rotate_left
  ·intro w'
   go_simp
   with_reducible rfl
  rotate_left
  ·simp only [Act.put,uA5,uB5,uC5,i64_w,i32_w]
   rfl
  refine take_ (i:=0) (N:=some 42) (v:=?_) (a':=?_) #[true,true,false,false,false,false] rfl rfl (zsx5_0) (fun _ _ _ h=>h) (Or.inl ⟨by rfl,?_⟩) hHeld ?_ ?_;rotate_left
  ·rintro w' ⟨s0,s1,s2⟩
   go_simp
   with_reducible rfl
  rotate_left
  ·simp only [Act.put,uA5,uB5,uC5,i64_w,i32_w]
   rfl
  refine take_ (i:=2) (N:=some 44) (v:=?_) (a':=?_) #[true,true,true,false,false,false] rfl rfl (zsx5_0) (fun _ _ _ h=>h) (Or.inl ⟨by rfl,?_⟩) hHeld ?_ ?_;rotate_left
  ·rintro w' ⟨s0,s1,s2⟩
   go_simp
   with_reducible rfl
  rotate_left
  ·simp only [Act.put,uA5,uB5,uC5,i64_w,i32_w]
   rfl
  refine one_ (i:=3) (N:=some 45) #[true,true,true,true,false,false] rfl rfl (zsx5_0) (by decide) (fun K hK=>?_);refine goes_ Try.func91 (zsx5_0) rfl #[.pointer (some ⟨g,0,none⟩),.agg #[.int .i64 t400,.int .i64 t401,.int .i64 t402]] (by rfl) rfl rfl (zsx5_1) ?_
  with_reducible refine (spec_l1Cur_slopes.calls k g s0_0 t403 t404 t400 t401 t402 t406 t409 t412 t413 w0 _ ?side1 ?side2 A25.out).mono ?_
  (case side1=>exact zsx5_9)
  (case side2=>exact zsx5_11)
  rintro e w34 ⟨v407,v410,rfl,ho0,ho1,hi,hb,hk⟩;refine ⟨_,rfl,?_⟩;have n0_:=aM5 (KeepBut.blk hk (g':=gb405) (o:=.cells #[.int .i64 t400,.int .i64 t401,.int .i64 t402] 84 (0,0)) (zsx5_12) NB405_0.out (by simp));have n1_:=aM5 (Kd.R_lower (Kd.R_newM (M:=fun k_=>(w.heap.size≤k_)) (Kd.R_mono (ok':=fun k_=>True) ho0 (fun _ hk_=>trivial)) (keep_size (w:=w) (g:=g) (row:=none) (zsx5_10)) (fun k_ h_=>h_)) (keep_size (w:=w) (g:=g) (row:=none) (zsx5_10)));have n2_:=aM5 (Kd.N_lower (Kd.N_mono (ok':=fun k_=>(w.heap.size≤k_)∧some k_≠(v407:Value).ownBlock∧k_≠gb405∧k_≠g) ho1 (fun k_ hk_=>⟨(Nat.le_trans (keep_size (w:=w) (g:=g) (row:=none) (zsx5_10)) hk_.1),hk_.2,(Kd.freshB (g:=gb405) (o:=.cells #[.int .i64 t400,.int .i64 t401,.int .i64 t402] 84 (0,0)) (zsx5_12) k_ hk_.1),(IsS61.fresh (zsx5_9) k_ hk_.1)⟩)) (keep_size (w:=w) (g:=g) (row:=none) (zsx5_10)));have n3_:=aM5 (kT5 (zsx5_10) hk (.inl rfl));have n4_:=aM5 (hb);have n5_:=aM5 (hi);clear BK405 HK HB HI0;have BK405:=n0_;have HO408:=n1_;have HO411:=n2_;have HK:=n3_;have HB:=n4_;have HI0:=n5_;clear n0_ n1_ n2_ n3_ n4_ n5_;(try clear hb);(try clear hb2);(try clear hk);(try clear hi);(try clear ho0);(try clear ho1);obtain ⟨Ao35,co35,eo35⟩:=Kd.R_slice HO408.out
  (first|subst eo35|(injection eo35 with f1_ f2_ f3_;have f4_:=f1_.symm;have f5_:=f3_.symm;clear f1_ f2_ f3_;subst f4_;subst f5_))
  obtain ⟨Ao36,co36,eo36⟩:=Kd.N_slice HO411.out
  (first|subst eo36|(injection eo36 with f1_ f2_ f3_;have f4_:=f1_.symm;have f5_:=f3_.symm;clear f1_ f2_ f3_;subst f4_;subst f5_))
  refine hK.out _ _ ⟨(blk_cell BK405.out 0).trans rfl,(blk_cell BK405.out 1).trans rfl,(blk_cell BK405.out 2).trans rfl⟩ (fun hHeld=>?_);clear hK K;refine norm_ (a':=?_) ?_ ?_;rotate_left
  ·show Act.put _ (some 45) _=_
   simp only [Act.put,uA5,uB5,uC5,i64_w,i32_w]
   rfl
  refine one_ (i:=4) (N:=some 46) #[true,true,true,true,true,false] rfl rfl (zsx5_0) (by decide) (fun K hK=>?_);refine goes_ Try.func90 (zsx5_0) rfl #[.agg #[.int .i64 t400,.int .i64 t401,.int .i64 t402],.agg #[.slice Ao35 t406.length co35,.slice Ao36 t409.length co36]] (by rfl) rfl rfl (zsx5_1) ?_
  with_reducible refine (spec_slArcs.calls k t400 t401 t402 _ _ t406 _ _ t409 t414 _ ?side1 ?side2 ?side3 ?side4 A26.out).mono ?_
  (case side1=>repeat (first|exact (Kd.R_reads' HO408.out).2.2|(with_reducible refine Kd.C_alloc ?_ _)|(with_reducible refine Kd.C_drewN ?_ _)|(with_reducible refine Kd.C_drew ?_)))
  (case side2=>exact (Kd.R_reads' HO408.out).2.1)
  (case side3=>repeat (first|exact (Kd.N_reads' HO411.out).2.2|(with_reducible refine Kd.C_alloc ?_ _)|(with_reducible refine Kd.C_drewN ?_ _)|(with_reducible refine Kd.C_drew ?_)))
  (case side4=>exact (Kd.N_reads' HO411.out).2.1)
  rintro e w37 ⟨v415,rfl,ho0,hb⟩;refine ⟨_,rfl,?_⟩;have n0_:=aM5 (Kd.R_below (by (with_reducible repeat (first|apply Kd.R_alloc|apply Kd.R_drewN|apply Kd.R_drew));exact HO408.out) hb);have n1_:=aM5 (Kd.N_elder' (by (with_reducible repeat (first|apply Kd.N_alloc|apply Kd.N_drewN|apply Kd.N_drew));exact HO411.out) (Kd.N_base (Kd.S_N ho0)) hb);have n2_:=aM5 (Kd.S_lower (Kd.S_mono (ok':=fun k_=>(w.heap.size≤k_)∧some k_≠(.slice Ao35 t406.length co35:Value).ownBlock∧some k_≠(.slice Ao36 t409.length co36:Value).ownBlock∧k_≠gb405∧k_≠g) (Kd.S_bound ho0) (fun k_ hk_=>⟨(Nat.le_trans (keep_size (w:=w) (g:=g) (row:=none) (zsx5_10)) hk_.2.1),(Kd.fresh' (Kd.R_lt (by (with_reducible repeat (first|apply Kd.R_alloc|apply Kd.R_drewN|apply Kd.R_drew));exact HO408.out)) k_ hk_.2.1),(Kd.fresh' (Kd.N_lt (by (with_reducible repeat (first|apply Kd.N_alloc|apply Kd.N_drewN|apply Kd.N_drew));exact HO411.out)) k_ hk_.2.1),(Kd.freshB (g:=gb405) (o:=.cells #[.int .i64 t400,.int .i64 t401,.int .i64 t402] 84 (0,0)) (zsx5_12) k_ hk_.2.1),(IsS61.fresh (zsx5_9) k_ hk_.2.1)⟩)) (keep_size (w:=w) (g:=g) (row:=none) (zsx5_10)));have n3_:=aM5 (IsS61.below (zsx5_9) hb);have n4_:=aM5 (blk_below (g:=gb405) (o:=.cells #[.int .i64 t400,.int .i64 t401,.int .i64 t402] 84 (0,0)) (zsx5_12) hb);have n5_:=aM5 (kT5 (zsx5_10) (KeepBut.of_below hb g none) (.inl rfl));have n6_:=aM5 (below_step (zsx5_11) hb);clear HO408 HO411 HI0 BK405 HK HB;have HO408:=n0_;have HO411:=n1_;have HO416:=n2_;have HI0:=n3_;have BK405:=n4_;have HK:=n5_;have HB:=n6_;clear n0_ n1_ n2_ n3_ n4_ n5_ n6_;(try clear hb);(try clear hb2);(try clear hk);(try clear hi);(try clear ho0);refine hK.out _ _ ⟨(blk_cell BK405.out 0).trans rfl,(blk_cell BK405.out 1).trans rfl,(blk_cell BK405.out 2).trans rfl⟩ (fun hHeld=>?_);clear hK K;refine norm_ (a':=?_) ?_ ?_;rotate_left
  ·show Act.put _ (some 46) _=_
   simp only [Act.put,uA5,uB5,uC5,i64_w,i32_w]
   rfl
  refine pure_ (i:=5) (N:=some 2) (v:=?_) (a':=?_) #[true,true,true,true,true,true] rfl rfl (zsx5_0) (fun _ _ _ h=>h) (Or.inl ⟨by rfl,?_⟩) ?_ ?_;rotate_left
  ·intro w'
   go_simp
   with_reducible rfl
  rotate_left
  ·simp only [Act.put,uA5,uB5,uC5,i64_w,i32_w]
   rfl
  refine done_ (zsx5_0) ?_
  try go_wp2
  go_ret
  exact ⟨_,zsx5_8,by (with_reducible repeat (first|apply Kd.S_alloc|apply Kd.S_drewN|apply Kd.S_drew));exact Kd.S_mono HO416.out (fun _ hk=>hk.1),zsx5_9,zsx5_11,zsx5_10⟩
mutual
def spec_l1Cur_some.l0:Nat→Int→List Int→Int→List Int→Int→Int→Option (List Int × Int × Int)
 | 0,_,_,_,_,_,_=>none
 | k + 1,x1,x5,x6,x1000,x1001,x1002=>if x6 < x1 then ((spec_l1Cur_one.f x1000 x1001 x1002 3).bind fun bt435=>(if bt435.1=true then (if x5.length < 17592186044416 then (spec_l1Cur_some.l0 k x1 (x5 ++ [x6]) (wrap64 (x6 + 1)) x1000 bt435.2.1 bt435.2.2) else (none)) else (spec_l1Cur_some.l0 k x1 x5 (wrap64 (x6 + 1)) x1000 bt435.2.1 bt435.2.2))) else ((spec_l1Cur_pick.f x1000 x1001 x1002 24).bind fun bt441=>(if bt441.1=0 then ((spec_l1Cur_among.f x1000 bt441.2.1 bt441.2.2 (([(-1),x1,0]:List Int))).bind fun bt447=>(if x5.length < 17592186044416 then (some ((x5 ++ [bt447.1]),bt447.2.1,bt447.2.2)) else (none))) else (if bt441.1=1 then (spec_l1Cur_some.l1 k x1 ([]:List Int) 0 x1000 bt441.2.1 bt441.2.2) else (some (x5,bt441.2.1,bt441.2.2)))))
def spec_l1Cur_some.l1:Nat→Int→List Int→Int→List Int→Int→Int→Option (List Int × Int × Int)
 | 0,_,_,_,_,_,_=>none
 | k + 1,x1,x5,x7,x1000,x1001,x1002=>if x7 < x1 then (if x5.length < 17592186044416 then (spec_l1Cur_some.l1 k x1 (x5 ++ [x7]) (wrap64 (x7 + 1)) x1000 x1001 x1002) else (none)) else (some (x5,x1001,x1002))
end
def spec_l1Cur_some.f (k:Nat) (s0_0:List Int) (s0_1:Int) (s0_2:Int) (a1:Int):Option (List Int × Int × Int):=spec_l1Cur_some.l0 k a1 ([]:List Int) 0 s0_0 s0_1 s0_2
set_option maxHeartbeats 8000000 in
set_option maxRecDepth 100000 in
theorem spec_l1Cur_some.calls (k:Nat) (g:Nat) (s0_0:List Int) (s0_1:Int) (s0_2:Int) (a1:Int) (r1:List Int) (r2:Int) (r3:Int) (w0 w:World) (hI:IsS61 w0 w g s0_0 s0_1 s0_2) (hB:Below w0.heap.size w0 w) (h:spec_l1Cur_some.f k s0_0 s0_1 s0_2 a1=some (r1,r2,r3)) :
  Calls Try.prog 67 #[.pointer (some ⟨g,0,none⟩),.int .i64 a1] w fun e w'=>∃ v0_:Value,e=.returned (v0_)∧Kd.R (Kd.int .i64) 3 w' w.heap.size (fun _=>True) v0_ r1∧IsS61 w0 w' g s0_0 r2 r3∧Below w0.heap.size w0 w'∧KeepBut w w' g none:=by
 have HI0:=aM5 hI;have HK:=aM5 (KeepBut.refl w g none);have HL:=aM5 hB.size;clear hI;have HW0:=aM5 hB.size;have HB:=aM5 hB;clear hB;have H:(spec_l1Cur_some.l0 k a1 ([]:List Int) 0 s0_0 s0_1 s0_2)=some (r1,r2,r3):=h;clear h;have H':=aM5 H;clear H;go_enter Try.func67,Try.ntmps67
 go_wp2
 go_loopg [5,6] k (fun kq v5 v6 w'=>∃ (x5_1:List Int) (x6_1:Int) (x1001_1:Int) (x1002_1:Int),v6=.int .i64 x6_1∧Aside0 (spec_l1Cur_some.l0 kq a1 x5_1 x6_1 s0_0 x1001_1 x1002_1=some (r1,r2,r3))∧Aside0 (kq≤k)∧Aside0 (Kd.R (Kd.int .i64) 3 w' w.heap.size (fun _=>True) v5 x5_1)∧Aside0 (IsS61 w0 w' g s0_0 x1001_1 x1002_1)∧Aside0 (KeepBut w w' g none)∧Aside0 (Below w0.heap.size w0 w'))
 case atStart=>exact ⟨(([]:List Int)),(0),(s0_1),(s0_2),(zsx5_3),H',⟨Nat.le_refl _⟩,⟨zsx5_13⟩,⟨zsx5_4⟩,⟨zsx5_2⟩,⟨zsx5_5⟩⟩
 case round =>
  clear H';(try clear p2);obtain ⟨x5_1,x6_1,x1001_1,x1002_1,rfl,HA,HK1,HO_5,HI0,HK,HB⟩:=hrel
  cases gk with
  | zero=>exact absurd HA.out (by simp [spec_l1Cur_some.l0])
  | succ k1 =>
   have H:=HA.out;clear HA;simp only [spec_l1Cur_some.l0] at H
   by_cases c3:x6_1 < a1
   ·rw [if_pos c3] at H
    have c3b0:decide (x6_1 < a1)=true:=dT5 c3;clear c3;replace H:=bI5.mp H;obtain ⟨⟨t435,t436,t437⟩,A40,H⟩:=H;(try dsimp only at H);have A4:=aM5 A40;clear A40
    by_cases c5:t435=true
    ·subst c5
     rw [if_pos rfl] at H;(try dsimp only at H)
     by_cases c6:x5_1.length < 17592186044416
     ·rw [if_pos c6] at H
      have LMc6:=aM5 c6;clear c6;obtain ⟨y438,hy438⟩:∃ y_:List Int,y_=(x5_1 ++ [x6_1]):=⟨_,rfl⟩
      replace H:(spec_l1Cur_some.l0 k1 a1 y438 (wrap64 (x6_1 + 1)) s0_0 t436 t437)=some (r1,r2,r3):=by first|(rw [hy438];with_reducible exact H)|(have H2_:=(Option.bind_some _ _).symm.trans H;rw [hy438];with_reducible exact H2_)|(have H2_:=(Option.bind_some _ _).symm.trans H;with_reducible exact H2_)|with_reducible exact H|(rw [hy438];exact H)|exact H
      have Ny438:=aM5 hy438;clear hy438;have H':=aM5 H;clear H
      go_wp2_with (first|((with_reducible refine gate_callee (f:=86) rfl ?_);refine goesL_ (some 14) rfl rfl Try.func86 (zsx5_0) rfl #[.pointer (some ⟨g,0,none⟩),.int .i64 3] rfl (zsx5_1) ?_;(with_reducible refine (spec_l1Cur_one.calls g s0_0 x1001_1 x1002_1 3 true t436 t437 w0 _ ?side1 ?side2 A4.out).mono ?_);(case side1=>exact zsx5_4);(case side2=>exact zsx5_5);rintro e w7 ⟨rfl,hi,hb,hk⟩;refine ⟨_,rfl,?_⟩;have n0_:=aM5 (Kd.R_mono (Kd.R_keep (IsS61.apart (show IsS61 w0 _ g s0_0 x1001_1 x1002_1 from zsx5_4) (zsx5_14) (by decide)) hk (fun _ h=>h.2)) (fun _ h=>h.1));have n1_:=aM5 (kT5 (zsx5_2) hk (.inl rfl));have n2_:=aM5 (hb);have n3_:=aM5 (hi);clear HO_5 HK HB HI0;have HO_5:=n0_;have HK:=n1_;have HB:=n2_;have HI0:=n3_;clear n0_ n1_ n2_ n3_;(try clear hb);(try clear hb2);(try clear hk);(try clear hi))|((with_reducible refine gate_builtin (b:=.append) (xs:=#[.tmp 15,.tmp 17]) rfl ?_);at_builtin;refine Kd.R_append (Kd.int .i64) w.heap.size rfl (.tmp 15) (.tmp 17) 33 3 (.int .i64 0) 8 rfl Try.underlying33 info3 rfl (by decide) (by omega) u5 x5_1 x6_1 [.int .i64 x6_1] (fun _=>True) (fun _=>False) rfl rfl ?aP (fun _ hk=>hk.elim) ?aF ?aO (Below.refl _ _) ?aS ?aL ?_;(case aP=>exact rfl);(case aF=>exact (fun _ _=>trivial));(case aO=>exact (zsx5_14));(case aS=>exact (keep_size (w:=w) (g:=g) (row:=none) (zsx5_2)));(case aL=>have:=LMc6.out;omega);intro v439 w8 ho hb hg hat;rw [← Ny438.out] at ho;have n0_:=aM5 (IsS61.grown (zsx5_4) hg (IsS61.own_ne HI0.out HO_5.out (by decide)));have n1_:=aM5 (below_weaken (zsx5_5) HL.out hb);have n2_:=aM5 (kT5 (zsx5_2) (KeepBut.of_grown hg g) (Kd.R_base2 HO_5.out));have n3_:=aM5 (ho);clear HI0 HB HK HO_5;have HI0:=n0_;have HB:=n1_;have HK:=n2_;have HO440:=n3_;clear n0_ n1_ n2_ n3_ ho hb hg hat))
      go_roundg k1
      case measure=>have:=HK1.out;omega
      case rel=>exact ⟨(y438),(wrap64 (x6_1 + 1)),(t436),(t437),(zsx5_3),H',⟨zsx5_15⟩,⟨by (with_reducible repeat (first|apply Kd.R_alloc|apply Kd.R_drewN|apply Kd.R_drew));exact HO440.out⟩,⟨zsx5_4⟩,⟨zsx5_2⟩,⟨zsx5_5⟩⟩
     ·rw [if_neg c6] at H
      exact absurd H (by simp)
    ·replace c5:=Bool.eq_false_iff.mpr c5
     subst c5;rw [if_neg (show ¬ (false=true) by decide)] at H;(try dsimp only at H);have H':=aM5 H;clear H
     go_wp2_with (first|((with_reducible refine gate_callee (f:=86) rfl ?_);refine goesL_ (some 14) rfl rfl Try.func86 (zsx5_0) rfl #[.pointer (some ⟨g,0,none⟩),.int .i64 3] rfl (zsx5_1) ?_;(with_reducible refine (spec_l1Cur_one.calls g s0_0 x1001_1 x1002_1 3 false t436 t437 w0 _ ?side1 ?side2 A4.out).mono ?_);(case side1=>exact zsx5_4);(case side2=>exact zsx5_5);rintro e w9 ⟨rfl,hi,hb,hk⟩;refine ⟨_,rfl,?_⟩;have n0_:=aM5 (Kd.R_mono (Kd.R_keep (IsS61.apart (show IsS61 w0 _ g s0_0 x1001_1 x1002_1 from zsx5_4) (zsx5_14) (by decide)) hk (fun _ h=>h.2)) (fun _ h=>h.1));have n1_:=aM5 (kT5 (zsx5_2) hk (.inl rfl));have n2_:=aM5 (hb);have n3_:=aM5 (hi);clear HO_5 HK HB HI0;have HO_5:=n0_;have HK:=n1_;have HB:=n2_;have HI0:=n3_;clear n0_ n1_ n2_ n3_;(try clear hb);(try clear hb2);(try clear hk);(try clear hi)))
     go_roundg k1
     case measure=>have:=HK1.out;omega
     case rel=>exact ⟨(x5_1),(wrap64 (x6_1 + 1)),(t436),(t437),(zsx5_3),H',⟨zsx5_15⟩,⟨zsx5_14⟩,⟨zsx5_4⟩,⟨zsx5_2⟩,⟨zsx5_5⟩⟩
   ·rw [if_neg c3] at H
    have c3b0:decide (x6_1 < a1)=false:=decide_eq_false c3;clear c3;replace H:=bI5.mp H;obtain ⟨⟨t441,t442,t443⟩,A100,H⟩:=H;(try dsimp only at H);have A10:=aM5 A100;clear A100
    by_cases c11:t441=0
    ·rw [if_pos c11] at H
     have c11b0:(t441 == 0)=true:=beq_iff_eq.mpr c11;have c11b1:(t441 != 0)=false:=bne_eq_false_iff_eq.mpr c11;clear c11;obtain ⟨y444,hy444⟩:∃ y_:List Int,y_=(([(-1),a1,0]:List Int)):=⟨_,rfl⟩
     replace H:((spec_l1Cur_among.f s0_0 t442 t443 y444).bind fun bt447=>(if x5_1.length < 17592186044416 then (some ((x5_1 ++ [bt447.1]),bt447.2.1,bt447.2.2)) else (none)))=some (r1,r2,r3):=by first|(rw [hy444];with_reducible exact H)|(have H2_:=(Option.bind_some _ _).symm.trans H;rw [hy444];with_reducible exact H2_)|(have H2_:=(Option.bind_some _ _).symm.trans H;with_reducible exact H2_)|with_reducible exact H|(rw [hy444];exact H)|exact H
     have Ny444:=aM5 hy444;clear hy444;replace H:=bI5.mp H;obtain ⟨⟨t447,t448,t449⟩,A120,H⟩:=H;(try dsimp only at H);have A12:=aM5 A120;clear A120
     by_cases c13:x5_1.length < 17592186044416
     ·rw [if_pos c13] at H
      have LMc13:=aM5 c13;clear c13;obtain ⟨y450,hy450⟩:∃ y_:List Int,y_=(x5_1 ++ [t447]):=⟨_,rfl⟩
      replace H:(some (y450,t448,t449))=some (r1,r2,r3):=by first|(rw [hy450];with_reducible exact H)|(have H2_:=(Option.bind_some _ _).symm.trans H;rw [hy450];with_reducible exact H2_)|(have H2_:=(Option.bind_some _ _).symm.trans H;with_reducible exact H2_)|with_reducible exact H|(rw [hy450];exact H)|exact H
      have Ny450:=aM5 hy450;clear hy450;simp only [Option.some.injEq,Prod.mk.injEq] at H;obtain ⟨rfl,rfl,rfl⟩:=H
      go_wp2_with (first|((with_reducible refine gate_callee (f:=53) rfl ?_);refine goesL_ (some 20) rfl rfl Try.func53 (zsx5_0) rfl #[.pointer (some ⟨g,0,none⟩),.int .i64 24] rfl (zsx5_1) ?_;(with_reducible refine (spec_l1Cur_pick.calls g s0_0 x1001_1 x1002_1 24 t441 t442 t443 w0 _ ?side1 ?side2 A10.out).mono ?_);(case side1=>exact zsx5_4);(case side2=>exact zsx5_5);rintro e w14 ⟨rfl,hi,hb,hk⟩;refine ⟨_,rfl,?_⟩;have n0_:=aM5 (Kd.R_mono (Kd.R_keep (IsS61.apart (show IsS61 w0 _ g s0_0 x1001_1 x1002_1 from zsx5_4) (zsx5_14) (by decide)) hk (fun _ h=>h.2)) (fun _ h=>h.1));have n1_:=aM5 (kT5 (zsx5_2) hk (.inl rfl));have n2_:=aM5 (hb);have n3_:=aM5 (hi);clear HO_5 HK HB HI0;have HO_5:=n0_;have HK:=n1_;have HB:=n2_;have HI0:=n3_;clear n0_ n1_ n2_ n3_;(try clear hb);(try clear hb2);(try clear hk);(try clear hi))|((with_reducible refine gate_dst (N:=26) rfl ?_);refine Kd.R_lit (Kd.int .i64) _ 3 ?hg (N:=26) ?hd (xs:=([(-1),a1,0]:List Int)) (inner:=[.int .i64 (-1),.int .i64 a1,.int .i64 0]) (ok:=fun _=>True) (okp:=fun _=>True) ?hr ?hp (fun _ hk=>hk) trivial (Below.refl _ _) (Nat.le_refl _) (by simp) ?_;(case hd=>rfl);(case hg=>rfl);(case hr=>first|(go_simp;done)|(go_simp;rfl));(case hp=>exact (Reps.one (show Kd.M (Kd.int .i64) _ _ _ (-1) [.int .i64 (-1)] from rfl) (Reps.one (show Kd.M (Kd.int .i64) _ _ _ a1 [.int .i64 a1] from rfl) (Reps.one (show Kd.M (Kd.int .i64) _ _ _ 0 [.int .i64 0] from rfl) (Reps.none _ _)))));intro v445 w15 ho16 hb hg_ hnew_;clear hg_ hnew_;(first|rw [← Ny444.out] at ho16|(simp only [Int.reduceToNat] at ho16;rw [← Ny444.out] at ho16));have n0_:=aM5 (Kd.R_elder' (zsx5_14) (Kd.R_base ho16) hb);have n1_:=aM5 (Kd.R_lower (Kd.R_new' ho16 (Kd.R_lt (zsx5_14))) (keep_size (w:=w) (g:=g) (row:=none) (zsx5_2)));have n2_:=aM5 (IsS61.below (zsx5_4) hb);have n3_:=aM5 (kT5 (zsx5_2) (KeepBut.of_below hb g none) (.inl rfl));have n4_:=aM5 (below_step (zsx5_5) hb);clear HO_5 HI0 HK HB;have HO_5:=n0_;have HO446:=n1_;have HI0:=n2_;have HK:=n3_;have HB:=n4_;clear n0_ n1_ n2_ n3_ n4_ hb ho16;obtain ⟨Ao17,co17,eo17⟩:=Kd.R_slice HO446.out;subst eo17)|((with_reducible refine gate_callee (f:=66) rfl ?_);refine goesL_ (some 27) rfl rfl Try.func66 (zsx5_0) rfl #[.pointer (some ⟨g,0,none⟩),.slice Ao17 y444.length co17] rfl (zsx5_1) ?_;(with_reducible refine (spec_l1Cur_among.calls g s0_0 t442 t443 _ _ y444 t447 t448 t449 w0 _ ?side1 ?side2 ?side3 ?side4 ?side5 A12.out).mono ?_);(case side1=>exact zsx5_4);(case side2=>exact zsx5_5);(case side3=>repeat (first|exact (Kd.R_reads' HO446.out).2.2|(with_reducible refine Kd.C_alloc ?_ _)|(with_reducible refine Kd.C_drewN ?_ _)|(with_reducible refine Kd.C_drew ?_)));(case side4=>exact (Kd.R_reads' HO446.out).2.1);(case side5=>exact far_slice (IsS61.own_ne HI0.out HO446.out (by decide)));rintro e w18 ⟨rfl,hi,hb,hk⟩;refine ⟨_,rfl,?_⟩;have n0_:=aM5 (Kd.R_mono (Kd.R_keep (IsS61.apart (show IsS61 w0 _ g s0_0 t442 t443 from zsx5_4) (zsx5_14) (by decide)) hk (fun _ h=>h.2)) (fun _ h=>h.1));have n1_:=aM5 (Kd.R_mono (Kd.R_keep (IsS61.apart (show IsS61 w0 _ g s0_0 t442 t443 from zsx5_4) (zsx5_16) (by decide)) hk (fun _ h=>h.2)) (fun _ h=>h.1));have n2_:=aM5 (kT5 (zsx5_2) hk (.inl rfl));have n3_:=aM5 (hb);have n4_:=aM5 (hi);clear HO_5 HO446 HK HB HI0;have HO_5:=n0_;have HO446:=n1_;have HK:=n2_;have HB:=n3_;have HI0:=n4_;clear n0_ n1_ n2_ n3_ n4_;(try clear hb);(try clear hb2);(try clear hk);(try clear hi))|((with_reducible refine gate_builtin (b:=.append) (xs:=#[.tmp 23,.tmp 28]) rfl ?_);at_builtin;refine Kd.R_append (Kd.int .i64) w.heap.size rfl (.tmp 23) (.tmp 28) 33 3 (.int .i64 0) 8 rfl Try.underlying33 info3 rfl (by decide) (by omega) u5 x5_1 t447 [.int .i64 t447] (fun k_=>some k_≠(.slice Ao17 y444.length co17:Value).ownBlock) (fun _=>False) rfl rfl ?aP (fun _ hk=>hk.elim) ?aF ?aO (Below.refl _ _) ?aS ?aL ?_;(case aP=>exact rfl);(case aF=>exact (fun k_ hk=>Kd.fresh' (Kd.R_lt (zsx5_16)) k_ hk));(case aO=>exact (by (with_reducible repeat (first|apply Kd.R_alloc|apply Kd.R_drewN|apply Kd.R_drew));exact Kd.R_mono HO_5.out (fun _ hk=>hk.2)));(case aS=>exact (keep_size (w:=w) (g:=g) (row:=none) (zsx5_2)));(case aL=>have:=LMc13.out;omega);intro v451 w19 ho hb hg hat;rw [← Ny450.out] at ho;have n0_:=aM5 (IsS61.grown (zsx5_4) hg (IsS61.own_ne HI0.out HO_5.out (by decide)));have n1_:=aM5 (Kd.R_after (ok:=(fun _=>True)) (zsx5_16) hg hat);have n2_:=aM5 (below_weaken (zsx5_5) HL.out hb);have n3_:=aM5 (kT5 (zsx5_2) (KeepBut.of_grown hg g) (Kd.R_base2 HO_5.out));have n4_:=aM5 (ho);clear HI0 HO446 HB HK HO_5;have HI0:=n0_;have HO446:=n1_;have HB:=n2_;have HK:=n3_;have HO452:=n4_;clear n0_ n1_ n2_ n3_ n4_ ho hb hg hat))
      go_ret
      exact ⟨_,zsx5_8,by (with_reducible repeat (first|apply Kd.R_alloc|apply Kd.R_drewN|apply Kd.R_drew));exact Kd.R_mono HO452.out (fun _ hk=>trivial),zsx5_4,zsx5_5,zsx5_2⟩
     ·rw [if_neg c13] at H
      exact absurd H (by simp)
    ·rw [if_neg c11] at H
     have c11b0:(t441 == 0)=false:=beq_eq_false_iff_ne.mpr c11;have c11b1:(t441 != 0)=true:=bne_iff_ne.mpr c11
     by_cases c20:t441=1
     ·rw [if_pos c20] at H
      have c20b0:(t441 == 1)=true:=beq_iff_eq.mpr c20;have c20b1:(t441 != 1)=false:=bne_eq_false_iff_eq.mpr c20;clear c20;have H':=aM5 H;clear H
      go_wp2_with (first|((with_reducible refine gate_callee (f:=53) rfl ?_);refine goesL_ (some 20) rfl rfl Try.func53 (zsx5_0) rfl #[.pointer (some ⟨g,0,none⟩),.int .i64 24] rfl (zsx5_1) ?_;(with_reducible refine (spec_l1Cur_pick.calls g s0_0 x1001_1 x1002_1 24 t441 t442 t443 w0 _ ?side1 ?side2 A10.out).mono ?_);(case side1=>exact zsx5_4);(case side2=>exact zsx5_5);rintro e w21 ⟨rfl,hi,hb,hk⟩;refine ⟨_,rfl,?_⟩;have n0_:=aM5 (Kd.R_mono (Kd.R_keep (IsS61.apart (show IsS61 w0 _ g s0_0 x1001_1 x1002_1 from zsx5_4) (zsx5_14) (by decide)) hk (fun _ h=>h.2)) (fun _ h=>h.1));have n1_:=aM5 (kT5 (zsx5_2) hk (.inl rfl));have n2_:=aM5 (hb);have n3_:=aM5 (hi);clear HO_5 HK HB HI0;have HO_5:=n0_;have HK:=n1_;have HB:=n2_;have HI0:=n3_;clear n0_ n1_ n2_ n3_;(try clear hb);(try clear hb2);(try clear hk);(try clear hi)))
      go_loopg [5,7] k1 (fun kq v5 v7 w'=>∃ (x5_2:List Int) (x7_2:Int),v7=.int .i64 x7_2∧Aside0 (spec_l1Cur_some.l1 kq a1 x5_2 x7_2 s0_0 t442 t443=some (r1,r2,r3))∧Aside0 (kq≤k1)∧Aside0 (Kd.R (Kd.int .i64) 3 w' w.heap.size (fun _=>True) v5 x5_2)∧Aside0 (IsS61 w0 w' g s0_0 t442 t443)∧Aside0 (KeepBut w w' g none)∧Aside0 (Below w0.heap.size w0 w'))
      case atStart=>exact ⟨(([]:List Int)),(0),(zsx5_3),H',⟨Nat.le_refl _⟩,⟨zsx5_13⟩,⟨zsx5_4⟩,⟨zsx5_2⟩,⟨zsx5_5⟩⟩
      case round =>
       clear H';(try clear c1);(try clear c2);(try clear p2);(try clear c3);(try clear c3b0);(try clear c5);(try clear c6);(try clear p6);(try clear c8);(try clear c11);(try clear c11b0);(try clear c11b1);(try clear c13);(try clear c20);(try clear c20b0);(try clear c20b1);(try clear p2);obtain ⟨x5_2,x7_2,rfl,HA,HK2,HO_5,HI0,HK,HB⟩:=hrel
       cases gk with
       | zero=>exact absurd HA.out (by simp [spec_l1Cur_some.l1])
       | succ k2 =>
        have H:=HA.out;clear HA;simp only [spec_l1Cur_some.l1] at H
        by_cases c22:x7_2 < a1
        ·rw [if_pos c22] at H
         have c22b0:decide (x7_2 < a1)=true:=dT5 c22;clear c22
         by_cases c23:x5_2.length < 17592186044416
         ·rw [if_pos c23] at H
          have LMc23:=aM5 c23;clear c23;obtain ⟨y453,hy453⟩:∃ y_:List Int,y_=(x5_2 ++ [x7_2]):=⟨_,rfl⟩
          replace H:(spec_l1Cur_some.l1 k2 a1 y453 (wrap64 (x7_2 + 1)) s0_0 t442 t443)=some (r1,r2,r3):=by first|(rw [hy453];with_reducible exact H)|(have H2_:=(Option.bind_some _ _).symm.trans H;rw [hy453];with_reducible exact H2_)|(have H2_:=(Option.bind_some _ _).symm.trans H;with_reducible exact H2_)|with_reducible exact H|(rw [hy453];exact H)|exact H
          have Ny453:=aM5 hy453;clear hy453;have H':=aM5 H;clear H
          go_wp2_with (first|((with_reducible refine gate_builtin (b:=.append) (xs:=#[.tmp 37,.tmp 39]) rfl ?_);at_builtin;refine Kd.R_append (Kd.int .i64) w.heap.size rfl (.tmp 37) (.tmp 39) 33 3 (.int .i64 0) 8 rfl Try.underlying33 info3 rfl (by decide) (by omega) u5 x5_2 x7_2 [.int .i64 x7_2] (fun _=>True) (fun _=>False) rfl rfl ?aP (fun _ hk=>hk.elim) ?aF ?aO (Below.refl _ _) ?aS ?aL ?_;(case aP=>exact rfl);(case aF=>exact (fun _ _=>trivial));(case aO=>exact (zsx5_14));(case aS=>exact (keep_size (w:=w) (g:=g) (row:=none) (zsx5_2)));(case aL=>have:=LMc23.out;omega);intro v454 w24 ho hb hg hat;rw [← Ny453.out] at ho;have n0_:=aM5 (IsS61.grown (zsx5_4) hg (IsS61.own_ne HI0.out HO_5.out (by decide)));have n1_:=aM5 (below_weaken (zsx5_5) HL.out hb);have n2_:=aM5 (kT5 (zsx5_2) (KeepBut.of_grown hg g) (Kd.R_base2 HO_5.out));have n3_:=aM5 (ho);clear HI0 HB HK HO_5;have HI0:=n0_;have HB:=n1_;have HK:=n2_;have HO455:=n3_;clear n0_ n1_ n2_ n3_ ho hb hg hat))
          go_roundg k2
          case measure=>have:=HK1.out;have:=HK2.out;omega
          case rel=>exact ⟨(y453),(wrap64 (x7_2 + 1)),(zsx5_3),H',⟨by have:=HK1.out;have:=HK2.out;omega⟩,⟨by (with_reducible repeat (first|apply Kd.R_alloc|apply Kd.R_drewN|apply Kd.R_drew));exact HO455.out⟩,⟨zsx5_4⟩,⟨zsx5_2⟩,⟨zsx5_5⟩⟩
         ·rw [if_neg c23] at H
          exact absurd H (by simp)
        ·rw [if_neg c22] at H
         have c22b0:decide (x7_2 < a1)=false:=decide_eq_false c22;clear c22;simp only [Option.some.injEq,Prod.mk.injEq] at H;obtain ⟨rfl,rfl,rfl⟩:=H
         go_wp2
         go_ret
         exact ⟨_,zsx5_8,zsx5_14,zsx5_4,zsx5_5,zsx5_2⟩
     ·rw [if_neg c20] at H
      have c20b0:(t441 == 1)=false:=beq_eq_false_iff_ne.mpr c20;have c20b1:(t441 != 1)=true:=bne_iff_ne.mpr c20;simp only [Option.some.injEq,Prod.mk.injEq] at H;obtain ⟨rfl,rfl,rfl⟩:=H
      go_wp2_with (first|((with_reducible refine gate_callee (f:=53) rfl ?_);refine goesL_ (some 20) rfl rfl Try.func53 (zsx5_0) rfl #[.pointer (some ⟨g,0,none⟩),.int .i64 24] rfl (zsx5_1) ?_;(with_reducible refine (spec_l1Cur_pick.calls g s0_0 x1001_1 x1002_1 24 t441 t442 t443 w0 _ ?side1 ?side2 A10.out).mono ?_);(case side1=>exact zsx5_4);(case side2=>exact zsx5_5);rintro e w25 ⟨rfl,hi,hb,hk⟩;refine ⟨_,rfl,?_⟩;have n0_:=aM5 (Kd.R_mono (Kd.R_keep (IsS61.apart (show IsS61 w0 _ g s0_0 x1001_1 x1002_1 from zsx5_4) (zsx5_14) (by decide)) hk (fun _ h=>h.2)) (fun _ h=>h.1));have n1_:=aM5 (kT5 (zsx5_2) hk (.inl rfl));have n2_:=aM5 (hb);have n3_:=aM5 (hi);clear HO_5 HK HB HI0;have HO_5:=n0_;have HK:=n1_;have HB:=n2_;have HI0:=n3_;clear n0_ n1_ n2_ n3_;(try clear hb);(try clear hb2);(try clear hk);(try clear hi)))
      go_ret
      exact ⟨_,zsx5_8,zsx5_14,zsx5_4,zsx5_5,zsx5_2⟩
def spec_l1Rising.l0:Nat→List Int→Int→Int→List Int→Int→Int→Option (Bool)
 | 0,_,_,_,_,_,_=>none
 | k + 1,x0,x1,x2,x9,x10,x11=>if x11 < x10 then (if 0≤x11 then (if x11 < (x9.length:Int) then ((spec_l1In.f (rd x9 x11) x1 x2).bind fun t102=>(if t102=true then (if x11 > 0 then (if 0≤(wrap64 (x11 - 1)) then (if (wrap64 (x11 - 1)) < (x0.length:Int) then (if (rd x0 (wrap64 (x11 - 1))) ≥ (rd x9 x11) then (some false) else (spec_l1Rising.l0 k x0 x1 x2 x9 x10 (wrap64 (x11 + 1)))) else (none)) else (none)) else (spec_l1Rising.l0 k x0 x1 x2 x9 x10 (wrap64 (x11 + 1)))) else (some false))) else (none)) else (none)) else (some true)
def spec_l1Rising.f (k:Nat) (l0:List Int) (a1:Int) (a2:Int):Option (Bool):=spec_l1Rising.l0 k l0 a1 a2 l0 (l0.length:Int) 0
set_option maxHeartbeats 8000000 in
set_option maxRecDepth 100000 in
theorem spec_l1Rising.calls (k:Nat) (A0:Option Addr) (c0:Nat) (l0:List Int) (a1:Int) (a2:Int) (r:Bool) (w:World) (hr0:Kd.C (Kd.int .i64) w A0 l0.length l0) (hc0:l0.length≤c0) (h:spec_l1Rising.f k l0 a1 a2=some r) :
  Calls Try.prog 72 #[.slice A0 l0.length c0,.int .i64 a1,.int .i64 a2] w fun e w'=>e=.returned (.bool r)∧Drawn0 w w':=by
 have HR0:=aM5 hr0;have HC0:=aM5 hc0;clear hr0 hc0;have H:(spec_l1Rising.l0 k l0 a1 a2 l0 (l0.length:Int) 0)=some r:=h;clear h;have H':=aM5 H;clear H;go_enter Try.func72,Try.ntmps72
 go_wp2
 go_loopg [11] k (fun kq v11 w'=>∃ (x11_1:Int),v11=.int .i64 x11_1∧Aside0 (spec_l1Rising.l0 kq l0 a1 a2 l0 (l0.length:Int) x11_1=some r)∧Aside0 (kq≤k)∧Drawn0 w w')
 case atStart=>exact ⟨(0),(zsx5_3),H',⟨Nat.le_refl _⟩,zsx5_17⟩
 case round =>
  clear H';(try clear p2);obtain ⟨x11_1,rfl,HA,HK1,⟨m1,rfl⟩⟩:=hrel
  cases gk with
  | zero=>exact absurd HA.out (by simp [spec_l1Rising.l0])
  | succ k1 =>
   have H:=HA.out;clear HA;simp only [spec_l1Rising.l0] at H
   by_cases c4:x11_1 < (l0.length:Int)
   ·rw [if_pos c4] at H
    have c4b0:decide (x11_1 < (l0.length:Int))=true:=dT5 c4;clear c4
    by_cases c5:0≤x11_1
    ·rw [if_pos c5] at H
     have c5b0:decide (0≤x11_1)=true:=dT5 c5;clear c5
     by_cases c6:x11_1 < (l0.length:Int)
     ·rw [if_pos c6] at H
      have c6b0:decide (x11_1 < (l0.length:Int))=true:=dT5 c6;clear c6;replace H:=bI5.mp H;obtain ⟨t102,A70,H⟩:=H;(try dsimp only at H);have A7:=aM5 A70;clear A70
      by_cases c8:t102=true
      ·subst c8
       rw [if_pos rfl] at H;(try dsimp only at H)
       by_cases c9:x11_1 > 0
       ·rw [if_pos c9] at H
        have c9b0:decide (0 < x11_1)=true:=dT5 c9;clear c9;obtain ⟨ji10,hji10⟩:∃ j_:Int,(wrap64 (x11_1 - 1))=j_:=⟨_,rfl⟩
        replace H:(if 0≤(ji10) then (if (ji10) < (l0.length:Int) then (if (rd l0 (ji10)) ≥ (rd l0 x11_1) then (some false) else (spec_l1Rising.l0 k1 l0 a1 a2 l0 (l0.length:Int) (wrap64 (x11_1 + 1)))) else (none)) else (none))=some r:=by first|(rw [hji10] at H;exact H)|(simp only [hji10] at H ⊢;exact H)
        (try rw [hji10] at A7);have hji10w:(IntKind.i64.wrap (x11_1 - 1))=ji10:=(i64_w _).trans hji10
        by_cases c11:0≤(ji10)
        ·rw [if_pos c11] at H
         have c11b0:decide (0≤(ji10))=true:=dT5 c11;clear c11
         by_cases c12:(ji10) < (l0.length:Int)
         ·rw [if_pos c12] at H
          have c12b0:decide ((ji10) < (l0.length:Int))=true:=dT5 c12;clear c12
          by_cases c13:(rd l0 (ji10)) ≥ (rd l0 x11_1)
          ·rw [if_pos c13] at H
           have c13b0:decide ((rd l0 x11_1)≤(rd l0 (ji10)))=true:=dT5 c13;clear c13;obtain rfl:=Option.some.inj H;have p101:0≤(x11_1:Int):=oD5 (zsx5_18);have q101:x11_1 < (l0.length:Int):=oD5 (zsx5_18);obtain ⟨ad101,e101,hx101_0⟩:=Kd.at_int HR0.out x11_1 p101 q101
           cases e101
           replace p101:=eq_true p101;replace q101:=eq_true q101
           go_wp2_with (first|((with_reducible refine gate_callee (f:=70) rfl ?_);refine goesL_ (some 19) rfl rfl Try.func70 (zsx5_0) rfl #[.int .i64 (rd l0 x11_1),.int .i64 a1,.int .i64 a2] rfl (zsx5_1) ?_;(with_reducible refine (spec_l1In.calls (rd l0 x11_1) a1 a2 true _ A7.out).mono ?_);rintro e w' ⟨rfl,⟨nd,rfl⟩⟩;refine ⟨_,rfl,?_⟩;have p103:0≤((ji10):Int):=oD5 (zsx5_18);have q103:(ji10) < (l0.length:Int):=oD5 (zsx5_18);obtain ⟨ad103,e103,hx103_0⟩:=Kd.at_int HR0.out (ji10) p103 q103;obtain rfl:ad101=ad103:=(by injection e103);replace p103:=eq_true p103;replace q103:=eq_true q103))
           go_ret
           exact ⟨by first|rfl|(simp;done)|(simp only [← hji10] <;> (first|rfl|simp))|(simp [*];done),zsx5_17⟩
          ·rw [if_neg c13] at H
           have c13b0:decide ((rd l0 x11_1)≤(rd l0 (ji10)))=false:=decide_eq_false c13;clear c13;have H':=aM5 H;clear H;have p101:0≤(x11_1:Int):=oD5 (zsx5_18);have q101:x11_1 < (l0.length:Int):=oD5 (zsx5_18);obtain ⟨ad101,e101,hx101_0⟩:=Kd.at_int HR0.out x11_1 p101 q101
           cases e101
           replace p101:=eq_true p101;replace q101:=eq_true q101
           go_wp2_with (first|((with_reducible refine gate_callee (f:=70) rfl ?_);refine goesL_ (some 19) rfl rfl Try.func70 (zsx5_0) rfl #[.int .i64 (rd l0 x11_1),.int .i64 a1,.int .i64 a2] rfl (zsx5_1) ?_;(with_reducible refine (spec_l1In.calls (rd l0 x11_1) a1 a2 true _ A7.out).mono ?_);rintro e w' ⟨rfl,⟨nd,rfl⟩⟩;refine ⟨_,rfl,?_⟩;have p103:0≤((ji10):Int):=oD5 (zsx5_18);have q103:(ji10) < (l0.length:Int):=oD5 (zsx5_18);obtain ⟨ad103,e103,hx103_0⟩:=Kd.at_int HR0.out (ji10) p103 q103;obtain rfl:ad101=ad103:=(by injection e103);replace p103:=eq_true p103;replace q103:=eq_true q103))
           go_roundg k1
           case measure=>have:=HK1.out;omega
           case rel=>exact ⟨(wrap64 (x11_1 + 1)),(zsx5_3),H',⟨zsx5_15⟩,zsx5_17⟩
         ·rw [if_neg c12] at H
          exact absurd H (by simp)
        ·rw [if_neg c11] at H
         exact absurd H (by simp)
       ·rw [if_neg c9] at H
        have c9b0:decide (0 < x11_1)=false:=decide_eq_false c9;clear c9;have H':=aM5 H;clear H;have p101:0≤(x11_1:Int):=oD5 (zsx5_18);have q101:x11_1 < (l0.length:Int):=oD5 (zsx5_18);obtain ⟨ad101,e101,hx101_0⟩:=Kd.at_int HR0.out x11_1 p101 q101
        cases e101
        replace p101:=eq_true p101;replace q101:=eq_true q101
        go_wp2_with (first|((with_reducible refine gate_callee (f:=70) rfl ?_);refine goesL_ (some 19) rfl rfl Try.func70 (zsx5_0) rfl #[.int .i64 (rd l0 x11_1),.int .i64 a1,.int .i64 a2] rfl (zsx5_1) ?_;(with_reducible refine (spec_l1In.calls (rd l0 x11_1) a1 a2 true _ A7.out).mono ?_);rintro e w' ⟨rfl,⟨nd,rfl⟩⟩;refine ⟨_,rfl,?_⟩))
        go_roundg k1
        case measure=>have:=HK1.out;omega
        case rel=>exact ⟨(wrap64 (x11_1 + 1)),(zsx5_3),H',⟨zsx5_15⟩,zsx5_17⟩
      ·replace c8:=Bool.eq_false_iff.mpr c8
       subst c8;rw [if_neg (show ¬ (false=true) by decide)] at H;(try dsimp only at H);obtain rfl:=Option.some.inj H;have p101:0≤(x11_1:Int):=oD5 (zsx5_18);have q101:x11_1 < (l0.length:Int):=oD5 (zsx5_18);obtain ⟨ad101,e101,hx101_0⟩:=Kd.at_int HR0.out x11_1 p101 q101
       cases e101
       replace p101:=eq_true p101;replace q101:=eq_true q101
       go_wp2_with (first|((with_reducible refine gate_callee (f:=70) rfl ?_);refine goesL_ (some 19) rfl rfl Try.func70 (zsx5_0) rfl #[.int .i64 (rd l0 x11_1),.int .i64 a1,.int .i64 a2] rfl (zsx5_1) ?_;(with_reducible refine (spec_l1In.calls (rd l0 x11_1) a1 a2 false _ A7.out).mono ?_);rintro e w' ⟨rfl,⟨nd,rfl⟩⟩;refine ⟨_,rfl,?_⟩))
       go_ret
       exact ⟨zsx5_3,zsx5_17⟩
     ·rw [if_neg c6] at H
      exact absurd H (by simp)
    ·rw [if_neg c5] at H
     exact absurd H (by simp)
   ·rw [if_neg c4] at H
    have c4b0:decide (x11_1 < (l0.length:Int))=false:=decide_eq_false c4;clear c4;obtain rfl:=Option.some.inj H
    go_wp2
    go_ret
    exact ⟨zsx5_3,zsx5_17⟩
def spec_clArcs.l0:Nat→List (List Int)→List (List Int)→Int→Int→Option (Bool)
 | 0,_,_,_,_=>none
 | k + 1,x0,x5,x6,x7=>if x7 < x6 then (if 0≤x7 then (if x7 < (x5.length:Int) then ((spec_l1Rising.f k (rd_L1 x5 x7) 0 (wrap64 (x7 - 1))).bind fun t105=>(if t105=true then (spec_clArcs.l0 k x0 x5 x6 (wrap64 (x7 + 1))) else (some false))) else (none)) else (none)) else ((spec_l1In.f (x0.length:Int) 1 120).bind fun t106=>(some t106))
def spec_clArcs.f (k:Nat) (l0:List (List Int)):Option (Bool):=spec_clArcs.l0 k l0 l0 (l0.length:Int) 0
set_option maxHeartbeats 8000000 in
set_option maxRecDepth 100000 in
theorem spec_clArcs.calls (k:Nat) (A0:Option Addr) (c0:Nat) (l0:List (List Int)) (r:Bool) (w:World) (hr0:Kd.C (Kd.slice 3 (Kd.int .i64)) w A0 l0.length l0) (hc0:l0.length≤c0) (h:spec_clArcs.f k l0=some r) :
  Calls Try.prog 47 #[.slice A0 l0.length c0] w fun e w'=>e=.returned (.bool r)∧Drawn0 w w':=by
 have HR0:=aM5 hr0;have HC0:=aM5 hc0;clear hr0 hc0;have H:(spec_clArcs.l0 k l0 l0 (l0.length:Int) 0)=some r:=h;clear h;have H':=aM5 H;clear H;go_enter Try.func47,Try.ntmps47
 go_wp2
 go_loopg [7] k (fun kq v7 w'=>∃ (x7_1:Int),v7=.int .i64 x7_1∧Aside0 (spec_clArcs.l0 kq l0 l0 (l0.length:Int) x7_1=some r)∧Aside0 (kq≤k)∧Drawn0 w w')
 case atStart=>exact ⟨(0),(zsx5_3),H',⟨Nat.le_refl _⟩,zsx5_17⟩
 case round =>
  clear H';obtain ⟨x7_1,rfl,HA,HK1,⟨m1,rfl⟩⟩:=hrel
  cases gk with
  | zero=>exact absurd HA.out (by simp [spec_clArcs.l0])
  | succ k1 =>
   have H:=HA.out;clear HA;simp only [spec_clArcs.l0] at H
   by_cases c2:x7_1 < (l0.length:Int)
   ·rw [if_pos c2] at H
    have c2b0:decide (x7_1 < (l0.length:Int))=true:=dT5 c2;clear c2
    by_cases c3:0≤x7_1
    ·rw [if_pos c3] at H
     have c3b0:decide (0≤x7_1)=true:=dT5 c3;clear c3
     by_cases c4:x7_1 < (l0.length:Int)
     ·rw [if_pos c4] at H
      have c4b0:decide (x7_1 < (l0.length:Int))=true:=dT5 c4;clear c4;replace H:=bI5.mp H;obtain ⟨t105,A50,H⟩:=H;(try dsimp only at H);have A5:=aM5 A50;clear A50
      by_cases c6:t105=true
      ·subst c6
       rw [if_pos rfl] at H;(try dsimp only at H);have H':=aM5 H;clear H;have p104:0≤(x7_1:Int):=oD5 (zsx5_18);have q104:x7_1 < (l0.length:Int):=oD5 (zsx5_18);obtain ⟨ad104,A104_0,c104_0,e104,hx104_0,hl104_0,hi104_0⟩:=at_L1 HR0.out x7_1 p104 q104
       cases e104
       have HR104_0:=aM5 hi104_0;have HC104_0:=aM5 hl104_0;clear hi104_0 hl104_0;replace p104:=eq_true p104;replace q104:=eq_true q104
       go_wp2_with (first|((with_reducible refine gate_callee (f:=72) rfl ?_);refine goesL_ (some 15) rfl rfl Try.func72 (zsx5_0) rfl #[.slice A104_0 (rd_L1 l0 x7_1).length c104_0,.int .i64 0,.int .i64 (wrap64 (x7_1 - 1))] rfl (zsx5_1) ?_;(with_reducible refine (spec_l1Rising.calls k1 _ _ (rd_L1 l0 x7_1) 0 (wrap64 (x7_1 - 1)) true _ ?side1 ?side2 A5.out).mono ?_);(case side1=>exact zsx5_23);(case side2=>exact HC104_0.out);rintro e w' ⟨rfl,⟨nd,rfl⟩⟩;refine ⟨_,rfl,?_⟩))
       go_roundg k1
       case measure=>have:=HK1.out;omega
       case rel=>exact ⟨(wrap64 (x7_1 + 1)),(zsx5_3),H',⟨zsx5_15⟩,zsx5_17⟩
      ·replace c6:=Bool.eq_false_iff.mpr c6
       subst c6;rw [if_neg (show ¬ (false=true) by decide)] at H;(try dsimp only at H);obtain rfl:=Option.some.inj H;have p104:0≤(x7_1:Int):=oD5 (zsx5_18);have q104:x7_1 < (l0.length:Int):=oD5 (zsx5_18);obtain ⟨ad104,A104_0,c104_0,e104,hx104_0,hl104_0,hi104_0⟩:=at_L1 HR0.out x7_1 p104 q104
       cases e104
       have HR104_0:=aM5 hi104_0;have HC104_0:=aM5 hl104_0;clear hi104_0 hl104_0;replace p104:=eq_true p104;replace q104:=eq_true q104
       go_wp2_with (first|((with_reducible refine gate_callee (f:=72) rfl ?_);refine goesL_ (some 15) rfl rfl Try.func72 (zsx5_0) rfl #[.slice A104_0 (rd_L1 l0 x7_1).length c104_0,.int .i64 0,.int .i64 (wrap64 (x7_1 - 1))] rfl (zsx5_1) ?_;(with_reducible refine (spec_l1Rising.calls k1 _ _ (rd_L1 l0 x7_1) 0 (wrap64 (x7_1 - 1)) false _ ?side1 ?side2 A5.out).mono ?_);(case side1=>exact zsx5_23);(case side2=>exact HC104_0.out);rintro e w' ⟨rfl,⟨nd,rfl⟩⟩;refine ⟨_,rfl,?_⟩))
       go_ret
       exact ⟨zsx5_3,zsx5_17⟩
     ·rw [if_neg c4] at H
      exact absurd H (by simp)
    ·rw [if_neg c3] at H
     exact absurd H (by simp)
   ·rw [if_neg c2] at H
    have c2b0:decide (x7_1 < (l0.length:Int))=false:=decide_eq_false c2;clear c2;replace H:=bI5.mp H;obtain ⟨t106,A70,H⟩:=H;(try dsimp only at H);have A7:=aM5 A70;clear A70;obtain rfl:=Option.some.inj H
    go_wp2_with (first|((with_reducible refine gate_callee (f:=70) rfl ?_);refine goesL_ (some 20) rfl rfl Try.func70 (zsx5_0) rfl #[.int .i64 (l0.length:Int),.int .i64 1,.int .i64 120] rfl (zsx5_1) ?_;(with_reducible refine (spec_l1In.calls (l0.length:Int) 1 120 t106 _ A7.out).mono ?_);rintro e w' ⟨rfl,⟨nd,rfl⟩⟩;refine ⟨_,rfl,?_⟩))
    go_ret
    exact ⟨zsx5_3,zsx5_17⟩
def spec_clBlocks.f (k:Nat) (l0:List (List Int)) (l1:List Int):Option (Bool):=(spec_clArcs.f k l0).bind fun t456=>(if t456=true then ((spec_l1Rising.f k l1 0 (wrap64 ((l0.length:Int) - 1))).bind fun t457=>(some t457)) else (some false))
set_option maxHeartbeats 8000000 in
set_option maxRecDepth 100000 in
theorem spec_clBlocks.calls (k:Nat) (A0:Option Addr) (c0:Nat) (l0:List (List Int)) (A1:Option Addr) (c1:Nat) (l1:List Int) (r:Bool) (w:World) (hr0:Kd.C (Kd.slice 3 (Kd.int .i64)) w A0 l0.length l0) (hc0:l0.length≤c0) (hr1:Kd.C (Kd.int .i64) w A1 l1.length l1) (hc1:l1.length≤c1) (h:spec_clBlocks.f k l0 l1=some r) :
  Calls Try.prog 74 #[.slice A0 l0.length c0,.slice A1 l1.length c1] w fun e w'=>e=.returned (.bool r)∧Drawn0 w w':=by
 have HR0:=aM5 hr0;have HC0:=aM5 hc0;clear hr0 hc0;have HR1:=aM5 hr1;have HC1:=aM5 hc1;clear hr1 hc1;have H:((spec_clArcs.f k l0).bind fun t456=>(if t456=true then ((spec_l1Rising.f k l1 0 (wrap64 ((l0.length:Int) - 1))).bind fun t457=>(some t457)) else (some false)))=some r:=h;clear h;replace H:=bI5.mp H;obtain ⟨t456,A30,H⟩:=H;(try dsimp only at H);have A3:=aM5 A30;clear A30
 by_cases c4:t456=true
 ·subst c4
  rw [if_pos rfl] at H;(try dsimp only at H);replace H:=bI5.mp H;obtain ⟨t457,A50,H⟩:=H;(try dsimp only at H);have A5:=aM5 A50;clear A50;obtain rfl:=Option.some.inj H;go_enter Try.func74,Try.ntmps74
  go_wp2_with (first|((with_reducible refine gate_callee (f:=47) rfl ?_);refine goesL_ (some 6) rfl rfl Try.func47 (zsx5_0) rfl #[.slice A0 l0.length c0] rfl (zsx5_1) ?_;(with_reducible refine (spec_clArcs.calls k _ _ l0 true _ ?side1 ?side2 A3.out).mono ?_);(case side1=>exact zsx5_24);(case side2=>exact HC0.out);rintro e w' ⟨rfl,⟨nd,rfl⟩⟩;refine ⟨_,rfl,?_⟩)|(go_at_call 72;(with_reducible refine (spec_l1Rising.calls k _ _ l1 0 (wrap64 ((l0.length:Int) - 1)) t457 _ ?side1 ?side2 A5.out).mono ?_);(case side1=>exact zsx5_25);(case side2=>exact HC1.out);rintro e w' ⟨rfl,⟨nd,rfl⟩⟩))
  go_ret
  exact ⟨zsx5_3,zsx5_17⟩
 ·replace c4:=Bool.eq_false_iff.mpr c4
  subst c4;rw [if_neg (show ¬ (false=true) by decide)] at H;(try dsimp only at H);obtain rfl:=Option.some.inj H;go_enter Try.func74,Try.ntmps74
  go_wp2_with (first|((with_reducible refine gate_callee (f:=47) rfl ?_);refine goesL_ (some 6) rfl rfl Try.func47 (zsx5_0) rfl #[.slice A0 l0.length c0] rfl (zsx5_1) ?_;(with_reducible refine (spec_clArcs.calls k _ _ l0 false _ ?side1 ?side2 A3.out).mono ?_);(case side1=>exact zsx5_24);(case side2=>exact HC0.out);rintro e w' ⟨rfl,⟨nd,rfl⟩⟩;refine ⟨_,rfl,?_⟩))
  go_ret
  exact ⟨zsx5_3,zsx5_17⟩
def spec_clMarks.l0:Nat→List Bool→List Int→Int→Int→Option (List Bool)
 | 0,_,_,_,_=>none
 | k + 1,x5,x10,x11,x12=>if x12 < x11 then (if 0≤x12 then (if x12 < (x10.length:Int) then (if 0≤(rd x10 x12) then (if (rd x10 x12) < (x5.length:Int) then (spec_clMarks.l0 k (x5.set ((rd x10 x12):Int).toNat true) x10 x11 (wrap64 (x12 + 1))) else (none)) else (none)) else (none)) else (none)) else (some x5)
def spec_clMarks.f (k:Nat) (a0:Int) (l1:List Int):Option (List Bool):=if 0≤a0 then (if (a0:Int).toNat≤281474976710656 then (spec_clMarks.l0 k (List.replicate (a0:Int).toNat false) l1 (l1.length:Int) 0) else (none)) else (none)
set_option maxHeartbeats 8000000 in
set_option maxRecDepth 100000 in
theorem spec_clMarks.calls (k:Nat) (a0:Int) (A1:Option Addr) (c1:Nat) (l1:List Int) (r:List Bool) (w:World) (hr1:Kd.C (Kd.int .i64) w A1 l1.length l1) (hc1:l1.length≤c1) (h:spec_clMarks.f k a0 l1=some r) :
  Calls Try.prog 59 #[.int .i64 a0,.slice A1 l1.length c1] w fun e w'=>∃ v0_:Value,e=.returned (v0_)∧Kd.R Kd.bool 4 w' w.heap.size (fun _=>True) v0_ r∧Below w.heap.size w w':=by
 have HR1:=aM5 hr1;have HC1:=aM5 hc1;clear hr1 hc1;have HB:=aM5 (Below.refl w.heap.size w);have H:(if 0≤a0 then (if (a0:Int).toNat≤281474976710656 then (spec_clMarks.l0 k (List.replicate (a0:Int).toNat false) l1 (l1.length:Int) 0) else (none)) else (none))=some r:=h;clear h
 by_cases c3:0≤a0
 ·rw [if_pos c3] at H
  have c3b0:=eq_true c3;have c3b1:decide (0≤a0)=true:=dT5 c3;clear c3
  by_cases c4:(a0:Int).toNat≤281474976710656
  ·rw [if_pos c4] at H
   have c4b0:=eq_true c4;have c4b1:decide ((a0:Int).toNat≤281474976710656)=true:=dT5 c4;clear c4;obtain ⟨y458,hy458⟩:∃ y_:List Bool,y_=(List.replicate (a0:Int).toNat false):=⟨_,rfl⟩
   replace H:(spec_clMarks.l0 k y458 l1 (l1.length:Int) 0)=some r:=by first|(rw [hy458];with_reducible exact H)|(have H2_:=(Option.bind_some _ _).symm.trans H;rw [hy458];with_reducible exact H2_)|(have H2_:=(Option.bind_some _ _).symm.trans H;with_reducible exact H2_)|with_reducible exact H|(rw [hy458];exact H)|exact H
   have Ny458:=aM5 hy458;clear hy458;have H':=aM5 H;clear H;go_enter Try.func59,Try.ntmps59
   go_wp2_with (first|((with_reducible refine gate_dst (N:=9) rfl ?_);refine Kd.R_make Kd.bool _ 4 rfl (N:=9) rfl 55 _ _ rfl a0 rfl rfl Try.underlying55 (.bool false) 1 info4 rfl (by decide) (by omega) false (ok:=fun _=>True) (okp:=fun _=>True) rfl (fun _ hk=>hk) trivial (oD5 (zsx5_18)) (Nat.le_trans (Nat.mul_le_mul_right _ (oD5 (zsx5_18):a0.toNat≤281474976710656)) (by omega)) (Below.refl _ _) (Nat.le_refl _) ?_;intro v459 w5 ho6 hb hg_ hnew_;clear hg_ hnew_;(first|rw [← Ny458.out] at ho6|(simp only [Int.reduceToNat] at ho6;rw [← Ny458.out] at ho6));have n0_:=aM5 (Kd.R_lower ho6 (below_size (zsx5_19)));have n1_:=aM5 (below_step (zsx5_19) hb);clear HB;have HO460:=n0_;have HB:=n1_;clear n0_ n1_ hb ho6))
   go_loopg [12] k (fun kq v12 w'=>∃ (x5_1:List Bool) (x12_1:Int),v12=.int .i64 x12_1∧Aside0 (spec_clMarks.l0 kq x5_1 l1 (l1.length:Int) x12_1=some r)∧Aside0 (kq≤k)∧Aside0 (Kd.R Kd.bool 4 w' w.heap.size (fun _=>True) v459 x5_1)∧Aside0 (Below w.heap.size w w'))
   case atStart=>exact ⟨(y458),(0),(zsx5_3),H',⟨Nat.le_refl _⟩,⟨by (with_reducible repeat (first|apply Kd.R_alloc|apply Kd.R_drewN|apply Kd.R_drew));exact HO460.out⟩,⟨zsx5_19⟩⟩
   case round =>
    clear H';(try clear c1);(try clear p2);(try clear c3);(try clear c3b0);(try clear c3b1);(try clear c4);(try clear c4b0);(try clear c4b1);(try clear c5);obtain ⟨x5_1,x12_1,rfl,HA,HK1,HO_5,HB⟩:=hrel
    cases gk with
    | zero=>exact absurd HA.out (by simp [spec_clMarks.l0])
    | succ k1 =>
     have H:=HA.out;clear HA;simp only [spec_clMarks.l0] at H
     by_cases c7:x12_1 < (l1.length:Int)
     ·rw [if_pos c7] at H
      have c7b0:decide (x12_1 < (l1.length:Int))=true:=dT5 c7;clear c7
      by_cases c8:0≤x12_1
      ·rw [if_pos c8] at H
       have c8b0:decide (0≤x12_1)=true:=dT5 c8;clear c8
       by_cases c9:x12_1 < (l1.length:Int)
       ·rw [if_pos c9] at H
        have c9b0:decide (x12_1 < (l1.length:Int))=true:=dT5 c9;clear c9
        by_cases c10:0≤(rd l1 x12_1)
        ·rw [if_pos c10] at H
         have c10b0:decide (0≤(rd l1 x12_1))=true:=dT5 c10;clear c10
         by_cases c11:(rd l1 x12_1) < (x5_1.length:Int)
         ·rw [if_pos c11] at H
          have c11b0:decide ((rd l1 x12_1) < (x5_1.length:Int))=true:=dT5 c11;clear c11;obtain ⟨y462,hy462⟩:∃ y_:List Bool,y_=(x5_1.set ((rd l1 x12_1):Int).toNat true):=⟨_,rfl⟩
          replace H:(spec_clMarks.l0 k1 y462 l1 (l1.length:Int) (wrap64 (x12_1 + 1)))=some r:=by first|(rw [hy462];with_reducible exact H)|(have H2_:=(Option.bind_some _ _).symm.trans H;rw [hy462];with_reducible exact H2_)|(have H2_:=(Option.bind_some _ _).symm.trans H;with_reducible exact H2_)|with_reducible exact H|(rw [hy462];exact H)|exact H
          have Ny462:=aM5 hy462;clear hy462;have H':=aM5 H;clear H;have p461:0≤(x12_1:Int):=oD5 (zsx5_18);have q461:x12_1 < (l1.length:Int):=oD5 (zsx5_18);obtain ⟨ad461,e461,hx461_0⟩:=Kd.at_int HR1.out x12_1 p461 q461
          cases e461
          replace hx461_0:=(HB.out.cell (World.block_lt_of_cell? w _ hx461_0)).trans hx461_0;replace p461:=eq_true p461;replace q461:=eq_true q461;have p12:0≤((rd l1 x12_1):Int):=oD5 (zsx5_18);have q12:((rd l1 x12_1):Int) < ((x5_1.length:Int):Int):=oD5 (zsx5_18);obtain ⟨go12,co12,eo12,gb12,gl12,cl12,HG12⟩:=Kd.R_form HO_5.out (by omega)
          (first|cases eo12|(injection eo12 with ea_ en_ ec_;(first|subst ea_|(injection ea_ with ea_;subst ea_));subst ec_;clear en_))
          have GB12:=aM5 gb12;have GG12:=aM5 HG12;clear gb12 gl12 HG12;obtain ⟨hx12_0,hf12_0⟩:=Kd.R_celln false HO_5.out ((rd l1 x12_1):Int) p12 q12;replace p12:=eq_true p12;replace q12:=eq_true q12;have HP13:=Kd.R_putg HO_5.out ((rd l1 x12_1):Int) true
          go_wp2_with (first|((with_reducible refine gate_store (t:=4) (p:=18) rfl ?_);refine store_event (t:=4) (p:=18) (v:=?vo_w14) (w1:=(wr.setCell ⟨go12,((rd l1 x12_1):Int).toNat,none⟩ (.bool true))) ?hg ?ho ?hn ?hr ?_;(case ho=>rfl);(case hg=>rfl);(case hn=>rfl);(case hr=>first|(go_simp;done)|(go_simp;rfl));intro w14 hw;have hg:wr.grownBy w14 (some go12):=(by rw [hw];exact HP13.2);have hp_:Kd.R Kd.bool 4 w14 w.heap.size (fun _=>True) (.slice (some ⟨go12,0,none⟩) x5_1.length co12) y462:=(by rw [hw,Ny462.out];exact HP13.1);clear HP13;have n0_:=aM5 (hp_);have n1_:=aM5 ((by rw [hw];exact below_set (HB.out) GB12.out:Below w.heap.size w w14));clear HO_5 HB;have HO_5:=n0_;have HB:=n1_;clear n0_ n1_ hg hw hp_))
          go_roundg k1
          case measure=>have:=HK1.out;omega
          case rel=>exact ⟨(y462),(wrap64 (x12_1 + 1)),(zsx5_3),H',⟨zsx5_15⟩,⟨zsx5_14⟩,⟨zsx5_19⟩⟩
         ·rw [if_neg c11] at H
          exact absurd H (by simp)
        ·rw [if_neg c10] at H
         exact absurd H (by simp)
       ·rw [if_neg c9] at H
        exact absurd H (by simp)
      ·rw [if_neg c8] at H
       exact absurd H (by simp)
     ·rw [if_neg c7] at H
      have c7b0:decide (x12_1 < (l1.length:Int))=false:=decide_eq_false c7;clear c7;obtain rfl:=Option.some.inj H
      go_wp2
      go_ret
      exact ⟨_,zsx5_8,zsx5_14,zsx5_19⟩
  ·rw [if_neg c4] at H
   exact absurd H (by simp)
 ·rw [if_neg c3] at H
  exact absurd H (by simp)
def spec_clList.l0:Nat→List Int→List Bool→Int→Int→Option (List Int)
 | 0,_,_,_,_=>none
 | k + 1,x3,x6,x7,x8=>if x8 < x7 then (if 0≤x8 then (if x8 < (x6.length:Int) then (if rdOf false x6 x8=true then (if x3.length < 17592186044416 then (spec_clList.l0 k (x3 ++ [x8]) x6 x7 (wrap64 (x8 + 1))) else (none)) else (spec_clList.l0 k x3 x6 x7 (wrap64 (x8 + 1)))) else (none)) else (none)) else (some x3)
def spec_clList.f (k:Nat) (l0:List Bool):Option (List Int):=spec_clList.l0 k ([]:List Int) l0 (l0.length:Int) 0
set_option maxHeartbeats 8000000 in
set_option maxRecDepth 100000 in
theorem spec_clList.calls (k:Nat) (A0:Option Addr) (c0:Nat) (l0:List Bool) (r:List Int) (w:World) (hr0:Kd.C Kd.bool w A0 l0.length l0) (hc0:l0.length≤c0) (h:spec_clList.f k l0=some r) :
  Calls Try.prog 60 #[.slice A0 l0.length c0] w fun e w'=>∃ v0_:Value,e=.returned (v0_)∧Kd.R (Kd.int .i64) 3 w' w.heap.size (fun _=>True) v0_ r∧Below w.heap.size w w':=by
 have HR0:=aM5 hr0;have HC0:=aM5 hc0;clear hr0 hc0;have HB:=aM5 (Below.refl w.heap.size w);have H:(spec_clList.l0 k ([]:List Int) l0 (l0.length:Int) 0)=some r:=h;clear h;have H':=aM5 H;clear H;go_enter Try.func60,Try.ntmps60
 go_wp2
 go_loopg [3,8] k (fun kq v3 v8 w'=>∃ (x3_1:List Int) (x8_1:Int),v8=.int .i64 x8_1∧Aside0 (spec_clList.l0 kq x3_1 l0 (l0.length:Int) x8_1=some r)∧Aside0 (kq≤k)∧Aside0 (Kd.R (Kd.int .i64) 3 w' w.heap.size (fun _=>True) v3 x3_1)∧Aside0 (Below w.heap.size w w'))
 case atStart=>exact ⟨(([]:List Int)),(0),(zsx5_3),H',⟨Nat.le_refl _⟩,⟨zsx5_13⟩,⟨zsx5_19⟩⟩
 case round =>
  clear H';obtain ⟨x3_1,x8_1,rfl,HA,HK1,HO_3,HB⟩:=hrel
  cases gk with
  | zero=>exact absurd HA.out (by simp [spec_clList.l0])
  | succ k1 =>
   have H:=HA.out;clear HA;simp only [spec_clList.l0] at H
   by_cases c2:x8_1 < (l0.length:Int)
   ·rw [if_pos c2] at H
    have c2b0:decide (x8_1 < (l0.length:Int))=true:=dT5 c2;clear c2
    by_cases c3:0≤x8_1
    ·rw [if_pos c3] at H
     have c3b0:decide (0≤x8_1)=true:=dT5 c3;clear c3
     by_cases c4:x8_1 < (l0.length:Int)
     ·rw [if_pos c4] at H
      have c4b0:decide (x8_1 < (l0.length:Int))=true:=dT5 c4;clear c4;obtain ⟨bq5,hbq5⟩:∃ b_:Bool,b_=(rdOf false l0 x8_1):=⟨_,rfl⟩
      replace H:(if bq5=true then (if x3_1.length < 17592186044416 then (spec_clList.l0 k1 (x3_1 ++ [x8_1]) l0 (l0.length:Int) (wrap64 (x8_1 + 1))) else (none)) else (spec_clList.l0 k1 x3_1 l0 (l0.length:Int) (wrap64 (x8_1 + 1))))=some r:=by rw [← hbq5] at H;exact H
      have Nbq5:=aM5 hbq5;clear hbq5
      by_cases c6:bq5=true
      ·subst c6
       rw [if_pos rfl] at H;(try dsimp only at H)
       by_cases c7:x3_1.length < 17592186044416
       ·rw [if_pos c7] at H
        have LMc7:=aM5 c7;clear c7;obtain ⟨y464,hy464⟩:∃ y_:List Int,y_=(x3_1 ++ [x8_1]):=⟨_,rfl⟩
        replace H:(spec_clList.l0 k1 y464 l0 (l0.length:Int) (wrap64 (x8_1 + 1)))=some r:=by first|(rw [hy464];with_reducible exact H)|(have H2_:=(Option.bind_some _ _).symm.trans H;rw [hy464];with_reducible exact H2_)|(have H2_:=(Option.bind_some _ _).symm.trans H;with_reducible exact H2_)|with_reducible exact H|(rw [hy464];exact H)|exact H
        have Ny464:=aM5 hy464;clear hy464;have H':=aM5 H;clear H;have p463:0≤(x8_1:Int):=oD5 (zsx5_18);have q463:x8_1 < (l0.length:Int):=oD5 (zsx5_18);obtain ⟨ad463,e463,hx463_0⟩:=Kd.at_bool HR0.out x8_1 p463 q463;(try rw [← Nbq5.out] at hx463_0)
        cases e463
        replace hx463_0:=(HB.out.cell (World.block_lt_of_cell? w _ hx463_0)).trans hx463_0;replace p463:=eq_true p463;replace q463:=eq_true q463
        go_wp2_with (first|((with_reducible refine gate_builtin (b:=.append) (xs:=#[.tmp 14,.tmp 16]) rfl ?_);at_builtin;refine Kd.R_append (Kd.int .i64) (w0:=w) w.heap.size rfl (.tmp 14) (.tmp 16) 33 3 (.int .i64 0) 8 rfl Try.underlying33 info3 rfl (by decide) (by omega) u3 x3_1 x8_1 [.int .i64 x8_1] (fun _=>True) (fun _=>False) rfl rfl ?aP (fun _ hk=>hk.elim) ?aF ?aO ?aB ?aS ?aL ?_;(case aP=>exact rfl);(case aB=>exact (zsx5_19));(case aF=>exact (fun _ _=>trivial));(case aO=>exact (zsx5_20));(case aS=>exact (below_size (zsx5_19)));(case aL=>have:=LMc7.out;omega);intro v465 w8 ho hb hg hat;rw [← Ny464.out] at ho;have n0_:=aM5 (hb);have n1_:=aM5 (ho);clear HB HO_3;have HB:=n0_;have HO466:=n1_;clear n0_ n1_ ho hb hg hat))
        go_roundg k1
        case measure=>have:=HK1.out;omega
        case rel=>exact ⟨(y464),(wrap64 (x8_1 + 1)),(zsx5_3),H',⟨zsx5_15⟩,⟨by (with_reducible repeat (first|apply Kd.R_alloc|apply Kd.R_drewN|apply Kd.R_drew));exact HO466.out⟩,⟨zsx5_19⟩⟩
       ·rw [if_neg c7] at H
        exact absurd H (by simp)
      ·replace c6:=Bool.eq_false_iff.mpr c6
       subst c6;rw [if_neg (show ¬ (false=true) by decide)] at H;(try dsimp only at H);have H':=aM5 H;clear H;have p463:0≤(x8_1:Int):=oD5 (zsx5_18);have q463:x8_1 < (l0.length:Int):=oD5 (zsx5_18);obtain ⟨ad463,e463,hx463_0⟩:=Kd.at_bool HR0.out x8_1 p463 q463;(try rw [← Nbq5.out] at hx463_0)
       cases e463
       replace hx463_0:=(HB.out.cell (World.block_lt_of_cell? w _ hx463_0)).trans hx463_0;replace p463:=eq_true p463;replace q463:=eq_true q463
       go_wp2
       go_roundg k1
       case measure=>have:=HK1.out;omega
       case rel=>exact ⟨(x3_1),(wrap64 (x8_1 + 1)),(zsx5_3),H',⟨zsx5_15⟩,⟨zsx5_20⟩,⟨zsx5_19⟩⟩
     ·rw [if_neg c4] at H
      exact absurd H (by simp)
    ·rw [if_neg c3] at H
     exact absurd H (by simp)
   ·rw [if_neg c2] at H
    have c2b0:decide (x8_1 < (l0.length:Int))=false:=decide_eq_false c2;clear c2;obtain rfl:=Option.some.inj H
    go_wp2
    go_ret
    exact ⟨_,zsx5_8,zsx5_20,zsx5_19⟩
mutual
def spec_clLeast.l0:Nat→List (List Int)→List Bool→Int→Option (List Int)
 | 0,_,_,_=>none
 | k + 1,x0,x5,x6=>if x6 ≥ 0 then (if 0≤x6 then (if x6 < (x5.length:Int) then (if rdOf false x5 x6=true then (if x6 < (x0.length:Int) then (spec_clLeast.l1 k x0 x5 x6 (rd_L1 x0 x6) ((rd_L1 x0 x6).length:Int) 0) else (none)) else (spec_clLeast.l0 k x0 x5 (wrap64 (x6 - 1)))) else (none)) else (none)) else ((spec_clList.f k x5).bind fun t470=>(some t470))
def spec_clLeast.l1:Nat→List (List Int)→List Bool→Int→List Int→Int→Int→Option (List Int)
 | 0,_,_,_,_,_,_=>none
 | k + 1,x0,x5,x6,x27,x28,x29=>if x29 < x28 then (if 0≤x29 then (if x29 < (x27.length:Int) then (if 0≤(rd x27 x29) then (if (rd x27 x29) < (x5.length:Int) then (spec_clLeast.l1 k x0 (x5.set ((rd x27 x29):Int).toNat true) x6 x27 x28 (wrap64 (x29 + 1))) else (none)) else (none)) else (none)) else (none)) else (spec_clLeast.l0 k x0 x5 (wrap64 (x6 - 1)))
end
def spec_clLeast.f (k:Nat) (l0:List (List Int)) (l1:List Int):Option (List Int):=(spec_clMarks.f k (l0.length:Int) l1).bind fun t467=>(spec_clLeast.l0 k l0 t467 (wrap64 ((l0.length:Int) - 1)))
set_option maxHeartbeats 8000000 in
set_option maxRecDepth 100000 in
theorem spec_clLeast.calls (k:Nat) (A0:Option Addr) (c0:Nat) (l0:List (List Int)) (A1:Option Addr) (c1:Nat) (l1:List Int) (r:List Int) (w:World) (hr0:Kd.C (Kd.slice 3 (Kd.int .i64)) w A0 l0.length l0) (hc0:l0.length≤c0) (hr1:Kd.C (Kd.int .i64) w A1 l1.length l1) (hc1:l1.length≤c1) (h:spec_clLeast.f k l0 l1=some r) :
  Calls Try.prog 75 #[.slice A0 l0.length c0,.slice A1 l1.length c1] w fun e w'=>∃ v0_:Value,e=.returned (v0_)∧Kd.R (Kd.int .i64) 3 w' w.heap.size (fun _=>True) v0_ r∧Below w.heap.size w w':=by
 have HR0:=aM5 hr0;have HC0:=aM5 hc0;clear hr0 hc0;have HR1:=aM5 hr1;have HC1:=aM5 hc1;clear hr1 hc1;have HB:=aM5 (Below.refl w.heap.size w);have H:((spec_clMarks.f k (l0.length:Int) l1).bind fun t467=>(spec_clLeast.l0 k l0 t467 (wrap64 ((l0.length:Int) - 1))))=some r:=h;clear h;replace H:=bI5.mp H;obtain ⟨t467,A30,H⟩:=H;(try dsimp only at H);have A3:=aM5 A30;clear A30;have H':=aM5 H;clear H;go_enter Try.func75,Try.ntmps75
 go_wp2_with (first|((with_reducible refine gate_callee (f:=59) rfl ?_);refine goesL_ (some 12) rfl rfl Try.func59 (zsx5_0) rfl #[.int .i64 (l0.length:Int),.slice A1 l1.length c1] rfl (zsx5_1) ?_;(with_reducible refine (spec_clMarks.calls k (l0.length:Int) _ _ l1 t467 _ ?side1 ?side2 A3.out).mono ?_);(case side1=>exact zsx5_25);(case side2=>exact HC1.out);rintro e w4 ⟨v468,rfl,ho0,hb⟩;refine ⟨_,rfl,?_⟩;have n0_:=aM5 (Kd.R_lower ho0 (below_size (zsx5_19)));have n1_:=aM5 (below_step (zsx5_19) hb);clear HB;have HO469:=n0_;have HB:=n1_;clear n0_ n1_;(try clear hb);(try clear hb2);(try clear hk);(try clear hi);(try clear ho0)))
 go_loopg [6] k (fun kq v6 w'=>∃ (x5_1:List Bool) (x6_1:Int),v6=.int .i64 x6_1∧Aside0 (spec_clLeast.l0 kq l0 x5_1 x6_1=some r)∧Aside0 (kq≤k)∧Aside0 (Kd.R Kd.bool 4 w' w.heap.size (fun _=>True) v468 x5_1)∧Aside0 (Below w.heap.size w w'))
 case atStart=>exact ⟨(t467),(wrap64 ((l0.length:Int) - 1)),(zsx5_3),H',⟨Nat.le_refl _⟩,⟨by (with_reducible repeat (first|apply Kd.R_alloc|apply Kd.R_drewN|apply Kd.R_drew));exact HO469.out⟩,⟨zsx5_19⟩⟩
 case round =>
  clear H';(try clear c1);(try clear p2);obtain ⟨x5_1,x6_1,rfl,HA,HK1,HO_5,HB⟩:=hrel
  cases gk with
  | zero=>exact absurd HA.out (by simp [spec_clLeast.l0])
  | succ k1 =>
   have H:=HA.out;clear HA;simp only [spec_clLeast.l0] at H
   by_cases c5:x6_1 ≥ 0
   ·rw [if_pos c5] at H
    have c5b0:decide (0≤x6_1)=true:=dT5 c5;clear c5
    by_cases c6:0≤x6_1
    ·rw [if_pos c6] at H
     have c6b0:decide (0≤x6_1)=true:=dT5 c6;clear c6
     by_cases c7:x6_1 < (x5_1.length:Int)
     ·rw [if_pos c7] at H
      have c7b0:decide (x6_1 < (x5_1.length:Int))=true:=dT5 c7;clear c7;obtain ⟨bq8,hbq8⟩:∃ b_:Bool,b_=(rdOf false x5_1 x6_1):=⟨_,rfl⟩
      replace H:(if bq8=true then (if x6_1 < (l0.length:Int) then (spec_clLeast.l1 k1 l0 x5_1 x6_1 (rd_L1 l0 x6_1) ((rd_L1 l0 x6_1).length:Int) 0) else (none)) else (spec_clLeast.l0 k1 l0 x5_1 (wrap64 (x6_1 - 1))))=some r:=by rw [← hbq8] at H;exact H
      have Nbq8:=aM5 hbq8;clear hbq8
      by_cases c9:bq8=true
      ·subst c9
       rw [if_pos rfl] at H;(try dsimp only at H)
       by_cases c10:x6_1 < (l0.length:Int)
       ·rw [if_pos c10] at H
        have c10b0:decide (x6_1 < (l0.length:Int))=true:=dT5 c10;clear c10;have H':=aM5 H;clear H;obtain ⟨Ao11,co11,eo11⟩:=Kd.R_slice HO_5.out;subst eo11;have p473:0≤(x6_1:Int):=oD5 (zsx5_18);have q473:x6_1 < (x5_1.length:Int):=oD5 (zsx5_18);obtain ⟨ad473,e473,hx473_0⟩:=Kd.at_bool (Kd.R_reads' HO_5.out).2.2 x6_1 p473 q473;(try rw [← Nbq8.out] at hx473_0)
        cases e473
        replace p473:=eq_true p473;replace q473:=eq_true q473;have p474:0≤(x6_1:Int):=oD5 (zsx5_18);have q474:x6_1 < (l0.length:Int):=oD5 (zsx5_18);obtain ⟨ad474,A474_0,c474_0,e474,hx474_0,hl474_0,hi474_0⟩:=at_L1 HR0.out x6_1 p474 q474
        cases e474
        replace hx474_0:=(HB.out.cell (World.block_lt_of_cell? w _ hx474_0)).trans hx474_0;have HR474_0:=aM5 hi474_0;have HC474_0:=aM5 hl474_0;clear hi474_0 hl474_0;replace p474:=eq_true p474;replace q474:=eq_true q474
        go_wp2
        go_loopg [29] k1 (fun kq v29 w'=>∃ (x5_2:List Bool) (x29_2:Int),v29=.int .i64 x29_2∧Aside0 (spec_clLeast.l1 kq l0 x5_2 x6_1 (rd_L1 l0 x6_1) ((rd_L1 l0 x6_1).length:Int) x29_2=some r)∧Aside0 (kq≤k1)∧Aside0 (Kd.R Kd.bool 4 w' w.heap.size (fun _=>True) (.slice (some ad473) x5_1.length co11) x5_2)∧Aside0 (Below w.heap.size w w'))
        case atStart=>exact ⟨(x5_1),(0),(zsx5_3),H',⟨Nat.le_refl _⟩,⟨zsx5_14⟩,⟨zsx5_19⟩⟩
        case round =>
         clear H';(try clear c1);(try clear p2);(try clear c4);(try clear p4);(try clear q4);(try clear hx4);(try clear c5);(try clear c5b0);(try clear c6);(try clear c6b0);(try clear p6);(try clear c7);(try clear c7b0);(try clear q8);(try clear c9);(try clear c10);(try clear c10b0);(try clear hx473_0);(try clear hx474_0);(try clear p2);(try clear p473);(try clear p474);(try clear q473);(try clear q474);obtain ⟨x5_2,x29_2,rfl,HA,HK2,HO_5,HB⟩:=hrel;have hl5_2:=(Kd.R_reads' HO_5.out).1;rw [hl5_2] at HO_5;(try simp only [hl5_2])
         cases gk with
         | zero=>exact absurd HA.out (by simp [spec_clLeast.l1])
         | succ k2 =>
          have H:=HA.out;clear HA;simp only [spec_clLeast.l1] at H
          by_cases c12:x29_2 < ((rd_L1 l0 x6_1).length:Int)
          ·rw [if_pos c12] at H
           have c12b0:decide (x29_2 < ((rd_L1 l0 x6_1).length:Int))=true:=dT5 c12;clear c12
           by_cases c13:0≤x29_2
           ·rw [if_pos c13] at H
            have c13b0:decide (0≤x29_2)=true:=dT5 c13;clear c13
            by_cases c14:x29_2 < ((rd_L1 l0 x6_1).length:Int)
            ·rw [if_pos c14] at H
             have c14b0:decide (x29_2 < ((rd_L1 l0 x6_1).length:Int))=true:=dT5 c14;clear c14
             by_cases c15:0≤(rd (rd_L1 l0 x6_1) x29_2)
             ·rw [if_pos c15] at H
              have c15b0:decide (0≤(rd (rd_L1 l0 x6_1) x29_2))=true:=dT5 c15;clear c15
              by_cases c16:(rd (rd_L1 l0 x6_1) x29_2) < (x5_2.length:Int)
              ·rw [if_pos c16] at H
               have c16b0:decide ((rd (rd_L1 l0 x6_1) x29_2) < (x5_2.length:Int))=true:=dT5 c16;clear c16;obtain ⟨y476,hy476⟩:∃ y_:List Bool,y_=(x5_2.set ((rd (rd_L1 l0 x6_1) x29_2):Int).toNat true):=⟨_,rfl⟩
               replace H:(spec_clLeast.l1 k2 l0 y476 x6_1 (rd_L1 l0 x6_1) ((rd_L1 l0 x6_1).length:Int) (wrap64 (x29_2 + 1)))=some r:=by first|(rw [hy476];with_reducible exact H)|(have H2_:=(Option.bind_some _ _).symm.trans H;rw [hy476];with_reducible exact H2_)|(have H2_:=(Option.bind_some _ _).symm.trans H;with_reducible exact H2_)|with_reducible exact H|(rw [hy476];exact H)|exact H
               have Ny476:=aM5 hy476;clear hy476;have H':=aM5 H;clear H;have p475:0≤(x29_2:Int):=oD5 (zsx5_18);have q475:x29_2 < ((rd_L1 l0 x6_1).length:Int):=oD5 (zsx5_18);obtain ⟨ad475,e475,hx475_0⟩:=Kd.at_int HR474_0.out x29_2 p475 q475
               cases e475
               replace hx475_0:=(HB.out.cell (World.block_lt_of_cell? w _ hx475_0)).trans hx475_0;replace p475:=eq_true p475;replace q475:=eq_true q475;have p17:0≤((rd (rd_L1 l0 x6_1) x29_2):Int):=oD5 (zsx5_18);have q17:((rd (rd_L1 l0 x6_1) x29_2):Int) < ((x5_2.length:Int):Int):=oD5 (zsx5_18);obtain ⟨go17,co17,eo17,gb17,gl17,cl17,HG17⟩:=Kd.R_form HO_5.out (by omega)
               (first|cases eo17|(injection eo17 with ea_ en_ ec_;(first|subst ea_|(injection ea_ with ea_;subst ea_));subst ec_;clear en_))
               have GB17:=aM5 gb17;have GG17:=aM5 HG17;clear gb17 gl17 HG17
               (first|simp only [add_plain] at hx473_0|skip)
               obtain ⟨hx17_0,hf17_0⟩:=Kd.R_celln false HO_5.out ((rd (rd_L1 l0 x6_1) x29_2):Int) p17 q17;replace p17:=eq_true p17;replace q17:=eq_true q17;have HP18:=Kd.R_putg HO_5.out ((rd (rd_L1 l0 x6_1) x29_2):Int) true
               go_wp2_with (first|((with_reducible refine gate_store (t:=4) (p:=35) rfl ?_);refine store_event (t:=4) (p:=35) (v:=?vo_w19) (w1:=(wr.setCell ⟨go17,((rd (rd_L1 l0 x6_1) x29_2):Int).toNat,none⟩ (.bool true))) ?hg ?ho ?hn ?hr ?_;(case ho=>rfl);(case hg=>rfl);(case hn=>rfl);(case hr=>first|(go_simp;done)|(go_simp;rfl));intro w19 hw;have hg:wr.grownBy w19 (some go17):=(by rw [hw];exact HP18.2);have hp_:Kd.R Kd.bool 4 w19 w.heap.size (fun _=>True) (.slice (some ⟨go17,0,none⟩) x5_2.length co11) y476:=(by rw [hw,Ny476.out];exact HP18.1);clear HP18;have n0_:=aM5 (hp_);have n1_:=aM5 ((by rw [hw];exact below_set (HB.out) GB17.out:Below w.heap.size w w19));clear HO_5 HB;have HO_5:=n0_;have HB:=n1_;clear n0_ n1_ hg hw hp_))
               (try simp only [← hl5_2])
               go_roundg k2
               case measure=>have:=HK1.out;have:=HK2.out;omega
               case rel=>exact ⟨(y476),(wrap64 (x29_2 + 1)),(zsx5_3),H',⟨by have:=HK1.out;have:=HK2.out;omega⟩,⟨zsx5_21⟩,⟨zsx5_19⟩⟩
              ·rw [if_neg c16] at H
               exact absurd H (by simp)
             ·rw [if_neg c15] at H
              exact absurd H (by simp)
            ·rw [if_neg c14] at H
             exact absurd H (by simp)
           ·rw [if_neg c13] at H
            exact absurd H (by simp)
          ·rw [if_neg c12] at H
           have c12b0:decide (x29_2 < ((rd_L1 l0 x6_1).length:Int))=false:=decide_eq_false c12;clear c12;have H':=aM5 H;clear H
           go_wp2
           (try simp only [← hl5_2])
           go_roundg k2
           case measure=>have:=HK1.out;have:=HK2.out;omega
           case rel=>exact ⟨(x5_2),(wrap64 (x6_1 - 1)),(zsx5_3),H',⟨by have:=HK1.out;have:=HK2.out;omega⟩,⟨zsx5_21⟩,⟨zsx5_19⟩⟩
       ·rw [if_neg c10] at H
        exact absurd H (by simp)
      ·replace c9:=Bool.eq_false_iff.mpr c9
       subst c9;rw [if_neg (show ¬ (false=true) by decide)] at H;(try dsimp only at H);have H':=aM5 H;clear H;obtain ⟨Ao20,co20,eo20⟩:=Kd.R_slice HO_5.out;subst eo20;have p473:0≤(x6_1:Int):=oD5 (zsx5_18);have q473:x6_1 < (x5_1.length:Int):=oD5 (zsx5_18);obtain ⟨ad473,e473,hx473_0⟩:=Kd.at_bool (Kd.R_reads' HO_5.out).2.2 x6_1 p473 q473;(try rw [← Nbq8.out] at hx473_0)
       cases e473
       replace p473:=eq_true p473;replace q473:=eq_true q473
       go_wp2
       go_roundg k1
       case measure=>have:=HK1.out;omega
       case rel=>exact ⟨(x5_1),(wrap64 (x6_1 - 1)),(zsx5_3),H',⟨zsx5_15⟩,⟨zsx5_14⟩,⟨zsx5_19⟩⟩
     ·rw [if_neg c7] at H
      exact absurd H (by simp)
    ·rw [if_neg c6] at H
     exact absurd H (by simp)
   ·rw [if_neg c5] at H
    have c5b0:decide (0≤x6_1)=false:=decide_eq_false c5;clear c5;replace H:=bI5.mp H;obtain ⟨t470,A210,H⟩:=H;(try dsimp only at H);have A21:=aM5 A210;clear A210;obtain rfl:=Option.some.inj H;obtain ⟨Ao22,co22,eo22⟩:=Kd.R_slice HO_5.out;subst eo22
    go_wp2_with (first|((with_reducible refine gate_callee (f:=60) rfl ?_);refine goesL_ (some 38) rfl rfl Try.func60 (zsx5_0) rfl #[.slice Ao22 x5_1.length co22] rfl (zsx5_1) ?_;(with_reducible refine (spec_clList.calls k1 _ _ x5_1 t470 _ ?side1 ?side2 A21.out).mono ?_);(case side1=>repeat (first|exact (Kd.R_reads' HO_5.out).2.2|(with_reducible refine Kd.C_alloc ?_ _)|(with_reducible refine Kd.C_drewN ?_ _)|(with_reducible refine Kd.C_drew ?_)));(case side2=>exact (Kd.R_reads' HO_5.out).2.1);rintro e w23 ⟨v471,rfl,ho0,hb⟩;refine ⟨_,rfl,?_⟩;have n0_:=aM5 (Kd.R_below (zsx5_14) hb);have n1_:=aM5 (Kd.R_lower ho0 (below_size (zsx5_19)));have n2_:=aM5 (below_step (zsx5_19) hb);clear HO_5 HB;have HO_5:=n0_;have HO472:=n1_;have HB:=n2_;clear n0_ n1_ n2_;(try clear hb);(try clear hb2);(try clear hk);(try clear hi);(try clear ho0)))
    go_ret
    exact ⟨_,zsx5_8,by (with_reducible repeat (first|apply Kd.R_alloc|apply Kd.R_drewN|apply Kd.R_drew));exact HO472.out,zsx5_19⟩
def spec_l1Cur_closure.f (k:Nat) (s0_0:List Int) (s0_1:Int) (s0_2:Int) (l1:List (List Int)):Option (List Int × Int × Int):=(spec_l1Cur_some.f k s0_0 s0_1 s0_2 (l1.length:Int)).bind fun bt477=>((spec_clBlocks.f k l1 bt477.1).bind fun t482=>(if t482=true then ((spec_l1Cur_one.f s0_0 bt477.2.1 bt477.2.2 12).bind fun bt483=>(if bt483.1=true then (some (bt477.1,bt483.2.1,bt483.2.2)) else ((spec_clLeast.f k l1 bt477.1).bind fun t486=>(some (t486,bt483.2.1,bt483.2.2))))) else (some (bt477.1,bt477.2.1,bt477.2.2))))
set_option maxHeartbeats 8000000 in
set_option maxRecDepth 100000 in
theorem spec_l1Cur_closure.calls (k:Nat) (g:Nat) (s0_0:List Int) (s0_1:Int) (s0_2:Int) (A1:Option Addr) (c1:Nat) (l1:List (List Int)) (r1:List Int) (r2:Int) (r3:Int) (w0 w:World) (hI:IsS61 w0 w g s0_0 s0_1 s0_2) (hB:Below w0.heap.size w0 w) (hr1:∀ W_,KeepBut w W_ g none→Kd.C (Kd.slice 3 (Kd.int .i64)) W_ A1 l1.length l1) (hc1:l1.length≤c1) (h:spec_l1Cur_closure.f k s0_0 s0_1 s0_2 l1=some (r1,r2,r3)) :
  Calls Try.prog 79 #[.pointer (some ⟨g,0,none⟩),.slice A1 l1.length c1] w fun e w'=>∃ v0_:Value,e=.returned (v0_)∧Kd.R (Kd.int .i64) 3 w' w.heap.size (fun _=>True) v0_ r1∧IsS61 w0 w' g s0_0 r2 r3∧Below w0.heap.size w0 w'∧KeepBut w w' g none:=by
 have HR1:=aM5 hr1;have HC1:=aM5 hc1;clear hr1 hc1;have HI0:=aM5 hI;have HK:=aM5 (KeepBut.refl w g none);have HL:=aM5 hB.size;clear hI;have HW0:=aM5 hB.size;have HB:=aM5 hB;clear hB;have H:((spec_l1Cur_some.f k s0_0 s0_1 s0_2 (l1.length:Int)).bind fun bt477=>((spec_clBlocks.f k l1 bt477.1).bind fun t482=>(if t482=true then ((spec_l1Cur_one.f s0_0 bt477.2.1 bt477.2.2 12).bind fun bt483=>(if bt483.1=true then (some (bt477.1,bt483.2.1,bt483.2.2)) else ((spec_clLeast.f k l1 bt477.1).bind fun t486=>(some (t486,bt483.2.1,bt483.2.2))))) else (some (bt477.1,bt477.2.1,bt477.2.2)))))=some (r1,r2,r3):=h;clear h;replace H:=bI5.mp H;obtain ⟨⟨t477,t480,t481⟩,A30,H⟩:=H;(try dsimp only at H);have A3:=aM5 A30;clear A30;replace H:=bI5.mp H;obtain ⟨t482,A40,H⟩:=H;(try dsimp only at H);have A4:=aM5 A40;clear A40
 by_cases c5:t482=true
 ·subst c5
  rw [if_pos rfl] at H;(try dsimp only at H);replace H:=bI5.mp H;obtain ⟨⟨t483,t484,t485⟩,A60,H⟩:=H;(try dsimp only at H);have A6:=aM5 A60;clear A60
  by_cases c7:t483=true
  ·subst c7
   rw [if_pos rfl] at H;(try dsimp only at H);simp only [Option.some.injEq,Prod.mk.injEq] at H;obtain ⟨rfl,rfl,rfl⟩:=H;go_enter Try.func79,Try.ntmps79
   go_wp2_with (first|((with_reducible refine gate_callee (f:=67) rfl ?_);refine goesL_ (some 9) rfl rfl Try.func67 (zsx5_0) rfl #[.pointer (some ⟨g,0,none⟩),.int .i64 (l1.length:Int)] rfl (zsx5_1) ?_;(with_reducible refine (spec_l1Cur_some.calls k g s0_0 s0_1 s0_2 (l1.length:Int) t477 t480 t481 w0 _ ?side1 ?side2 A3.out).mono ?_);(case side1=>exact zsx5_4);(case side2=>exact zsx5_5);rintro e w8 ⟨v478,rfl,ho0,hi,hb,hk⟩;refine ⟨_,rfl,?_⟩;have n0_:=aM5 (Kd.R_lower ho0 (keep_size (w:=w) (g:=g) (row:=none) (zsx5_2)));have n1_:=aM5 (kT5 (zsx5_2) hk (.inl rfl));have n2_:=aM5 (hb);have n3_:=aM5 (hi);clear HK HB HI0;have HO479:=n0_;have HK:=n1_;have HB:=n2_;have HI0:=n3_;clear n0_ n1_ n2_ n3_;(try clear hb);(try clear hb2);(try clear hk);(try clear hi);(try clear ho0);obtain ⟨Ao9,co9,eo9⟩:=Kd.R_slice HO479.out;subst eo9)|((with_reducible refine gate_callee (f:=74) rfl ?_);refine goesL_ (some 12) rfl rfl Try.func74 (zsx5_0) rfl #[.slice A1 l1.length c1,.slice Ao9 t477.length co9] rfl (zsx5_1) ?_;(with_reducible refine (spec_clBlocks.calls k _ _ l1 _ _ t477 true _ ?side1 ?side2 ?side3 ?side4 A4.out).mono ?_);(case side1=>exact Kd.C_foot_now HR1.out (zsx5_2));(case side2=>exact HC1.out);(case side3=>exact zsx5_26);(case side4=>exact (Kd.R_reads' HO479.out).2.1);rintro e w' ⟨rfl,⟨nd,rfl⟩⟩;refine ⟨_,rfl,?_⟩)|(go_at_call 86;(with_reducible refine (spec_l1Cur_one.calls g s0_0 t480 t481 12 true t484 t485 w0 _ ?side1 ?side2 A6.out).mono ?_);(case side1=>exact zsx5_4);(case side2=>exact zsx5_5);rintro e w10 ⟨rfl,hi,hb,hk⟩;have n0_:=aM5 (Kd.R_mono (Kd.R_keep (IsS61.apart (show IsS61 w0 _ g s0_0 t480 t481 from zsx5_4) (zsx5_22) (by decide)) hk (fun _ h=>h.2)) (fun _ h=>h.1));have n1_:=aM5 (kT5 (zsx5_2) hk (.inl rfl));have n2_:=aM5 (hb);have n3_:=aM5 (hi);clear HO479 HK HB HI0;have HO479:=n0_;have HK:=n1_;have HB:=n2_;have HI0:=n3_;clear n0_ n1_ n2_ n3_;(try clear hb);(try clear hb2);(try clear hk);(try clear hi)))
   go_ret
   exact ⟨_,zsx5_8,zsx5_22,zsx5_4,zsx5_5,zsx5_2⟩
  ·replace c7:=Bool.eq_false_iff.mpr c7
   subst c7;rw [if_neg (show ¬ (false=true) by decide)] at H;(try dsimp only at H);replace H:=bI5.mp H;obtain ⟨t486,A110,H⟩:=H;(try dsimp only at H);have A11:=aM5 A110;clear A110;simp only [Option.some.injEq,Prod.mk.injEq] at H;obtain ⟨rfl,rfl,rfl⟩:=H;go_enter Try.func79,Try.ntmps79
   go_wp2_with (first|((with_reducible refine gate_callee (f:=67) rfl ?_);refine goesL_ (some 9) rfl rfl Try.func67 (zsx5_0) rfl #[.pointer (some ⟨g,0,none⟩),.int .i64 (l1.length:Int)] rfl (zsx5_1) ?_;(with_reducible refine (spec_l1Cur_some.calls k g s0_0 s0_1 s0_2 (l1.length:Int) t477 t480 t481 w0 _ ?side1 ?side2 A3.out).mono ?_);(case side1=>exact zsx5_4);(case side2=>exact zsx5_5);rintro e w12 ⟨v478,rfl,ho0,hi,hb,hk⟩;refine ⟨_,rfl,?_⟩;have n0_:=aM5 (Kd.R_lower ho0 (keep_size (w:=w) (g:=g) (row:=none) (zsx5_2)));have n1_:=aM5 (kT5 (zsx5_2) hk (.inl rfl));have n2_:=aM5 (hb);have n3_:=aM5 (hi);clear HK HB HI0;have HO479:=n0_;have HK:=n1_;have HB:=n2_;have HI0:=n3_;clear n0_ n1_ n2_ n3_;(try clear hb);(try clear hb2);(try clear hk);(try clear hi);(try clear ho0);obtain ⟨Ao13,co13,eo13⟩:=Kd.R_slice HO479.out;subst eo13)|((with_reducible refine gate_callee (f:=74) rfl ?_);refine goesL_ (some 12) rfl rfl Try.func74 (zsx5_0) rfl #[.slice A1 l1.length c1,.slice Ao13 t477.length co13] rfl (zsx5_1) ?_;(with_reducible refine (spec_clBlocks.calls k _ _ l1 _ _ t477 true _ ?side1 ?side2 ?side3 ?side4 A4.out).mono ?_);(case side1=>exact Kd.C_foot_now HR1.out (zsx5_2));(case side2=>exact HC1.out);(case side3=>exact zsx5_26);(case side4=>exact (Kd.R_reads' HO479.out).2.1);rintro e w' ⟨rfl,⟨nd,rfl⟩⟩;refine ⟨_,rfl,?_⟩)|(go_at_call 86;(with_reducible refine (spec_l1Cur_one.calls g s0_0 t480 t481 12 false t484 t485 w0 _ ?side1 ?side2 A6.out).mono ?_);(case side1=>exact zsx5_4);(case side2=>exact zsx5_5);rintro e w14 ⟨rfl,hi,hb,hk⟩;have n0_:=aM5 (Kd.R_mono (Kd.R_keep (IsS61.apart (show IsS61 w0 _ g s0_0 t480 t481 from zsx5_4) (zsx5_22) (by decide)) hk (fun _ h=>h.2)) (fun _ h=>h.1));have n1_:=aM5 (kT5 (zsx5_2) hk (.inl rfl));have n2_:=aM5 (hb);have n3_:=aM5 (hi);clear HO479 HK HB HI0;have HO479:=n0_;have HK:=n1_;have HB:=n2_;have HI0:=n3_;clear n0_ n1_ n2_ n3_;(try clear hb);(try clear hb2);(try clear hk);(try clear hi))|((with_reducible refine gate_callee (f:=75) rfl ?_);refine goesL_ (some 21) rfl rfl Try.func75 (zsx5_0) rfl #[.slice A1 l1.length c1,.slice Ao13 t477.length co13] rfl (zsx5_1) ?_;(with_reducible refine (spec_clLeast.calls k _ _ l1 _ _ t477 t486 _ ?side1 ?side2 ?side3 ?side4 A11.out).mono ?_);(case side1=>exact Kd.C_foot_now HR1.out (zsx5_2));(case side2=>exact HC1.out);(case side3=>exact zsx5_26);(case side4=>exact (Kd.R_reads' HO479.out).2.1);rintro e w15 ⟨v487,rfl,ho0,hb⟩;refine ⟨_,rfl,?_⟩;have n0_:=aM5 (Kd.R_elder' (zsx5_22) (Kd.R_base ho0) hb);have n1_:=aM5 (Kd.R_lower (Kd.R_new' ho0 (Kd.R_lt (zsx5_22))) (keep_size (w:=w) (g:=g) (row:=none) (zsx5_2)));have n2_:=aM5 (IsS61.below (zsx5_4) hb);have n3_:=aM5 (kT5 (zsx5_2) (KeepBut.of_below hb g none) (.inl rfl));have n4_:=aM5 (below_step (zsx5_5) hb);clear HO479 HI0 HK HB;have HO479:=n0_;have HO488:=n1_;have HI0:=n2_;have HK:=n3_;have HB:=n4_;clear n0_ n1_ n2_ n3_ n4_;(try clear hb);(try clear hb2);(try clear hk);(try clear hi);(try clear ho0)))
   go_ret
   exact ⟨_,zsx5_8,by (with_reducible repeat (first|apply Kd.R_alloc|apply Kd.R_drewN|apply Kd.R_drew));exact Kd.R_mono HO488.out (fun _ hk=>trivial),zsx5_4,zsx5_5,zsx5_2⟩
 ·replace c5:=Bool.eq_false_iff.mpr c5
  subst c5;rw [if_neg (show ¬ (false=true) by decide)] at H;(try dsimp only at H);simp only [Option.some.injEq,Prod.mk.injEq] at H;obtain ⟨rfl,rfl,rfl⟩:=H;go_enter Try.func79,Try.ntmps79
  go_wp2_with (first|((with_reducible refine gate_callee (f:=67) rfl ?_);refine goesL_ (some 9) rfl rfl Try.func67 (zsx5_0) rfl #[.pointer (some ⟨g,0,none⟩),.int .i64 (l1.length:Int)] rfl (zsx5_1) ?_;(with_reducible refine (spec_l1Cur_some.calls k g s0_0 s0_1 s0_2 (l1.length:Int) t477 t480 t481 w0 _ ?side1 ?side2 A3.out).mono ?_);(case side1=>exact zsx5_4);(case side2=>exact zsx5_5);rintro e w16 ⟨v478,rfl,ho0,hi,hb,hk⟩;refine ⟨_,rfl,?_⟩;have n0_:=aM5 (Kd.R_lower ho0 (keep_size (w:=w) (g:=g) (row:=none) (zsx5_2)));have n1_:=aM5 (kT5 (zsx5_2) hk (.inl rfl));have n2_:=aM5 (hb);have n3_:=aM5 (hi);clear HK HB HI0;have HO479:=n0_;have HK:=n1_;have HB:=n2_;have HI0:=n3_;clear n0_ n1_ n2_ n3_;(try clear hb);(try clear hb2);(try clear hk);(try clear hi);(try clear ho0);obtain ⟨Ao17,co17,eo17⟩:=Kd.R_slice HO479.out;subst eo17)|((with_reducible refine gate_callee (f:=74) rfl ?_);refine goesL_ (some 12) rfl rfl Try.func74 (zsx5_0) rfl #[.slice A1 l1.length c1,.slice Ao17 t477.length co17] rfl (zsx5_1) ?_;(with_reducible refine (spec_clBlocks.calls k _ _ l1 _ _ t477 false _ ?side1 ?side2 ?side3 ?side4 A4.out).mono ?_);(case side1=>exact Kd.C_foot_now HR1.out (zsx5_2));(case side2=>exact HC1.out);(case side3=>exact zsx5_26);(case side4=>exact (Kd.R_reads' HO479.out).2.1);rintro e w' ⟨rfl,⟨nd,rfl⟩⟩;refine ⟨_,rfl,?_⟩))
  go_ret
  exact ⟨_,zsx5_8,zsx5_22,zsx5_4,zsx5_5,zsx5_2⟩
def laws_big.f (l0:List Int) (l1:List Int):Option (Bool):=if (l0.length:Int) > 1048576 then (some true) else (some (decide ((l1.length:Int) > (wrap64 (1048576 - (l0.length:Int))))))
set_option maxHeartbeats 8000000 in
set_option maxRecDepth 100000 in
theorem laws_big.calls (A0:Option Addr) (c0:Nat) (l0:List Int) (A1:Option Addr) (c1:Nat) (l1:List Int) (r:Bool) (w:World) (hr0:Kd.C (Kd.int .u8) w A0 l0.length l0) (hc0:l0.length≤c0) (hr1:Kd.C (Kd.int .u8) w A1 l1.length l1) (hc1:l1.length≤c1) (h:laws_big.f l0 l1=some r) :
  Calls Try.prog 11 #[.slice A0 l0.length c0,.slice A1 l1.length c1] w fun e w'=>e=.returned (.bool r)∧Drawn0 w w':=by
 have HR0:=aM5 hr0;have HC0:=aM5 hc0;clear hr0 hc0;have HR1:=aM5 hr1;have HC1:=aM5 hc1;clear hr1 hc1;have H:(if (l0.length:Int) > 1048576 then (some true) else (some (decide ((l1.length:Int) > (wrap64 (1048576 - (l0.length:Int)))))))=some r:=h;clear h
 by_cases c3:(l0.length:Int) > 1048576
 ·rw [if_pos c3] at H
  have c3b0:decide (1048576 < (l0.length:Int))=true:=dT5 c3;have c3b1:decide (1048576 < l0.length)=true:=dT5 (by omega);clear c3;obtain rfl:=Option.some.inj H;go_enter Try.func11,Try.ntmps11
  go_wp2
  go_ret
  exact ⟨zsx5_3,zsx5_17⟩
 ·rw [if_neg c3] at H
  have c3b0:decide (1048576 < (l0.length:Int))=false:=decide_eq_false c3;have c3b1:decide (1048576 < l0.length)=false:=decide_eq_false (by omega);clear c3;obtain rfl:=Option.some.inj H;go_enter Try.func11,Try.ntmps11
  go_wp2
  go_ret
  exact ⟨zsx5_3,zsx5_17⟩
def laws_sameInts.l0:Nat→List Int→List Int→Int→Int→Option (Bool)
 | 0,_,_,_,_=>none
 | k + 1,x0,x1,x12,x13=>if x13 < x12 then (if 0≤x13 then (if x13 < (x0.length:Int) then (if x13 < (x1.length:Int) then (if (rd x0 x13)=(rd x1 x13) then (laws_sameInts.l0 k x0 x1 x12 (wrap64 (x13 + 1))) else (some false)) else (none)) else (none)) else (none)) else (some true)
def laws_sameInts.f (k:Nat) (l0:List Int) (l1:List Int):Option (Bool):=if (l0.length:Int)=(l1.length:Int) then (laws_sameInts.l0 k l0 l1 (l0.length:Int) 0) else (some false)
set_option maxHeartbeats 8000000 in
set_option maxRecDepth 100000 in
theorem laws_sameInts.calls (k:Nat) (A0:Option Addr) (c0:Nat) (l0:List Int) (A1:Option Addr) (c1:Nat) (l1:List Int) (r:Bool) (w:World) (hr0:Kd.C (Kd.int .i64) w A0 l0.length l0) (hc0:l0.length≤c0) (hr1:Kd.C (Kd.int .i64) w A1 l1.length l1) (hc1:l1.length≤c1) (h:laws_sameInts.f k l0 l1=some r) :
  Calls Try.prog 17 #[.slice A0 l0.length c0,.slice A1 l1.length c1] w fun e w'=>e=.returned (.bool r)∧Drawn0 w w':=by
 have HR0:=aM5 hr0;have HC0:=aM5 hc0;clear hr0 hc0;have HR1:=aM5 hr1;have HC1:=aM5 hc1;clear hr1 hc1;have H:(if (l0.length:Int)=(l1.length:Int) then (laws_sameInts.l0 k l0 l1 (l0.length:Int) 0) else (some false))=some r:=h;clear h
 by_cases c3:(l0.length:Int)=(l1.length:Int)
 ·rw [if_pos c3] at H
  have c3b0:((l0.length:Int) == (l1.length:Int))=true:=beq_iff_eq.mpr c3;have c3b1:((l0.length:Int) != (l1.length:Int))=false:=bne_eq_false_iff_eq.mpr c3
  have c3b2:(l0.length == l1.length)=true:=by first|simpa using c3|(simp at c3 ⊢;omega)
  clear c3;have H':=aM5 H;clear H;go_enter Try.func17,Try.ntmps17
  go_wp2
  repeat (go_quiet (fail);try go_wp2)
  go_loopg [13] k (fun kq v13 w'=>∃ (x13_1:Int),v13=.int .i64 x13_1∧Aside0 (laws_sameInts.l0 kq l0 l1 (l0.length:Int) x13_1=some r)∧Aside0 (kq≤k)∧Drawn0 w w')
  case atStart=>exact ⟨(0),(zsx5_3),H',⟨Nat.le_refl _⟩,zsx5_17⟩
  case round =>
   clear H';(try clear c1);(try clear p2);(try clear c3);(try clear c3b0);(try clear c3b1);(try clear c3b2);obtain ⟨x13_1,rfl,HA,HK1,⟨m1,rfl⟩⟩:=hrel
   cases gk with
   | zero=>exact absurd HA.out (by simp [laws_sameInts.l0])
   | succ k1 =>
    have H:=HA.out;clear HA;simp only [laws_sameInts.l0] at H
    by_cases c4:x13_1 < (l0.length:Int)
    ·rw [if_pos c4] at H
     have c4b0:decide (x13_1 < (l0.length:Int))=true:=dT5 c4;clear c4
     by_cases c5:0≤x13_1
     ·rw [if_pos c5] at H
      have c5b0:decide (0≤x13_1)=true:=dT5 c5;clear c5
      by_cases c6:x13_1 < (l0.length:Int)
      ·rw [if_pos c6] at H
       have c6b0:decide (x13_1 < (l0.length:Int))=true:=dT5 c6;clear c6
       by_cases c7:x13_1 < (l1.length:Int)
       ·rw [if_pos c7] at H
        have c7b0:decide (x13_1 < (l1.length:Int))=true:=dT5 c7;clear c7
        by_cases c8:(rd l0 x13_1)=(rd l1 x13_1)
        ·rw [if_pos c8] at H
         have c8b0:((rd l0 x13_1) == (rd l1 x13_1))=true:=beq_iff_eq.mpr c8;have c8b1:((rd l0 x13_1) != (rd l1 x13_1))=false:=bne_eq_false_iff_eq.mpr c8;clear c8;have H':=aM5 H;clear H;have p120:0≤(x13_1:Int):=oD5 (zsx5_18);have q120:x13_1 < (l0.length:Int):=oD5 (zsx5_18);obtain ⟨ad120,e120,hx120_0⟩:=Kd.at_int HR0.out x13_1 p120 q120
         cases e120
         replace p120:=eq_true p120;replace q120:=eq_true q120;have p121:0≤(x13_1:Int):=oD5 (zsx5_18);have q121:x13_1 < (l1.length:Int):=oD5 (zsx5_18);obtain ⟨ad121,e121,hx121_0⟩:=Kd.at_int HR1.out x13_1 p121 q121
         cases e121
         replace p121:=eq_true p121;replace q121:=eq_true q121
         go_wp2
         repeat (go_quiet (fail);try go_wp2)
         go_roundg k1
         case measure=>have:=HK1.out;omega
         case rel=>exact ⟨(wrap64 (x13_1 + 1)),(zsx5_3),H',⟨zsx5_15⟩,zsx5_17⟩
        ·rw [if_neg c8] at H
         have c8b0:((rd l0 x13_1) == (rd l1 x13_1))=false:=beq_eq_false_iff_ne.mpr c8;have c8b1:((rd l0 x13_1) != (rd l1 x13_1))=true:=bne_iff_ne.mpr c8;obtain rfl:=Option.some.inj H;have p120:0≤(x13_1:Int):=oD5 (zsx5_18);have q120:x13_1 < (l0.length:Int):=oD5 (zsx5_18);obtain ⟨ad120,e120,hx120_0⟩:=Kd.at_int HR0.out x13_1 p120 q120
         cases e120
         replace p120:=eq_true p120;replace q120:=eq_true q120;have p121:0≤(x13_1:Int):=oD5 (zsx5_18);have q121:x13_1 < (l1.length:Int):=oD5 (zsx5_18);obtain ⟨ad121,e121,hx121_0⟩:=Kd.at_int HR1.out x13_1 p121 q121
         cases e121
         replace p121:=eq_true p121;replace q121:=eq_true q121
         go_wp2
         repeat (go_quiet (fail);try go_wp2)
         go_ret
         exact ⟨zsx5_3,zsx5_17⟩
       ·rw [if_neg c7] at H
        exact absurd H (by simp)
      ·rw [if_neg c6] at H
       exact absurd H (by simp)
     ·rw [if_neg c5] at H
      exact absurd H (by simp)
    ·rw [if_neg c4] at H
     have c4b0:decide (x13_1 < (l0.length:Int))=false:=decide_eq_false c4;clear c4;obtain rfl:=Option.some.inj H
     go_wp2
     repeat (go_quiet (fail);try go_wp2)
     go_ret
     exact ⟨zsx5_3,zsx5_17⟩
 ·rw [if_neg c3] at H
  have c3b0:((l0.length:Int) == (l1.length:Int))=false:=beq_eq_false_iff_ne.mpr c3;have c3b1:((l0.length:Int) != (l1.length:Int))=true:=bne_iff_ne.mpr c3
  have c3b2:(l0.length == l1.length)=false:=by first|simpa using c3|(simp at c3 ⊢;omega)
  obtain rfl:=Option.some.inj H;go_enter Try.func17,Try.ntmps17
  go_wp2
  repeat (go_quiet (fail);try go_wp2)
  go_ret
  exact ⟨zsx5_3,zsx5_17⟩
def laws_pIn.l0:Nat→Int→List Int→Int→Int→Option (Bool)
 | 0,_,_,_,_=>none
 | k + 1,x1,x7,x8,x9=>if x9 < x8 then (if 0≤x9 then (if x9 < (x7.length:Int) then (if (rd x7 x9)=x1 then (some true) else (laws_pIn.l0 k x1 x7 x8 (wrap64 (x9 + 1)))) else (none)) else (none)) else (some false)
def laws_pIn.f (k:Nat) (l0:List Int) (a1:Int):Option (Bool):=laws_pIn.l0 k a1 l0 (l0.length:Int) 0
set_option maxHeartbeats 8000000 in
set_option maxRecDepth 100000 in
theorem laws_pIn.calls (k:Nat) (A0:Option Addr) (c0:Nat) (l0:List Int) (a1:Int) (r:Bool) (w:World) (hr0:Kd.C (Kd.int .i64) w A0 l0.length l0) (hc0:l0.length≤c0) (h:laws_pIn.f k l0 a1=some r) :
  Calls Try.prog 22 #[.slice A0 l0.length c0,.int .i64 a1] w fun e w'=>e=.returned (.bool r)∧Drawn0 w w':=by
 have HR0:=aM5 hr0;have HC0:=aM5 hc0;clear hr0 hc0;have H:(laws_pIn.l0 k a1 l0 (l0.length:Int) 0)=some r:=h;clear h;have H':=aM5 H;clear H;go_enter Try.func22,Try.ntmps22
 go_wp2
 go_loopg [9] k (fun kq v9 w'=>∃ (x9_1:Int),v9=.int .i64 x9_1∧Aside0 (laws_pIn.l0 kq a1 l0 (l0.length:Int) x9_1=some r)∧Aside0 (kq≤k)∧Drawn0 w w')
 case atStart=>exact ⟨(0),(zsx5_3),H',⟨Nat.le_refl _⟩,zsx5_17⟩
 case round =>
  clear H';(try clear c2);(try clear p2);obtain ⟨x9_1,rfl,HA,HK1,⟨m1,rfl⟩⟩:=hrel
  cases gk with
  | zero=>exact absurd HA.out (by simp [laws_pIn.l0])
  | succ k1 =>
   have H:=HA.out;clear HA;simp only [laws_pIn.l0] at H
   by_cases c3:x9_1 < (l0.length:Int)
   ·rw [if_pos c3] at H
    have c3b0:decide (x9_1 < (l0.length:Int))=true:=dT5 c3;clear c3
    by_cases c4:0≤x9_1
    ·rw [if_pos c4] at H
     have c4b0:decide (0≤x9_1)=true:=dT5 c4;clear c4
     by_cases c5:x9_1 < (l0.length:Int)
     ·rw [if_pos c5] at H
      have c5b0:decide (x9_1 < (l0.length:Int))=true:=dT5 c5;clear c5
      by_cases c6:(rd l0 x9_1)=a1
      ·rw [if_pos c6] at H
       have c6b0:((rd l0 x9_1) == a1)=true:=beq_iff_eq.mpr c6;have c6b1:((rd l0 x9_1) != a1)=false:=bne_eq_false_iff_eq.mpr c6;clear c6;obtain rfl:=Option.some.inj H;have p160:0≤(x9_1:Int):=oD5 (zsx5_18);have q160:x9_1 < (l0.length:Int):=oD5 (zsx5_18);obtain ⟨ad160,e160,hx160_0⟩:=Kd.at_int HR0.out x9_1 p160 q160
       cases e160
       replace p160:=eq_true p160;replace q160:=eq_true q160
       go_wp2
       go_ret
       exact ⟨zsx5_3,zsx5_17⟩
      ·rw [if_neg c6] at H
       have c6b0:((rd l0 x9_1) == a1)=false:=beq_eq_false_iff_ne.mpr c6;have c6b1:((rd l0 x9_1) != a1)=true:=bne_iff_ne.mpr c6;have H':=aM5 H;clear H;have p160:0≤(x9_1:Int):=oD5 (zsx5_18);have q160:x9_1 < (l0.length:Int):=oD5 (zsx5_18);obtain ⟨ad160,e160,hx160_0⟩:=Kd.at_int HR0.out x9_1 p160 q160
       cases e160
       replace p160:=eq_true p160;replace q160:=eq_true q160
       go_wp2
       go_roundg k1
       case measure=>have:=HK1.out;omega
       case rel=>exact ⟨(wrap64 (x9_1 + 1)),(zsx5_3),H',⟨zsx5_15⟩,zsx5_17⟩
     ·rw [if_neg c5] at H
      exact absurd H (by simp)
    ·rw [if_neg c4] at H
     exact absurd H (by simp)
   ·rw [if_neg c3] at H
    have c3b0:decide (x9_1 < (l0.length:Int))=false:=decide_eq_false c3;clear c3;obtain rfl:=Option.some.inj H
    go_wp2
    go_ret
    exact ⟨zsx5_3,zsx5_17⟩
def impl_areBlocks.l0:Nat→List Int→Int→List Int→Int→Int→Option (Bool)
 | 0,_,_,_,_,_=>none
 | k + 1,x0,x1,x7,x8,x9=>if x9 < x8 then (if 0≤x9 then (if x9 < (x7.length:Int) then (if (rd x7 x9) < 0 then (some false) else (if (rd x7 x9) ≥ x1 then (some false) else (if x9 > 0 then (if 0≤(wrap64 (x9 - 1)) then (if (wrap64 (x9 - 1)) < (x0.length:Int) then (if (rd x7 x9)≤(rd x0 (wrap64 (x9 - 1))) then (some false) else (impl_areBlocks.l0 k x0 x1 x7 x8 (wrap64 (x9 + 1)))) else (none)) else (none)) else (impl_areBlocks.l0 k x0 x1 x7 x8 (wrap64 (x9 + 1)))))) else (none)) else (none)) else (some true)
def impl_areBlocks.f (k:Nat) (l0:List Int) (a1:Int):Option (Bool):=impl_areBlocks.l0 k l0 a1 l0 (l0.length:Int) 0
set_option maxHeartbeats 8000000 in
set_option maxRecDepth 100000 in
theorem impl_areBlocks.calls (k:Nat) (A0:Option Addr) (c0:Nat) (l0:List Int) (a1:Int) (r:Bool) (w:World) (hr0:Kd.C (Kd.int .i64) w A0 l0.length l0) (hc0:l0.length≤c0) (h:impl_areBlocks.f k l0 a1=some r) :
  Calls Try.prog 61 #[.slice A0 l0.length c0,.int .i64 a1] w fun e w'=>e=.returned (.bool r)∧Drawn0 w w':=by
 have HR0:=aM5 hr0;have HC0:=aM5 hc0;clear hr0 hc0;have H:(impl_areBlocks.l0 k l0 a1 l0 (l0.length:Int) 0)=some r:=h;clear h;have H':=aM5 H;clear H;go_enter Try.func61,Try.ntmps61
 go_wp2
 go_loopg [9] k (fun kq v9 w'=>∃ (x9_1:Int),v9=.int .i64 x9_1∧Aside0 (impl_areBlocks.l0 kq l0 a1 l0 (l0.length:Int) x9_1=some r)∧Aside0 (kq≤k)∧Drawn0 w w')
 case atStart=>exact ⟨(0),(zsx5_3),H',⟨Nat.le_refl _⟩,zsx5_17⟩
 case round =>
  clear H';(try clear p2);obtain ⟨x9_1,rfl,HA,HK1,⟨m1,rfl⟩⟩:=hrel
  cases gk with
  | zero=>exact absurd HA.out (by simp [impl_areBlocks.l0])
  | succ k1 =>
   have H:=HA.out;clear HA;simp only [impl_areBlocks.l0] at H
   by_cases c3:x9_1 < (l0.length:Int)
   ·rw [if_pos c3] at H
    have c3b0:decide (x9_1 < (l0.length:Int))=true:=dT5 c3;clear c3
    by_cases c4:0≤x9_1
    ·rw [if_pos c4] at H
     have c4b0:decide (0≤x9_1)=true:=dT5 c4;clear c4
     by_cases c5:x9_1 < (l0.length:Int)
     ·rw [if_pos c5] at H
      have c5b0:decide (x9_1 < (l0.length:Int))=true:=dT5 c5;clear c5
      by_cases c6:(rd l0 x9_1) < 0
      ·rw [if_pos c6] at H
       have c6b0:decide ((rd l0 x9_1) < 0)=true:=dT5 c6;clear c6;obtain rfl:=Option.some.inj H;have p116:0≤(x9_1:Int):=oD5 (zsx5_18);have q116:x9_1 < (l0.length:Int):=oD5 (zsx5_18);obtain ⟨ad116,e116,hx116_0⟩:=Kd.at_int HR0.out x9_1 p116 q116
       cases e116
       replace p116:=eq_true p116;replace q116:=eq_true q116
       go_wp2
       go_ret
       exact ⟨zsx5_3,zsx5_17⟩
      ·rw [if_neg c6] at H
       have c6b0:decide ((rd l0 x9_1) < 0)=false:=decide_eq_false c6;clear c6
       by_cases c7:(rd l0 x9_1) ≥ a1
       ·rw [if_pos c7] at H
        have c7b0:decide (a1≤(rd l0 x9_1))=true:=dT5 c7;clear c7;obtain rfl:=Option.some.inj H;have p116:0≤(x9_1:Int):=oD5 (zsx5_18);have q116:x9_1 < (l0.length:Int):=oD5 (zsx5_18);obtain ⟨ad116,e116,hx116_0⟩:=Kd.at_int HR0.out x9_1 p116 q116
        cases e116
        replace p116:=eq_true p116;replace q116:=eq_true q116
        go_wp2
        go_ret
        exact ⟨zsx5_3,zsx5_17⟩
       ·rw [if_neg c7] at H
        have c7b0:decide (a1≤(rd l0 x9_1))=false:=decide_eq_false c7;clear c7
        by_cases c8:x9_1 > 0
        ·rw [if_pos c8] at H
         have c8b0:decide (0 < x9_1)=true:=dT5 c8;clear c8;obtain ⟨ji9,hji9⟩:∃ j_:Int,(wrap64 (x9_1 - 1))=j_:=⟨_,rfl⟩
         replace H:(if 0≤(ji9) then (if (ji9) < (l0.length:Int) then (if (rd l0 x9_1)≤(rd l0 (ji9)) then (some false) else (impl_areBlocks.l0 k1 l0 a1 l0 (l0.length:Int) (wrap64 (x9_1 + 1)))) else (none)) else (none))=some r:=by first|(rw [hji9] at H;exact H)|(simp only [hji9] at H ⊢;exact H)
         have hji9w:(IntKind.i64.wrap (x9_1 - 1))=ji9:=(i64_w _).trans hji9
         by_cases c10:0≤(ji9)
         ·rw [if_pos c10] at H
          have c10b0:decide (0≤(ji9))=true:=dT5 c10;clear c10
          by_cases c11:(ji9) < (l0.length:Int)
          ·rw [if_pos c11] at H
           have c11b0:decide ((ji9) < (l0.length:Int))=true:=dT5 c11;clear c11
           by_cases c12:(rd l0 x9_1)≤(rd l0 (ji9))
           ·rw [if_pos c12] at H
            have c12b0:decide ((rd l0 x9_1)≤(rd l0 (ji9)))=true:=dT5 c12;clear c12;obtain rfl:=Option.some.inj H;have p116:0≤(x9_1:Int):=oD5 (zsx5_18);have q116:x9_1 < (l0.length:Int):=oD5 (zsx5_18);obtain ⟨ad116,e116,hx116_0⟩:=Kd.at_int HR0.out x9_1 p116 q116
            cases e116
            replace p116:=eq_true p116;replace q116:=eq_true q116;have p117:0≤((ji9):Int):=oD5 (zsx5_18);have q117:(ji9) < (l0.length:Int):=oD5 (zsx5_18);obtain ⟨ad117,e117,hx117_0⟩:=Kd.at_int HR0.out (ji9) p117 q117;obtain rfl:ad116=ad117:=(by injection e117);replace p117:=eq_true p117;replace q117:=eq_true q117
            go_wp2
            go_ret
            exact ⟨by first|rfl|(simp;done)|(simp only [← hji9] <;> (first|rfl|simp))|(simp [*];done),zsx5_17⟩
           ·rw [if_neg c12] at H
            have c12b0:decide ((rd l0 x9_1)≤(rd l0 (ji9)))=false:=decide_eq_false c12;clear c12;have H':=aM5 H;clear H;have p116:0≤(x9_1:Int):=oD5 (zsx5_18);have q116:x9_1 < (l0.length:Int):=oD5 (zsx5_18);obtain ⟨ad116,e116,hx116_0⟩:=Kd.at_int HR0.out x9_1 p116 q116
            cases e116
            replace p116:=eq_true p116;replace q116:=eq_true q116;have p117:0≤((ji9):Int):=oD5 (zsx5_18);have q117:(ji9) < (l0.length:Int):=oD5 (zsx5_18);obtain ⟨ad117,e117,hx117_0⟩:=Kd.at_int HR0.out (ji9) p117 q117;obtain rfl:ad116=ad117:=(by injection e117);replace p117:=eq_true p117;replace q117:=eq_true q117
            go_wp2
            go_roundg k1
            case measure=>have:=HK1.out;omega
            case rel=>exact ⟨(wrap64 (x9_1 + 1)),(zsx5_3),H',⟨zsx5_15⟩,zsx5_17⟩
          ·rw [if_neg c11] at H
           exact absurd H (by simp)
         ·rw [if_neg c10] at H
          exact absurd H (by simp)
        ·rw [if_neg c8] at H
         have c8b0:decide (0 < x9_1)=false:=decide_eq_false c8;clear c8;have H':=aM5 H;clear H;have p116:0≤(x9_1:Int):=oD5 (zsx5_18);have q116:x9_1 < (l0.length:Int):=oD5 (zsx5_18);obtain ⟨ad116,e116,hx116_0⟩:=Kd.at_int HR0.out x9_1 p116 q116
         cases e116
         replace p116:=eq_true p116;replace q116:=eq_true q116
         go_wp2
         go_roundg k1
         case measure=>have:=HK1.out;omega
         case rel=>exact ⟨(wrap64 (x9_1 + 1)),(zsx5_3),H',⟨zsx5_15⟩,zsx5_17⟩
     ·rw [if_neg c5] at H
      exact absurd H (by simp)
    ·rw [if_neg c4] at H
     exact absurd H (by simp)
   ·rw [if_neg c3] at H
    have c3b0:decide (x9_1 < (l0.length:Int))=false:=decide_eq_false c3;clear c3;obtain rfl:=Option.some.inj H
    go_wp2
    go_ret
    exact ⟨zsx5_3,zsx5_17⟩
end Go.Proofs.Ytbhlffakpneecaa.PFnClosures
end
