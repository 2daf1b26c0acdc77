/- Texts that print.sh has printed for the law FnClosures,one function each,put together in one file: contracts of its functions. -/
import Derived.Test.YtbhlffakpneecaaTMFnClosuresx0
import Derived.Test.YtbhlffakpneecaaTMFnClosuresx7
import Derived.Test.YtbhlffakpneecaaTMFnClosuresx5
section
namespace Go.Proofs.Ytbhlffakpneecaa.PFnClosures
open Go.RowKit Go.Proofs.YtbhlffakpneecaaW.PrintWords Go.Proofs.YtbhlffakpneecaaW.PrintLast Go.Proofs.YtbhlffakpneecaaW.PrintMore
attribute [local go_sem] max2_int min2_int max_two min_two max_three min_three max_four min_four   -- for this text's walks alone
set_option linter.unusedVariables false
set_option linter.unusedSimpArgs false
theorem aM8:type_of% @Aside0.mk:=@Aside0.mk
theorem oD8:type_of% @of_decide_eq_true:=@of_decide_eq_true
theorem dT8:type_of% @decide_eq_true:=@decide_eq_true
theorem zsx8_0 {P:Prop} (h:P:=by (try simp only [List.map_toArray,List.map_cons,List.map_nil]);first|done|rfl|(simp only [List.length_drop,List.length_take];rfl)):P:=h
theorem zsx8_1 {P:Prop} (h:P:=by repeat (first|(with_reducible first|exact HB.out|apply below_alloc|apply pw_below_drewN|apply below_drew1)|exact HB.out)):P:=h
theorem zsx8_2 {P:Prop} (h:P:=by first|rfl|(simp;done)|(simp [*];done)):P:=h
theorem zsx8_3 {P:Prop} (h:P:=by first|rfl|(simp [errW_none,errW_some] <;> rfl)|(simp [*,errW_none,errW_some] <;> rfl)):P:=h
theorem zsx8_4 {P:Prop} (h:P:=by first|exact Kd.R_nil _ _ _ _ _|exact Kd.N_nil _ _ _ _ _|exact Kd.V_nil _ _ _ _ _|exact Kd.Q_nil _ _ _ _ _|exact Kd.S_nil _ _ _ _ _):P:=h
theorem zsx8_5 {P:Prop} (h:P:=by first|(with_reducible assumption)|assumption):P:=h
theorem zsx8_6 {P:Prop} (h:P:=by (with_reducible repeat (first|apply Kd.R_alloc|apply Kd.R_drewN|apply Kd.R_drew));exact HO_8.out):P:=h
theorem zsx8_7 {P:Prop} (h:P:=by (with_reducible repeat (first|apply Kd.R_alloc|apply Kd.R_drewN|apply Kd.R_drew));exact HO_4.out):P:=h
theorem zsx8_8 {P:Prop} (h:P:=by have:=HJ1.out;have:=HK2.out;have:=HK3.out;have:=HK4.out;omega):P:=h
theorem zsx8_9 {P:Prop} (h:P:=by repeat (first|exact (Kd.C_below HR0.out HB.out)|(with_reducible refine Kd.C_alloc ?_ _)|(with_reducible refine Kd.C_drewN ?_ _)|(with_reducible refine Kd.C_drew ?_))):P:=h
theorem zsx8_10 {P:Prop} (h:P:=by repeat (first|exact (Kd.C_below HR1.out HB.out)|(with_reducible refine Kd.C_alloc ?_ _)|(with_reducible refine Kd.C_drewN ?_ _)|(with_reducible refine Kd.C_drew ?_))):P:=h
theorem zsx8_11 {P:Prop} (h:P:=by repeat (first|exact (Kd.C_below HR2.out HB.out)|(with_reducible refine Kd.C_alloc ?_ _)|(with_reducible refine Kd.C_drewN ?_ _)|(with_reducible refine Kd.C_drew ?_))):P:=h
mutual
def spec_MeetClosures.j0:Nat→List Int→List Int→Bool→Option (List Int × Bool)
 | 0,_,_,_=>none
 | k + 1,x1,x2,x20=>if x20=true then (some (([]:List Int),false)) else (spec_MeetClosures.l0 k x2 ([]:List Int) x1 (x1.length:Int) 0)
def spec_MeetClosures.l0:Nat→List Int→List Int→List Int→Int→Int→Option (List Int × Bool)
 | 0,_,_,_,_,_=>none
 | k + 1,x2,x8,x21,x22,x23=>if x23 < x22 then (if 0≤x23 then (if x23 < (x21.length:Int) then ((spec_l1Has.f k x2 (rd x21 x23)).bind fun t649=>(if t649=true then (if x8.length < 17592186044416 then (spec_MeetClosures.l0 k x2 (x8 ++ [rd x21 x23]) x21 x22 (wrap64 (x23 + 1))) else (none)) else (spec_MeetClosures.l0 k x2 x8 x21 x22 (wrap64 (x23 + 1))))) else (none)) else (none)) else (some (x8,true))
end
def spec_MeetClosures.f (k:Nat) (l0:List (List Int)) (l1:List Int) (l2:List Int):Option (List Int × Bool):=(spec_clGood.f k l0 l1).bind fun t646=>(if t646=true then ((spec_clGood.f k l0 l2).bind fun t647=>(spec_MeetClosures.j0 k l1 l2 (!t647))) else (spec_MeetClosures.j0 k l1 l2 true))
set_option maxHeartbeats 8000000 in
set_option maxRecDepth 100000 in
theorem spec_MeetClosures.calls (k:Nat) (A0:Option Addr) (c0:Nat) (l0:List (List Int)) (A1:Option Addr) (c1:Nat) (l1:List Int) (A2:Option Addr) (c2:Nat) (l2:List Int) (r1:List Int) (r2:Bool) (w:World) (hr0:Kd.C (Kd.slice 3 (Kd.int .i64)) w A0 l0.length l0) (hc0:l0.length≤c0) (hr1:Kd.C (Kd.int .i64) w A1 l1.length l1) (hc1:l1.length≤c1) (hr2:Kd.C (Kd.int .i64) w A2 l2.length l2) (hc2:l2.length≤c2) (h:spec_MeetClosures.f k l0 l1 l2=some (r1,r2)) :
  Calls Try.prog 44 #[.slice A0 l0.length c0,.slice A1 l1.length c1,.slice A2 l2.length c2] w fun e w'=>∃ v0_:Value,e=.returned (.tuple #[v0_,.bool r2])∧Kd.R (Kd.int .i64) 3 w' w.heap.size (fun _=>True) v0_ r1∧Below w.heap.size w w':=by
 have HR0:=aM8 hr0;have HC0:=aM8 hc0;clear hr0 hc0;have HR1:=aM8 hr1;have HC1:=aM8 hc1;clear hr1 hc1;have HR2:=aM8 hr2;have HC2:=aM8 hc2;clear hr2 hc2;have HB:=aM8 (Below.refl w.heap.size w);have H:((spec_clGood.f k l0 l1).bind fun t646=>(if t646=true then ((spec_clGood.f k l0 l2).bind fun t647=>(spec_MeetClosures.j0 k l1 l2 (!t647))) else (spec_MeetClosures.j0 k l1 l2 true)))=some (r1,r2):=h;clear h;have HC4:=aM8 H;clear H;go_enter Try.func44,Try.ntmps44
 go_upto_region 1 with (fail)
 go_cut [20] (fun v20 wc=>∃ (kq:Nat) (x20_3:Bool),v20=.bool x20_3∧Aside0 (spec_MeetClosures.j0 kq l1 l2 x20_3=some (r1,r2))∧Aside0 (kq≤k)∧Aside0 (Below w.heap.size w wc))
 case first =>
  have H:=HC4.out;clear HC4;replace H:=Option.bind_eq_some_iff.mp H;obtain ⟨t646,A50,H⟩:=H;(try dsimp only at H);have A5:=aM8 A50;clear A50
  by_cases c6:t646=true
  ·subst c6
   rw [if_pos rfl] at H;(try dsimp only at H);replace H:=Option.bind_eq_some_iff.mp H;obtain ⟨t647,A70,H⟩:=H;(try dsimp only at H);have A7:=aM8 A70;clear A70;have H':=aM8 H;clear H
   go_wp2_with (first|((with_reducible refine gate_callee (f:=82) rfl ?_);refine goesL_ (some 13) rfl rfl Try.func82 (by kernel_rfl) rfl #[.slice A0 l0.length c0,.slice A1 l1.length c1] rfl (zsx8_0) ?_;(with_reducible refine (spec_clGood.calls k _ _ l0 _ _ l1 true _ ?side1 ?side2 ?side3 ?side4 A5.out).mono ?_);(case side1=>exact zsx8_9);(case side2=>exact HC0.out);(case side3=>exact zsx8_10);(case side4=>exact HC1.out);rintro e w8 ⟨rfl,hb⟩;refine ⟨_,rfl,?_⟩;have n0_:=aM8 (below_step (zsx8_1) hb);clear HB;have HB:=n0_;clear n0_;(try clear hb);(try clear hb2);(try clear hk);(try clear hi))|(go_at_call 82;(with_reducible refine (spec_clGood.calls k _ _ l0 _ _ l2 t647 _ ?side1 ?side2 ?side3 ?side4 A7.out).mono ?_);(case side1=>exact zsx8_9);(case side2=>exact HC0.out);(case side3=>exact zsx8_11);(case side4=>exact HC2.out);rintro e w9 ⟨rfl,hb⟩;have n0_:=aM8 (below_step (zsx8_1) hb);clear HB;have HB:=n0_;clear n0_;(try clear hb);(try clear hb2);(try clear hk);(try clear hi)))
   go_meet
   case rel=>exact ⟨_,(!t647),(zsx8_2),H',⟨by first|omega|exact Nat.le_refl _⟩,⟨zsx8_1⟩⟩
  ·replace c6:=Bool.eq_false_iff.mpr c6
   subst c6;rw [if_neg (show ¬ (false=true) by decide)] at H;(try dsimp only at H);have H':=aM8 H;clear H
   go_wp2_with (first|((with_reducible refine gate_callee (f:=82) rfl ?_);refine goesL_ (some 13) rfl rfl Try.func82 (by kernel_rfl) rfl #[.slice A0 l0.length c0,.slice A1 l1.length c1] rfl (zsx8_0) ?_;(with_reducible refine (spec_clGood.calls k _ _ l0 _ _ l1 false _ ?side1 ?side2 ?side3 ?side4 A5.out).mono ?_);(case side1=>exact zsx8_9);(case side2=>exact HC0.out);(case side3=>exact zsx8_10);(case side4=>exact HC1.out);rintro e w10 ⟨rfl,hb⟩;refine ⟨_,rfl,?_⟩;have n0_:=aM8 (below_step (zsx8_1) hb);clear HB;have HB:=n0_;clear n0_;(try clear hb);(try clear hb2);(try clear hk);(try clear hi)))
   go_meet
   case rel=>exact ⟨_,(true),(zsx8_2),H',⟨by first|omega|exact Nat.le_refl _⟩,⟨zsx8_1⟩⟩
 case rest =>
  clear HC4;(try clear c1);(try clear c2);(try clear p2);(try clear c4);(try clear c6);(try clear c8);obtain ⟨kq,x20_3,rfl,HA,HJ3,HB⟩:=hcut
  cases kq with
  | zero=>exact absurd HA.out (by simp [spec_MeetClosures.j0])
  | succ kj3 =>
   have H:=HA.out;clear HA;simp only [spec_MeetClosures.j0] at H
   by_cases c11:x20_3=true
   ·subst c11
    rw [if_pos rfl] at H;(try dsimp only at H);simp only [Option.some.injEq,Prod.mk.injEq] at H;obtain ⟨rfl,rfl⟩:=H
    go_wp2
    go_ret2
    exact ⟨_,zsx8_3,zsx8_4,zsx8_1⟩
   ·replace c11:=Bool.eq_false_iff.mpr c11
    subst c11;rw [if_neg (show ¬ (false=true) by decide)] at H;(try dsimp only at H);have H':=aM8 H;clear H
    go_wp2
    go_loopg [8,23] kj3 (fun kq v8 v23 w'=>∃ (x8_2:List Int) (x23_2:Int),v23=.int .i64 x23_2∧Aside0 (spec_MeetClosures.l0 kq l2 x8_2 l1 (l1.length:Int) x23_2=some (r1,r2))∧Aside0 (kq≤kj3)∧Aside0 (Kd.R (Kd.int .i64) 3 w' w.heap.size (fun _=>True) v8 x8_2)∧Aside0 (Below w.heap.size w w'))
    case atStart=>exact ⟨(([]:List Int)),(0),(zsx8_2),H',⟨Nat.le_refl _⟩,⟨zsx8_4⟩,⟨zsx8_1⟩⟩
    case round =>
     clear H';(try clear c1);(try clear c2);(try clear p2);(try clear c4);(try clear c6);(try clear c8);(try clear c11);(try clear p2);obtain ⟨x8_2,x23_2,rfl,HA,HK2,HO_8,HB⟩:=hrel
     cases gk with
     | zero=>exact absurd HA.out (by simp [spec_MeetClosures.l0])
     | succ k2 =>
      have H:=HA.out;clear HA;simp only [spec_MeetClosures.l0] at H
      by_cases c12:x23_2 < (l1.length:Int)
      ·rw [if_pos c12] at H
       have c12b0:decide (x23_2 < (l1.length:Int))=true:=dT8 c12;clear c12
       by_cases c13:0≤x23_2
       ·rw [if_pos c13] at H
        have c13b0:decide (0≤x23_2)=true:=dT8 c13;clear c13
        by_cases c14:x23_2 < (l1.length:Int)
        ·rw [if_pos c14] at H
         have c14b0:decide (x23_2 < (l1.length:Int))=true:=dT8 c14;clear c14;replace H:=Option.bind_eq_some_iff.mp H;obtain ⟨t649,A150,H⟩:=H;(try dsimp only at H);have A15:=aM8 A150;clear A150
         by_cases c16:t649=true
         ·subst c16
          rw [if_pos rfl] at H;(try dsimp only at H)
          by_cases c17:x8_2.length < 17592186044416
          ·rw [if_pos c17] at H
           have LMc17:=aM8 c17;clear c17;obtain ⟨y650,hy650⟩:∃ y_:List Int,y_=(x8_2 ++ [rd l1 x23_2]):=⟨_,rfl⟩
           replace H:(spec_MeetClosures.l0 k2 l2 y650 l1 (l1.length:Int) (wrap64 (x23_2 + 1)))=some (r1,r2):=by first|(rw [hy650];with_reducible exact H)|(have H2_:=(Option.bind_some _ _).symm.trans H;rw [hy650];with_reducible exact H2_)|(have H2_:=(Option.bind_some _ _).symm.trans H;with_reducible exact H2_)|with_reducible exact H|(rw [hy650];exact H)|exact H
           have Ny650:=aM8 hy650;clear hy650;have H':=aM8 H;clear H;have p648:0≤(x23_2:Int):=oD8 (zsx8_5);have q648:x23_2 < (l1.length:Int):=oD8 (zsx8_5);obtain ⟨ad648,e648,hx648_0⟩:=Kd.at_int HR1.out x23_2 p648 q648
           cases e648
           replace hx648_0:=(HB.out.cell (World.block_lt_of_cell? w _ hx648_0)).trans hx648_0;replace p648:=eq_true p648;replace q648:=eq_true q648
           go_wp2_with (first|((with_reducible refine gate_callee (f:=63) rfl ?_);refine goesL_ (some 29) rfl rfl Try.func63 (by kernel_rfl) rfl #[.slice A2 l2.length c2,.int .i64 (rd l1 x23_2)] rfl (zsx8_0) ?_;(with_reducible refine (spec_l1Has.calls k2 _ _ l2 (rd l1 x23_2) true _ ?side1 ?side2 A15.out).mono ?_);(case side1=>exact zsx8_11);(case side2=>exact HC2.out);rintro e w' ⟨rfl,⟨nd,rfl⟩⟩;refine ⟨_,rfl,?_⟩)|((with_reducible refine gate_builtin (b:=.append) (xs:=#[.tmp 30,.tmp 32]) rfl ?_);at_builtin;refine Kd.R_append (Kd.int .i64) (w0:=w) w.heap.size rfl (.tmp 30) (.tmp 32) 33 3 (.int .i64 0) 8 rfl Try.underlying33 info3 rfl (by decide) (by omega) u8 x8_2 (rd l1 x23_2) [.int .i64 (rd l1 x23_2)] (fun _=>True) (fun _=>False) rfl rfl ?aP (fun _ hk=>hk.elim) ?aF ?aO ?aB ?aS ?aL ?_;(case aP=>exact rfl);(case aB=>exact (zsx8_1));(case aF=>exact (fun _ _=>trivial));(case aO=>exact (zsx8_6));(case aS=>exact (below_size (zsx8_1)));(case aL=>have:=LMc17.out;omega);intro v651 w18 ho hb hg hat;rw [← Ny650.out] at ho;have n0_:=aM8 (hb);have n1_:=aM8 (ho);clear HB HO_8;have HB:=n0_;have HO652:=n1_;clear n0_ n1_ ho hb hg hat))
           go_roundg k2
           case measure=>have:=HJ3.out;have:=HK2.out;omega
           case rel=>exact ⟨(y650),(wrap64 (x23_2 + 1)),(zsx8_2),H',⟨by have:=HJ3.out;have:=HK2.out;omega⟩,⟨by (with_reducible repeat (first|apply Kd.R_alloc|apply Kd.R_drewN|apply Kd.R_drew));exact HO652.out⟩,⟨zsx8_1⟩⟩
          ·rw [if_neg c17] at H
           exact absurd H (by simp)
         ·replace c16:=Bool.eq_false_iff.mpr c16
          subst c16;rw [if_neg (show ¬ (false=true) by decide)] at H;(try dsimp only at H);have H':=aM8 H;clear H;have p648:0≤(x23_2:Int):=oD8 (zsx8_5);have q648:x23_2 < (l1.length:Int):=oD8 (zsx8_5);obtain ⟨ad648,e648,hx648_0⟩:=Kd.at_int HR1.out x23_2 p648 q648
          cases e648
          replace hx648_0:=(HB.out.cell (World.block_lt_of_cell? w _ hx648_0)).trans hx648_0;replace p648:=eq_true p648;replace q648:=eq_true q648
          go_wp2_with (first|((with_reducible refine gate_callee (f:=63) rfl ?_);refine goesL_ (some 29) rfl rfl Try.func63 (by kernel_rfl) rfl #[.slice A2 l2.length c2,.int .i64 (rd l1 x23_2)] rfl (zsx8_0) ?_;(with_reducible refine (spec_l1Has.calls k2 _ _ l2 (rd l1 x23_2) false _ ?side1 ?side2 A15.out).mono ?_);(case side1=>exact zsx8_11);(case side2=>exact HC2.out);rintro e w' ⟨rfl,⟨nd,rfl⟩⟩;refine ⟨_,rfl,?_⟩))
          go_roundg k2
          case measure=>have:=HJ3.out;have:=HK2.out;omega
          case rel=>exact ⟨(x8_2),(wrap64 (x23_2 + 1)),(zsx8_2),H',⟨by have:=HJ3.out;have:=HK2.out;omega⟩,⟨zsx8_6⟩,⟨zsx8_1⟩⟩
        ·rw [if_neg c14] at H
         exact absurd H (by simp)
       ·rw [if_neg c13] at H
        exact absurd H (by simp)
      ·rw [if_neg c12] at H
       have c12b0:decide (x23_2 < (l1.length:Int))=false:=decide_eq_false c12;clear c12;simp only [Option.some.injEq,Prod.mk.injEq] at H;obtain ⟨rfl,rfl⟩:=H
       go_wp2
       go_ret2
       exact ⟨_,zsx8_3,zsx8_6,zsx8_1⟩
mutual
def spec_CountClosures.j0:Nat→List (List Int)→Bool→Option (Int × Bool)
 | 0,_,_=>none
 | k + 1,x0,x21=>if x21=true then (some (0,false)) else (if 0≤(x0.length:Int) then (if ((x0.length:Int):Int).toNat≤35184372088832 then (spec_CountClosures.l0 k x0 (List.replicate ((x0.length:Int):Int).toNat 0) x0 (x0.length:Int) 0) else (none)) else (none))
def spec_CountClosures.l0:Nat→List (List Int)→List Int→List (List Int)→Int→Int→Option (Int × Bool)
 | 0,_,_,_,_,_=>none
 | k + 1,x0,x4,x25,x26,x27=>if x27 < x26 then (if 0≤x27 then (if x27 < (x25.length:Int) then (spec_CountClosures.l1 k x0 x4 x27 x25 x26 x27 (rd_L1 x25 x27) ((rd_L1 x25 x27).length:Int) 0) else (none)) else (none)) else (spec_CountClosures.l2 k x0 x4 0 0)
def spec_CountClosures.l1:Nat→List (List Int)→List Int→Int→List (List Int)→Int→Int→List Int→Int→Int→Option (Int × Bool)
 | 0,_,_,_,_,_,_,_,_,_=>none
 | k + 1,x0,x4,x5,x25,x26,x27,x32,x33,x34=>if x34 < x33 then (if 0≤x34 then (if x34 < (x32.length:Int) then (if 0≤x5 then (if x5 < (x4.length:Int) then (if 0≤(IntKind.u64.wrap (rd x32 x34)) then (spec_CountClosures.l1 k x0 (x4.set (x5:Int).toNat (Go.bits .or .i64 (rd x4 x5) (shl .i64 1 (IntKind.u64.wrap (rd x32 x34))))) x5 x25 x26 x27 x32 x33 (wrap64 (x34 + 1))) else (none)) else (none)) else (none)) else (none)) else (none)) else (spec_CountClosures.l0 k x0 x4 x25 x26 (wrap64 (x27 + 1)))
def spec_CountClosures.l2:Nat→List (List Int)→List Int→Int→Int→Option (Int × Bool)
 | 0,_,_,_,_=>none
 | k + 1,x0,x4,x9,x10=>if 0≤(IntKind.u64.wrap ((x0.length:Int))) then (if x10 < (shl .i64 1 (IntKind.u64.wrap ((x0.length:Int)))) then (spec_CountClosures.l3 k x0 x4 x9 x10 true x4 (x4.length:Int) 0) else (some (x9,true))) else (none)
def spec_CountClosures.l3:Nat→List (List Int)→List Int→Int→Int→Bool→List Int→Int→Int→Option (Int × Bool)
 | 0,_,_,_,_,_,_,_,_=>none
 | k + 1,x0,x4,x9,x10,x11,x57,x58,x59=>if x59 < x58 then (if 0≤x59 then (if x59 < (x57.length:Int) then (if 0≤(IntKind.u64.wrap (x59)) then (if (Go.bits .and .i64 (shr .i64 x10 (IntKind.u64.wrap (x59))) 1)=1 then (if (Go.bits .and .i64 x10 (rd x57 x59))=(rd x57 x59) then (spec_CountClosures.l3 k x0 x4 x9 x10 x11 x57 x58 (wrap64 (x59 + 1))) else (spec_CountClosures.l2 k x0 x4 x9 (wrap64 (x10 + 1)))) else (spec_CountClosures.l3 k x0 x4 x9 x10 x11 x57 x58 (wrap64 (x59 + 1)))) else (none)) else (none)) else (none)) else (if x11=true then (spec_CountClosures.l2 k x0 x4 (wrap64 (x9 + 1)) (wrap64 (x10 + 1))) else (spec_CountClosures.l2 k x0 x4 x9 (wrap64 (x10 + 1))))
end
def spec_CountClosures.f (k:Nat) (l0:List (List Int)):Option (Int × Bool):=(spec_clArcs.f k l0).bind fun t107=>(if t107=true then (spec_CountClosures.j0 k l0 (decide ((l0.length:Int) > 20))) else (spec_CountClosures.j0 k l0 true))
set_option maxHeartbeats 8000000 in
set_option maxRecDepth 100000 in
theorem spec_CountClosures.calls (k:Nat) (A0:Option Addr) (c0:Nat) (l0:List (List Int)) (r1:Int) (r2:Bool) (w:World) (hr0:Kd.C (Kd.slice 3 (Kd.int .i64)) w A0 l0.length l0) (hc0:l0.length≤c0) (h:spec_CountClosures.f k l0=some (r1,r2)) :
  Calls Try.prog 7 #[.slice A0 l0.length c0] w fun e w'=>e=.returned (.tuple #[.int .i64 r1,.bool r2])∧Below w.heap.size w w':=by
 have HR0:=aM8 hr0;have HC0:=aM8 hc0;clear hr0 hc0;have HB:=aM8 (Below.refl w.heap.size w);have H:((spec_clArcs.f k l0).bind fun t107=>(if t107=true then (spec_CountClosures.j0 k l0 (decide ((l0.length:Int) > 20))) else (spec_CountClosures.j0 k l0 true)))=some (r1,r2):=h;clear h;have HC2:=aM8 H;clear H;go_enter Try.func7,Try.ntmps7
 go_upto_region 1 with (fail)
 go_cut [21] (fun v21 wc=>∃ (kq:Nat) (x21_1:Bool),v21=.bool x21_1∧Aside0 (spec_CountClosures.j0 kq l0 x21_1=some (r1,r2))∧Aside0 (kq≤k)∧Aside0 (Below w.heap.size w wc))
 case first =>
  have H:=HC2.out;clear HC2;replace H:=Option.bind_eq_some_iff.mp H;obtain ⟨t107,A30,H⟩:=H;(try dsimp only at H);have A3:=aM8 A30;clear A30
  by_cases c4:t107=true
  ·subst c4
   rw [if_pos rfl] at H;(try dsimp only at H);have H':=aM8 H;clear H
   go_wp2_with (first|((with_reducible refine gate_callee (f:=47) rfl ?_);refine goesL_ (some 15) rfl rfl Try.func47 (by kernel_rfl) rfl #[.slice A0 l0.length c0] rfl (zsx8_0) ?_;(with_reducible refine (spec_clArcs.calls k _ _ l0 true _ ?side1 ?side2 A3.out).mono ?_);(case side1=>exact zsx8_9);(case side2=>exact HC0.out);rintro e w' ⟨rfl,⟨nd,rfl⟩⟩;refine ⟨_,rfl,?_⟩))
   go_meet
   case rel=>exact ⟨_,(decide ((l0.length:Int) > 20)),(zsx8_2),H',⟨by first|omega|exact Nat.le_refl _⟩,⟨zsx8_1⟩⟩
  ·replace c4:=Bool.eq_false_iff.mpr c4
   subst c4;rw [if_neg (show ¬ (false=true) by decide)] at H;(try dsimp only at H);have H':=aM8 H;clear H
   go_wp2_with (first|((with_reducible refine gate_callee (f:=47) rfl ?_);refine goesL_ (some 15) rfl rfl Try.func47 (by kernel_rfl) rfl #[.slice A0 l0.length c0] rfl (zsx8_0) ?_;(with_reducible refine (spec_clArcs.calls k _ _ l0 false _ ?side1 ?side2 A3.out).mono ?_);(case side1=>exact zsx8_9);(case side2=>exact HC0.out);rintro e w' ⟨rfl,⟨nd,rfl⟩⟩;refine ⟨_,rfl,?_⟩))
   go_meet
   case rel=>exact ⟨_,(true),(zsx8_2),H',⟨by first|omega|exact Nat.le_refl _⟩,⟨zsx8_1⟩⟩
 case rest =>
  clear HC2;(try clear p2);(try clear c4);obtain ⟨kq,x21_1,rfl,HA,HJ1,HB⟩:=hcut
  cases kq with
  | zero=>exact absurd HA.out (by simp [spec_CountClosures.j0])
  | succ kj1 =>
   have H:=HA.out;clear HA;simp only [spec_CountClosures.j0] at H
   by_cases c5:x21_1=true
   ·subst c5
    rw [if_pos rfl] at H;(try dsimp only at H);simp only [Option.some.injEq,Prod.mk.injEq] at H;obtain ⟨rfl,rfl⟩:=H
    go_wp2
    go_ret2
    exact ⟨zsx8_3,zsx8_1⟩
   ·replace c5:=Bool.eq_false_iff.mpr c5
    subst c5;rw [if_neg (show ¬ (false=true) by decide)] at H;(try dsimp only at H)
    by_cases c6:0≤(l0.length:Int)
    ·rw [if_pos c6] at H
     have c6b0:=eq_true c6;have c6b1:decide (0≤(l0.length:Int))=true:=dT8 c6;clear c6
     by_cases c7:((l0.length:Int):Int).toNat≤35184372088832
     ·rw [if_pos c7] at H
      have c7b0:=eq_true c7;have c7b1:decide (((l0.length:Int):Int).toNat≤35184372088832)=true:=dT8 c7;clear c7;obtain ⟨y108,hy108⟩:∃ y_:List Int,y_=(List.replicate ((l0.length:Int):Int).toNat 0):=⟨_,rfl⟩
      replace H:(spec_CountClosures.l0 kj1 l0 y108 l0 (l0.length:Int) 0)=some (r1,r2):=by first|(rw [hy108];with_reducible exact H)|(have H2_:=(Option.bind_some _ _).symm.trans H;rw [hy108];with_reducible exact H2_)|(have H2_:=(Option.bind_some _ _).symm.trans H;with_reducible exact H2_)|with_reducible exact H|(rw [hy108];exact H)|exact H
      have Ny108:=aM8 hy108;clear hy108;have H':=aM8 H;clear H
      go_wp2_with (first|((with_reducible refine gate_dst (N:=24) rfl ?_);(try (refine gate_guard (by rfl) ?_;dsimp only));refine Kd.R_make (Kd.int .i64) _ 3 rfl (N:=24) rfl 33 _ _ rfl (l0.length:Int) rfl rfl Try.underlying33 (.int .i64 0) 8 info3 rfl (by decide) (by omega) 0 (ok:=fun _=>True) (okp:=fun _=>True) rfl (fun _ hk=>hk) trivial (oD8 (zsx8_5)) (Nat.le_trans (Nat.mul_le_mul_right _ (oD8 (zsx8_5):(l0.length:Int).toNat≤35184372088832)) (by omega)) (Below.refl _ _) (Nat.le_refl _) ?_;intro v109 w8 ho9 hb hg_ hnew_;clear hg_ hnew_;(first|rw [← Ny108.out] at ho9|(simp only [Int.reduceToNat] at ho9;rw [← Ny108.out] at ho9));have n0_:=aM8 (Kd.R_lower ho9 (below_size (zsx8_1)));have n1_:=aM8 (below_step (zsx8_1) hb);clear HB;have HO110:=n0_;have HB:=n1_;clear n0_ n1_ hb ho9))
      go_loopg [27] kj1 (fun kq v27 w'=>∃ (x4_2:List Int) (x27_2:Int),v27=.int .i64 x27_2∧Aside0 (spec_CountClosures.l0 kq l0 x4_2 l0 (l0.length:Int) x27_2=some (r1,r2))∧Aside0 (kq≤kj1)∧Aside0 (Kd.R (Kd.int .i64) 3 w' w.heap.size (fun _=>True) v109 x4_2)∧Aside0 (Below w.heap.size w w'))
      case atStart=>exact ⟨(y108),(0),(zsx8_2),H',⟨Nat.le_refl _⟩,⟨by (with_reducible repeat (first|apply Kd.R_alloc|apply Kd.R_drewN|apply Kd.R_drew));exact HO110.out⟩,⟨zsx8_1⟩⟩
      case round =>
       clear H';(try clear p2);(try clear c4);(try clear c5);(try clear c6);(try clear c6b0);(try clear c6b1);(try clear c7);(try clear c7b0);(try clear c7b1);(try clear p2);obtain ⟨x4_2,x27_2,rfl,HA,HK2,HO_4,HB⟩:=hrel
       cases gk with
       | zero=>exact absurd HA.out (by simp [spec_CountClosures.l0])
       | succ k2 =>
        have H:=HA.out;clear HA;simp only [spec_CountClosures.l0] at H
        by_cases c10:x27_2 < (l0.length:Int)
        ·rw [if_pos c10] at H
         have c10b0:decide (x27_2 < (l0.length:Int))=true:=dT8 c10;clear c10
         by_cases c11:0≤x27_2
         ·rw [if_pos c11] at H
          have c11b0:decide (0≤x27_2)=true:=dT8 c11;clear c11
          by_cases c12:x27_2 < (l0.length:Int)
          ·rw [if_pos c12] at H
           have c12b0:decide (x27_2 < (l0.length:Int))=true:=dT8 c12;clear c12;have H':=aM8 H;clear H;have p111:0≤(x27_2:Int):=oD8 (zsx8_5);have q111:x27_2 < (l0.length:Int):=oD8 (zsx8_5);obtain ⟨ad111,A111_0,c111_0,e111,hx111_0,hl111_0,hi111_0⟩:=at_L1 HR0.out x27_2 p111 q111
           cases e111
           replace hx111_0:=(HB.out.cell (World.block_lt_of_cell? w _ hx111_0)).trans hx111_0;have HR111_0:=aM8 hi111_0;have HC111_0:=aM8 hl111_0;clear hi111_0 hl111_0;replace p111:=eq_true p111;replace q111:=eq_true q111
           go_wp2
           go_loopg [34] k2 (fun kq v34 w'=>∃ (x4_3:List Int) (x34_3:Int),v34=.int .i64 x34_3∧Aside0 (spec_CountClosures.l1 kq l0 x4_3 x27_2 l0 (l0.length:Int) x27_2 (rd_L1 l0 x27_2) ((rd_L1 l0 x27_2).length:Int) x34_3=some (r1,r2))∧Aside0 (kq≤k2)∧Aside0 (Kd.R (Kd.int .i64) 3 w' w.heap.size (fun _=>True) v109 x4_3)∧Aside0 (Below w.heap.size w w'))
           case atStart=>exact ⟨(x4_2),(0),(zsx8_2),H',⟨Nat.le_refl _⟩,⟨zsx8_7⟩,⟨zsx8_1⟩⟩
           case round =>
            clear H';(try clear c1);(try clear p1);(try clear q1);(try clear hx1);(try clear p2);(try clear c4);(try clear c5);(try clear c6);(try clear c6b0);(try clear c6b1);(try clear c7);(try clear c7b0);(try clear c7b1);(try clear c10);(try clear c10b0);(try clear c11);(try clear c11b0);(try clear p11);(try clear q11);(try clear hx11);(try clear c12);(try clear c12b0);(try clear hx111_0);(try clear p111);(try clear p2);(try clear q111);obtain ⟨x4_3,x34_3,rfl,HA,HK3,HO_4,HB⟩:=hrel
            cases gk with
            | zero=>exact absurd HA.out (by simp [spec_CountClosures.l1])
            | succ k3 =>
             have H:=HA.out;clear HA;simp only [spec_CountClosures.l1] at H
             by_cases c13:x34_3 < ((rd_L1 l0 x27_2).length:Int)
             ·rw [if_pos c13] at H
              have c13b0:decide (x34_3 < ((rd_L1 l0 x27_2).length:Int))=true:=dT8 c13;clear c13
              by_cases c14:0≤x34_3
              ·rw [if_pos c14] at H
               have c14b0:decide (0≤x34_3)=true:=dT8 c14;clear c14
               by_cases c15:x34_3 < ((rd_L1 l0 x27_2).length:Int)
               ·rw [if_pos c15] at H
                have c15b0:decide (x34_3 < ((rd_L1 l0 x27_2).length:Int))=true:=dT8 c15;clear c15
                by_cases c16:0≤x27_2
                ·rw [if_pos c16] at H
                 have c16b0:decide (0≤x27_2)=true:=dT8 c16;clear c16
                 by_cases c17:x27_2 < (x4_3.length:Int)
                 ·rw [if_pos c17] at H
                  have c17b0:decide (x27_2 < (x4_3.length:Int))=true:=dT8 c17;clear c17;obtain ⟨ji18,hji18⟩:∃ j_:Int,(IntKind.u64.wrap (rd (rd_L1 l0 x27_2) x34_3))=j_:=⟨_,rfl⟩
                  replace H:(if 0≤(ji18) then (spec_CountClosures.l1 k3 l0 (x4_3.set (x27_2:Int).toNat (Go.bits .or .i64 (rd x4_3 x27_2) (shl .i64 1 (ji18)))) x27_2 l0 (l0.length:Int) x27_2 (rd_L1 l0 x27_2) ((rd_L1 l0 x27_2).length:Int) (wrap64 (x34_3 + 1))) else (none))=some (r1,r2):=by first|(rw [hji18] at H;exact H)|(simp only [hji18] at H ⊢;exact H)
                  by_cases c19:0≤(ji18)
                  ·rw [if_pos c19] at H
                   have c19b0:=eq_true c19;have c19b1:decide (0≤(ji18))=true:=dT8 c19;clear c19;obtain ⟨ji20,hji20⟩:∃ j_:Int,(shl .i64 1 (ji18))=j_:=⟨_,rfl⟩
                   replace H:(spec_CountClosures.l1 k3 l0 (x4_3.set (x27_2:Int).toNat (Go.bits .or .i64 (rd x4_3 x27_2) (ji20))) x27_2 l0 (l0.length:Int) x27_2 (rd_L1 l0 x27_2) ((rd_L1 l0 x27_2).length:Int) (wrap64 (x34_3 + 1)))=some (r1,r2):=by first|(rw [hji20] at H;exact H)|(simp only [hji20] at H ⊢;exact H)
                   have hji20_:(IntKind.i64.wrap (1 * 2 ^ min (ji18).toNat 64))=ji20:=hji20;have hji20z:(ji18)≤64→(IntKind.i64.wrap (1 * 2 ^ (ji18).toNat))=ji20:=shl_small hji20
                   have hji20u:(IntKind.i64.wrap (2 ^ min (ji18).toNat 64))=ji20:=by have h_:=hji20_;rw [Int.one_mul] at h_;exact h_
                   have hji20v:(ji18)≤64→(IntKind.i64.wrap (2 ^ (ji18).toNat))=ji20:=fun hle_=>by have h_:=hji20z hle_;rw [Int.one_mul] at h_;exact h_
                   have hji20y:(wrap64 (1 * 2 ^ min (ji18).toNat 64))=ji20:=(i64_w _).symm.trans hji20_
                   have hji20x:(ji18)≤64→(wrap64 (1 * 2 ^ (ji18).toNat))=ji20:=fun h_=>(i64_w _).symm.trans (hji20z h_)
                   obtain ⟨y114,hy114⟩:∃ y_:List Int,y_=(x4_3.set (x27_2:Int).toNat (Go.bits .or .i64 (rd x4_3 x27_2) (ji20))):=⟨_,rfl⟩
                   replace H:(spec_CountClosures.l1 k3 l0 y114 x27_2 l0 (l0.length:Int) x27_2 (rd_L1 l0 x27_2) ((rd_L1 l0 x27_2).length:Int) (wrap64 (x34_3 + 1)))=some (r1,r2):=by first|(rw [hy114];with_reducible exact H)|(have H2_:=(Option.bind_some _ _).symm.trans H;rw [hy114];with_reducible exact H2_)|(have H2_:=(Option.bind_some _ _).symm.trans H;with_reducible exact H2_)|with_reducible exact H|(rw [hy114];exact H)|exact H
                   have Ny114:=aM8 hy114;clear hy114;have H':=aM8 H;clear H;have p112:0≤(x34_3:Int):=oD8 (zsx8_5);have q112:x34_3 < ((rd_L1 l0 x27_2).length:Int):=oD8 (zsx8_5);obtain ⟨ad112,e112,hx112_0⟩:=Kd.at_int HR111_0.out x34_3 p112 q112
                   cases e112
                   replace hx112_0:=(HB.out.cell (World.block_lt_of_cell? w _ hx112_0)).trans hx112_0;replace p112:=eq_true p112;replace q112:=eq_true q112;obtain ⟨Ao22,co22,eo22⟩:=Kd.R_slice HO_4.out;subst eo22;have p113:0≤(x27_2:Int):=oD8 (zsx8_5);have q113:x27_2 < (x4_3.length:Int):=oD8 (zsx8_5);obtain ⟨ad113,e113,hx113_0⟩:=Kd.at_int (Kd.R_reads' HO_4.out).2.2 x27_2 p113 q113
                   cases e113
                   replace p113:=eq_true p113;replace q113:=eq_true q113;have p21:0≤(x27_2:Int):=oD8 (zsx8_5);have q21:(x27_2:Int) < ((x4_3.length:Int):Int):=oD8 (zsx8_5);obtain ⟨go21,co21,eo21,gb21,gl21,cl21,HG21⟩:=Kd.R_form HO_4.out (by omega)
                   (first|cases eo21|(injection eo21 with ea_ en_ ec_;(first|subst ea_|(injection ea_ with ea_;subst ea_));subst ec_;clear en_))
                   have GB21:=aM8 gb21;have GG21:=aM8 HG21;clear gb21 gl21 HG21
                   (first|simp only [add_plain] at hx113_0|skip)
                   obtain ⟨hx21_0,hf21_0⟩:=Kd.R_celln 0 HO_4.out (x27_2:Int) p21 q21;replace p21:=eq_true p21;replace q21:=eq_true q21;have HP23:=Kd.R_putg HO_4.out (x27_2:Int) (Go.bits .or .i64 (rd x4_3 x27_2) (ji20))
                   go_wp2_with (first|((with_reducible refine gate_store (t:=3) (p:=46) rfl ?_);refine store_event (t:=3) (p:=46) (v:=?vo_w24) (w1:=(wr.setCell ⟨go21,(x27_2:Int).toNat,none⟩ (.int .i64 (Go.bits .or .i64 (rd x4_3 x27_2) (ji20))))) ?hg ?ho ?hn ?hr ?_;(case ho=>rfl);(case hg=>rfl);(case hn=>rfl);(case hr=>first|(go_simp;done)|(go_simp;rfl));intro w24 hw;have hg:wr.grownBy w24 (some go21):=(by rw [hw];exact HP23.2);have hp_:Kd.R (Kd.int .i64) 3 w24 w.heap.size (fun _=>True) (.slice (some ⟨go21,0,none⟩) x4_3.length co22) y114:=(by rw [hw,Ny114.out];exact HP23.1);clear HP23;have n0_:=aM8 (hp_);have n1_:=aM8 ((by rw [hw];exact below_set (HB.out) GB21.out:Below w.heap.size w w24));clear HO_4 HB;have HO_4:=n0_;have HB:=n1_;clear n0_ n1_ hg hw hp_))
                   go_roundg k3
                   case measure=>have:=HJ1.out;have:=HK2.out;have:=HK3.out;omega
                   case rel=>exact ⟨(y114),(wrap64 (x34_3 + 1)),(zsx8_2),H',⟨by have:=HJ1.out;have:=HK2.out;have:=HK3.out;omega⟩,⟨zsx8_7⟩,⟨zsx8_1⟩⟩
                  ·rw [if_neg c19] at H
                   exact absurd H (by simp)
                 ·rw [if_neg c17] at H
                  exact absurd H (by simp)
                ·rw [if_neg c16] at H
                 exact absurd H (by simp)
               ·rw [if_neg c15] at H
                exact absurd H (by simp)
              ·rw [if_neg c14] at H
               exact absurd H (by simp)
             ·rw [if_neg c13] at H
              have c13b0:decide (x34_3 < ((rd_L1 l0 x27_2).length:Int))=false:=decide_eq_false c13;clear c13;have H':=aM8 H;clear H
              go_wp2
              go_roundg k3
              case measure=>have:=HJ1.out;have:=HK2.out;have:=HK3.out;omega
              case rel=>exact ⟨(x4_3),(wrap64 (x27_2 + 1)),(zsx8_2),H',⟨by have:=HJ1.out;have:=HK2.out;have:=HK3.out;omega⟩,⟨zsx8_7⟩,⟨zsx8_1⟩⟩
          ·rw [if_neg c12] at H
           exact absurd H (by simp)
         ·rw [if_neg c11] at H
          exact absurd H (by simp)
        ·rw [if_neg c10] at H
         have c10b0:decide (x27_2 < (l0.length:Int))=false:=decide_eq_false c10;clear c10;have H':=aM8 H;clear H
         go_wp2
         go_loopg [9,10] k2 (fun kq v9 v10 w'=>∃ (x9_3:Int) (x10_3:Int),v9=.int .i64 x9_3∧v10=.int .i64 x10_3∧Aside0 (spec_CountClosures.l2 kq l0 x4_2 x9_3 x10_3=some (r1,r2))∧Aside0 (kq≤k2)∧Aside0 (Kd.R (Kd.int .i64) 3 w' w.heap.size (fun _=>True) v109 x4_2)∧Aside0 (Below w.heap.size w w'))
         case atStart=>exact ⟨(0),(0),(zsx8_2),(zsx8_2),H',⟨Nat.le_refl _⟩,⟨zsx8_7⟩,⟨zsx8_1⟩⟩
         case round =>
          clear H';(try clear c1);(try clear p1);(try clear q1);(try clear hx1);(try clear p2);(try clear q2);(try clear hx2);(try clear hf2);(try clear c4);(try clear c5);(try clear c6);(try clear c6b0);(try clear c6b1);(try clear p6);(try clear c7);(try clear c7b0);(try clear c7b1);(try clear c10);(try clear c10b0);(try clear c11);(try clear c11b0);(try clear p11);(try clear q11);(try clear hx11);(try clear c12);(try clear c12b0);(try clear c13);(try clear c13b0);(try clear c14);(try clear c14b0);(try clear c15);(try clear c15b0);(try clear c16);(try clear c16b0);(try clear c17);(try clear c17b0);(try clear c19);(try clear c19b0);(try clear c19b1);(try clear p21);(try clear q21);(try clear hx21);(try clear hf21);(try clear hx111_0);(try clear hx112_0);(try clear hx113_0);(try clear hx21_0);(try clear p1);(try clear p11);(try clear p111);(try clear p112);(try clear p113);(try clear p2);(try clear p21);(try clear q1);(try clear q11);(try clear q111);(try clear q112);(try clear q113);(try clear q21);obtain ⟨x9_3,x10_3,rfl,rfl,HA,HK3,HO_4,HB⟩:=hrel
          cases gk with
          | zero=>exact absurd HA.out (by simp [spec_CountClosures.l2])
          | succ k3 =>
           have H:=HA.out;clear HA;simp only [spec_CountClosures.l2] at H;obtain ⟨ji25,hji25⟩:∃ j_:Int,(IntKind.u64.wrap ((l0.length:Int)))=j_:=⟨_,rfl⟩
           replace H:(if 0≤(ji25) then (if x10_3 < (shl .i64 1 (ji25)) then (spec_CountClosures.l3 k3 l0 x4_2 x9_3 x10_3 true x4_2 (x4_2.length:Int) 0) else (some (x9_3,true))) else (none))=some (r1,r2):=by first|(rw [hji25] at H;exact H)|(simp only [hji25] at H ⊢;exact H)
           by_cases c26:0≤(ji25)
           ·rw [if_pos c26] at H
            have c26b0:=eq_true c26;have c26b1:decide (0≤(ji25))=true:=dT8 c26;clear c26;obtain ⟨ji27,hji27⟩:∃ j_:Int,(shl .i64 1 (ji25))=j_:=⟨_,rfl⟩
            replace H:(if x10_3 < (ji27) then (spec_CountClosures.l3 k3 l0 x4_2 x9_3 x10_3 true x4_2 (x4_2.length:Int) 0) else (some (x9_3,true)))=some (r1,r2):=by first|(rw [hji27] at H;exact H)|(simp only [hji27] at H ⊢;exact H)
            have hji27_:(IntKind.i64.wrap (1 * 2 ^ min (ji25).toNat 64))=ji27:=hji27;have hji27z:(ji25)≤64→(IntKind.i64.wrap (1 * 2 ^ (ji25).toNat))=ji27:=shl_small hji27
            have hji27u:(IntKind.i64.wrap (2 ^ min (ji25).toNat 64))=ji27:=by have h_:=hji27_;rw [Int.one_mul] at h_;exact h_
            have hji27v:(ji25)≤64→(IntKind.i64.wrap (2 ^ (ji25).toNat))=ji27:=fun hle_=>by have h_:=hji27z hle_;rw [Int.one_mul] at h_;exact h_
            have hji27y:(wrap64 (1 * 2 ^ min (ji25).toNat 64))=ji27:=(i64_w _).symm.trans hji27_
            have hji27x:(ji25)≤64→(wrap64 (1 * 2 ^ (ji25).toNat))=ji27:=fun h_=>(i64_w _).symm.trans (hji27z h_)
            by_cases c28:x10_3 < (ji27)
            ·rw [if_pos c28] at H
             have c28b0:decide (x10_3 < (ji27))=true:=dT8 c28;clear c28;have H':=aM8 H;clear H;obtain ⟨Ao29,co29,eo29⟩:=Kd.R_slice HO_4.out;subst eo29
             go_wp2
             go_loopg [11,59] k3 (fun kq v11 v59 w'=>∃ (x11_4:Bool) (x59_4:Int),v11=.bool x11_4∧v59=.int .i64 x59_4∧Aside0 (spec_CountClosures.l3 kq l0 x4_2 x9_3 x10_3 x11_4 x4_2 (x4_2.length:Int) x59_4=some (r1,r2))∧Aside0 (kq≤k3)∧Aside0 (Kd.R (Kd.int .i64) 3 w' w.heap.size (fun _=>True) (.slice Ao29 x4_2.length co29) x4_2)∧Aside0 (Kd.R (Kd.int .i64) 3 w' w.heap.size (fun _=>True) (.slice Ao29 x4_2.length co29) x4_2)∧Aside0 (Below w.heap.size w w'))
             case atStart=>exact ⟨(true),(0),(zsx8_2),(zsx8_2),H',⟨Nat.le_refl _⟩,⟨zsx8_7⟩,⟨zsx8_7⟩,⟨zsx8_1⟩⟩
             case round =>
              clear H';(try clear c1);(try clear p1);(try clear q1);(try clear hx1);(try clear c2);(try clear p2);(try clear q2);(try clear hx2);(try clear hf2);(try clear c4);(try clear c5);(try clear c6);(try clear c6b0);(try clear c6b1);(try clear p6);(try clear c7);(try clear c7b0);(try clear c7b1);(try clear c10);(try clear c10b0);(try clear c11);(try clear c11b0);(try clear p11);(try clear q11);(try clear hx11);(try clear c12);(try clear c12b0);(try clear c13);(try clear c13b0);(try clear c14);(try clear c14b0);(try clear c15);(try clear c15b0);(try clear c16);(try clear c16b0);(try clear c17);(try clear c17b0);(try clear c19);(try clear c19b0);(try clear c19b1);(try clear p21);(try clear q21);(try clear hx21);(try clear hf21);(try clear c26);(try clear c26b0);(try clear c26b1);(try clear c28);(try clear c28b0);(try clear hx111_0);(try clear hx112_0);(try clear hx113_0);(try clear hx21_0);(try clear p1);(try clear p11);(try clear p111);(try clear p112);(try clear p113);(try clear p2);(try clear p21);(try clear p6);(try clear q1);(try clear q11);(try clear q111);(try clear q112);(try clear q113);(try clear q2);(try clear q21);obtain ⟨x11_4,x59_4,rfl,rfl,HA,HK4,HO_4,HO_57,HB⟩:=hrel
              cases gk with
              | zero=>exact absurd HA.out (by simp [spec_CountClosures.l3])
              | succ k4 =>
               have H:=HA.out;clear HA;simp only [spec_CountClosures.l3] at H
               by_cases c30:x59_4 < (x4_2.length:Int)
               ·rw [if_pos c30] at H
                have c30b0:decide (x59_4 < (x4_2.length:Int))=true:=dT8 c30;clear c30
                by_cases c31:0≤x59_4
                ·rw [if_pos c31] at H
                 have c31b0:decide (0≤x59_4)=true:=dT8 c31;clear c31
                 by_cases c32:x59_4 < (x4_2.length:Int)
                 ·rw [if_pos c32] at H
                  have c32b0:decide (x59_4 < (x4_2.length:Int))=true:=dT8 c32;clear c32;obtain ⟨ji33,hji33⟩:∃ j_:Int,(IntKind.u64.wrap (x59_4))=j_:=⟨_,rfl⟩
                  replace H:(if 0≤(ji33) then (if (Go.bits .and .i64 (shr .i64 x10_3 (ji33)) 1)=1 then (if (Go.bits .and .i64 x10_3 (rd x4_2 x59_4))=(rd x4_2 x59_4) then (spec_CountClosures.l3 k4 l0 x4_2 x9_3 x10_3 x11_4 x4_2 (x4_2.length:Int) (wrap64 (x59_4 + 1))) else (spec_CountClosures.l2 k4 l0 x4_2 x9_3 (wrap64 (x10_3 + 1)))) else (spec_CountClosures.l3 k4 l0 x4_2 x9_3 x10_3 x11_4 x4_2 (x4_2.length:Int) (wrap64 (x59_4 + 1)))) else (none))=some (r1,r2):=by first|(rw [hji33] at H;exact H)|(simp only [hji33] at H ⊢;exact H)
                  by_cases c34:0≤(ji33)
                  ·rw [if_pos c34] at H
                   have c34b0:=eq_true c34;have c34b1:decide (0≤(ji33))=true:=dT8 c34;clear c34;obtain ⟨ji35,hji35⟩:∃ j_:Int,(shr .i64 x10_3 (ji33))=j_:=⟨_,rfl⟩
                   replace H:(if (Go.bits .and .i64 (ji35) 1)=1 then (if (Go.bits .and .i64 x10_3 (rd x4_2 x59_4))=(rd x4_2 x59_4) then (spec_CountClosures.l3 k4 l0 x4_2 x9_3 x10_3 x11_4 x4_2 (x4_2.length:Int) (wrap64 (x59_4 + 1))) else (spec_CountClosures.l2 k4 l0 x4_2 x9_3 (wrap64 (x10_3 + 1)))) else (spec_CountClosures.l3 k4 l0 x4_2 x9_3 x10_3 x11_4 x4_2 (x4_2.length:Int) (wrap64 (x59_4 + 1))))=some (r1,r2):=by first|(rw [hji35] at H;exact H)|(simp only [hji35] at H ⊢;exact H)
                   have hji35_:(x10_3 / 2 ^ min (ji33).toNat 64)=ji35:=hji35;have hji35z:(ji33)≤64→(x10_3 / 2 ^ (ji33).toNat)=ji35:=shr_small hji35
                   by_cases c36:(Go.bits .and .i64 (ji35) 1)=1
                   ·rw [if_pos c36] at H
                    have c36b0:((Go.bits .and .i64 (ji35) 1) == 1)=true:=beq_iff_eq.mpr c36;have c36b1:((Go.bits .and .i64 (ji35) 1) != 1)=false:=bne_eq_false_iff_eq.mpr c36;clear c36
                    by_cases c37:(Go.bits .and .i64 x10_3 (rd x4_2 x59_4))=(rd x4_2 x59_4)
                    ·rw [if_pos c37] at H
                     have c37b0:((Go.bits .and .i64 x10_3 (rd x4_2 x59_4)) == (rd x4_2 x59_4))=true:=beq_iff_eq.mpr c37;have c37b1:((Go.bits .and .i64 x10_3 (rd x4_2 x59_4)) != (rd x4_2 x59_4))=false:=bne_eq_false_iff_eq.mpr c37;clear c37;have H':=aM8 H;clear H;have p115:0≤(x59_4:Int):=oD8 (zsx8_5);have q115:x59_4 < (x4_2.length:Int):=oD8 (zsx8_5);obtain ⟨ad115,e115,hx115_0⟩:=Kd.at_int (Kd.R_reads' HO_57.out).2.2 x59_4 p115 q115
                     cases e115
                     replace p115:=eq_true p115;replace q115:=eq_true q115
                     go_wp2
                     go_roundg k4
                     case measure=>have:=HJ1.out;have:=HK2.out;have:=HK3.out;have:=HK4.out;omega
                     case rel=>exact ⟨(x11_4),(wrap64 (x59_4 + 1)),(zsx8_2),(zsx8_2),H',⟨zsx8_8⟩,⟨zsx8_7⟩,⟨by (with_reducible repeat (first|apply Kd.R_alloc|apply Kd.R_drewN|apply Kd.R_drew));exact HO_57.out⟩,⟨zsx8_1⟩⟩
                    ·rw [if_neg c37] at H
                     have c37b0:((Go.bits .and .i64 x10_3 (rd x4_2 x59_4)) == (rd x4_2 x59_4))=false:=beq_eq_false_iff_ne.mpr c37;have c37b1:((Go.bits .and .i64 x10_3 (rd x4_2 x59_4)) != (rd x4_2 x59_4))=true:=bne_iff_ne.mpr c37;have H':=aM8 H;clear H;have p115:0≤(x59_4:Int):=oD8 (zsx8_5);have q115:x59_4 < (x4_2.length:Int):=oD8 (zsx8_5);obtain ⟨ad115,e115,hx115_0⟩:=Kd.at_int (Kd.R_reads' HO_57.out).2.2 x59_4 p115 q115
                     cases e115
                     replace p115:=eq_true p115;replace q115:=eq_true q115
                     go_wp2
                     go_roundg k4
                     case measure=>have:=HJ1.out;have:=HK2.out;have:=HK3.out;have:=HK4.out;omega
                     case rel=>exact ⟨(x9_3),(wrap64 (x10_3 + 1)),(zsx8_2),(zsx8_2),H',⟨zsx8_8⟩,⟨zsx8_7⟩,⟨zsx8_1⟩⟩
                   ·rw [if_neg c36] at H
                    have c36b0:((Go.bits .and .i64 (ji35) 1) == 1)=false:=beq_eq_false_iff_ne.mpr c36;have c36b1:((Go.bits .and .i64 (ji35) 1) != 1)=true:=bne_iff_ne.mpr c36;have H':=aM8 H;clear H;have p115:0≤(x59_4:Int):=oD8 (zsx8_5);have q115:x59_4 < (x4_2.length:Int):=oD8 (zsx8_5);obtain ⟨ad115,e115,hx115_0⟩:=Kd.at_int (Kd.R_reads' HO_57.out).2.2 x59_4 p115 q115
                    cases e115
                    replace p115:=eq_true p115;replace q115:=eq_true q115
                    go_wp2
                    go_roundg k4
                    case measure=>have:=HJ1.out;have:=HK2.out;have:=HK3.out;have:=HK4.out;omega
                    case rel=>exact ⟨(x11_4),(wrap64 (x59_4 + 1)),(zsx8_2),(zsx8_2),H',⟨zsx8_8⟩,⟨zsx8_7⟩,⟨by (with_reducible repeat (first|apply Kd.R_alloc|apply Kd.R_drewN|apply Kd.R_drew));exact HO_57.out⟩,⟨zsx8_1⟩⟩
                  ·rw [if_neg c34] at H
                   exact absurd H (by simp)
                 ·rw [if_neg c32] at H
                  exact absurd H (by simp)
                ·rw [if_neg c31] at H
                 exact absurd H (by simp)
               ·rw [if_neg c30] at H
                have c30b0:decide (x59_4 < (x4_2.length:Int))=false:=decide_eq_false c30;clear c30
                by_cases c38:x11_4=true
                ·subst c38
                 rw [if_pos rfl] at H;(try dsimp only at H);have H':=aM8 H;clear H
                 go_wp2
                 go_roundg k4
                 case measure=>have:=HJ1.out;have:=HK2.out;have:=HK3.out;have:=HK4.out;omega
                 case rel=>exact ⟨(wrap64 (x9_3 + 1)),(wrap64 (x10_3 + 1)),(zsx8_2),(zsx8_2),H',⟨zsx8_8⟩,⟨zsx8_7⟩,⟨zsx8_1⟩⟩
                ·replace c38:=Bool.eq_false_iff.mpr c38
                 subst c38;rw [if_neg (show ¬ (false=true) by decide)] at H;(try dsimp only at H);have H':=aM8 H;clear H
                 go_wp2
                 go_roundg k4
                 case measure=>have:=HJ1.out;have:=HK2.out;have:=HK3.out;have:=HK4.out;omega
                 case rel=>exact ⟨(x9_3),(wrap64 (x10_3 + 1)),(zsx8_2),(zsx8_2),H',⟨zsx8_8⟩,⟨zsx8_7⟩,⟨zsx8_1⟩⟩
            ·rw [if_neg c28] at H
             have c28b0:decide (x10_3 < (ji27))=false:=decide_eq_false c28;clear c28;simp only [Option.some.injEq,Prod.mk.injEq] at H;obtain ⟨rfl,rfl⟩:=H
             go_wp2
             go_ret2
             exact ⟨by first|rfl|(simp [errW_none,errW_some] <;> rfl)|(simp only [← hji25,← hji27];first|rfl|(simp [errW_none,errW_some] <;> rfl))|(simp [*,errW_none,errW_some] <;> rfl),zsx8_1⟩
           ·rw [if_neg c26] at H
            exact absurd H (by simp)
     ·rw [if_neg c7] at H
      exact absurd H (by simp)
    ·rw [if_neg c6] at H
     exact absurd H (by simp)
end Go.Proofs.Ytbhlffakpneecaa.PFnClosures
end
