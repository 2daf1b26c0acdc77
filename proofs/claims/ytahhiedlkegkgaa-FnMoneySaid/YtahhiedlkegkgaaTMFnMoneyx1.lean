/- Texts that print.sh has printed for the law FnMoney,one function each,put together in one file: contracts of its functions. -/
import Derived.Test.YtahhiedlkegkgaaTStepW
import Derived.Test.YtahhiedlkegkgaaTMFnMoneyx0
section
namespace Go.Proofs.Ytahhiedlkegkgaa.PFnMoney
open Go.RowKit Go.Proofs.YtahhiedlkegkgaaW.PrintWords Go.Proofs.YtahhiedlkegkgaaW.PrintLast Go.Proofs.YtahhiedlkegkgaaW.PrintMore
attribute [local go_sem] max2_int min2_int max_two min_two max_three min_three max_four min_four   -- for this text's walks alone
set_option linter.unusedVariables false
set_option linter.unusedSimpArgs false
theorem aM1:type_of% @Aside0.mk:=@Aside0.mk
theorem oD1:type_of% @of_decide_eq_true:=@of_decide_eq_true
theorem dT1:type_of% @decide_eq_true:=@decide_eq_true
theorem bI1:type_of% @Option.bind_eq_some_iff.{0,0}:=@Option.bind_eq_some_iff.{0,0}
theorem eT1:type_of% @eq_true:=@eq_true
theorem bS1:type_of% @below_step:=@below_step
theorem gC1:type_of% @gate_callee:=@gate_callee
theorem bB1:type_of% @blk_below:=@blk_below
theorem zyx1_0 {P:Prop} (h:P:=by first|rfl|(simp;done)|(simp [*];done)):P:=h
theorem zyx1_1 {P:Prop} (h:P:=by first|omega|exact Nat.le_refl _):P:=h
theorem zyx1_2 {P:Prop} (h:P:=by repeat (first|exact Drawn0.refl _|apply Drawn0.step)):P:=h
theorem zyx1_3 {P:Prop} (h:P:=by first|(with_reducible assumption)|assumption):P:=h
theorem zyx1_4 {P:Prop} (h:P:=by repeat (first|(with_reducible first|exact HB.out|apply below_alloc|apply pw_below_drewN|apply below_drew1)|exact HB.out)):P:=h
theorem zyx1_5 {P:Prop} (h:P:=by first|rfl|(simp [errW_none,errW_some] <;> rfl)|(simp [*,errW_none,errW_some] <;> rfl)):P:=h
theorem zyx1_6 {P:Prop} (h:P:=by (try simp only [List.map_toArray,List.map_cons,List.map_nil]);first|done|rfl|(simp only [List.length_drop,List.length_take];rfl)):P:=h
theorem zyx1_7 {P:Prop} (h:P:=by repeat (first|(with_reducible first|exact HB.out|apply below_alloc|apply pw_below_drewN|apply below_drew1|refine below_set ?_ GE622.out)|exact HB.out)):P:=h
theorem zyx1_8 {P:Prop} (h:P:=by (with_reducible repeat (first|apply Kd.R_alloc|apply Kd.R_drewN|apply Kd.R_drew));exact HO626.out):P:=h
theorem zyx1_9 {P:Prop} (h:P:=by (with_reducible repeat (first|refine blk_drewN ?_ _|refine blk_drew ?_|refine blk_alloc ?_ _));exact BK622.out):P:=h
theorem zyx1_10 {P:Prop} (h:P:=by (with_reducible repeat (first|apply Kd.R_alloc|apply Kd.R_drewN|apply Kd.R_drew));exact HO_9.out):P:=h
theorem zyx1_11 {P:Prop} (h:P:=by have:=HJ18.out;first|omega|exact Nat.le_refl _):P:=h
theorem zyx1_12 {P:Prop} (h:P:=by repeat (first|exact HR0.out|(with_reducible refine Kd.C_alloc ?_ _)|(with_reducible refine Kd.C_drewN ?_ _)|(with_reducible refine Kd.C_drew ?_))):P:=h
theorem zyx1_13 {P:Prop} (h:P:=by first|(go_simp;done)|(go_simp;rfl)):P:=h
theorem zyx1_14 {P:Prop} (h:P:=by repeat (first|exact (Kd.C_below HR0.out HB.out)|(with_reducible refine Kd.C_alloc ?_ _)|(with_reducible refine Kd.C_drewN ?_ _)|(with_reducible refine Kd.C_drew ?_))):P:=h
theorem zyx1_15 {P:Prop} (h:P:=by repeat (first|exact (Kd.C_below HR2.out HB.out)|(with_reducible refine Kd.C_alloc ?_ _)|(with_reducible refine Kd.C_drewN ?_ _)|(with_reducible refine Kd.C_drew ?_))):P:=h
theorem zyx1_16 {P:Prop} (h:P:=by rw [hg];exact (below_size (zyx1_4))):P:=h
mutual
def impl_goodValues.j0:Nat→List Int→Bool→Option (Bool)
 | 0,_,_=>none
 | k + 1,x0,x12=>if x12=true then (some false) else (impl_goodValues.l0 k x0 (x0.length:Int) 0)
def impl_goodValues.l0:Nat→List Int→Int→Int→Option (Bool)
 | 0,_,_,_=>none
 | k + 1,x13,x14,x15=>if x15 < x14 then (if 0≤x15 then (if x15 < (x13.length:Int) then (if (rd x13 x15) < (-1000000) then (some false) else (if (rd x13 x15) > 1000000 then (some false) else (impl_goodValues.l0 k x13 x14 (wrap64 (x15 + 1))))) else (none)) else (none)) else (some true)
end
def impl_goodValues.f (k:Nat) (l0:List Int):Option (Bool):=if (l0.length:Int) < 1 then (impl_goodValues.j0 k l0 true) else (impl_goodValues.j0 k l0 (decide ((l0.length:Int) > 120)))
set_option maxHeartbeats 8000000 in
set_option maxRecDepth 100000 in
theorem impl_goodValues.calls (k:Nat) (A0:Option Addr) (c0:Nat) (l0:List Int) (r:Bool) (w:World) (hr0:Kd.C (Kd.int .i64) w A0 l0.length l0) (hc0:l0.length≤c0) (h:impl_goodValues.f k l0=some r) :
  Calls Try.prog 39 #[.slice A0 l0.length c0] w fun e w'=>e=.returned (.bool r)∧Drawn0 w w':=by
 have HR0:=aM1 hr0;have HC0:=aM1 hc0;clear hr0 hc0;have H:(if (l0.length:Int) < 1 then (impl_goodValues.j0 k l0 true) else (impl_goodValues.j0 k l0 (decide ((l0.length:Int) > 120))))=some r:=h;clear h;have HC2:=aM1 H;clear H;go_enter Try.func39,Try.ntmps39
 go_upto_region 1 with (fail)
 go_cut [12] (fun v12 wc=>∃ (kq:Nat) (x12_1:Bool),v12=.bool x12_1∧Aside0 (impl_goodValues.j0 kq l0 x12_1=some r)∧Aside0 (kq≤k)∧Drawn0 w wc)
 case first =>
  have H:=HC2.out;clear HC2
  by_cases c3:(l0.length:Int) < 1
  ·rw [if_pos c3] at H
   have c3b0:decide ((l0.length:Int) < 1)=true:=dT1 c3;have c3b1:decide (l0.length < 1)=true:=dT1 (by omega);clear c3
   (first|rw [c3b0]|(simp only [i64_w,i32_w];rw [c3b0])|skip)
   have H':=aM1 H;clear H
   go_wp2
   go_meet
   case rel=>exact ⟨_,(true),(zyx1_0),H',⟨zyx1_1⟩,zyx1_2⟩
  ·rw [if_neg c3] at H
   have c3b0:decide ((l0.length:Int) < 1)=false:=decide_eq_false c3;have c3b1:decide (l0.length < 1)=false:=decide_eq_false (by omega);clear c3
   (first|rw [c3b0]|(simp only [i64_w,i32_w];rw [c3b0])|skip)
   have H':=aM1 H;clear H
   go_wp2
   go_meet
   case rel=>exact ⟨_,(decide ((l0.length:Int) > 120)),(zyx1_0),H',⟨zyx1_1⟩,zyx1_2⟩
 case rest =>
  clear HC2;(try clear p2);(try clear c3);(try clear c3b0);(try clear c3b1);obtain ⟨kq,x12_1,rfl,HA,HJ1,⟨mc1,rfl⟩⟩:=hcut
  cases kq with
  | zero=>exact absurd HA.out (by simp [impl_goodValues.j0])
  | succ kj1 =>
   have H:=HA.out;clear HA;simp only [impl_goodValues.j0] at H
   by_cases c4:x12_1=true
   ·subst c4
    rw [if_pos rfl] at H;(try dsimp only at H);obtain rfl:=Option.some.inj H
    go_wp2
    go_ret
    exact ⟨zyx1_0,zyx1_2⟩
   ·replace c4:=Bool.eq_false_iff.mpr c4
    subst c4;rw [if_neg (show ¬ (false=true) by decide)] at H;(try dsimp only at H);have H':=aM1 H;clear H
    go_wp2
    go_loopg [15] kj1 (fun kq v15 w'=>∃ (x15_2:Int),v15=.int .i64 x15_2∧Aside0 (impl_goodValues.l0 kq l0 (l0.length:Int) x15_2=some r)∧Aside0 (kq≤kj1)∧Drawn0 w w')
    case atStart=>exact ⟨(0),(zyx1_0),H',⟨Nat.le_refl _⟩,zyx1_2⟩
    case round =>
     clear H';(try clear c1);(try clear p2);(try clear c3);(try clear c3b0);(try clear c3b1);(try clear c4);(try clear p2);obtain ⟨x15_2,rfl,HA,HK2,⟨m2,rfl⟩⟩:=hrel
     cases gk with
     | zero=>exact absurd HA.out (by simp [impl_goodValues.l0])
     | succ k2 =>
      have H:=HA.out;clear HA;simp only [impl_goodValues.l0] at H
      by_cases c5:x15_2 < (l0.length:Int)
      ·rw [if_pos c5] at H
       have c5b0:decide (x15_2 < (l0.length:Int))=true:=dT1 c5;clear c5
       by_cases c6:0≤x15_2
       ·rw [if_pos c6] at H
        have c6b0:decide (0≤x15_2)=true:=dT1 c6;clear c6
        by_cases c7:x15_2 < (l0.length:Int)
        ·rw [if_pos c7] at H
         have c7b0:decide (x15_2 < (l0.length:Int))=true:=dT1 c7;clear c7
         by_cases c8:(rd l0 x15_2) < (-1000000)
         ·rw [if_pos c8] at H
          have c8b0:decide ((rd l0 x15_2) < (-1000000))=true:=dT1 c8;clear c8;obtain rfl:=Option.some.inj H;have p747:0≤(x15_2:Int):=oD1 (zyx1_3);have q747:x15_2 < (l0.length:Int):=oD1 (zyx1_3);obtain ⟨ad747,e747,hx747_0⟩:=Kd.at_int HR0.out x15_2 p747 q747
          cases e747
          replace p747:=eT1 p747;replace q747:=eT1 q747
          go_wp2
          go_ret
          exact ⟨zyx1_0,zyx1_2⟩
         ·rw [if_neg c8] at H
          have c8b0:decide ((rd l0 x15_2) < (-1000000))=false:=decide_eq_false c8;clear c8
          by_cases c9:(rd l0 x15_2) > 1000000
          ·rw [if_pos c9] at H
           have c9b0:decide (1000000 < (rd l0 x15_2))=true:=dT1 c9;clear c9;obtain rfl:=Option.some.inj H;have p747:0≤(x15_2:Int):=oD1 (zyx1_3);have q747:x15_2 < (l0.length:Int):=oD1 (zyx1_3);obtain ⟨ad747,e747,hx747_0⟩:=Kd.at_int HR0.out x15_2 p747 q747
           cases e747
           replace p747:=eT1 p747;replace q747:=eT1 q747
           go_wp2
           go_ret
           exact ⟨zyx1_0,zyx1_2⟩
          ·rw [if_neg c9] at H
           have c9b0:decide (1000000 < (rd l0 x15_2))=false:=decide_eq_false c9;clear c9;have H':=aM1 H;clear H;have p747:0≤(x15_2:Int):=oD1 (zyx1_3);have q747:x15_2 < (l0.length:Int):=oD1 (zyx1_3);obtain ⟨ad747,e747,hx747_0⟩:=Kd.at_int HR0.out x15_2 p747 q747
           cases e747
           replace p747:=eT1 p747;replace q747:=eT1 q747
           go_wp2
           go_roundg k2
           case measure=>have:=HJ1.out;have:=HK2.out;omega
           case rel=>exact ⟨(wrap64 (x15_2 + 1)),(zyx1_0),H',⟨by have:=HJ1.out;have:=HK2.out;omega⟩,zyx1_2⟩
        ·rw [if_neg c7] at H
         exact absurd H (by simp)
       ·rw [if_neg c6] at H
        exact absurd H (by simp)
      ·rw [if_neg c5] at H
       have c5b0:decide (x15_2 < (l0.length:Int))=false:=decide_eq_false c5;clear c5;obtain rfl:=Option.some.inj H
       go_wp2
       go_ret
       exact ⟨zyx1_0,zyx1_2⟩
def impl_AreValues.f (k:Nat) (l0:List Int) (a1:Int):Option (Bool):=if (l0.length:Int)=a1 then ((impl_goodValues.f k l0).bind fun t748=>(some t748)) else (some false)
set_option maxHeartbeats 8000000 in
set_option maxRecDepth 100000 in
theorem impl_AreValues.calls (k:Nat) (A0:Option Addr) (c0:Nat) (l0:List Int) (a1:Int) (r:Bool) (w:World) (hr0:Kd.C (Kd.int .i64) w A0 l0.length l0) (hc0:l0.length≤c0) (h:impl_AreValues.f k l0 a1=some r) :
  Calls Try.prog 20 #[.slice A0 l0.length c0,.int .i64 a1] w fun e w'=>e=.returned (.bool r)∧Drawn0 w w':=by
 have HR0:=aM1 hr0;have HC0:=aM1 hc0;clear hr0 hc0;have H:(if (l0.length:Int)=a1 then ((impl_goodValues.f k l0).bind fun t748=>(some t748)) else (some false))=some r:=h;clear h
 by_cases c3:(l0.length:Int)=a1
 ·rw [if_pos c3] at H
  have c3b0:((l0.length:Int) == a1)=true:=beq_iff_eq.mpr c3;have c3b1:((l0.length:Int) != a1)=false:=bne_eq_false_iff_eq.mpr c3;clear c3;replace H:=bI1.mp H;obtain ⟨t748,A40,H⟩:=H;(try dsimp only at H);have A4:=aM1 A40;clear A40;obtain rfl:=Option.some.inj H;go_enter Try.func20,Try.ntmps20
  go_wp2_with (first|(go_at_call 39;(with_reducible refine (impl_goodValues.calls k _ _ l0 t748 _ ?side1 ?side2 A4.out).mono ?_);(case side1=>exact zyx1_12);(case side2=>exact HC0.out);rintro e w' ⟨rfl,⟨nd,rfl⟩⟩))
  go_ret
  exact ⟨zyx1_0,zyx1_2⟩
 ·rw [if_neg c3] at H
  have c3b0:((l0.length:Int) == a1)=false:=beq_eq_false_iff_ne.mpr c3;have c3b1:((l0.length:Int) != a1)=true:=bne_iff_ne.mpr c3;obtain rfl:=Option.some.inj H;go_enter Try.func20,Try.ntmps20
  go_wp2
  go_ret
  exact ⟨zyx1_0,zyx1_2⟩
def impl_placeOf.f (a0_0:Int) (a0_1:Int) (a0_2:Int) (a1:Int):Option (Int × Int × Int):=if a0_0=0 then (none) else (if a0_1=0 then (none) else (some (Int.tmod a1 a0_0,Int.tmod (wrap64 (Int.tdiv a1 a0_0)) a0_1,wrap64 (Int.tdiv (wrap64 (Int.tdiv a1 a0_0)) a0_1))))
set_option maxHeartbeats 8000000 in
set_option maxRecDepth 100000 in
theorem impl_placeOf.calls (a0_0:Int) (a0_1:Int) (a0_2:Int) (a1:Int) (r1:Int) (r2:Int) (r3:Int) (w:World) (h:impl_placeOf.f a0_0 a0_1 a0_2 a1=some (r1,r2,r3)) :
  Calls Try.prog 58 #[.agg #[.int .i64 a0_0,.int .i64 a0_1,.int .i64 a0_2],.int .i64 a1] w fun e w'=>e=.returned (.tuple #[.int .i64 r1,.int .i64 r2,.int .i64 r3])∧Below w.heap.size w w':=by
 have hu24:=Try.underlying24;have HB:=aM1 (Below.refl w.heap.size w);have H:(if a0_0=0 then (none) else (if a0_1=0 then (none) else (some (Int.tmod a1 a0_0,Int.tmod (wrap64 (Int.tdiv a1 a0_0)) a0_1,wrap64 (Int.tdiv (wrap64 (Int.tdiv a1 a0_0)) a0_1)))))=some (r1,r2,r3):=h;clear h
 by_cases c3:a0_0=0
 ·rw [if_pos c3] at H
  exact absurd H (by simp)
 ·rw [if_neg c3] at H
  have c3b0:(a0_0 == 0)=false:=beq_eq_false_iff_ne.mpr c3;have c3b1:(a0_0 != 0)=true:=bne_iff_ne.mpr c3
  by_cases c4:a0_1=0
  ·rw [if_pos c4] at H
   exact absurd H (by simp)
  ·rw [if_neg c4] at H
   have c4b0:(a0_1 == 0)=false:=beq_eq_false_iff_ne.mpr c4;have c4b1:(a0_1 != 0)=true:=bne_iff_ne.mpr c4;simp only [Option.some.injEq,Prod.mk.injEq] at H;obtain ⟨rfl,rfl,rfl⟩:=H;go_enter Try.func58,Try.ntmps58
   go_wp2_with (first|((with_reducible refine gate_dst (N:=2) rfl ?_);refine box_event ?hg (N:=2) ?hd (cs:=#[.int .i64 a0_0,.int .i64 a0_1,.int .i64 a0_2]) (t:=24) ?hr ?_;(case hd=>rfl);(case hg=>rfl);(case hr=>exact zyx1_13);intro gb610 hg w5 hbox hb;have n0_:=aM1 (bS1 (zyx1_4) hb);have n1_:=aM1 (hbox);have n2_:=aM1 ((zyx1_16:w.heap.size≤gb610));have n3_:=aM1 ((zyx1_16:w.heap.size≤gb610));clear HB;have HB:=n0_;have BK610:=n1_;have GW610:=n2_;have GE610:=n3_;clear n0_ n1_ n2_ n3_ hb hbox hg;obtain ⟨hcz6_0,hfz6_0,hcz6_1,hfz6_1,hcz6_2,hfz6_2⟩:=cf3 BK610.out))
   repeat (go_quiet (first|((with_reducible refine gate_dst (N:=2) rfl ?_);refine box_event ?hg (N:=2) ?hd (cs:=#[.int .i64 a0_0,.int .i64 a0_1,.int .i64 a0_2]) (t:=24) ?hr ?_;(case hd=>rfl);(case hg=>rfl);(case hr=>exact zyx1_13);intro gb610 hg w5 hbox hb;have n0_:=aM1 (bS1 (zyx1_4) hb);have n1_:=aM1 (hbox);have n2_:=aM1 ((zyx1_16:w.heap.size≤gb610));have n3_:=aM1 ((zyx1_16:w.heap.size≤gb610));clear HB;have HB:=n0_;have BK610:=n1_;have GW610:=n2_;have GE610:=n3_;clear n0_ n1_ n2_ n3_ hb hbox hg;obtain ⟨hcz6_0,hfz6_0,hcz6_1,hfz6_1,hcz6_2,hfz6_2⟩:=cf3 BK610.out));try go_wp2_with (first|((with_reducible refine gate_dst (N:=2) rfl ?_);refine box_event ?hg (N:=2) ?hd (cs:=#[.int .i64 a0_0,.int .i64 a0_1,.int .i64 a0_2]) (t:=24) ?hr ?_;(case hd=>rfl);(case hg=>rfl);(case hr=>exact zyx1_13);intro gb610 hg w5 hbox hb;have n0_:=aM1 (bS1 (zyx1_4) hb);have n1_:=aM1 (hbox);have n2_:=aM1 ((zyx1_16:w.heap.size≤gb610));have n3_:=aM1 ((zyx1_16:w.heap.size≤gb610));clear HB;have HB:=n0_;have BK610:=n1_;have GW610:=n2_;have GE610:=n3_;clear n0_ n1_ n2_ n3_ hb hbox hg;obtain ⟨hcz6_0,hfz6_0,hcz6_1,hfz6_1,hcz6_2,hfz6_2⟩:=cf3 BK610.out)))
   go_ret3
   exact ⟨zyx1_5,by repeat (first|(with_reducible first|exact HB.out|apply below_alloc|apply pw_below_drewN|apply below_drew1|refine below_set ?_ GE610.out)|exact HB.out)⟩
mutual
def impl_needsOf.j0:Nat→Int→Bool→Option (Int)
 | 0,_,_=>none
 | k + 1,x0,x3=>if x3=true then (some 0) else (if x0 ≥ 2 then (impl_needsOf.j1 k x0 (decide (x0≤5))) else (impl_needsOf.j1 k x0 false))
def impl_needsOf.j1:Nat→Int→Bool→Option (Int)
 | 0,_,_=>none
 | k + 1,x0,x10=>if x10=true then (some 2) else (if x0 ≥ 6 then (if x0≤8 then (some 4) else (some (-1))) else (some (-1)))
end
def impl_needsOf.f (k:Nat) (a0:Int):Option (Int):=if a0=0 then (impl_needsOf.j0 k a0 true) else (impl_needsOf.j0 k a0 (a0 == 1))
theorem impl_needsOf.mono_l:∀ k,(∀ y0 y1,LeO (impl_needsOf.j0 k y0 y1) (impl_needsOf.j0 (k + 1) y0 y1))∧(∀ y0 y1,LeO (impl_needsOf.j1 k y0 y1) (impl_needsOf.j1 (k + 1) y0 y1))
 | 0=>⟨fun _ _ r h=>by simp [impl_needsOf.j0] at h,fun _ _ r h=>by simp [impl_needsOf.j1] at h⟩
 | k + 1=>by
  obtain ⟨ih0,ih1⟩:=impl_needsOf.mono_l k;refine ⟨?_,?_⟩
  ·intro y0 y1
   unfold impl_needsOf.j0
   repeat' first
   | (with_reducible exact ih0 _ _)
   | (with_reducible exact ih1 _ _)
   | (with_reducible exact LeO.refl _)
   | (with_reducible exact LeO.none _)
   | (with_reducible refine LeO.ite ?_ ?_)
   | (with_reducible refine LeO.bind ?_ (fun _=>?_))
   | exact ih0 _ _
   | exact ih1 _ _
   | exact LeO.none _
   | refine LeO.ite ?_ ?_
   | refine LeO.bind ?_ (fun _=>?_)
  ·intro y0 y1
   unfold impl_needsOf.j1
   repeat' first
   | (with_reducible exact ih0 _ _)
   | (with_reducible exact ih1 _ _)
   | (with_reducible exact LeO.refl _)
   | (with_reducible exact LeO.none _)
   | (with_reducible refine LeO.ite ?_ ?_)
   | (with_reducible refine LeO.bind ?_ (fun _=>?_))
   | exact ih0 _ _
   | exact ih1 _ _
   | exact LeO.none _
   | refine LeO.ite ?_ ?_
   | refine LeO.bind ?_ (fun _=>?_)
theorem impl_needsOf.mono:∀ a0 k,LeO (impl_needsOf.f k a0) (impl_needsOf.f (k + 1) a0):=by
 intro a0 k;obtain ⟨ih0,ih1⟩:=impl_needsOf.mono_l k
 unfold impl_needsOf.f
 repeat' first
   | (with_reducible exact ih0 _ _)
   | (with_reducible exact ih1 _ _)
   | (with_reducible exact LeO.refl _)
   | (with_reducible exact LeO.none _)
   | (with_reducible refine LeO.ite ?_ ?_)
   | (with_reducible refine LeO.bind ?_ (fun _=>?_))
   | exact ih0 _ _
   | exact ih1 _ _
   | exact LeO.none _
   | refine LeO.ite ?_ ?_
   | refine LeO.bind ?_ (fun _=>?_)
set_option maxHeartbeats 8000000 in
set_option maxRecDepth 100000 in
theorem impl_needsOf.calls (k:Nat) (a0:Int) (r:Int) (w:World) (h:impl_needsOf.f k a0=some r) :
  Calls Try.prog 67 #[.int .i64 a0] w fun e w'=>e=.returned (.int .i64 r)∧Drawn0 w w':=by
 have H:(if a0=0 then (impl_needsOf.j0 k a0 true) else (impl_needsOf.j0 k a0 (a0 == 1)))=some r:=h;clear h;have HC2:=aM1 H;clear H;go_enter Try.func67,Try.ntmps67
 go_upto_region 1 with (fail)
 go_cut [3] (fun v3 wc=>∃ (kq:Nat) (x3_1:Bool),v3=.bool x3_1∧Aside0 (impl_needsOf.j0 kq a0 x3_1=some r)∧Aside0 (kq≤k)∧Drawn0 w wc)
 case first =>
  have H:=HC2.out;clear HC2
  by_cases c3:a0=0
  ·rw [if_pos c3] at H
   have c3b0:(a0 == 0)=true:=beq_iff_eq.mpr c3;have c3b1:(a0 != 0)=false:=bne_eq_false_iff_eq.mpr c3;clear c3
   (first|rw [c3b0]|(simp only [i64_w,i32_w];rw [c3b0])|skip)
   have H':=aM1 H;clear H
   go_wp2
   go_meet
   case rel=>exact ⟨_,(true),(zyx1_0),H',⟨zyx1_1⟩,zyx1_2⟩
  ·rw [if_neg c3] at H
   have c3b0:(a0 == 0)=false:=beq_eq_false_iff_ne.mpr c3;have c3b1:(a0 != 0)=true:=bne_iff_ne.mpr c3
   (first|rw [c3b0]|(simp only [i64_w,i32_w];rw [c3b0])|skip)
   have H':=aM1 H;clear H
   go_wp2
   go_meet
   case rel=>exact ⟨_,((a0 == 1)),(zyx1_0),H',⟨zyx1_1⟩,zyx1_2⟩
 case rest =>
  clear HC2;(try clear p2);(try clear c3);(try clear c3b0);(try clear c3b1);obtain ⟨kq,x3_1,rfl,HA,HJ1,⟨mc1,rfl⟩⟩:=hcut
  cases kq with
  | zero=>exact absurd HA.out (by simp [impl_needsOf.j0])
  | succ kj1 =>
   have H:=HA.out;clear HA;simp only [impl_needsOf.j0] at H
   by_cases c4:x3_1=true
   ·subst c4
    rw [if_pos rfl] at H;(try dsimp only at H);obtain rfl:=Option.some.inj H
    go_wp2
    go_ret
    exact ⟨zyx1_0,zyx1_2⟩
   ·replace c4:=Bool.eq_false_iff.mpr c4
    subst c4;rw [if_neg (show ¬ (false=true) by decide)] at H;(try dsimp only at H);have HC5:=aM1 H;clear H
    go_upto_region 3 with (fail)
    go_cut [10] (fun v10 wc=>∃ (kq:Nat) (x10_4:Bool),v10=.bool x10_4∧Aside0 (impl_needsOf.j1 kq a0 x10_4=some r)∧Aside0 (kq≤kj1)∧Drawn0 w wc)
    case first =>
     have H:=HC5.out;clear HC5
     by_cases c6:a0 ≥ 2
     ·rw [if_pos c6] at H
      have c6b0:decide (2≤a0)=true:=dT1 c6;clear c6
      (first|rw [c6b0]|(simp only [i64_w,i32_w];rw [c6b0])|skip)
      have H':=aM1 H;clear H
      go_wp2
      go_meet
      case rel=>exact ⟨_,(decide (a0≤5)),(zyx1_0),H',⟨by have:=HJ1.out;first|omega|exact Nat.le_refl _⟩,zyx1_2⟩
     ·rw [if_neg c6] at H
      have c6b0:decide (2≤a0)=false:=decide_eq_false c6;clear c6
      (first|rw [c6b0]|(simp only [i64_w,i32_w];rw [c6b0])|skip)
      have H':=aM1 H;clear H
      go_wp2
      go_meet
      case rel=>exact ⟨_,(false),(zyx1_0),H',⟨by have:=HJ1.out;first|omega|exact Nat.le_refl _⟩,zyx1_2⟩
    case rest =>
     clear HC5;(try clear c1);(try clear p2);(try clear c3);(try clear c3b0);(try clear c3b1);(try clear c4);(try clear c6);(try clear c6b0);(try clear p2);obtain ⟨kq,x10_4,rfl,HA,HJ4,⟨mc4,rfl⟩⟩:=hcut
     cases kq with
     | zero=>exact absurd HA.out (by simp [impl_needsOf.j1])
     | succ kj4 =>
      have H:=HA.out;clear HA;simp only [impl_needsOf.j1] at H
      by_cases c7:x10_4=true
      ·subst c7
       rw [if_pos rfl] at H;(try dsimp only at H);obtain rfl:=Option.some.inj H
       go_wp2
       go_ret
       exact ⟨zyx1_0,zyx1_2⟩
      ·replace c7:=Bool.eq_false_iff.mpr c7
       subst c7;rw [if_neg (show ¬ (false=true) by decide)] at H;(try dsimp only at H)
       by_cases c8:a0 ≥ 6
       ·rw [if_pos c8] at H
        have c8b0:decide (6≤a0)=true:=dT1 c8;clear c8
        by_cases c9:a0≤8
        ·rw [if_pos c9] at H
         have c9b0:decide (a0≤8)=true:=dT1 c9;clear c9;obtain rfl:=Option.some.inj H
         go_wp2
         go_ret
         exact ⟨zyx1_0,zyx1_2⟩
        ·rw [if_neg c9] at H
         have c9b0:decide (a0≤8)=false:=decide_eq_false c9;clear c9;obtain rfl:=Option.some.inj H
         go_wp2
         go_ret
         exact ⟨zyx1_0,zyx1_2⟩
       ·rw [if_neg c8] at H
        have c8b0:decide (6≤a0)=false:=decide_eq_false c8;clear c8;obtain rfl:=Option.some.inj H
        go_wp2
        go_ret
        exact ⟨zyx1_0,zyx1_2⟩
mutual
def impl_partSize.l0:Nat→List (S94)→Int→Int→Int→Option (Int)
 | 0,_,_,_,_=>none
 | k + 1,x0,x1,x5,x6=>if x6 > 0 then ((impl_partSize.f k x0 (wrap64 (x1 - x5))).bind fun t613=>(impl_partSize.l0 k x0 x1 (wrap64 (x5 + t613)) (wrap64 (x6 - 1)))) else (some x5)
def impl_partSize.f:Nat→List (S94)→Int→Option (Int)
 | 0,_,_=>none
 | k + 1,l0,a1=>if 0≤a1 then (if a1 < (l0.length:Int) then ((impl_needsOf.f k ((rd_T94 l0 a1).f0)).bind fun t612=>(impl_partSize.l0 k l0 a1 1 t612)) else (none)) else (none)
end
theorem impl_partSize.mono_l:∀ k,(∀ y0 y1,LeO (impl_partSize.f k y0 y1) (impl_partSize.f (k + 1) y0 y1))∧(∀ y0 y1 y2 y3,LeO (impl_partSize.l0 k y0 y1 y2 y3) (impl_partSize.l0 (k + 1) y0 y1 y2 y3))
 | 0=>⟨fun _ _ r h=>by simp [impl_partSize.f] at h,fun _ _ _ _ r h=>by simp [impl_partSize.l0] at h⟩
 | k + 1=>by
  obtain ⟨ih0,ih1⟩:=impl_partSize.mono_l k;refine ⟨?_,?_⟩
  ·intro y0 y1
   unfold impl_partSize.f
   repeat' first
   | (with_reducible exact ih0 _ _)
   | (with_reducible exact ih1 _ _ _ _)
   | (with_reducible exact impl_needsOf.mono _ _)
   | (with_reducible exact LeO.refl _)
   | (with_reducible exact LeO.none _)
   | (with_reducible refine LeO.ite ?_ ?_)
   | (with_reducible refine LeO.bind ?_ (fun _=>?_))
   | exact ih0 _ _
   | exact ih1 _ _ _ _
   | exact impl_needsOf.mono _ _
   | exact LeO.none _
   | refine LeO.ite ?_ ?_
   | refine LeO.bind ?_ (fun _=>?_)
  ·intro y0 y1 y2 y3
   unfold impl_partSize.l0
   repeat' first
   | (with_reducible exact ih0 _ _)
   | (with_reducible exact ih1 _ _ _ _)
   | (with_reducible exact impl_needsOf.mono _ _)
   | (with_reducible exact LeO.refl _)
   | (with_reducible exact LeO.none _)
   | (with_reducible refine LeO.ite ?_ ?_)
   | (with_reducible refine LeO.bind ?_ (fun _=>?_))
   | exact ih0 _ _
   | exact ih1 _ _ _ _
   | exact impl_needsOf.mono _ _
   | exact LeO.none _
   | refine LeO.ite ?_ ?_
   | refine LeO.bind ?_ (fun _=>?_)
theorem impl_partSize.mono:∀ a0 a1 k,LeO (impl_partSize.f k a0 a1) (impl_partSize.f (k + 1) a0 a1):=by
 intro a0 a1 k;obtain ⟨ih0,ih1⟩:=impl_partSize.mono_l k;exact ih0 a0 a1
set_option maxHeartbeats 8000000 in
set_option maxRecDepth 100000 in
theorem impl_partSize.calls (k:Nat):∀ (A0:Option Addr) (c0:Nat) (l0:List (S94)) (a1:Int) (r:Int) (w:World) (hr0:Kd.C k94 w A0 l0.length l0) (hc0:l0.length≤c0) (h:impl_partSize.f k l0 a1=some r),
  Calls Try.prog 78 #[.slice A0 l0.length c0,.int .i64 a1] w fun e w'=>e=.returned (.int .i64 r)∧Drawn0 w w':=by
 induction k using Nat.strongRecOn with
 | _ k ih =>
 intro A0 c0 l0 a1 r w hr0 hc0 h
 cases k with
 | zero=>exact absurd h (by simp [impl_partSize.f])
 | succ k =>
 simp only [impl_partSize.f] at h;have HR0:=aM1 hr0;have HC0:=aM1 hc0;clear hr0 hc0;have H:(if 0≤a1 then (if a1 < (l0.length:Int) then ((impl_needsOf.f k ((rd_T94 l0 a1).f0)).bind fun t612=>(impl_partSize.l0 k l0 a1 1 t612)) else (none)) else (none))=some r:=h;clear h
 by_cases c3:0≤a1
 ·rw [if_pos c3] at H
  have c3b0:decide (0≤a1)=true:=dT1 c3;clear c3
  by_cases c4:a1 < (l0.length:Int)
  ·rw [if_pos c4] at H
   have c4b0:decide (a1 < (l0.length:Int))=true:=dT1 c4;clear c4;replace H:=bI1.mp H;obtain ⟨t612,A50,H⟩:=H;(try dsimp only at H);have A5:=aM1 A50;clear A50;have H':=aM1 H;clear H;have p611:0≤(a1:Int):=oD1 (zyx1_3);have q611:a1 < (l0.length:Int):=oD1 (zyx1_3);obtain ⟨ad611,e611,hx611_0,hx611_1⟩:=at_T94 HR0.out a1 p611 q611
   cases e611
   replace p611:=eT1 p611;replace q611:=eT1 q611;go_enter Try.func78,Try.ntmps78
   go_wp2_with (first|((with_reducible refine gC1 (f:=67) rfl ?_);refine goesL_ (some 12) rfl rfl Try.func67 (by kernel_rfl) rfl #[.int .i64 ((rd_T94 l0 a1).f0)] rfl (zyx1_6) ?_;(with_reducible refine (impl_needsOf.calls k ((rd_T94 l0 a1).f0) t612 _ A5.out).mono ?_);rintro e w' ⟨rfl,⟨nd,rfl⟩⟩;refine ⟨_,rfl,?_⟩))
   go_loopg [5,6] k (fun kq v5 v6 w'=>∃ (x5_1:Int) (x6_1:Int),v5=.int .i64 x5_1∧v6=.int .i64 x6_1∧Aside0 (impl_partSize.l0 kq l0 a1 x5_1 x6_1=some r)∧Aside0 (kq≤k)∧Drawn0 w w')
   case atStart=>exact ⟨(1),(t612),(zyx1_0),(zyx1_0),H',⟨Nat.le_refl _⟩,zyx1_2⟩
   case round =>
    clear H';(try clear p2);(try clear c3);(try clear c3b0);(try clear c4);(try clear c4b0);(try clear hx611_0);(try clear hx611_1);(try clear p611);(try clear q611);obtain ⟨x5_1,x6_1,rfl,rfl,HA,HK1,⟨m1,rfl⟩⟩:=hrel
    cases gk with
    | zero=>exact absurd HA.out (by simp [impl_partSize.l0])
    | succ k1 =>
     have H:=HA.out;clear HA;simp only [impl_partSize.l0] at H
     by_cases c6:x6_1 > 0
     ·rw [if_pos c6] at H
      have c6b0:decide (0 < x6_1)=true:=dT1 c6;clear c6;replace H:=bI1.mp H;obtain ⟨t613,A70,H⟩:=H;(try dsimp only at H);have A7:=aM1 A70;clear A70;have H':=aM1 H;clear H
      go_wp2_with (first|((with_reducible refine gC1 (f:=78) rfl ?_);refine goesL_ (some 22) rfl rfl Try.func78 (by kernel_rfl) rfl #[.slice (some ad611) l0.length c0,.int .i64 (wrap64 (a1 - x5_1))] rfl (zyx1_6) ?_;(with_reducible refine (ih k1 (by have:=HK1.out;omega) _ _ l0 (wrap64 (a1 - x5_1)) t613 _ ?side1 ?side2 A7.out).mono ?_);(case side1=>exact zyx1_12);(case side2=>exact HC0.out);rintro e w' ⟨rfl,⟨nd,rfl⟩⟩;refine ⟨_,rfl,?_⟩))
      go_roundg k1
      case measure=>have:=HK1.out;omega
      case rel=>exact ⟨(wrap64 (x5_1 + t613)),(wrap64 (x6_1 - 1)),(zyx1_0),(zyx1_0),H',⟨by have:=HK1.out;omega⟩,zyx1_2⟩
     ·rw [if_neg c6] at H
      have c6b0:decide (0 < x6_1)=false:=decide_eq_false c6;clear c6;obtain rfl:=Option.some.inj H
      go_wp2
      go_ret
      exact ⟨zyx1_0,zyx1_2⟩
  ·rw [if_neg c4] at H
   exact absurd H (by simp)
 ·rw [if_neg c3] at H
  exact absurd H (by simp)
def impl_partNeeds.l0:Nat→List (S94)→List Int→Int→Int→Option (List Int)
 | 0,_,_,_,_=>none
 | k + 1,x0,x5,x6,x7=>if x7 ≥ 0 then (if 0≤x7 then (if x7 < (x5.length:Int) then ((impl_partSize.f k x0 x6).bind fun t620=>(impl_partNeeds.l0 k x0 (x5.set (x7:Int).toNat x6) (wrap64 (x6 - t620)) (wrap64 (x7 - 1)))) else (none)) else (none)) else (some x5)
def impl_partNeeds.f (k:Nat) (l0:List (S94)) (a1:Int):Option (List Int):=if 0≤a1 then (if a1 < (l0.length:Int) then ((impl_needsOf.f k ((rd_T94 l0 a1).f0)).bind fun t615=>(if 0≤t615 then (if (t615:Int).toNat≤35184372088832 then ((some (List.replicate (t615:Int).toNat 0:List Int)).bind fun y616=>(impl_partNeeds.l0 k l0 y616 (wrap64 (a1 - 1)) (wrap64 ((y616.length:Int) - 1)))) else (none)) else (none))) else (none)) else (none)
theorem impl_partNeeds.mono_l:∀ k,(∀ y0 y1 y2 y3,LeO (impl_partNeeds.l0 k y0 y1 y2 y3) (impl_partNeeds.l0 (k + 1) y0 y1 y2 y3))
 | 0=>fun _ _ _ _ r h=>by simp [impl_partNeeds.l0] at h
 | k + 1=>by
  have ih0:=impl_partNeeds.mono_l k
  ·intro y0 y1 y2 y3
   unfold impl_partNeeds.l0
   repeat' first
   | (with_reducible exact ih0 _ _ _ _)
   | (with_reducible exact impl_needsOf.mono _ _)
   | (with_reducible exact impl_partSize.mono _ _ _)
   | (with_reducible exact LeO.refl _)
   | (with_reducible exact LeO.none _)
   | (with_reducible refine LeO.ite ?_ ?_)
   | (with_reducible refine LeO.bind ?_ (fun _=>?_))
   | exact ih0 _ _ _ _
   | exact impl_needsOf.mono _ _
   | exact impl_partSize.mono _ _ _
   | exact LeO.none _
   | refine LeO.ite ?_ ?_
   | refine LeO.bind ?_ (fun _=>?_)
theorem impl_partNeeds.mono:∀ a0 a1 k,LeO (impl_partNeeds.f k a0 a1) (impl_partNeeds.f (k + 1) a0 a1):=by
 intro a0 a1 k;have ih0:=impl_partNeeds.mono_l k
 unfold impl_partNeeds.f
 repeat' first
   | (with_reducible exact ih0 _ _ _ _)
   | (with_reducible exact impl_needsOf.mono _ _)
   | (with_reducible exact impl_partSize.mono _ _ _)
   | (with_reducible exact LeO.refl _)
   | (with_reducible exact LeO.none _)
   | (with_reducible refine LeO.ite ?_ ?_)
   | (with_reducible refine LeO.bind ?_ (fun _=>?_))
   | exact ih0 _ _ _ _
   | exact impl_needsOf.mono _ _
   | exact impl_partSize.mono _ _ _
   | exact LeO.none _
   | refine LeO.ite ?_ ?_
   | refine LeO.bind ?_ (fun _=>?_)
set_option maxHeartbeats 8000000 in
set_option maxRecDepth 100000 in
theorem impl_partNeeds.calls (k:Nat) (A0:Option Addr) (c0:Nat) (l0:List (S94)) (a1:Int) (r:List Int) (w:World) (hr0:Kd.C k94 w A0 l0.length l0) (hc0:l0.length≤c0) (h:impl_partNeeds.f k l0 a1=some r) :
  Calls Try.prog 68 #[.slice A0 l0.length c0,.int .i64 a1] w fun e w'=>∃ v0_:Value,e=.returned (v0_)∧Kd.R (Kd.int .i64) 3 w' w.heap.size (fun _=>True) v0_ r∧Below w.heap.size w w':=by
 have HR0:=aM1 hr0;have HC0:=aM1 hc0;clear hr0 hc0;have HB:=aM1 (Below.refl w.heap.size w);have H:(if 0≤a1 then (if a1 < (l0.length:Int) then ((impl_needsOf.f k ((rd_T94 l0 a1).f0)).bind fun t615=>(if 0≤t615 then (if (t615:Int).toNat≤35184372088832 then ((some (List.replicate (t615:Int).toNat 0:List Int)).bind fun y616=>(impl_partNeeds.l0 k l0 y616 (wrap64 (a1 - 1)) (wrap64 ((y616.length:Int) - 1)))) else (none)) else (none))) else (none)) else (none))=some r:=h;clear h
 by_cases c3:0≤a1
 ·rw [if_pos c3] at H
  have c3b0:decide (0≤a1)=true:=dT1 c3;clear c3
  by_cases c4:a1 < (l0.length:Int)
  ·rw [if_pos c4] at H
   have c4b0:decide (a1 < (l0.length:Int))=true:=dT1 c4;clear c4;replace H:=bI1.mp H;obtain ⟨t615,A50,H⟩:=H;(try dsimp only at H);have A5:=aM1 A50;clear A50
   by_cases c6:0≤t615
   ·rw [if_pos c6] at H
    have c6b0:=eT1 c6;have c6b1:decide (0≤t615)=true:=dT1 c6;clear c6
    by_cases c7:(t615:Int).toNat≤35184372088832
    ·rw [if_pos c7] at H
     have c7b0:=eT1 c7;have c7b1:decide ((t615:Int).toNat≤35184372088832)=true:=dT1 c7;clear c7;obtain ⟨y616,hy616⟩:∃ y_:List Int,y_=(List.replicate (t615:Int).toNat 0):=⟨_,rfl⟩
     replace H:(impl_partNeeds.l0 k l0 y616 (wrap64 (a1 - 1)) (wrap64 ((y616.length:Int) - 1)))=some r:=by first|(rw [hy616];with_reducible exact H)|(have H2_:=(Option.bind_some _ _).symm.trans H;rw [hy616];with_reducible exact H2_)|(have H2_:=(Option.bind_some _ _).symm.trans H;with_reducible exact H2_)|with_reducible exact H|(rw [hy616];exact H)|exact H
     have Ny616:=aM1 hy616;clear hy616;have H':=aM1 H;clear H;have p614:0≤(a1:Int):=oD1 (zyx1_3);have q614:a1 < (l0.length:Int):=oD1 (zyx1_3);obtain ⟨ad614,e614,hx614_0,hx614_1⟩:=at_T94 HR0.out a1 p614 q614
     cases e614
     replace p614:=eT1 p614;replace q614:=eT1 q614;go_enter Try.func68,Try.ntmps68
     go_wp2_with (first|((with_reducible refine gC1 (f:=67) rfl ?_);refine goesL_ (some 13) rfl rfl Try.func67 (by kernel_rfl) rfl #[.int .i64 ((rd_T94 l0 a1).f0)] rfl (zyx1_6) ?_;(with_reducible refine (impl_needsOf.calls k ((rd_T94 l0 a1).f0) t615 _ A5.out).mono ?_);rintro e w' ⟨rfl,⟨nd,rfl⟩⟩;refine ⟨_,rfl,?_⟩)|((with_reducible refine gate_dst (N:=14) rfl ?_);refine Kd.R_make (Kd.int .i64) _ 3 rfl (N:=14) rfl 25 _ _ rfl t615 rfl rfl Try.underlying25 (.int .i64 0) 8 info3 rfl (by decide) (by omega) 0 (ok:=fun _=>True) (okp:=fun _=>True) rfl (fun _ hk=>hk) trivial (oD1 (zyx1_3)) (Nat.le_trans (Nat.mul_le_mul_right _ (oD1 (zyx1_3):t615.toNat≤35184372088832)) (by omega)) (Below.refl _ _) (Nat.le_refl _) ?_;intro v617 w8 ho9 hb hg_ hnew_;clear hg_ hnew_;(first|rw [← Ny616.out] at ho9|(simp only [Int.reduceToNat] at ho9;rw [← Ny616.out] at ho9));have n0_:=aM1 (Kd.R_lower ho9 (below_size (zyx1_4)));have n1_:=aM1 (bS1 (zyx1_4) hb);clear HB;have HO618:=n0_;have HB:=n1_;clear n0_ n1_ hb ho9;obtain ⟨Ao10,co10,eo10⟩:=Kd.R_slice HO618.out;subst eo10))
     go_loopg [6,7] k (fun kq v6 v7 w'=>∃ (x5_1:List Int) (x6_1:Int) (x7_1:Int),v6=.int .i64 x6_1∧v7=.int .i64 x7_1∧Aside0 (impl_partNeeds.l0 kq l0 x5_1 x6_1 x7_1=some r)∧Aside0 (kq≤k)∧Aside0 (Kd.R (Kd.int .i64) 3 w' w.heap.size (fun _=>True) (.slice Ao10 y616.length co10) x5_1)∧Aside0 (Below w.heap.size w w'))
     case atStart=>exact ⟨(y616),(wrap64 (a1 - 1)),(wrap64 ((y616.length:Int) - 1)),(zyx1_0),(zyx1_0),H',⟨Nat.le_refl _⟩,⟨by (with_reducible repeat (first|apply Kd.R_alloc|apply Kd.R_drewN|apply Kd.R_drew));exact HO618.out⟩,⟨zyx1_4⟩⟩
     case round =>
      clear H';(try clear p2);(try clear c3);(try clear c3b0);(try clear c4);(try clear c4b0);(try clear c6);(try clear c6b0);(try clear c6b1);(try clear p6);(try clear q6);(try clear hx6);(try clear c7);(try clear c7b0);(try clear c7b1);(try clear hx614_0);(try clear hx614_1);(try clear p614);(try clear q614);obtain ⟨x5_1,x6_1,x7_1,rfl,rfl,HA,HK1,HO_5,HB⟩:=hrel;have hl5_1:=(Kd.R_reads' HO_5.out).1;rw [hl5_1] at HO_5;(try simp only [hl5_1])
      cases gk with
      | zero=>exact absurd HA.out (by simp [impl_partNeeds.l0])
      | succ k1 =>
       have H:=HA.out;clear HA;simp only [impl_partNeeds.l0] at H
       by_cases c11:x7_1 ≥ 0
       ·rw [if_pos c11] at H
        have c11b0:decide (0≤x7_1)=true:=dT1 c11;clear c11
        by_cases c12:0≤x7_1
        ·rw [if_pos c12] at H
         have c12b0:decide (0≤x7_1)=true:=dT1 c12;clear c12
         by_cases c13:x7_1 < (x5_1.length:Int)
         ·rw [if_pos c13] at H
          have c13b0:decide (x7_1 < (x5_1.length:Int))=true:=dT1 c13;clear c13;obtain ⟨y619,hy619⟩:∃ y_:List Int,y_=(x5_1.set (x7_1:Int).toNat x6_1):=⟨_,rfl⟩
          replace H:((impl_partSize.f k1 l0 x6_1).bind fun t620=>(impl_partNeeds.l0 k1 l0 y619 (wrap64 (x6_1 - t620)) (wrap64 (x7_1 - 1))))=some r:=by first|(rw [hy619];with_reducible exact H)|(have H2_:=(Option.bind_some _ _).symm.trans H;rw [hy619];with_reducible exact H2_)|(have H2_:=(Option.bind_some _ _).symm.trans H;with_reducible exact H2_)|with_reducible exact H|(rw [hy619];exact H)|exact H
          have Ny619:=aM1 hy619;clear hy619;replace H:=bI1.mp H;obtain ⟨t620,A150,H⟩:=H;(try dsimp only at H);have A15:=aM1 A150;clear A150;have H':=aM1 H;clear H;have p14:0≤(x7_1:Int):=oD1 (zyx1_3);have q14:(x7_1:Int) < ((x5_1.length:Int):Int):=oD1 (zyx1_3);obtain ⟨go14,co14,eo14,gb14,gl14,cl14,HG14⟩:=Kd.R_form HO_5.out (by omega)
          (first|cases eo14|(injection eo14 with ea_ en_ ec_;(first|subst ea_|(injection ea_ with ea_;subst ea_));subst ec_;clear en_))
          have GB14:=aM1 gb14;have GG14:=aM1 HG14;clear gb14 gl14 HG14;obtain ⟨hx14_0,hf14_0⟩:=Kd.R_celln 0 HO_5.out (x7_1:Int) p14 q14;replace p14:=eT1 p14;replace q14:=eT1 q14;have HP16:=Kd.R_putg HO_5.out (x7_1:Int) x6_1
          go_wp2_with (first|((with_reducible refine gate_store (t:=3) (p:=27) rfl ?_);refine store_event (t:=3) (p:=27) (v:=?vo_w17) (w1:=(wr.setCell ⟨go14,(x7_1:Int).toNat,none⟩ (.int .i64 x6_1))) ?hg ?ho ?hn ?hr ?_;(case ho=>rfl);(case hg=>rfl);(case hn=>rfl);(case hr=>exact zyx1_13);intro w17 hw;have hg:wr.grownBy w17 (some go14):=(by rw [hw];exact HP16.2);have hp_:Kd.R (Kd.int .i64) 3 w17 w.heap.size (fun _=>True) (.slice (some ⟨go14,0,none⟩) x5_1.length co10) y619:=(by rw [hw,Ny619.out];exact HP16.1);clear HP16;have n0_:=aM1 (hp_);have n1_:=aM1 ((by rw [hw];exact below_set (HB.out) GB14.out:Below w.heap.size w w17));clear HO_5 HB;have HO_5:=n0_;have HB:=n1_;clear n0_ n1_ hg hw hp_)|((with_reducible refine gC1 (f:=78) rfl ?_);refine goesL_ (some 31) rfl rfl Try.func78 (by kernel_rfl) rfl #[.slice (some ad614) l0.length c0,.int .i64 x6_1] rfl (zyx1_6) ?_;(with_reducible refine (impl_partSize.calls k1 _ _ l0 x6_1 t620 _ ?side1 ?side2 A15.out).mono ?_);(case side1=>exact zyx1_14);(case side2=>exact HC0.out);rintro e w' ⟨rfl,⟨nd,rfl⟩⟩;refine ⟨_,rfl,?_⟩))
          (try simp only [← hl5_1])
          go_roundg k1
          case measure=>have:=HK1.out;omega
          case rel=>exact ⟨(y619),(wrap64 (x6_1 - t620)),(wrap64 (x7_1 - 1)),(zyx1_0),(zyx1_0),H',⟨by have:=HK1.out;omega⟩,⟨by (try simp only [hl5_1]);(with_reducible repeat (first|apply Kd.R_alloc|apply Kd.R_drewN|apply Kd.R_drew));exact HO_5.out⟩,⟨zyx1_4⟩⟩
         ·rw [if_neg c13] at H
          exact absurd H (by simp)
        ·rw [if_neg c12] at H
         exact absurd H (by simp)
       ·rw [if_neg c11] at H
        have c11b0:decide (0≤x7_1)=false:=decide_eq_false c11;clear c11;obtain rfl:=Option.some.inj H
        go_wp2
        go_ret
        exact ⟨_,zyx1_5,by (with_reducible repeat (first|apply Kd.R_alloc|apply Kd.R_drewN|apply Kd.R_drew));exact HO_5.out,zyx1_4⟩
    ·rw [if_neg c7] at H
     exact absurd H (by simp)
   ·rw [if_neg c6] at H
    exact absurd H (by simp)
  ·rw [if_neg c4] at H
   exact absurd H (by simp)
 ·rw [if_neg c3] at H
  exact absurd H (by simp)
def impl_abs.f (a0:Int):Option (Int):=some (mx a0 (wrap64 (-a0)))
set_option maxHeartbeats 8000000 in
set_option maxRecDepth 100000 in
theorem impl_abs.calls (a0:Int) (r:Int) (w:World) (h:impl_abs.f a0=some r) :
  Calls Try.prog 69 #[.int .i64 a0] w fun e w'=>e=.returned (.int .i64 r)∧Below w.heap.size w w':=by
 have HB:=aM1 (Below.refl w.heap.size w);have H:(some (mx a0 (wrap64 (-a0))))=some r:=h;clear h;obtain ⟨ji2,hji2⟩:∃ j_:Int,(mx a0 (wrap64 (-a0)))=j_:=⟨_,rfl⟩
 replace H:(some ji2)=some r:=by first|(rw [hji2] at H;exact H)|(simp only [hji2] at H ⊢;exact H)
 have hji2_:(if a0 < (wrap64 (-a0)) then (wrap64 (-a0)) else a0)=ji2:=hji2;obtain rfl:=Option.some.inj H;go_enter Try.func69,Try.ntmps69
 go_wp2
 go_ret
 exact ⟨by first|rfl|(simp [errW_none,errW_some] <;> rfl)|(simp only [← hji2];first|rfl|(simp [errW_none,errW_some] <;> rfl))|(simp [*,errW_none,errW_some] <;> rfl),zyx1_4⟩
mutual
def impl_evalPart.j0:Nat→List (S94)→List Int→List Int→Int→Int→Bool→Int→Int→Option (Int × Bool)
 | 0,_,_,_,_,_,_,_,_=>none
 | k + 1,x0,x2,x9,x10,x12,x59,x623000,x623001=>if x59=true then (some (0,false)) else (if x623000=2 then ((impl_abs.f (wrap64 (x10 + x12))).bind fun t633=>(if t633 > 1000000000 then (some (0,false)) else (some (wrap64 (x10 + x12),true)))) else (if x623000=3 then ((impl_abs.f (wrap64 (x10 - x12))).bind fun t634=>(if t634 > 1000000000 then (some (0,false)) else (some (wrap64 (x10 - x12),true)))) else (if x623000=4 then ((impl_abs.f (wrap64 (x10 * x12))).bind fun t635=>(if t635 > 1000000000 then (some (0,false)) else (some (wrap64 (x10 * x12),true)))) else (if x623000=5 then (if x12=0 then (some (0,false)) else (if x12 < 0 then (impl_evalPart.j1 k (wrap64 (-x10)) (wrap64 (-x12))) else (impl_evalPart.j1 k x10 x12))) else (if x623000=6 then (if x10 < x12 then (impl_evalPart.j2 k x0 x2 x9 true) else (if x623000=7 then (if x10=x12 then (impl_evalPart.j2 k x0 x2 x9 true) else (if x623000=8 then (impl_evalPart.j2 k x0 x2 x9 (decide (x10 > x12))) else (impl_evalPart.j2 k x0 x2 x9 false))) else (if x623000=8 then (impl_evalPart.j2 k x0 x2 x9 (decide (x10 > x12))) else (impl_evalPart.j2 k x0 x2 x9 false)))) else (if x623000=7 then (if x10=x12 then (impl_evalPart.j2 k x0 x2 x9 true) else (if x623000=8 then (impl_evalPart.j2 k x0 x2 x9 (decide (x10 > x12))) else (impl_evalPart.j2 k x0 x2 x9 false))) else (if x623000=8 then (impl_evalPart.j2 k x0 x2 x9 (decide (x10 > x12))) else (impl_evalPart.j2 k x0 x2 x9 false))))))))
def impl_evalPart.j1:Nat→Int→Int→Option (Int × Bool)
 | 0,_,_=>none
 | k + 1,x10,x12=>(impl_floorDiv.f x10 x12).bind fun t636=>((impl_abs.f t636).bind fun t637=>(if t637 > 1000000000 then (some (0,false)) else (some (t636,true))))
def impl_evalPart.j2:Nat→List (S94)→List Int→List Int→Bool→Option (Int × Bool)
 | 0,_,_,_,_=>none
 | k + 1,x0,x2,x9,x15=>if x15=true then (if 2 < (x9.length:Int) then ((impl_evalPart.f k x0 (rd x9 2) x2).bind fun bt639=>(some (bt639.1,bt639.2))) else (none)) else (if 3 < (x9.length:Int) then ((impl_evalPart.f k x0 (rd x9 3) x2).bind fun bt642=>(some (bt642.1,bt642.2))) else (none))
def impl_evalPart.f:Nat→List (S94)→Int→List Int→Option (Int × Bool)
 | 0,_,_,_=>none
 | k + 1,l0,a1,l2=>if 0≤a1 then (if a1 < (l0.length:Int) then (if ((rd_T94 l0 a1).f0)=0 then (some ((rd_T94 l0 a1).f1,true)) else (if ((rd_T94 l0 a1).f0)=1 then (if 0≤((rd_T94 l0 a1).f1) then (if ((rd_T94 l0 a1).f1) < (l2.length:Int) then (some (rd l2 ((rd_T94 l0 a1).f1),true)) else (none)) else (none)) else ((impl_partNeeds.f k l0 a1).bind fun t624=>(if 0 < (t624.length:Int) then ((impl_evalPart.f k l0 (rd t624 0) l2).bind fun bt628=>(if 1 < (t624.length:Int) then ((impl_evalPart.f k l0 (rd t624 1) l2).bind fun bt631=>(if bt628.2=true then (impl_evalPart.j0 k l0 l2 t624 bt628.1 bt631.1 (!bt631.2) ((rd_T94 l0 a1).f0) ((rd_T94 l0 a1).f1)) else (impl_evalPart.j0 k l0 l2 t624 bt628.1 bt631.1 true ((rd_T94 l0 a1).f0) ((rd_T94 l0 a1).f1)))) else (none))) else (none))))) else (none)) else (none)
end
theorem impl_evalPart.mono_l:∀ k,(∀ y0 y1 y2,LeO (impl_evalPart.f k y0 y1 y2) (impl_evalPart.f (k + 1) y0 y1 y2))∧(∀ y0 y1 y2 y3 y4 y5 y6 y7,LeO (impl_evalPart.j0 k y0 y1 y2 y3 y4 y5 y6 y7) (impl_evalPart.j0 (k + 1) y0 y1 y2 y3 y4 y5 y6 y7))∧(∀ y0 y1,LeO (impl_evalPart.j1 k y0 y1) (impl_evalPart.j1 (k + 1) y0 y1))∧(∀ y0 y1 y2 y3,LeO (impl_evalPart.j2 k y0 y1 y2 y3) (impl_evalPart.j2 (k + 1) y0 y1 y2 y3))
 | 0=>⟨fun _ _ _ r h=>by simp [impl_evalPart.f] at h,fun _ _ _ _ _ _ _ _ r h=>by simp [impl_evalPart.j0] at h,fun _ _ r h=>by simp [impl_evalPart.j1] at h,fun _ _ _ _ r h=>by simp [impl_evalPart.j2] at h⟩
 | k + 1=>by
  obtain ⟨ih0,ih1,ih2,ih3⟩:=impl_evalPart.mono_l k;refine ⟨?_,?_,?_,?_⟩
  ·intro y0 y1 y2
   unfold impl_evalPart.f
   repeat' first
   | (with_reducible exact ih0 _ _ _)
   | (with_reducible exact ih1 _ _ _ _ _ _ _ _)
   | (with_reducible exact ih2 _ _)
   | (with_reducible exact ih3 _ _ _ _)
   | (with_reducible exact impl_partNeeds.mono _ _ _)
   | (with_reducible exact LeO.refl _)
   | (with_reducible exact LeO.none _)
   | (with_reducible refine LeO.ite ?_ ?_)
   | (with_reducible refine LeO.bind ?_ (fun _=>?_))
   | exact ih0 _ _ _
   | exact ih1 _ _ _ _ _ _ _ _
   | exact ih2 _ _
   | exact ih3 _ _ _ _
   | exact impl_partNeeds.mono _ _ _
   | exact LeO.none _
   | refine LeO.ite ?_ ?_
   | refine LeO.bind ?_ (fun _=>?_)
  ·intro y0 y1 y2 y3 y4 y5 y6 y7
   unfold impl_evalPart.j0
   repeat' first
   | (with_reducible exact ih0 _ _ _)
   | (with_reducible exact ih1 _ _ _ _ _ _ _ _)
   | (with_reducible exact ih2 _ _)
   | (with_reducible exact ih3 _ _ _ _)
   | (with_reducible exact impl_partNeeds.mono _ _ _)
   | (with_reducible exact LeO.refl _)
   | (with_reducible exact LeO.none _)
   | (with_reducible refine LeO.ite ?_ ?_)
   | (with_reducible refine LeO.bind ?_ (fun _=>?_))
   | exact ih0 _ _ _
   | exact ih1 _ _ _ _ _ _ _ _
   | exact ih2 _ _
   | exact ih3 _ _ _ _
   | exact impl_partNeeds.mono _ _ _
   | exact LeO.none _
   | refine LeO.ite ?_ ?_
   | refine LeO.bind ?_ (fun _=>?_)
  ·intro y0 y1
   unfold impl_evalPart.j1
   repeat' first
   | (with_reducible exact ih0 _ _ _)
   | (with_reducible exact ih1 _ _ _ _ _ _ _ _)
   | (with_reducible exact ih2 _ _)
   | (with_reducible exact ih3 _ _ _ _)
   | (with_reducible exact impl_partNeeds.mono _ _ _)
   | (with_reducible exact LeO.refl _)
   | (with_reducible exact LeO.none _)
   | (with_reducible refine LeO.ite ?_ ?_)
   | (with_reducible refine LeO.bind ?_ (fun _=>?_))
   | exact ih0 _ _ _
   | exact ih1 _ _ _ _ _ _ _ _
   | exact ih2 _ _
   | exact ih3 _ _ _ _
   | exact impl_partNeeds.mono _ _ _
   | exact LeO.none _
   | refine LeO.ite ?_ ?_
   | refine LeO.bind ?_ (fun _=>?_)
  ·intro y0 y1 y2 y3
   unfold impl_evalPart.j2
   repeat' first
   | (with_reducible exact ih0 _ _ _)
   | (with_reducible exact ih1 _ _ _ _ _ _ _ _)
   | (with_reducible exact ih2 _ _)
   | (with_reducible exact ih3 _ _ _ _)
   | (with_reducible exact impl_partNeeds.mono _ _ _)
   | (with_reducible exact LeO.refl _)
   | (with_reducible exact LeO.none _)
   | (with_reducible refine LeO.ite ?_ ?_)
   | (with_reducible refine LeO.bind ?_ (fun _=>?_))
   | exact ih0 _ _ _
   | exact ih1 _ _ _ _ _ _ _ _
   | exact ih2 _ _
   | exact ih3 _ _ _ _
   | exact impl_partNeeds.mono _ _ _
   | exact LeO.none _
   | refine LeO.ite ?_ ?_
   | refine LeO.bind ?_ (fun _=>?_)
theorem impl_evalPart.mono:∀ a0 a1 a2 k,LeO (impl_evalPart.f k a0 a1 a2) (impl_evalPart.f (k + 1) a0 a1 a2):=by
 intro a0 a1 a2 k;obtain ⟨ih0,ih1,ih2,ih3⟩:=impl_evalPart.mono_l k;exact ih0 a0 a1 a2
set_option maxHeartbeats 8000000 in
set_option maxRecDepth 100000 in
theorem impl_evalPart.calls (k:Nat):∀ (A0:Option Addr) (c0:Nat) (l0:List (S94)) (a1:Int) (A2:Option Addr) (c2:Nat) (l2:List Int) (r1:Int) (r2:Bool) (w:World) (hr0:Kd.C k94 w A0 l0.length l0) (hc0:l0.length≤c0) (hr2:Kd.C (Kd.int .i64) w A2 l2.length l2) (hc2:l2.length≤c2) (h:impl_evalPart.f k l0 a1 l2=some (r1,r2)),
  Calls Try.prog 59 #[.slice A0 l0.length c0,.int .i64 a1,.slice A2 l2.length c2] w fun e w'=>e=.returned (.tuple #[.int .i64 r1,.bool r2])∧Below w.heap.size w w':=by
 induction k using Nat.strongRecOn with
 | _ k ih =>
 intro A0 c0 l0 a1 A2 c2 l2 r1 r2 w hr0 hc0 hr2 hc2 h
 cases k with
 | zero=>exact absurd h (by simp [impl_evalPart.f])
 | succ k =>
 simp only [impl_evalPart.f] at h;have hu94:=Try.underlying94;have HR0:=aM1 hr0;have HC0:=aM1 hc0;clear hr0 hc0;have HR2:=aM1 hr2;have HC2:=aM1 hc2;clear hr2 hc2;have HB:=aM1 (Below.refl w.heap.size w);have H:(if 0≤a1 then (if a1 < (l0.length:Int) then (if ((rd_T94 l0 a1).f0)=0 then (some ((rd_T94 l0 a1).f1,true)) else (if ((rd_T94 l0 a1).f0)=1 then (if 0≤((rd_T94 l0 a1).f1) then (if ((rd_T94 l0 a1).f1) < (l2.length:Int) then (some (rd l2 ((rd_T94 l0 a1).f1),true)) else (none)) else (none)) else ((impl_partNeeds.f k l0 a1).bind fun t624=>(if 0 < (t624.length:Int) then ((impl_evalPart.f k l0 (rd t624 0) l2).bind fun bt628=>(if 1 < (t624.length:Int) then ((impl_evalPart.f k l0 (rd t624 1) l2).bind fun bt631=>(if bt628.2=true then (impl_evalPart.j0 k l0 l2 t624 bt628.1 bt631.1 (!bt631.2) ((rd_T94 l0 a1).f0) ((rd_T94 l0 a1).f1)) else (impl_evalPart.j0 k l0 l2 t624 bt628.1 bt631.1 true ((rd_T94 l0 a1).f0) ((rd_T94 l0 a1).f1)))) else (none))) else (none))))) else (none)) else (none))=some (r1,r2):=h;clear h
 by_cases c4:0≤a1
 ·rw [if_pos c4] at H
  have c4b0:decide (0≤a1)=true:=dT1 c4;clear c4
  by_cases c5:a1 < (l0.length:Int)
  ·rw [if_pos c5] at H
   have c5b0:decide (a1 < (l0.length:Int))=true:=dT1 c5;clear c5
   by_cases c6:((rd_T94 l0 a1).f0)=0
   ·rw [if_pos c6] at H
    have c6b0:(((rd_T94 l0 a1).f0) == 0)=true:=beq_iff_eq.mpr c6;have c6b1:(((rd_T94 l0 a1).f0) != 0)=false:=bne_eq_false_iff_eq.mpr c6;clear c6;simp only [Option.some.injEq,Prod.mk.injEq] at H;obtain ⟨rfl,rfl⟩:=H;have p621:0≤(a1:Int):=oD1 (zyx1_3);have q621:a1 < (l0.length:Int):=oD1 (zyx1_3);obtain ⟨ad621,e621,hx621_0,hx621_1⟩:=at_T94 HR0.out a1 p621 q621
    cases e621
    replace p621:=eT1 p621;replace q621:=eT1 q621;go_enter Try.func59,Try.ntmps59
    go_wp2_with (first|((with_reducible refine gate_dst (N:=8) rfl ?_);refine box_event ?hg (N:=8) ?hd (cs:=#[.int .i64 0,.int .i64 0]) (t:=94) ?hr ?_;(case hd=>rfl);(case hg=>rfl);(case hr=>exact zyx1_13);intro gb622 hg w7 hbox hb;have n0_:=aM1 (bS1 (zyx1_4) hb);have n1_:=aM1 (hbox);have n2_:=aM1 ((zyx1_16:w.heap.size≤gb622));have n3_:=aM1 ((zyx1_16:w.heap.size≤gb622));clear HB;have HB:=n0_;have BK622:=n1_;have GW622:=n2_;have GE622:=n3_;clear n0_ n1_ n2_ n3_ hb hbox hg;obtain ⟨hcz8_0,hfz8_0,hcz8_1,hfz8_1⟩:=cf2 BK622.out))
    go_ret2
    exact ⟨zyx1_5,zyx1_7⟩
   ·rw [if_neg c6] at H
    have c6b0:(((rd_T94 l0 a1).f0) == 0)=false:=beq_eq_false_iff_ne.mpr c6;have c6b1:(((rd_T94 l0 a1).f0) != 0)=true:=bne_iff_ne.mpr c6
    by_cases c9:((rd_T94 l0 a1).f0)=1
    ·rw [if_pos c9] at H
     have c9b0:(((rd_T94 l0 a1).f0) == 1)=true:=beq_iff_eq.mpr c9;have c9b1:(((rd_T94 l0 a1).f0) != 1)=false:=bne_eq_false_iff_eq.mpr c9;clear c9
     by_cases c10:0≤((rd_T94 l0 a1).f1)
     ·rw [if_pos c10] at H
      have c10b0:decide (0≤((rd_T94 l0 a1).f1))=true:=dT1 c10;clear c10
      by_cases c11:((rd_T94 l0 a1).f1) < (l2.length:Int)
      ·rw [if_pos c11] at H
       have c11b0:decide (((rd_T94 l0 a1).f1) < (l2.length:Int))=true:=dT1 c11;clear c11;simp only [Option.some.injEq,Prod.mk.injEq] at H;obtain ⟨rfl,rfl⟩:=H;have p621:0≤(a1:Int):=oD1 (zyx1_3);have q621:a1 < (l0.length:Int):=oD1 (zyx1_3);obtain ⟨ad621,e621,hx621_0,hx621_1⟩:=at_T94 HR0.out a1 p621 q621
       cases e621
       replace p621:=eT1 p621;replace q621:=eT1 q621;go_enter Try.func59,Try.ntmps59
       go_wp2_with (first|((with_reducible refine gate_dst (N:=8) rfl ?_);refine box_event ?hg (N:=8) ?hd (cs:=#[.int .i64 0,.int .i64 0]) (t:=94) ?hr ?_;(case hd=>rfl);(case hg=>rfl);(case hr=>exact zyx1_13);intro gb622 hg w12 hbox hb;have n0_:=aM1 (bS1 (zyx1_4) hb);have n1_:=aM1 (hbox);have n2_:=aM1 ((zyx1_16:w.heap.size≤gb622));have n3_:=aM1 ((zyx1_16:w.heap.size≤gb622));clear HB;have HB:=n0_;have BK622:=n1_;have GW622:=n2_;have GE622:=n3_;clear n0_ n1_ n2_ n3_ hb hbox hg;obtain ⟨hcz13_0,hfz13_0,hcz13_1,hfz13_1⟩:=cf2 BK622.out;have p623:0≤(((rd_T94 l0 a1).f1):Int):=oD1 (zyx1_3);have q623:((rd_T94 l0 a1).f1) < (l2.length:Int):=oD1 (zyx1_3);obtain ⟨ad623,e623,hx623_0⟩:=Kd.at_int HR2.out ((rd_T94 l0 a1).f1) p623 q623;cases e623;have hn623_0:ad623.block≠gb622:=Nat.ne_of_lt (Nat.lt_of_lt_of_le (by have:=World.block_lt_of_cell? _ _ hx623_0;first|rwa [add_block] at this|exact this) GW622.out);have hn623_1:ad623.block≠gb622:=Nat.ne_of_lt (Nat.lt_of_lt_of_le (by have:=World.block_lt_of_cell? _ _ hx623_0;first|rwa [add_block] at this|exact this) GW622.out);replace hx623_0:=(HB.out.cell (World.block_lt_of_cell? w _ hx623_0)).trans hx623_0;replace hx623_0:=(cell_far (p:=⟨gb622,0,none⟩) (by first|(rw [add_block];exact hn623_0)|(show (Addr.add _ _).block≠_;rw [add_block];exact hn623_0)|exact hn623_0) (.int .i64 ((rd_T94 l0 a1).f0))).trans hx623_0;replace hx623_0:=(cell_far (p:=⟨gb622,1,none⟩) (by first|(rw [add_block];exact hn623_1)|(show (Addr.add _ _).block≠_;rw [add_block];exact hn623_1)|exact hn623_1) (.int .i64 ((rd_T94 l0 a1).f1))).trans hx623_0;clear hn623_0 hn623_1;replace p623:=eT1 p623;replace q623:=eT1 q623))
       go_ret2
       exact ⟨zyx1_5,zyx1_7⟩
      ·rw [if_neg c11] at H
       exact absurd H (by simp)
     ·rw [if_neg c10] at H
      exact absurd H (by simp)
    ·rw [if_neg c9] at H
     have c9b0:(((rd_T94 l0 a1).f0) == 1)=false:=beq_eq_false_iff_ne.mpr c9;have c9b1:(((rd_T94 l0 a1).f0) != 1)=true:=bne_iff_ne.mpr c9;replace H:=bI1.mp H;obtain ⟨t624,A140,H⟩:=H;(try dsimp only at H);have A14:=aM1 A140;clear A140
     by_cases c15:0 < (t624.length:Int)
     ·rw [if_pos c15] at H
      have c15b0:decide (0 < (t624.length:Int))=true:=dT1 c15;have c15b1:decide (0 < t624.length)=true:=dT1 (by omega);clear c15;replace H:=bI1.mp H;obtain ⟨⟨t628,t629⟩,A160,H⟩:=H;(try dsimp only at H);have A16:=aM1 A160;clear A160
      by_cases c17:1 < (t624.length:Int)
      ·rw [if_pos c17] at H
       have c17b0:decide (1 < (t624.length:Int))=true:=dT1 c17;have c17b1:decide (1 < t624.length)=true:=dT1 (by omega);clear c17;replace H:=bI1.mp H;obtain ⟨⟨t631,t632⟩,A180,H⟩:=H;(try dsimp only at H);have A18:=aM1 A180;clear A180;have HC19:=aM1 H;clear H;have p621:0≤(a1:Int):=oD1 (zyx1_3);have q621:a1 < (l0.length:Int):=oD1 (zyx1_3);obtain ⟨ad621,e621,hx621_0,hx621_1⟩:=at_T94 HR0.out a1 p621 q621
       cases e621
       replace p621:=eT1 p621;replace q621:=eT1 q621;go_enter Try.func59,Try.ntmps59
       go_upto_region 10 with (first|((with_reducible refine gate_dst (N:=8) rfl ?_);refine box_event ?hg (N:=8) ?hd (cs:=#[.int .i64 0,.int .i64 0]) (t:=94) ?hr ?_;(case hd=>rfl);(case hg=>rfl);(case hr=>exact zyx1_13);intro gb622 hg w20 hbox hb;have n0_:=aM1 (bS1 (zyx1_4) hb);have n1_:=aM1 (hbox);have n2_:=aM1 ((zyx1_16:w.heap.size≤gb622));have n3_:=aM1 ((zyx1_16:w.heap.size≤gb622));clear HB;have HB:=n0_;have BK622:=n1_;have GW622:=n2_;have GE622:=n3_;clear n0_ n1_ n2_ n3_ hb hbox hg;obtain ⟨hcz21_0,hfz21_0,hcz21_1,hfz21_1⟩:=cf2 BK622.out)|((with_reducible refine gC1 (f:=68) rfl ?_);refine goesL_ (some 35) rfl rfl Try.func68 (by kernel_rfl) rfl #[.slice (some ad621) l0.length c0,.int .i64 a1] rfl (zyx1_6) ?_;(with_reducible refine (impl_partNeeds.calls k _ _ l0 a1 t624 _ ?side1 ?side2 A14.out).mono ?_);(case side1=>exact Kd.C_below HR0.out (zyx1_7));(case side2=>exact HC0.out);rintro e w22 ⟨v625,rfl,ho0,hb⟩;refine ⟨_,rfl,?_⟩;have n0_:=aM1 (Kd.R_lower ho0 (below_size (zyx1_7)));have n1_:=aM1 (bB1 (g:=gb622) (o:=.cells #[.int .i64 ((rd_T94 l0 a1).f0),.int .i64 ((rd_T94 l0 a1).f1)] 94 (0,0)) (by (with_reducible repeat (first|refine blk_drewN ?_ _|refine blk_drew ?_|refine blk_alloc ?_ _));refine blk_put (cs:=#[.int .i64 ((rd_T94 l0 a1).f0),.int .i64 0]) ?_ 1 _ rfl;(with_reducible repeat (first|refine blk_drewN ?_ _|refine blk_drew ?_|refine blk_alloc ?_ _));refine blk_put (cs:=#[.int .i64 0,.int .i64 0]) ?_ 0 _ rfl;(with_reducible repeat (first|refine blk_drewN ?_ _|refine blk_drew ?_|refine blk_alloc ?_ _));exact BK622.out) hb);have n2_:=aM1 (bS1 (zyx1_7) hb);clear BK622 HB;have HO626:=n0_;have BK622:=n1_;have HB:=n2_;clear n0_ n1_ n2_;(try clear hb);(try clear hb2);(try clear hk);(try clear hi);(try clear ho0);obtain ⟨Ao23,co23,eo23⟩:=Kd.R_slice HO626.out;subst eo23;have p627:0≤(0:Int):=(by omega);have q627:0 < (t624.length:Int):=oD1 (zyx1_3);obtain ⟨ad627,e627,hx627_0⟩:=Kd.at_int (Kd.R_reads' HO626.out).2.2 0 p627 q627;cases e627;have qi627:(0 < t624.length)=True:=eT1 (by omega);(try rw [show ((0:Int)).toNat=0 from rfl] at hx627_0);(try rw [Addr.add_zero'] at hx627_0);replace p627:=eT1 p627;replace q627:=eT1 q627)|((with_reducible refine gC1 (f:=59) rfl ?_);refine goesL_ (some 42) rfl rfl Try.func59 (by kernel_rfl) rfl #[.slice (some ad621) l0.length c0,.int .i64 (rd t624 0),.slice A2 l2.length c2] rfl (zyx1_6) ?_;(with_reducible refine (ih k (by omega) _ _ l0 (rd t624 0) _ _ l2 t628 t629 _ ?side1 ?side2 ?side3 ?side4 A16.out).mono ?_);(case side1=>exact zyx1_14);(case side2=>exact HC0.out);(case side3=>exact zyx1_15);(case side4=>exact HC2.out);rintro e w24 ⟨rfl,hb⟩;refine ⟨_,rfl,?_⟩;have n0_:=aM1 (Kd.R_below (zyx1_8) hb);have n1_:=aM1 (bB1 (g:=gb622) (o:=.cells #[.int .i64 ((rd_T94 l0 a1).f0),.int .i64 ((rd_T94 l0 a1).f1)] 94 (0,0)) (zyx1_9) hb);have n2_:=aM1 (bS1 (zyx1_7) hb);clear HO626 BK622 HB;have HO626:=n0_;have BK622:=n1_;have HB:=n2_;clear n0_ n1_ n2_;(try clear hb);(try clear hb2);(try clear hk);(try clear hi);have p630:0≤(1:Int):=(by omega);have q630:1 < (t624.length:Int):=oD1 (zyx1_3);obtain ⟨ad630,e630,hx630_0⟩:=Kd.at_int (Kd.R_reads' HO626.out).2.2 1 p630 q630;obtain rfl:ad627=ad630:=(by injection e630);(try simp only [show (1:Int).toNat=1 from rfl,Nat.reduceMul,Nat.reduceEqDiff,Go.Addr.add,↓reduceIte] at hx630_0);have qi630:(1 < t624.length)=True:=eT1 (by omega);(try rw [show ((1:Int)).toNat=1 from rfl] at hx630_0);replace p630:=eT1 p630;replace q630:=eT1 q630)|((with_reducible refine gC1 (f:=59) rfl ?_);refine goesL_ (some 51) rfl rfl Try.func59 (by kernel_rfl) rfl #[.slice (some ad621) l0.length c0,.int .i64 (rd t624 1),.slice A2 l2.length c2] rfl (zyx1_6) ?_;(with_reducible refine (ih k (by omega) _ _ l0 (rd t624 1) _ _ l2 t631 t632 _ ?side1 ?side2 ?side3 ?side4 A18.out).mono ?_);(case side1=>exact zyx1_14);(case side2=>exact HC0.out);(case side3=>exact zyx1_15);(case side4=>exact HC2.out);rintro e w25 ⟨rfl,hb⟩;refine ⟨_,rfl,?_⟩;have n0_:=aM1 (Kd.R_below (zyx1_8) hb);have n1_:=aM1 (bB1 (g:=gb622) (o:=.cells #[.int .i64 ((rd_T94 l0 a1).f0),.int .i64 ((rd_T94 l0 a1).f1)] 94 (0,0)) (zyx1_9) hb);have n2_:=aM1 (bS1 (zyx1_7) hb);clear HO626 BK622 HB;have HO626:=n0_;have BK622:=n1_;have HB:=n2_;clear n0_ n1_ n2_;(try clear hb);(try clear hb2);(try clear hk);(try clear hi)))
       (try simp only [Act.put,List.setIfInBounds_toArray,List.set_cons_zero,List.set_cons_succ])
       go_cut [59] (fun v59 wc=>∃ (kq:Nat) (x59_18:Bool),v59=.bool x59_18∧Aside0 (impl_evalPart.j0 kq l0 l2 t624 t628 t631 x59_18 ((rd_T94 l0 a1).f0) ((rd_T94 l0 a1).f1)=some (r1,r2))∧Aside0 (kq≤k)∧Aside0 (Kd.R (Kd.int .i64) 3 wc w.heap.size (fun _=>True) (.slice (some ad627) t624.length co23) t624)∧Aside0 (wc.heap[gb622]?=some (.cells #[.int .i64 ((rd_T94 l0 a1).f0),.int .i64 ((rd_T94 l0 a1).f1)] 94 (0,0)))∧Aside0 (Below w.heap.size w wc))
       case first =>
        have H:=HC19.out;clear HC19
        by_cases c26:t629=true
        ·subst c26
         rw [if_pos rfl] at H;(try dsimp only at H);have H':=aM1 H;clear H
         go_wp2
         go_meet
         case rel=>exact ⟨_,(!t632),(zyx1_0),H',⟨zyx1_1⟩,⟨zyx1_8⟩,⟨zyx1_9⟩,⟨zyx1_7⟩⟩
        ·replace c26:=Bool.eq_false_iff.mpr c26
         subst c26;rw [if_neg (show ¬ (false=true) by decide)] at H;(try dsimp only at H);have H':=aM1 H;clear H
         go_wp2
         go_meet
         case rel=>exact ⟨_,(true),(zyx1_0),H',⟨zyx1_1⟩,⟨zyx1_8⟩,⟨zyx1_9⟩,⟨zyx1_7⟩⟩
       case rest =>
        clear HC19;(try clear c1);(try clear c2);(try clear p2);(try clear c4);(try clear c4b0);(try clear c5);(try clear c5b0);(try clear c6);(try clear c6b0);(try clear c6b1);(try clear p6);(try clear q6);(try clear hx6);(try clear qi6);(try clear c9);(try clear c9b0);(try clear c9b1);(try clear c10);(try clear c10b0);(try clear c11);(try clear c11b0);(try clear c15);(try clear c15b0);(try clear c15b1);(try clear c17);(try clear c17b0);(try clear c17b1);(try clear c26);(try clear hcz13_0);(try clear hcz13_1);(try clear hcz21_0);(try clear hcz21_1);(try clear hcz8_0);(try clear hcz8_1);(try clear hfz13_0);(try clear hfz13_1);(try clear hfz21_0);(try clear hfz21_1);(try clear hfz8_0);(try clear hfz8_1);(try clear hx621_0);(try clear hx621_1);(try clear hx623_0);(try clear hx627_0);(try clear hx630_0);(try clear p621);(try clear p623);(try clear p627);(try clear p630);(try clear q621);(try clear q623);(try clear q627);(try clear q630);obtain ⟨kq,x59_18,rfl,HA,HJ18,HO_9,BK622,HB⟩:=hcut
        cases kq with
        | zero=>exact absurd HA.out (by simp [impl_evalPart.j0])
        | succ kj18 =>
         have H:=HA.out;clear HA;simp only [impl_evalPart.j0] at H
         by_cases c27:x59_18=true
         ·subst c27
          rw [if_pos rfl] at H;(try dsimp only at H);simp only [Option.some.injEq,Prod.mk.injEq] at H;obtain ⟨rfl,rfl⟩:=H
          go_wp2
          go_ret2
          exact ⟨zyx1_5,zyx1_7⟩
         ·replace c27:=Bool.eq_false_iff.mpr c27
          subst c27;rw [if_neg (show ¬ (false=true) by decide)] at H;(try dsimp only at H)
          by_cases c28:((rd_T94 l0 a1).f0)=2
          ·rw [if_pos c28] at H
           have c28b0:(((rd_T94 l0 a1).f0) == 2)=true:=beq_iff_eq.mpr c28;have c28b1:(((rd_T94 l0 a1).f0) != 2)=false:=bne_eq_false_iff_eq.mpr c28;clear c28;replace H:=bI1.mp H;obtain ⟨t633,A290,H⟩:=H;(try dsimp only at H);have A29:=aM1 A290;clear A290
           by_cases c30:t633 > 1000000000
           ·rw [if_pos c30] at H
            have c30b0:decide (1000000000 < t633)=true:=dT1 c30;clear c30;simp only [Option.some.injEq,Prod.mk.injEq] at H;obtain ⟨rfl,rfl⟩:=H;obtain ⟨hcz31_0,hfz31_0,hcz31_1,hfz31_1⟩:=cf2 BK622.out
            go_wp2_with (first|((with_reducible refine gC1 (f:=69) rfl ?_);refine goesL_ (some 136) rfl rfl Try.func69 (by kernel_rfl) rfl #[.int .i64 (wrap64 (t628 + t631))] rfl (zyx1_6) ?_;(with_reducible refine (impl_abs.calls (wrap64 (t628 + t631)) t633 _ A29.out).mono ?_);rintro e w32 ⟨rfl,hb⟩;refine ⟨_,rfl,?_⟩;have n0_:=aM1 (Kd.R_below (zyx1_10) hb);have n1_:=aM1 (bB1 (g:=gb622) (o:=.cells #[.int .i64 ((rd_T94 l0 a1).f0),.int .i64 ((rd_T94 l0 a1).f1)] 94 (0,0)) (zyx1_9) hb);have n2_:=aM1 (bS1 (zyx1_7) hb);clear HO_9 BK622 HB;have HO_9:=n0_;have BK622:=n1_;have HB:=n2_;clear n0_ n1_ n2_;(try clear hb);(try clear hb2);(try clear hk);(try clear hi)))
            go_ret2
            exact ⟨zyx1_5,zyx1_7⟩
           ·rw [if_neg c30] at H
            have c30b0:decide (1000000000 < t633)=false:=decide_eq_false c30;clear c30;simp only [Option.some.injEq,Prod.mk.injEq] at H;obtain ⟨rfl,rfl⟩:=H;obtain ⟨hcz33_0,hfz33_0,hcz33_1,hfz33_1⟩:=cf2 BK622.out
            go_wp2_with (first|((with_reducible refine gC1 (f:=69) rfl ?_);refine goesL_ (some 136) rfl rfl Try.func69 (by kernel_rfl) rfl #[.int .i64 (wrap64 (t628 + t631))] rfl (zyx1_6) ?_;(with_reducible refine (impl_abs.calls (wrap64 (t628 + t631)) t633 _ A29.out).mono ?_);rintro e w34 ⟨rfl,hb⟩;refine ⟨_,rfl,?_⟩;have n0_:=aM1 (Kd.R_below (zyx1_10) hb);have n1_:=aM1 (bB1 (g:=gb622) (o:=.cells #[.int .i64 ((rd_T94 l0 a1).f0),.int .i64 ((rd_T94 l0 a1).f1)] 94 (0,0)) (zyx1_9) hb);have n2_:=aM1 (bS1 (zyx1_7) hb);clear HO_9 BK622 HB;have HO_9:=n0_;have BK622:=n1_;have HB:=n2_;clear n0_ n1_ n2_;(try clear hb);(try clear hb2);(try clear hk);(try clear hi)))
            go_ret2
            exact ⟨zyx1_5,zyx1_7⟩
          ·rw [if_neg c28] at H
           have c28b0:(((rd_T94 l0 a1).f0) == 2)=false:=beq_eq_false_iff_ne.mpr c28;have c28b1:(((rd_T94 l0 a1).f0) != 2)=true:=bne_iff_ne.mpr c28
           by_cases c35:((rd_T94 l0 a1).f0)=3
           ·rw [if_pos c35] at H
            have c35b0:(((rd_T94 l0 a1).f0) == 3)=true:=beq_iff_eq.mpr c35;have c35b1:(((rd_T94 l0 a1).f0) != 3)=false:=bne_eq_false_iff_eq.mpr c35;clear c35;replace H:=bI1.mp H;obtain ⟨t634,A360,H⟩:=H;(try dsimp only at H);have A36:=aM1 A360;clear A360
            by_cases c37:t634 > 1000000000
            ·rw [if_pos c37] at H
             have c37b0:decide (1000000000 < t634)=true:=dT1 c37;clear c37;simp only [Option.some.injEq,Prod.mk.injEq] at H;obtain ⟨rfl,rfl⟩:=H;obtain ⟨hcz38_0,hfz38_0,hcz38_1,hfz38_1⟩:=cf2 BK622.out
             go_wp2_with (first|((with_reducible refine gC1 (f:=69) rfl ?_);refine goesL_ (some 136) rfl rfl Try.func69 (by kernel_rfl) rfl #[.int .i64 (wrap64 (t628 - t631))] rfl (zyx1_6) ?_;(with_reducible refine (impl_abs.calls (wrap64 (t628 - t631)) t634 _ A36.out).mono ?_);rintro e w39 ⟨rfl,hb⟩;refine ⟨_,rfl,?_⟩;have n0_:=aM1 (Kd.R_below (zyx1_10) hb);have n1_:=aM1 (bB1 (g:=gb622) (o:=.cells #[.int .i64 ((rd_T94 l0 a1).f0),.int .i64 ((rd_T94 l0 a1).f1)] 94 (0,0)) (zyx1_9) hb);have n2_:=aM1 (bS1 (zyx1_7) hb);clear HO_9 BK622 HB;have HO_9:=n0_;have BK622:=n1_;have HB:=n2_;clear n0_ n1_ n2_;(try clear hb);(try clear hb2);(try clear hk);(try clear hi)))
             go_ret2
             exact ⟨zyx1_5,zyx1_7⟩
            ·rw [if_neg c37] at H
             have c37b0:decide (1000000000 < t634)=false:=decide_eq_false c37;clear c37;simp only [Option.some.injEq,Prod.mk.injEq] at H;obtain ⟨rfl,rfl⟩:=H;obtain ⟨hcz40_0,hfz40_0,hcz40_1,hfz40_1⟩:=cf2 BK622.out
             go_wp2_with (first|((with_reducible refine gC1 (f:=69) rfl ?_);refine goesL_ (some 136) rfl rfl Try.func69 (by kernel_rfl) rfl #[.int .i64 (wrap64 (t628 - t631))] rfl (zyx1_6) ?_;(with_reducible refine (impl_abs.calls (wrap64 (t628 - t631)) t634 _ A36.out).mono ?_);rintro e w41 ⟨rfl,hb⟩;refine ⟨_,rfl,?_⟩;have n0_:=aM1 (Kd.R_below (zyx1_10) hb);have n1_:=aM1 (bB1 (g:=gb622) (o:=.cells #[.int .i64 ((rd_T94 l0 a1).f0),.int .i64 ((rd_T94 l0 a1).f1)] 94 (0,0)) (zyx1_9) hb);have n2_:=aM1 (bS1 (zyx1_7) hb);clear HO_9 BK622 HB;have HO_9:=n0_;have BK622:=n1_;have HB:=n2_;clear n0_ n1_ n2_;(try clear hb);(try clear hb2);(try clear hk);(try clear hi)))
             go_ret2
             exact ⟨zyx1_5,zyx1_7⟩
           ·rw [if_neg c35] at H
            have c35b0:(((rd_T94 l0 a1).f0) == 3)=false:=beq_eq_false_iff_ne.mpr c35;have c35b1:(((rd_T94 l0 a1).f0) != 3)=true:=bne_iff_ne.mpr c35
            by_cases c42:((rd_T94 l0 a1).f0)=4
            ·rw [if_pos c42] at H
             have c42b0:(((rd_T94 l0 a1).f0) == 4)=true:=beq_iff_eq.mpr c42;have c42b1:(((rd_T94 l0 a1).f0) != 4)=false:=bne_eq_false_iff_eq.mpr c42;clear c42;replace H:=bI1.mp H;obtain ⟨t635,A430,H⟩:=H;(try dsimp only at H);have A43:=aM1 A430;clear A430
             by_cases c44:t635 > 1000000000
             ·rw [if_pos c44] at H
              have c44b0:decide (1000000000 < t635)=true:=dT1 c44;clear c44;simp only [Option.some.injEq,Prod.mk.injEq] at H;obtain ⟨rfl,rfl⟩:=H;obtain ⟨hcz45_0,hfz45_0,hcz45_1,hfz45_1⟩:=cf2 BK622.out
              go_wp2_with (first|((with_reducible refine gC1 (f:=69) rfl ?_);refine goesL_ (some 136) rfl rfl Try.func69 (by kernel_rfl) rfl #[.int .i64 (wrap64 (t628 * t631))] rfl (zyx1_6) ?_;(with_reducible refine (impl_abs.calls (wrap64 (t628 * t631)) t635 _ A43.out).mono ?_);rintro e w46 ⟨rfl,hb⟩;refine ⟨_,rfl,?_⟩;have n0_:=aM1 (Kd.R_below (zyx1_10) hb);have n1_:=aM1 (bB1 (g:=gb622) (o:=.cells #[.int .i64 ((rd_T94 l0 a1).f0),.int .i64 ((rd_T94 l0 a1).f1)] 94 (0,0)) (zyx1_9) hb);have n2_:=aM1 (bS1 (zyx1_7) hb);clear HO_9 BK622 HB;have HO_9:=n0_;have BK622:=n1_;have HB:=n2_;clear n0_ n1_ n2_;(try clear hb);(try clear hb2);(try clear hk);(try clear hi)))
              go_ret2
              exact ⟨zyx1_5,zyx1_7⟩
             ·rw [if_neg c44] at H
              have c44b0:decide (1000000000 < t635)=false:=decide_eq_false c44;clear c44;simp only [Option.some.injEq,Prod.mk.injEq] at H;obtain ⟨rfl,rfl⟩:=H;obtain ⟨hcz47_0,hfz47_0,hcz47_1,hfz47_1⟩:=cf2 BK622.out
              go_wp2_with (first|((with_reducible refine gC1 (f:=69) rfl ?_);refine goesL_ (some 136) rfl rfl Try.func69 (by kernel_rfl) rfl #[.int .i64 (wrap64 (t628 * t631))] rfl (zyx1_6) ?_;(with_reducible refine (impl_abs.calls (wrap64 (t628 * t631)) t635 _ A43.out).mono ?_);rintro e w48 ⟨rfl,hb⟩;refine ⟨_,rfl,?_⟩;have n0_:=aM1 (Kd.R_below (zyx1_10) hb);have n1_:=aM1 (bB1 (g:=gb622) (o:=.cells #[.int .i64 ((rd_T94 l0 a1).f0),.int .i64 ((rd_T94 l0 a1).f1)] 94 (0,0)) (zyx1_9) hb);have n2_:=aM1 (bS1 (zyx1_7) hb);clear HO_9 BK622 HB;have HO_9:=n0_;have BK622:=n1_;have HB:=n2_;clear n0_ n1_ n2_;(try clear hb);(try clear hb2);(try clear hk);(try clear hi)))
              go_ret2
              exact ⟨zyx1_5,zyx1_7⟩
            ·rw [if_neg c42] at H
             have c42b0:(((rd_T94 l0 a1).f0) == 4)=false:=beq_eq_false_iff_ne.mpr c42;have c42b1:(((rd_T94 l0 a1).f0) != 4)=true:=bne_iff_ne.mpr c42
             by_cases c49:((rd_T94 l0 a1).f0)=5
             ·rw [if_pos c49] at H
              have c49b0:(((rd_T94 l0 a1).f0) == 5)=true:=beq_iff_eq.mpr c49;have c49b1:(((rd_T94 l0 a1).f0) != 5)=false:=bne_eq_false_iff_eq.mpr c49;clear c49
              by_cases c50:t631=0
              ·rw [if_pos c50] at H
               have c50b0:(t631 == 0)=true:=beq_iff_eq.mpr c50;have c50b1:(t631 != 0)=false:=bne_eq_false_iff_eq.mpr c50;clear c50;simp only [Option.some.injEq,Prod.mk.injEq] at H;obtain ⟨rfl,rfl⟩:=H;obtain ⟨hcz51_0,hfz51_0,hcz51_1,hfz51_1⟩:=cf2 BK622.out
               go_wp2
               go_ret2
               exact ⟨zyx1_5,zyx1_7⟩
              ·rw [if_neg c50] at H
               have c50b0:(t631 == 0)=false:=beq_eq_false_iff_ne.mpr c50;have c50b1:(t631 != 0)=true:=bne_iff_ne.mpr c50;have HC52:=aM1 H;clear H;obtain ⟨hcz53_0,hfz53_0,hcz53_1,hfz53_1⟩:=cf2 BK622.out
               go_upto_if 127 with (fail)
               go_cut [10,12] (fun v10 v12 wc=>∃ (kq:Nat) (x10_51:Int) (x12_51:Int),v10=.int .i64 x10_51∧v12=.int .i64 x12_51∧Aside0 (impl_evalPart.j1 kq x10_51 x12_51=some (r1,r2))∧Aside0 (kq≤kj18)∧Aside0 (wc.heap[gb622]?=some (.cells #[.int .i64 ((rd_T94 l0 a1).f0),.int .i64 ((rd_T94 l0 a1).f1)] 94 (0,0)))∧Aside0 (Below w.heap.size w wc))
               case first =>
                have H:=HC52.out;clear HC52
                by_cases c54:t631 < 0
                ·rw [if_pos c54] at H
                 have c54b0:decide (t631 < 0)=true:=dT1 c54;clear c54
                 (first|rw [c54b0]|(simp only [i64_w,i32_w];rw [c54b0])|skip)
                 have H':=aM1 H;clear H
                 go_wp2
                 go_meet
                 case rel=>exact ⟨_,(wrap64 (-t628)),(wrap64 (-t631)),(zyx1_0),(zyx1_0),H',⟨zyx1_11⟩,⟨zyx1_9⟩,⟨zyx1_7⟩⟩
                ·rw [if_neg c54] at H
                 have c54b0:decide (t631 < 0)=false:=decide_eq_false c54;clear c54
                 (first|rw [c54b0]|(simp only [i64_w,i32_w];rw [c54b0])|skip)
                 have H':=aM1 H;clear H
                 go_wp2
                 go_meet
                 case rel=>exact ⟨_,(t628),(t631),(zyx1_0),(zyx1_0),H',⟨zyx1_11⟩,⟨zyx1_9⟩,⟨zyx1_7⟩⟩
               case rest =>
                clear HC52;(try clear c1);(try clear c2);(try clear p2);(try clear c3);(try clear c4);(try clear c4b0);(try clear c5);(try clear c5b0);(try clear c6);(try clear c6b0);(try clear c6b1);(try clear p6);(try clear q6);(try clear hx6);(try clear qi6);(try clear c9);(try clear c9b0);(try clear c9b1);(try clear c10);(try clear c10b0);(try clear c11);(try clear c11b0);(try clear c15);(try clear c15b0);(try clear c15b1);(try clear c17);(try clear c17b0);(try clear c17b1);(try clear c26);(try clear c27);(try clear c28);(try clear c28b0);(try clear c28b1);(try clear c30);(try clear c30b0);(try clear c35);(try clear c35b0);(try clear c35b1);(try clear c37);(try clear c37b0);(try clear c42);(try clear c42b0);(try clear c42b1);(try clear c44);(try clear c44b0);(try clear c49);(try clear c49b0);(try clear c49b1);(try clear c50);(try clear c50b0);(try clear c50b1);(try clear c54);(try clear c54b0);(try clear hcz13_0);(try clear hcz13_1);(try clear hcz21_0);(try clear hcz21_1);(try clear hcz31_0);(try clear hcz31_1);(try clear hcz33_0);(try clear hcz33_1);(try clear hcz38_0);(try clear hcz38_1);(try clear hcz40_0);(try clear hcz40_1);(try clear hcz45_0);(try clear hcz45_1);(try clear hcz47_0);(try clear hcz47_1);(try clear hcz51_0);(try clear hcz51_1);(try clear hcz53_0);(try clear hcz53_1);(try clear hcz8_0);(try clear hcz8_1);(try clear hfz13_0);(try clear hfz13_1);(try clear hfz21_0);(try clear hfz21_1);(try clear hfz31_0);(try clear hfz31_1);(try clear hfz33_0);(try clear hfz33_1);(try clear hfz38_0);(try clear hfz38_1);(try clear hfz40_0);(try clear hfz40_1);(try clear hfz45_0);(try clear hfz45_1);(try clear hfz47_0);(try clear hfz47_1);(try clear hfz51_0);(try clear hfz51_1);(try clear hfz53_0);(try clear hfz53_1);(try clear hfz8_0);(try clear hfz8_1);(try clear hx621_0);(try clear hx621_1);(try clear hx623_0);(try clear hx627_0);(try clear hx630_0);(try clear p2);(try clear p6);(try clear p621);(try clear p623);(try clear p627);(try clear p630);(try clear q6);(try clear q621);(try clear q623);(try clear q627);(try clear q630);obtain ⟨kq,x10_51,x12_51,rfl,rfl,HA,HJ51,BK622,HB⟩:=hcut
                cases kq with
                | zero=>exact absurd HA.out (by simp [impl_evalPart.j1])
                | succ kj51 =>
                 have H:=HA.out;clear HA;simp only [impl_evalPart.j1] at H;replace H:=bI1.mp H;obtain ⟨t636,A550,H⟩:=H;(try dsimp only at H);have A55:=aM1 A550;clear A550;replace H:=bI1.mp H;obtain ⟨t637,A560,H⟩:=H;(try dsimp only at H);have A56:=aM1 A560;clear A560
                 by_cases c57:t637 > 1000000000
                 ·rw [if_pos c57] at H
                  have c57b0:decide (1000000000 < t637)=true:=dT1 c57;clear c57;simp only [Option.some.injEq,Prod.mk.injEq] at H;obtain ⟨rfl,rfl⟩:=H
                  go_wp2_with (first|((with_reducible refine gC1 (f:=47) rfl ?_);refine goesL_ (some 134) rfl rfl Try.func47 (by kernel_rfl) rfl #[.int .i64 x10_51,.int .i64 x12_51] rfl (zyx1_6) ?_;(with_reducible refine (impl_floorDiv.calls x10_51 x12_51 t636 _ A55.out).mono ?_);rintro e w' ⟨rfl,⟨nd,rfl⟩⟩;refine ⟨_,rfl,?_⟩)|((with_reducible refine gC1 (f:=69) rfl ?_);refine goesL_ (some 136) rfl rfl Try.func69 (by kernel_rfl) rfl #[.int .i64 t636] rfl (zyx1_6) ?_;(with_reducible refine (impl_abs.calls t636 t637 _ A56.out).mono ?_);rintro e w58 ⟨rfl,hb⟩;refine ⟨_,rfl,?_⟩;have n0_:=aM1 (bB1 (g:=gb622) (o:=.cells #[.int .i64 ((rd_T94 l0 a1).f0),.int .i64 ((rd_T94 l0 a1).f1)] 94 (0,0)) (zyx1_9) hb);have n1_:=aM1 (bS1 (zyx1_7) hb);clear BK622 HB;have BK622:=n0_;have HB:=n1_;clear n0_ n1_;(try clear hb);(try clear hb2);(try clear hk);(try clear hi)))
                  go_ret2
                  exact ⟨zyx1_5,zyx1_7⟩
                 ·rw [if_neg c57] at H
                  have c57b0:decide (1000000000 < t637)=false:=decide_eq_false c57;clear c57;simp only [Option.some.injEq,Prod.mk.injEq] at H;obtain ⟨rfl,rfl⟩:=H
                  go_wp2_with (first|((with_reducible refine gC1 (f:=47) rfl ?_);refine goesL_ (some 134) rfl rfl Try.func47 (by kernel_rfl) rfl #[.int .i64 x10_51,.int .i64 x12_51] rfl (zyx1_6) ?_;(with_reducible refine (impl_floorDiv.calls x10_51 x12_51 t636 _ A55.out).mono ?_);rintro e w' ⟨rfl,⟨nd,rfl⟩⟩;refine ⟨_,rfl,?_⟩)|((with_reducible refine gC1 (f:=69) rfl ?_);refine goesL_ (some 136) rfl rfl Try.func69 (by kernel_rfl) rfl #[.int .i64 t636] rfl (zyx1_6) ?_;(with_reducible refine (impl_abs.calls t636 t637 _ A56.out).mono ?_);rintro e w59 ⟨rfl,hb⟩;refine ⟨_,rfl,?_⟩;have n0_:=aM1 (bB1 (g:=gb622) (o:=.cells #[.int .i64 ((rd_T94 l0 a1).f0),.int .i64 ((rd_T94 l0 a1).f1)] 94 (0,0)) (zyx1_9) hb);have n1_:=aM1 (bS1 (zyx1_7) hb);clear BK622 HB;have BK622:=n0_;have HB:=n1_;clear n0_ n1_;(try clear hb);(try clear hb2);(try clear hk);(try clear hi)))
                  go_ret2
                  exact ⟨zyx1_5,zyx1_7⟩
             ·rw [if_neg c49] at H
              have c49b0:(((rd_T94 l0 a1).f0) == 5)=false:=beq_eq_false_iff_ne.mpr c49;have c49b1:(((rd_T94 l0 a1).f0) != 5)=true:=bne_iff_ne.mpr c49;have HC60:=aM1 H;clear H;obtain ⟨hcz61_0,hfz61_0,hcz61_1,hfz61_1⟩:=cf2 BK622.out
              go_upto_region 14 with (fail)
              go_cut [15] (fun v15 wc=>∃ (kq:Nat) (x15_59:Bool),v15=.bool x15_59∧Aside0 (impl_evalPart.j2 kq l0 l2 t624 x15_59=some (r1,r2))∧Aside0 (kq≤kj18)∧Aside0 (Kd.R (Kd.int .i64) 3 wc w.heap.size (fun _=>True) (.slice (some ad627) t624.length co23) t624)∧Aside0 (wc.heap[gb622]?=some (.cells #[.int .i64 ((rd_T94 l0 a1).f0),.int .i64 ((rd_T94 l0 a1).f1)] 94 (0,0)))∧Aside0 (Below w.heap.size w wc))
              case first =>
               have H:=HC60.out;clear HC60
               by_cases c62:((rd_T94 l0 a1).f0)=6
               ·rw [if_pos c62] at H
                have c62b0:(((rd_T94 l0 a1).f0) == 6)=true:=beq_iff_eq.mpr c62;have c62b1:(((rd_T94 l0 a1).f0) != 6)=false:=bne_eq_false_iff_eq.mpr c62;clear c62
                (first|rw [c62b0]|(simp only [i64_w,i32_w];rw [c62b0])|skip)
                by_cases c63:t628 < t631
                ·rw [if_pos c63] at H
                 have c63b0:decide (t628 < t631)=true:=dT1 c63;clear c63;have H':=aM1 H;clear H;obtain ⟨hcz64_0,hfz64_0,hcz64_1,hfz64_1⟩:=cf2 BK622.out
                 go_wp2
                 go_meet
                 case rel=>exact ⟨_,(true),(zyx1_0),H',⟨zyx1_11⟩,⟨zyx1_10⟩,⟨zyx1_9⟩,⟨zyx1_7⟩⟩
                ·rw [if_neg c63] at H
                 have c63b0:decide (t628 < t631)=false:=decide_eq_false c63;clear c63
                 by_cases c65:((rd_T94 l0 a1).f0)=7
                 ·rw [if_pos c65] at H
                  have c65b0:(((rd_T94 l0 a1).f0) == 7)=true:=beq_iff_eq.mpr c65;have c65b1:(((rd_T94 l0 a1).f0) != 7)=false:=bne_eq_false_iff_eq.mpr c65;clear c65
                  by_cases c66:t628=t631
                  ·rw [if_pos c66] at H
                   have c66b0:(t628 == t631)=true:=beq_iff_eq.mpr c66;have c66b1:(t628 != t631)=false:=bne_eq_false_iff_eq.mpr c66;clear c66;have H':=aM1 H;clear H;obtain ⟨hcz67_0,hfz67_0,hcz67_1,hfz67_1⟩:=cf2 BK622.out
                   go_wp2
                   go_meet
                   case rel=>exact ⟨_,(true),(zyx1_0),H',⟨zyx1_11⟩,⟨zyx1_10⟩,⟨zyx1_9⟩,⟨zyx1_7⟩⟩
                  ·rw [if_neg c66] at H
                   have c66b0:(t628 == t631)=false:=beq_eq_false_iff_ne.mpr c66;have c66b1:(t628 != t631)=true:=bne_iff_ne.mpr c66
                   by_cases c68:((rd_T94 l0 a1).f0)=8
                   ·rw [if_pos c68] at H
                    have c68b0:(((rd_T94 l0 a1).f0) == 8)=true:=beq_iff_eq.mpr c68;have c68b1:(((rd_T94 l0 a1).f0) != 8)=false:=bne_eq_false_iff_eq.mpr c68;clear c68;have H':=aM1 H;clear H;obtain ⟨hcz69_0,hfz69_0,hcz69_1,hfz69_1⟩:=cf2 BK622.out
                    go_wp2
                    go_meet
                    case rel=>exact ⟨_,(decide (t628 > t631)),(zyx1_0),H',⟨zyx1_11⟩,⟨zyx1_10⟩,⟨zyx1_9⟩,⟨zyx1_7⟩⟩
                   ·rw [if_neg c68] at H
                    have c68b0:(((rd_T94 l0 a1).f0) == 8)=false:=beq_eq_false_iff_ne.mpr c68;have c68b1:(((rd_T94 l0 a1).f0) != 8)=true:=bne_iff_ne.mpr c68;have H':=aM1 H;clear H;obtain ⟨hcz70_0,hfz70_0,hcz70_1,hfz70_1⟩:=cf2 BK622.out
                    go_wp2
                    go_meet
                    case rel=>exact ⟨_,(false),(zyx1_0),H',⟨zyx1_11⟩,⟨zyx1_10⟩,⟨zyx1_9⟩,⟨zyx1_7⟩⟩
                 ·rw [if_neg c65] at H
                  have c65b0:(((rd_T94 l0 a1).f0) == 7)=false:=beq_eq_false_iff_ne.mpr c65;have c65b1:(((rd_T94 l0 a1).f0) != 7)=true:=bne_iff_ne.mpr c65
                  by_cases c71:((rd_T94 l0 a1).f0)=8
                  ·rw [if_pos c71] at H
                   have c71b0:(((rd_T94 l0 a1).f0) == 8)=true:=beq_iff_eq.mpr c71;have c71b1:(((rd_T94 l0 a1).f0) != 8)=false:=bne_eq_false_iff_eq.mpr c71;clear c71;have H':=aM1 H;clear H;obtain ⟨hcz72_0,hfz72_0,hcz72_1,hfz72_1⟩:=cf2 BK622.out
                   go_wp2
                   go_meet
                   case rel=>exact ⟨_,(decide (t628 > t631)),(zyx1_0),H',⟨zyx1_11⟩,⟨zyx1_10⟩,⟨zyx1_9⟩,⟨zyx1_7⟩⟩
                  ·rw [if_neg c71] at H
                   have c71b0:(((rd_T94 l0 a1).f0) == 8)=false:=beq_eq_false_iff_ne.mpr c71;have c71b1:(((rd_T94 l0 a1).f0) != 8)=true:=bne_iff_ne.mpr c71;have H':=aM1 H;clear H;obtain ⟨hcz73_0,hfz73_0,hcz73_1,hfz73_1⟩:=cf2 BK622.out
                   go_wp2
                   go_meet
                   case rel=>exact ⟨_,(false),(zyx1_0),H',⟨zyx1_11⟩,⟨zyx1_10⟩,⟨zyx1_9⟩,⟨zyx1_7⟩⟩
               ·rw [if_neg c62] at H
                have c62b0:(((rd_T94 l0 a1).f0) == 6)=false:=beq_eq_false_iff_ne.mpr c62;have c62b1:(((rd_T94 l0 a1).f0) != 6)=true:=bne_iff_ne.mpr c62
                (first|rw [c62b0]|(simp only [i64_w,i32_w];rw [c62b0])|skip)
                by_cases c74:((rd_T94 l0 a1).f0)=7
                ·rw [if_pos c74] at H
                 have c74b0:(((rd_T94 l0 a1).f0) == 7)=true:=beq_iff_eq.mpr c74;have c74b1:(((rd_T94 l0 a1).f0) != 7)=false:=bne_eq_false_iff_eq.mpr c74;clear c74
                 by_cases c75:t628=t631
                 ·rw [if_pos c75] at H
                  have c75b0:(t628 == t631)=true:=beq_iff_eq.mpr c75;have c75b1:(t628 != t631)=false:=bne_eq_false_iff_eq.mpr c75;clear c75;have H':=aM1 H;clear H;obtain ⟨hcz76_0,hfz76_0,hcz76_1,hfz76_1⟩:=cf2 BK622.out
                  go_wp2
                  go_meet
                  case rel=>exact ⟨_,(true),(zyx1_0),H',⟨zyx1_11⟩,⟨zyx1_10⟩,⟨zyx1_9⟩,⟨zyx1_7⟩⟩
                 ·rw [if_neg c75] at H
                  have c75b0:(t628 == t631)=false:=beq_eq_false_iff_ne.mpr c75;have c75b1:(t628 != t631)=true:=bne_iff_ne.mpr c75
                  by_cases c77:((rd_T94 l0 a1).f0)=8
                  ·rw [if_pos c77] at H
                   have c77b0:(((rd_T94 l0 a1).f0) == 8)=true:=beq_iff_eq.mpr c77;have c77b1:(((rd_T94 l0 a1).f0) != 8)=false:=bne_eq_false_iff_eq.mpr c77;clear c77;have H':=aM1 H;clear H;obtain ⟨hcz78_0,hfz78_0,hcz78_1,hfz78_1⟩:=cf2 BK622.out
                   go_wp2
                   go_meet
                   case rel=>exact ⟨_,(decide (t628 > t631)),(zyx1_0),H',⟨zyx1_11⟩,⟨zyx1_10⟩,⟨zyx1_9⟩,⟨zyx1_7⟩⟩
                  ·rw [if_neg c77] at H
                   have c77b0:(((rd_T94 l0 a1).f0) == 8)=false:=beq_eq_false_iff_ne.mpr c77;have c77b1:(((rd_T94 l0 a1).f0) != 8)=true:=bne_iff_ne.mpr c77;have H':=aM1 H;clear H;obtain ⟨hcz79_0,hfz79_0,hcz79_1,hfz79_1⟩:=cf2 BK622.out
                   go_wp2
                   go_meet
                   case rel=>exact ⟨_,(false),(zyx1_0),H',⟨zyx1_11⟩,⟨zyx1_10⟩,⟨zyx1_9⟩,⟨zyx1_7⟩⟩
                ·rw [if_neg c74] at H
                 have c74b0:(((rd_T94 l0 a1).f0) == 7)=false:=beq_eq_false_iff_ne.mpr c74;have c74b1:(((rd_T94 l0 a1).f0) != 7)=true:=bne_iff_ne.mpr c74
                 by_cases c80:((rd_T94 l0 a1).f0)=8
                 ·rw [if_pos c80] at H
                  have c80b0:(((rd_T94 l0 a1).f0) == 8)=true:=beq_iff_eq.mpr c80;have c80b1:(((rd_T94 l0 a1).f0) != 8)=false:=bne_eq_false_iff_eq.mpr c80;clear c80;have H':=aM1 H;clear H;obtain ⟨hcz81_0,hfz81_0,hcz81_1,hfz81_1⟩:=cf2 BK622.out
                  go_wp2
                  go_meet
                  case rel=>exact ⟨_,(decide (t628 > t631)),(zyx1_0),H',⟨zyx1_11⟩,⟨zyx1_10⟩,⟨zyx1_9⟩,⟨zyx1_7⟩⟩
                 ·rw [if_neg c80] at H
                  have c80b0:(((rd_T94 l0 a1).f0) == 8)=false:=beq_eq_false_iff_ne.mpr c80;have c80b1:(((rd_T94 l0 a1).f0) != 8)=true:=bne_iff_ne.mpr c80;have H':=aM1 H;clear H;obtain ⟨hcz82_0,hfz82_0,hcz82_1,hfz82_1⟩:=cf2 BK622.out
                  go_wp2
                  go_meet
                  case rel=>exact ⟨_,(false),(zyx1_0),H',⟨zyx1_11⟩,⟨zyx1_10⟩,⟨zyx1_9⟩,⟨zyx1_7⟩⟩
              case rest =>
               clear HC60;(try clear c1);(try clear c2);(try clear p2);(try clear c3);(try clear c4);(try clear c4b0);(try clear c5);(try clear c5b0);(try clear c6);(try clear c6b0);(try clear c6b1);(try clear p6);(try clear q6);(try clear hx6);(try clear qi6);(try clear c7);(try clear c8);(try clear c9);(try clear c9b0);(try clear c9b1);(try clear c10);(try clear c10b0);(try clear c11);(try clear c11b0);(try clear c15);(try clear c15b0);(try clear c15b1);(try clear c17);(try clear c17b0);(try clear c17b1);(try clear c26);(try clear c27);(try clear c28);(try clear c28b0);(try clear c28b1);(try clear c30);(try clear c30b0);(try clear c35);(try clear c35b0);(try clear c35b1);(try clear c37);(try clear c37b0);(try clear c42);(try clear c42b0);(try clear c42b1);(try clear c44);(try clear c44b0);(try clear c47);(try clear c49);(try clear c49b0);(try clear c49b1);(try clear c50);(try clear c50b0);(try clear c50b1);(try clear c54);(try clear c54b0);(try clear c57);(try clear c57b0);(try clear c62);(try clear c62b0);(try clear c62b1);(try clear p62);(try clear q62);(try clear hx62);(try clear c63);(try clear c63b0);(try clear p63);(try clear q63);(try clear hx63);(try clear p64);(try clear c65);(try clear c65b0);(try clear c65b1);(try clear c66);(try clear c66b0);(try clear c66b1);(try clear c68);(try clear c68b0);(try clear c68b1);(try clear c69);(try clear c71);(try clear c71b0);(try clear c71b1);(try clear c74);(try clear c74b0);(try clear c74b1);(try clear c75);(try clear c75b0);(try clear c75b1);(try clear c77);(try clear c77b0);(try clear c77b1);(try clear c80);(try clear c80b0);(try clear c80b1);(try clear hcz13_0);(try clear hcz13_1);(try clear hcz21_0);(try clear hcz21_1);(try clear hcz31_0);(try clear hcz31_1);(try clear hcz33_0);(try clear hcz33_1);(try clear hcz38_0);(try clear hcz38_1);(try clear hcz40_0);(try clear hcz40_1);(try clear hcz45_0);(try clear hcz45_1);(try clear hcz47_0);(try clear hcz47_1);(try clear hcz51_0);(try clear hcz51_1);(try clear hcz53_0);(try clear hcz53_1);(try clear hcz61_0);(try clear hcz61_1);(try clear hcz64_0);(try clear hcz64_1);(try clear hcz67_0);(try clear hcz67_1);(try clear hcz69_0);(try clear hcz69_1);(try clear hcz70_0);(try clear hcz70_1);(try clear hcz72_0);(try clear hcz72_1);(try clear hcz73_0);(try clear hcz73_1);(try clear hcz76_0);(try clear hcz76_1);(try clear hcz78_0);(try clear hcz78_1);(try clear hcz79_0);(try clear hcz79_1);(try clear hcz81_0);(try clear hcz81_1);(try clear hcz82_0);(try clear hcz82_1);(try clear hcz8_0);(try clear hcz8_1);(try clear hfz13_0);(try clear hfz13_1);(try clear hfz21_0);(try clear hfz21_1);(try clear hfz31_0);(try clear hfz31_1);(try clear hfz33_0);(try clear hfz33_1);(try clear hfz38_0);(try clear hfz38_1);(try clear hfz40_0);(try clear hfz40_1);(try clear hfz45_0);(try clear hfz45_1);(try clear hfz47_0);(try clear hfz47_1);(try clear hfz51_0);(try clear hfz51_1);(try clear hfz53_0);(try clear hfz53_1);(try clear hfz61_0);(try clear hfz61_1);(try clear hfz64_0);(try clear hfz64_1);(try clear hfz67_0);(try clear hfz67_1);(try clear hfz69_0);(try clear hfz69_1);(try clear hfz70_0);(try clear hfz70_1);(try clear hfz72_0);(try clear hfz72_1);(try clear hfz73_0);(try clear hfz73_1);(try clear hfz76_0);(try clear hfz76_1);(try clear hfz78_0);(try clear hfz78_1);(try clear hfz79_0);(try clear hfz79_1);(try clear hfz81_0);(try clear hfz81_1);(try clear hfz82_0);(try clear hfz82_1);(try clear hfz8_0);(try clear hfz8_1);(try clear hx621_0);(try clear hx621_1);(try clear hx623_0);(try clear hx627_0);(try clear hx630_0);(try clear p2);(try clear p6);(try clear p621);(try clear p623);(try clear p627);(try clear p630);(try clear q6);(try clear q621);(try clear q623);(try clear q627);(try clear q630);obtain ⟨kq,x15_59,rfl,HA,HJ59,HO_9,BK622,HB⟩:=hcut
               cases kq with
               | zero=>exact absurd HA.out (by simp [impl_evalPart.j2])
               | succ kj59 =>
                have H:=HA.out;clear HA;simp only [impl_evalPart.j2] at H
                by_cases c83:x15_59=true
                ·subst c83
                 rw [if_pos rfl] at H;(try dsimp only at H)
                 by_cases c84:2 < (t624.length:Int)
                 ·rw [if_pos c84] at H
                  have c84b0:decide (2 < (t624.length:Int))=true:=dT1 c84;have c84b1:decide (2 < t624.length)=true:=dT1 (by omega);clear c84;replace H:=bI1.mp H;obtain ⟨⟨t639,t640⟩,A850,H⟩:=H;(try dsimp only at H);have A85:=aM1 A850;clear A850;simp only [Option.some.injEq,Prod.mk.injEq] at H;obtain ⟨rfl,rfl⟩:=H;have p638:0≤(2:Int):=(by omega);have q638:2 < (t624.length:Int):=oD1 (zyx1_3);obtain ⟨ad638,e638,hx638_0⟩:=Kd.at_int (Kd.R_reads' HO_9.out).2.2 2 p638 q638;obtain rfl:ad627=ad638:=(by injection e638);(try simp only [show (2:Int).toNat=2 from rfl,Nat.reduceMul,Nat.reduceEqDiff,Go.Addr.add,↓reduceIte] at hx638_0);have qi638:(2 < t624.length)=True:=eT1 (by omega);(try rw [show ((2:Int)).toNat=2 from rfl] at hx638_0);replace p638:=eT1 p638;replace q638:=eT1 q638
                  go_wp2_with (first|((with_reducible refine gC1 (f:=59) rfl ?_);refine goesL_ (some 96) rfl rfl Try.func59 (by kernel_rfl) rfl #[.slice (some ad621) l0.length c0,.int .i64 (rd t624 2),.slice A2 l2.length c2] rfl (zyx1_6) ?_;(with_reducible refine (ih kj59 (by have:=HJ18.out;have:=HJ59.out;omega) _ _ l0 (rd t624 2) _ _ l2 t639 t640 _ ?side1 ?side2 ?side3 ?side4 A85.out).mono ?_);(case side1=>exact zyx1_14);(case side2=>exact HC0.out);(case side3=>exact zyx1_15);(case side4=>exact HC2.out);rintro e w86 ⟨rfl,hb⟩;refine ⟨_,rfl,?_⟩;have n0_:=aM1 (Kd.R_below (zyx1_10) hb);have n1_:=aM1 (bB1 (g:=gb622) (o:=.cells #[.int .i64 ((rd_T94 l0 a1).f0),.int .i64 ((rd_T94 l0 a1).f1)] 94 (0,0)) (zyx1_9) hb);have n2_:=aM1 (bS1 (zyx1_7) hb);clear HO_9 BK622 HB;have HO_9:=n0_;have BK622:=n1_;have HB:=n2_;clear n0_ n1_ n2_;(try clear hb);(try clear hb2);(try clear hk);(try clear hi)))
                  go_ret2
                  exact ⟨zyx1_5,zyx1_7⟩
                 ·rw [if_neg c84] at H
                  exact absurd H (by simp)
                ·replace c83:=Bool.eq_false_iff.mpr c83
                 subst c83;rw [if_neg (show ¬ (false=true) by decide)] at H;(try dsimp only at H)
                 by_cases c87:3 < (t624.length:Int)
                 ·rw [if_pos c87] at H
                  have c87b0:decide (3 < (t624.length:Int))=true:=dT1 c87;have c87b1:decide (3 < t624.length)=true:=dT1 (by omega);clear c87;replace H:=bI1.mp H;obtain ⟨⟨t642,t643⟩,A880,H⟩:=H;(try dsimp only at H);have A88:=aM1 A880;clear A880;simp only [Option.some.injEq,Prod.mk.injEq] at H;obtain ⟨rfl,rfl⟩:=H;have p641:0≤(3:Int):=(by omega);have q641:3 < (t624.length:Int):=oD1 (zyx1_3);obtain ⟨ad641,e641,hx641_0⟩:=Kd.at_int (Kd.R_reads' HO_9.out).2.2 3 p641 q641;obtain rfl:ad627=ad641:=(by injection e641);(try simp only [show (3:Int).toNat=3 from rfl,Nat.reduceMul,Nat.reduceEqDiff,Go.Addr.add,↓reduceIte] at hx641_0);have qi641:(3 < t624.length)=True:=eT1 (by omega);(try rw [show ((3:Int)).toNat=3 from rfl] at hx641_0);replace p641:=eT1 p641;replace q641:=eT1 q641
                  go_wp2_with (first|((with_reducible refine gC1 (f:=59) rfl ?_);refine goesL_ (some 104) rfl rfl Try.func59 (by kernel_rfl) rfl #[.slice (some ad621) l0.length c0,.int .i64 (rd t624 3),.slice A2 l2.length c2] rfl (zyx1_6) ?_;(with_reducible refine (ih kj59 (by have:=HJ18.out;have:=HJ59.out;omega) _ _ l0 (rd t624 3) _ _ l2 t642 t643 _ ?side1 ?side2 ?side3 ?side4 A88.out).mono ?_);(case side1=>exact zyx1_14);(case side2=>exact HC0.out);(case side3=>exact zyx1_15);(case side4=>exact HC2.out);rintro e w89 ⟨rfl,hb⟩;refine ⟨_,rfl,?_⟩;have n0_:=aM1 (Kd.R_below (zyx1_10) hb);have n1_:=aM1 (bB1 (g:=gb622) (o:=.cells #[.int .i64 ((rd_T94 l0 a1).f0),.int .i64 ((rd_T94 l0 a1).f1)] 94 (0,0)) (zyx1_9) hb);have n2_:=aM1 (bS1 (zyx1_7) hb);clear HO_9 BK622 HB;have HO_9:=n0_;have BK622:=n1_;have HB:=n2_;clear n0_ n1_ n2_;(try clear hb);(try clear hb2);(try clear hk);(try clear hi)))
                  go_ret2
                  exact ⟨zyx1_5,zyx1_7⟩
                 ·rw [if_neg c87] at H
                  exact absurd H (by simp)
      ·rw [if_neg c17] at H
       exact absurd H (by simp)
     ·rw [if_neg c15] at H
      exact absurd H (by simp)
  ·rw [if_neg c5] at H
   exact absurd H (by simp)
 ·rw [if_neg c4] at H
  exact absurd H (by simp)
end Go.Proofs.Ytahhiedlkegkgaa.PFnMoney
end
