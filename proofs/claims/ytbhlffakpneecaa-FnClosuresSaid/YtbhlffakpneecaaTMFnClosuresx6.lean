/- Texts that print.sh has printed for the law FnClosures,one function each,put together in one file: contracts of its functions. -/
import Derived.Test.YtbhlffakpneecaaTMFnClosuresx0
import Derived.Test.YtbhlffakpneecaaTMFnClosuresx5
section
namespace Go.Proofs.Ytbhlffakpneecaa.PFnClosures
open Go.RowKit Go.Proofs.YtbhlffakpneecaaW.PrintWords Go.Proofs.YtbhlffakpneecaaW.PrintLast Go.Proofs.YtbhlffakpneecaaW.PrintMore
attribute [local go_sem] max2_int min2_int max_two min_two max_three min_three max_four min_four   -- for this text's walks alone
set_option linter.unusedVariables false
set_option linter.unusedSimpArgs false
theorem aM6:type_of% @Aside0.mk:=@Aside0.mk
theorem oD6:type_of% @of_decide_eq_true:=@of_decide_eq_true
theorem dT6:type_of% @decide_eq_true:=@decide_eq_true
theorem bI6:type_of% @Option.bind_eq_some_iff.{0,0}:=@Option.bind_eq_some_iff.{0,0}
theorem bL6:type_of% @World.block_lt_of_cell?:=@World.block_lt_of_cell?
theorem bZ6:type_of% @below_size:=@below_size
theorem zsx6_0 {P:Prop} (h:P:=by first|rfl|(simp;done)|(simp [*];done)):P:=h
theorem zsx6_1 {P:Prop} (h:P:=by first|omega|exact Nat.le_refl _):P:=h
theorem zsx6_2 {P:Prop} (h:P:=by repeat (first|exact Drawn0.refl _|apply Drawn0.step)):P:=h
theorem zsx6_3 {P:Prop} (h:P:=by first|(with_reducible assumption)|assumption):P:=h
theorem zsx6_4 {P:Prop} (h:P:=by kernel_rfl):P:=h
theorem zsx6_5 {P:Prop} (h:P:=by (try simp only [List.map_toArray,List.map_cons,List.map_nil]);first|done|rfl|(simp only [List.length_drop,List.length_take];rfl)):P:=h
theorem zsx6_6 {P:Prop} (h:P:=by repeat (first|(with_reducible first|exact HB.out|apply below_alloc|apply pw_below_drewN|apply below_drew1)|exact HB.out)):P:=h
theorem zsx6_7 {P:Prop} (h:P:=by (with_reducible repeat (first|apply Kd.R_alloc|apply Kd.R_drewN|apply Kd.R_drew));exact HO_3.out):P:=h
theorem zsx6_8 {P:Prop} (h:P:=by first|rfl|(simp [errW_none,errW_some] <;> rfl)|(simp [*,errW_none,errW_some] <;> rfl)):P:=h
theorem zsx6_9 {P:Prop} (h:P:=by (with_reducible repeat (first|apply Kd.R_alloc|apply Kd.R_drewN|apply Kd.R_drew));exact HO_5.out):P:=h
theorem zsx6_10 {P:Prop} (h:P:=by have:=HK1.out;have:=HK2.out;omega):P:=h
theorem zsx6_11 {P:Prop} (h:P:=by (try simp only [hl5_2]);(with_reducible repeat (first|apply Kd.R_alloc|apply Kd.R_drewN|apply Kd.R_drew));exact HO_5.out):P:=h
theorem zsx6_12 {P:Prop} (h:P:=by first|exact Kd.R_nil _ _ _ _ _|exact Kd.N_nil _ _ _ _ _|exact Kd.V_nil _ _ _ _ _|exact Kd.Q_nil _ _ _ _ _|exact Kd.S_nil _ _ _ _ _):P:=h
theorem zsx6_13 {P:Prop} (h:P:=by repeat (first|exact HR118_0.out|(with_reducible refine Kd.C_alloc ?_ _)|(with_reducible refine Kd.C_drewN ?_ _)|(with_reducible refine Kd.C_drew ?_))):P:=h
theorem zsx6_14 {P:Prop} (h:P:=by first|(go_simp;done)|(go_simp;rfl)):P:=h
theorem zsx6_15 {P:Prop} (h:P:=by repeat (first|exact HR1.out|(with_reducible refine Kd.C_alloc ?_ _)|(with_reducible refine Kd.C_drewN ?_ _)|(with_reducible refine Kd.C_drew ?_))):P:=h
theorem zsx6_16 {P:Prop} (h:P:=by repeat (first|exact (Kd.C_below HR0.out HB.out)|(with_reducible refine Kd.C_alloc ?_ _)|(with_reducible refine Kd.C_drewN ?_ _)|(with_reducible refine Kd.C_drew ?_))):P:=h
theorem zsx6_17 {P:Prop} (h:P:=by repeat (first|exact (Kd.C_below HR1.out HB.out)|(with_reducible refine Kd.C_alloc ?_ _)|(with_reducible refine Kd.C_drewN ?_ _)|(with_reducible refine Kd.C_drew ?_))):P:=h
theorem zsx6_18 {P:Prop} (h:P:=by repeat (first|exact HR0.out|(with_reducible refine Kd.C_alloc ?_ _)|(with_reducible refine Kd.C_drewN ?_ _)|(with_reducible refine Kd.C_drew ?_))):P:=h
theorem zsx6_19 {P:Prop} (h:P:=by repeat (first|exact (Kd.R_reads' HO_5.out).2.2|(with_reducible refine Kd.C_alloc ?_ _)|(with_reducible refine Kd.C_drewN ?_ _)|(with_reducible refine Kd.C_drew ?_))):P:=h
theorem zsx6_20 {P:Prop} (h:P:=by repeat (first|exact (Kd.C_below HR133_0.out HB.out)|(with_reducible refine Kd.C_alloc ?_ _)|(with_reducible refine Kd.C_drewN ?_ _)|(with_reducible refine Kd.C_drew ?_))):P:=h
theorem zsx6_21 {P:Prop} (h:P:=by repeat (first|exact (Kd.C_below HR537_0.out HB.out)|(with_reducible refine Kd.C_alloc ?_ _)|(with_reducible refine Kd.C_drewN ?_ _)|(with_reducible refine Kd.C_drew ?_))):P:=h
theorem zsx6_22 {P:Prop} (h:P:=by repeat (first|exact (Kd.C_below HR1.out (zsx6_6))|(with_reducible refine Kd.C_alloc ?_ _)|(with_reducible refine Kd.C_drewN ?_ _)|(with_reducible refine Kd.C_drew ?_))):P:=h
theorem zsx6_23 {P:Prop} (h:P:=by repeat (first|exact (Kd.C_below HR0.out (zsx6_6))|(with_reducible refine Kd.C_alloc ?_ _)|(with_reducible refine Kd.C_drewN ?_ _)|(with_reducible refine Kd.C_drew ?_))):P:=h
theorem zsx6_24 {P:Prop} (h:P:=by repeat (first|exact (Kd.C_below HR537_0.out (zsx6_6))|(with_reducible refine Kd.C_alloc ?_ _)|(with_reducible refine Kd.C_drewN ?_ _)|(with_reducible refine Kd.C_drew ?_))):P:=h
mutual
def impl_AreArcs.j0:Nat→List (List Int)→Bool→Option (Bool)
 | 0,_,_=>none
 | k + 1,x0,x12=>if x12=true then (some false) else (impl_AreArcs.l0 k x0 (x0.length:Int) 0)
def impl_AreArcs.l0:Nat→List (List Int)→Int→Int→Option (Bool)
 | 0,_,_,_=>none
 | k + 1,x13,x14,x15=>if x15 < x14 then (if 0≤x15 then (if x15 < (x13.length:Int) then ((impl_areBlocks.f k (rd_L1 x13 x15) x15).bind fun t119=>(if t119=true then (impl_AreArcs.l0 k x13 x14 (wrap64 (x15 + 1))) else (some false))) else (none)) else (none)) else (some true)
end
def impl_AreArcs.f (k:Nat) (l0:List (List Int)):Option (Bool):=if (l0.length:Int) < 1 then (impl_AreArcs.j0 k l0 true) else (impl_AreArcs.j0 k l0 (decide ((l0.length:Int) > 120)))
set_option maxHeartbeats 8000000 in
set_option maxRecDepth 100000 in
theorem impl_AreArcs.calls (k:Nat) (A0:Option Addr) (c0:Nat) (l0:List (List Int)) (r:Bool) (w:World) (hr0:Kd.C (Kd.slice 3 (Kd.int .i64)) w A0 l0.length l0) (hc0:l0.length≤c0) (h:impl_AreArcs.f k l0=some r) :
  Calls Try.prog 18 #[.slice A0 l0.length c0] w fun e w'=>e=.returned (.bool r)∧Drawn0 w w':=by
 have HR0:=aM6 hr0;have HC0:=aM6 hc0;clear hr0 hc0;have H:(if (l0.length:Int) < 1 then (impl_AreArcs.j0 k l0 true) else (impl_AreArcs.j0 k l0 (decide ((l0.length:Int) > 120))))=some r:=h;clear h;have HC2:=aM6 H;clear H;go_enter Try.func18,Try.ntmps18
 go_upto_region 1 with (fail)
 go_cut [12] (fun v12 wc=>∃ (kq:Nat) (x12_1:Bool),v12=.bool x12_1∧Aside0 (impl_AreArcs.j0 kq l0 x12_1=some r)∧Aside0 (kq≤k)∧Drawn0 w wc)
 case first =>
  have H:=HC2.out;clear HC2
  by_cases c3:(l0.length:Int) < 1
  ·rw [if_pos c3] at H
   have c3b0:decide ((l0.length:Int) < 1)=true:=dT6 c3;have c3b1:decide (l0.length < 1)=true:=dT6 (by omega);clear c3
   (first|rw [c3b0]|(simp only [i64_w,i32_w];rw [c3b0])|skip)
   have H':=aM6 H;clear H
   go_wp2
   go_meet
   case rel=>exact ⟨_,(true),(zsx6_0),H',⟨zsx6_1⟩,zsx6_2⟩
  ·rw [if_neg c3] at H
   have c3b0:decide ((l0.length:Int) < 1)=false:=decide_eq_false c3;have c3b1:decide (l0.length < 1)=false:=decide_eq_false (by omega);clear c3
   (first|rw [c3b0]|(simp only [i64_w,i32_w];rw [c3b0])|skip)
   have H':=aM6 H;clear H
   go_wp2
   go_meet
   case rel=>exact ⟨_,(decide ((l0.length:Int) > 120)),(zsx6_0),H',⟨zsx6_1⟩,zsx6_2⟩
 case rest =>
  clear HC2;(try clear c1);(try clear p2);(try clear c3);(try clear c3b0);(try clear c3b1);obtain ⟨kq,x12_1,rfl,HA,HJ1,⟨mc1,rfl⟩⟩:=hcut
  cases kq with
  | zero=>exact absurd HA.out (by simp [impl_AreArcs.j0])
  | succ kj1 =>
   have H:=HA.out;clear HA;simp only [impl_AreArcs.j0] at H
   by_cases c4:x12_1=true
   ·subst c4
    rw [if_pos rfl] at H;(try dsimp only at H);obtain rfl:=Option.some.inj H
    go_wp2
    go_ret
    exact ⟨zsx6_0,zsx6_2⟩
   ·replace c4:=Bool.eq_false_iff.mpr c4
    subst c4;rw [if_neg (show ¬ (false=true) by decide)] at H;(try dsimp only at H);have H':=aM6 H;clear H
    go_wp2
    go_loopg [15] kj1 (fun kq v15 w'=>∃ (x15_2:Int),v15=.int .i64 x15_2∧Aside0 (impl_AreArcs.l0 kq l0 (l0.length:Int) x15_2=some r)∧Aside0 (kq≤kj1)∧Drawn0 w w')
    case atStart=>exact ⟨(0),(zsx6_0),H',⟨Nat.le_refl _⟩,zsx6_2⟩
    case round =>
     clear H';(try clear c1);(try clear p2);(try clear c3);(try clear c3b0);(try clear c3b1);(try clear c4);(try clear p2);obtain ⟨x15_2,rfl,HA,HK2,⟨m2,rfl⟩⟩:=hrel
     cases gk with
     | zero=>exact absurd HA.out (by simp [impl_AreArcs.l0])
     | succ k2 =>
      have H:=HA.out;clear HA;simp only [impl_AreArcs.l0] at H
      by_cases c5:x15_2 < (l0.length:Int)
      ·rw [if_pos c5] at H
       have c5b0:decide (x15_2 < (l0.length:Int))=true:=dT6 c5;clear c5
       by_cases c6:0≤x15_2
       ·rw [if_pos c6] at H
        have c6b0:decide (0≤x15_2)=true:=dT6 c6;clear c6
        by_cases c7:x15_2 < (l0.length:Int)
        ·rw [if_pos c7] at H
         have c7b0:decide (x15_2 < (l0.length:Int))=true:=dT6 c7;clear c7;replace H:=bI6.mp H;obtain ⟨t119,A80,H⟩:=H;(try dsimp only at H);have A8:=aM6 A80;clear A80
         by_cases c9:t119=true
         ·subst c9
          rw [if_pos rfl] at H;(try dsimp only at H);have H':=aM6 H;clear H;have p118:0≤(x15_2:Int):=oD6 (zsx6_3);have q118:x15_2 < (l0.length:Int):=oD6 (zsx6_3);obtain ⟨ad118,A118_0,c118_0,e118,hx118_0,hl118_0,hi118_0⟩:=at_L1 HR0.out x15_2 p118 q118
          cases e118
          have HR118_0:=aM6 hi118_0;have HC118_0:=aM6 hl118_0;clear hi118_0 hl118_0;replace p118:=eq_true p118;replace q118:=eq_true q118
          go_wp2_with (first|((with_reducible refine gate_callee (f:=61) rfl ?_);refine goesL_ (some 22) rfl rfl Try.func61 (zsx6_4) rfl #[.slice A118_0 (rd_L1 l0 x15_2).length c118_0,.int .i64 x15_2] rfl (zsx6_5) ?_;(with_reducible refine (impl_areBlocks.calls k2 _ _ (rd_L1 l0 x15_2) x15_2 true _ ?side1 ?side2 A8.out).mono ?_);(case side1=>exact zsx6_13);(case side2=>exact HC118_0.out);rintro e w' ⟨rfl,⟨nd,rfl⟩⟩;refine ⟨_,rfl,?_⟩))
          go_roundg k2
          case measure=>have:=HJ1.out;have:=HK2.out;omega
          case rel=>exact ⟨(wrap64 (x15_2 + 1)),(zsx6_0),H',⟨by have:=HJ1.out;have:=HK2.out;omega⟩,zsx6_2⟩
         ·replace c9:=Bool.eq_false_iff.mpr c9
          subst c9;rw [if_neg (show ¬ (false=true) by decide)] at H;(try dsimp only at H);obtain rfl:=Option.some.inj H;have p118:0≤(x15_2:Int):=oD6 (zsx6_3);have q118:x15_2 < (l0.length:Int):=oD6 (zsx6_3);obtain ⟨ad118,A118_0,c118_0,e118,hx118_0,hl118_0,hi118_0⟩:=at_L1 HR0.out x15_2 p118 q118
          cases e118
          have HR118_0:=aM6 hi118_0;have HC118_0:=aM6 hl118_0;clear hi118_0 hl118_0;replace p118:=eq_true p118;replace q118:=eq_true q118
          go_wp2_with (first|((with_reducible refine gate_callee (f:=61) rfl ?_);refine goesL_ (some 22) rfl rfl Try.func61 (zsx6_4) rfl #[.slice A118_0 (rd_L1 l0 x15_2).length c118_0,.int .i64 x15_2] rfl (zsx6_5) ?_;(with_reducible refine (impl_areBlocks.calls k2 _ _ (rd_L1 l0 x15_2) x15_2 false _ ?side1 ?side2 A8.out).mono ?_);(case side1=>exact zsx6_13);(case side2=>exact HC118_0.out);rintro e w' ⟨rfl,⟨nd,rfl⟩⟩;refine ⟨_,rfl,?_⟩))
          go_ret
          exact ⟨zsx6_0,zsx6_2⟩
        ·rw [if_neg c7] at H
         exact absurd H (by simp)
       ·rw [if_neg c6] at H
        exact absurd H (by simp)
      ·rw [if_neg c5] at H
       have c5b0:decide (x15_2 < (l0.length:Int))=false:=decide_eq_false c5;clear c5;obtain rfl:=Option.some.inj H
       go_wp2
       go_ret
       exact ⟨zsx6_0,zsx6_2⟩
def impl_listOf.l0:Nat→List Int→List Bool→Int→Int→Option (List Int)
 | 0,_,_,_,_=>none
 | k + 1,x3,x7,x8,x9=>if x9 < x8 then (if 0≤x9 then (if x9 < (x7.length:Int) then (if rdOf false x7 x9=true then (if x3.length < 17592186044416 then (impl_listOf.l0 k (x3 ++ [x9]) x7 x8 (wrap64 (x9 + 1))) else (none)) else (impl_listOf.l0 k x3 x7 x8 (wrap64 (x9 + 1)))) else (none)) else (none)) else (some x3)
def impl_listOf.f (k:Nat) (l0:List Bool):Option (List Int):=impl_listOf.l0 k (([]:List Int)) l0 (l0.length:Int) 0
set_option maxHeartbeats 8000000 in
set_option maxRecDepth 100000 in
theorem impl_listOf.calls (k:Nat) (A0:Option Addr) (c0:Nat) (l0:List Bool) (r:List Int) (w:World) (hr0:Kd.C Kd.bool w A0 l0.length l0) (hc0:l0.length≤c0) (h:impl_listOf.f k l0=some r) :
  Calls Try.prog 54 #[.slice A0 l0.length c0] w fun e w'=>∃ v0_:Value,e=.returned (v0_)∧Kd.R (Kd.int .i64) 3 w' w.heap.size (fun _=>True) v0_ r∧Below w.heap.size w w':=by
 have HR0:=aM6 hr0;have HC0:=aM6 hc0;clear hr0 hc0;have HB:=aM6 (Below.refl w.heap.size w);have H:(impl_listOf.l0 k (([]:List Int)) l0 (l0.length:Int) 0)=some r:=h;clear h;obtain ⟨y138,hy138⟩:∃ y_:List Int,y_=(([]:List Int)):=⟨_,rfl⟩
 replace H:(impl_listOf.l0 k y138 l0 (l0.length:Int) 0)=some r:=by first|(rw [hy138];with_reducible exact H)|(have H2_:=(Option.bind_some _ _).symm.trans H;rw [hy138];with_reducible exact H2_)|(have H2_:=(Option.bind_some _ _).symm.trans H;with_reducible exact H2_)|with_reducible exact H|(rw [hy138];exact H)|exact H
 have Ny138:=aM6 hy138;clear hy138;have H':=aM6 H;clear H;go_enter Try.func54,Try.ntmps54
 go_wp2_with (first|((with_reducible refine gate_dst (N:=6) rfl ?_);refine Kd.R_lit (Kd.int .i64) _ 3 ?hg (N:=6) ?hd (xs:=([]:List Int)) (inner:=[]) (ok:=fun _=>True) (okp:=fun _=>True) ?hr ?hp (fun _ hk=>hk) trivial (Below.refl _ _) (Nat.le_refl _) (by simp) ?_;(case hd=>rfl);(case hg=>rfl);(case hr=>exact zsx6_14);(case hp=>exact (Reps.none _ _));intro v139 w2 ho3 hb hg_ hnew_;clear hg_ hnew_;(first|rw [← Ny138.out] at ho3|(simp only [Int.reduceToNat] at ho3;rw [← Ny138.out] at ho3));have n0_:=aM6 (Kd.R_lower ho3 (bZ6 (zsx6_6)));have n1_:=aM6 (below_step (zsx6_6) hb);clear HB;have HO140:=n0_;have HB:=n1_;clear n0_ n1_ hb ho3))
 go_loopg [3,9] k (fun kq v3 v9 w'=>∃ (x3_1:List Int) (x9_1:Int),v9=.int .i64 x9_1∧Aside0 (impl_listOf.l0 kq x3_1 l0 (l0.length:Int) x9_1=some r)∧Aside0 (kq≤k)∧Aside0 (Kd.R (Kd.int .i64) 3 w' w.heap.size (fun _=>True) v3 x3_1)∧Aside0 (Below w.heap.size w w'))
 case atStart=>exact ⟨(y138),(0),(zsx6_0),H',⟨Nat.le_refl _⟩,⟨by (with_reducible repeat (first|apply Kd.R_alloc|apply Kd.R_drewN|apply Kd.R_drew));exact HO140.out⟩,⟨zsx6_6⟩⟩
 case round =>
  clear H';(try clear p2);obtain ⟨x3_1,x9_1,rfl,HA,HK1,HO_3,HB⟩:=hrel
  cases gk with
  | zero=>exact absurd HA.out (by simp [impl_listOf.l0])
  | succ k1 =>
   have H:=HA.out;clear HA;simp only [impl_listOf.l0] at H
   by_cases c4:x9_1 < (l0.length:Int)
   ·rw [if_pos c4] at H
    have c4b0:decide (x9_1 < (l0.length:Int))=true:=dT6 c4;clear c4
    by_cases c5:0≤x9_1
    ·rw [if_pos c5] at H
     have c5b0:decide (0≤x9_1)=true:=dT6 c5;clear c5
     by_cases c6:x9_1 < (l0.length:Int)
     ·rw [if_pos c6] at H
      have c6b0:decide (x9_1 < (l0.length:Int))=true:=dT6 c6;clear c6;obtain ⟨bq7,hbq7⟩:∃ b_:Bool,b_=(rdOf false l0 x9_1):=⟨_,rfl⟩
      replace H:(if bq7=true then (if x3_1.length < 17592186044416 then (impl_listOf.l0 k1 (x3_1 ++ [x9_1]) l0 (l0.length:Int) (wrap64 (x9_1 + 1))) else (none)) else (impl_listOf.l0 k1 x3_1 l0 (l0.length:Int) (wrap64 (x9_1 + 1))))=some r:=by rw [← hbq7] at H;exact H
      have Nbq7:=aM6 hbq7;clear hbq7
      by_cases c8:bq7=true
      ·subst c8
       rw [if_pos rfl] at H;(try dsimp only at H)
       by_cases c9:x3_1.length < 17592186044416
       ·rw [if_pos c9] at H
        have LMc9:=aM6 c9;clear c9;obtain ⟨y142,hy142⟩:∃ y_:List Int,y_=(x3_1 ++ [x9_1]):=⟨_,rfl⟩
        replace H:(impl_listOf.l0 k1 y142 l0 (l0.length:Int) (wrap64 (x9_1 + 1)))=some r:=by first|(rw [hy142];with_reducible exact H)|(have H2_:=(Option.bind_some _ _).symm.trans H;rw [hy142];with_reducible exact H2_)|(have H2_:=(Option.bind_some _ _).symm.trans H;with_reducible exact H2_)|with_reducible exact H|(rw [hy142];exact H)|exact H
        have Ny142:=aM6 hy142;clear hy142;have H':=aM6 H;clear H;have p141:0≤(x9_1:Int):=oD6 (zsx6_3);have q141:x9_1 < (l0.length:Int):=oD6 (zsx6_3);obtain ⟨ad141,e141,hx141_0⟩:=Kd.at_bool HR0.out x9_1 p141 q141;(try rw [← Nbq7.out] at hx141_0)
        cases e141
        replace hx141_0:=(HB.out.cell (bL6 w _ hx141_0)).trans hx141_0;replace p141:=eq_true p141;replace q141:=eq_true q141
        go_wp2_with (first|((with_reducible refine gate_builtin (b:=.append) (xs:=#[.tmp 15,.tmp 17]) rfl ?_);at_builtin;refine Kd.R_append (Kd.int .i64) (w0:=w) w.heap.size rfl (.tmp 15) (.tmp 17) 33 3 (.int .i64 0) 8 rfl Try.underlying33 info3 rfl (by decide) (by omega) u3 x3_1 x9_1 [.int .i64 x9_1] (fun _=>True) (fun _=>False) rfl rfl ?aP (fun _ hk=>hk.elim) ?aF ?aO ?aB ?aS ?aL ?_;(case aP=>exact rfl);(case aB=>exact (zsx6_6));(case aF=>exact (fun _ _=>trivial));(case aO=>exact (zsx6_7));(case aS=>exact (bZ6 (zsx6_6)));(case aL=>have:=LMc9.out;omega);intro v143 w10 ho hb hg hat;rw [← Ny142.out] at ho;have n0_:=aM6 (hb);have n1_:=aM6 (ho);clear HB HO_3;have HB:=n0_;have HO144:=n1_;clear n0_ n1_ ho hb hg hat))
        go_roundg k1
        case measure=>have:=HK1.out;omega
        case rel=>exact ⟨(y142),(wrap64 (x9_1 + 1)),(zsx6_0),H',⟨by have:=HK1.out;omega⟩,⟨by (with_reducible repeat (first|apply Kd.R_alloc|apply Kd.R_drewN|apply Kd.R_drew));exact HO144.out⟩,⟨zsx6_6⟩⟩
       ·rw [if_neg c9] at H
        exact absurd H (by simp)
      ·replace c8:=Bool.eq_false_iff.mpr c8
       subst c8;rw [if_neg (show ¬ (false=true) by decide)] at H;(try dsimp only at H);have H':=aM6 H;clear H;have p141:0≤(x9_1:Int):=oD6 (zsx6_3);have q141:x9_1 < (l0.length:Int):=oD6 (zsx6_3);obtain ⟨ad141,e141,hx141_0⟩:=Kd.at_bool HR0.out x9_1 p141 q141;(try rw [← Nbq7.out] at hx141_0)
       cases e141
       replace hx141_0:=(HB.out.cell (bL6 w _ hx141_0)).trans hx141_0;replace p141:=eq_true p141;replace q141:=eq_true q141
       go_wp2
       go_roundg k1
       case measure=>have:=HK1.out;omega
       case rel=>exact ⟨(x3_1),(wrap64 (x9_1 + 1)),(zsx6_0),H',⟨by have:=HK1.out;omega⟩,⟨zsx6_7⟩,⟨zsx6_6⟩⟩
     ·rw [if_neg c6] at H
      exact absurd H (by simp)
    ·rw [if_neg c5] at H
     exact absurd H (by simp)
   ·rw [if_neg c4] at H
    have c4b0:decide (x9_1 < (l0.length:Int))=false:=decide_eq_false c4;clear c4;obtain rfl:=Option.some.inj H
    go_wp2
    go_ret
    exact ⟨_,zsx6_8,zsx6_7,zsx6_6⟩
def impl_markOf.l0:Nat→List Bool→List Int→Int→Int→Option (List Bool)
 | 0,_,_,_,_=>none
 | k + 1,x5,x10,x11,x12=>if x12 < x11 then (if 0≤x12 then (if x12 < (x10.length:Int) then (if 0≤(rd x10 x12) then (if (rd x10 x12) < (x5.length:Int) then (impl_markOf.l0 k (x5.set ((rd x10 x12):Int).toNat true) x10 x11 (wrap64 (x12 + 1))) else (none)) else (none)) else (none)) else (none)) else (some x5)
def impl_markOf.f (k:Nat) (a0:Int) (l1:List Int):Option (List Bool):=if 0≤a0 then (if (a0:Int).toNat≤281474976710656 then (impl_markOf.l0 k (List.replicate (a0:Int).toNat false) l1 (l1.length:Int) 0) else (none)) else (none)
set_option maxHeartbeats 8000000 in
set_option maxRecDepth 100000 in
theorem impl_markOf.calls (k:Nat) (a0:Int) (A1:Option Addr) (c1:Nat) (l1:List Int) (r:List Bool) (w:World) (hr1:Kd.C (Kd.int .i64) w A1 l1.length l1) (hc1:l1.length≤c1) (h:impl_markOf.f k a0 l1=some r) :
  Calls Try.prog 81 #[.int .i64 a0,.slice A1 l1.length c1] w fun e w'=>∃ v0_:Value,e=.returned (v0_)∧Kd.R Kd.bool 4 w' w.heap.size (fun _=>True) v0_ r∧Below w.heap.size w w':=by
 have HR1:=aM6 hr1;have HC1:=aM6 hc1;clear hr1 hc1;have HB:=aM6 (Below.refl w.heap.size w);have H:(if 0≤a0 then (if (a0:Int).toNat≤281474976710656 then (impl_markOf.l0 k (List.replicate (a0:Int).toNat false) l1 (l1.length:Int) 0) else (none)) else (none))=some r:=h;clear h
 by_cases c3:0≤a0
 ·rw [if_pos c3] at H
  have c3b0:=eq_true c3;have c3b1:decide (0≤a0)=true:=dT6 c3;clear c3
  by_cases c4:(a0:Int).toNat≤281474976710656
  ·rw [if_pos c4] at H
   have c4b0:=eq_true c4;have c4b1:decide ((a0:Int).toNat≤281474976710656)=true:=dT6 c4;clear c4;obtain ⟨y124,hy124⟩:∃ y_:List Bool,y_=(List.replicate (a0:Int).toNat false):=⟨_,rfl⟩
   replace H:(impl_markOf.l0 k y124 l1 (l1.length:Int) 0)=some r:=by first|(rw [hy124];with_reducible exact H)|(have H2_:=(Option.bind_some _ _).symm.trans H;rw [hy124];with_reducible exact H2_)|(have H2_:=(Option.bind_some _ _).symm.trans H;with_reducible exact H2_)|with_reducible exact H|(rw [hy124];exact H)|exact H
   have Ny124:=aM6 hy124;clear hy124;have H':=aM6 H;clear H;go_enter Try.func81,Try.ntmps81
   go_wp2_with (first|((with_reducible refine gate_dst (N:=9) rfl ?_);refine Kd.R_make Kd.bool _ 4 rfl (N:=9) rfl 55 _ _ rfl a0 rfl rfl Try.underlying55 (.bool false) 1 info4 rfl (by decide) (by omega) false (ok:=fun _=>True) (okp:=fun _=>True) rfl (fun _ hk=>hk) trivial (oD6 (zsx6_3)) (Nat.le_trans (Nat.mul_le_mul_right _ (oD6 (zsx6_3):a0.toNat≤281474976710656)) (by omega)) (Below.refl _ _) (Nat.le_refl _) ?_;intro v125 w5 ho6 hb hg_ hnew_;clear hg_ hnew_;(first|rw [← Ny124.out] at ho6|(simp only [Int.reduceToNat] at ho6;rw [← Ny124.out] at ho6));have n0_:=aM6 (Kd.R_lower ho6 (bZ6 (zsx6_6)));have n1_:=aM6 (below_step (zsx6_6) hb);clear HB;have HO126:=n0_;have HB:=n1_;clear n0_ n1_ hb ho6))
   go_loopg [12] k (fun kq v12 w'=>∃ (x5_1:List Bool) (x12_1:Int),v12=.int .i64 x12_1∧Aside0 (impl_markOf.l0 kq x5_1 l1 (l1.length:Int) x12_1=some r)∧Aside0 (kq≤k)∧Aside0 (Kd.R Kd.bool 4 w' w.heap.size (fun _=>True) v125 x5_1)∧Aside0 (Below w.heap.size w w'))
   case atStart=>exact ⟨(y124),(0),(zsx6_0),H',⟨Nat.le_refl _⟩,⟨by (with_reducible repeat (first|apply Kd.R_alloc|apply Kd.R_drewN|apply Kd.R_drew));exact HO126.out⟩,⟨zsx6_6⟩⟩
   case round =>
    clear H';(try clear c1);(try clear p2);(try clear c3);(try clear c3b0);(try clear c3b1);(try clear c4);(try clear c4b0);(try clear c4b1);obtain ⟨x5_1,x12_1,rfl,HA,HK1,HO_5,HB⟩:=hrel
    cases gk with
    | zero=>exact absurd HA.out (by simp [impl_markOf.l0])
    | succ k1 =>
     have H:=HA.out;clear HA;simp only [impl_markOf.l0] at H
     by_cases c7:x12_1 < (l1.length:Int)
     ·rw [if_pos c7] at H
      have c7b0:decide (x12_1 < (l1.length:Int))=true:=dT6 c7;clear c7
      by_cases c8:0≤x12_1
      ·rw [if_pos c8] at H
       have c8b0:decide (0≤x12_1)=true:=dT6 c8;clear c8
       by_cases c9:x12_1 < (l1.length:Int)
       ·rw [if_pos c9] at H
        have c9b0:decide (x12_1 < (l1.length:Int))=true:=dT6 c9;clear c9
        by_cases c10:0≤(rd l1 x12_1)
        ·rw [if_pos c10] at H
         have c10b0:decide (0≤(rd l1 x12_1))=true:=dT6 c10;clear c10
         by_cases c11:(rd l1 x12_1) < (x5_1.length:Int)
         ·rw [if_pos c11] at H
          have c11b0:decide ((rd l1 x12_1) < (x5_1.length:Int))=true:=dT6 c11;clear c11;obtain ⟨y128,hy128⟩:∃ y_:List Bool,y_=(x5_1.set ((rd l1 x12_1):Int).toNat true):=⟨_,rfl⟩
          replace H:(impl_markOf.l0 k1 y128 l1 (l1.length:Int) (wrap64 (x12_1 + 1)))=some r:=by first|(rw [hy128];with_reducible exact H)|(have H2_:=(Option.bind_some _ _).symm.trans H;rw [hy128];with_reducible exact H2_)|(have H2_:=(Option.bind_some _ _).symm.trans H;with_reducible exact H2_)|with_reducible exact H|(rw [hy128];exact H)|exact H
          have Ny128:=aM6 hy128;clear hy128;have H':=aM6 H;clear H;have p127:0≤(x12_1:Int):=oD6 (zsx6_3);have q127:x12_1 < (l1.length:Int):=oD6 (zsx6_3);obtain ⟨ad127,e127,hx127_0⟩:=Kd.at_int HR1.out x12_1 p127 q127
          cases e127
          replace hx127_0:=(HB.out.cell (bL6 w _ hx127_0)).trans hx127_0;replace p127:=eq_true p127;replace q127:=eq_true q127;have p12:0≤((rd l1 x12_1):Int):=oD6 (zsx6_3);have q12:((rd l1 x12_1):Int) < ((x5_1.length:Int):Int):=oD6 (zsx6_3);obtain ⟨go12,co12,eo12,gb12,gl12,cl12,HG12⟩:=Kd.R_form HO_5.out (by omega)
          (first|cases eo12|(injection eo12 with ea_ en_ ec_;(first|subst ea_|(injection ea_ with ea_;subst ea_));subst ec_;clear en_))
          have GB12:=aM6 gb12;have GG12:=aM6 HG12;clear gb12 gl12 HG12;obtain ⟨hx12_0,hf12_0⟩:=Kd.R_celln false HO_5.out ((rd l1 x12_1):Int) p12 q12;replace p12:=eq_true p12;replace q12:=eq_true q12;have HP13:=Kd.R_putg HO_5.out ((rd l1 x12_1):Int) true
          go_wp2_with (first|((with_reducible refine gate_store (t:=4) (p:=18) rfl ?_);refine store_event (t:=4) (p:=18) (v:=?vo_w14) (w1:=(wr.setCell ⟨go12,((rd l1 x12_1):Int).toNat,none⟩ (.bool true))) ?hg ?ho ?hn ?hr ?_;(case ho=>rfl);(case hg=>rfl);(case hn=>rfl);(case hr=>exact zsx6_14);intro w14 hw;have hg:wr.grownBy w14 (some go12):=(by rw [hw];exact HP13.2);have hp_:Kd.R Kd.bool 4 w14 w.heap.size (fun _=>True) (.slice (some ⟨go12,0,none⟩) x5_1.length co12) y128:=(by rw [hw,Ny128.out];exact HP13.1);clear HP13;have n0_:=aM6 (hp_);have n1_:=aM6 ((by rw [hw];exact below_set (HB.out) GB12.out:Below w.heap.size w w14));clear HO_5 HB;have HO_5:=n0_;have HB:=n1_;clear n0_ n1_ hg hw hp_))
          go_roundg k1
          case measure=>have:=HK1.out;omega
          case rel=>exact ⟨(y128),(wrap64 (x12_1 + 1)),(zsx6_0),H',⟨by have:=HK1.out;omega⟩,⟨zsx6_9⟩,⟨zsx6_6⟩⟩
         ·rw [if_neg c11] at H
          exact absurd H (by simp)
        ·rw [if_neg c10] at H
         exact absurd H (by simp)
       ·rw [if_neg c9] at H
        exact absurd H (by simp)
      ·rw [if_neg c8] at H
       exact absurd H (by simp)
     ·rw [if_neg c7] at H
      have c7b0:decide (x12_1 < (l1.length:Int))=false:=decide_eq_false c7;clear c7;obtain rfl:=Option.some.inj H
      go_wp2
      go_ret
      exact ⟨_,zsx6_8,zsx6_9,zsx6_6⟩
  ·rw [if_neg c4] at H
   exact absurd H (by simp)
 ·rw [if_neg c3] at H
  exact absurd H (by simp)
mutual
def impl_closureOf.l0:Nat→List (List Int)→List Bool→Int→Option (List Bool)
 | 0,_,_,_=>none
 | k + 1,x0,x5,x6=>if x6 ≥ 0 then (if 0≤x6 then (if x6 < (x5.length:Int) then (if rdOf false x5 x6=true then (if x6 < (x0.length:Int) then (impl_closureOf.l1 k x0 x5 x6 (rd_L1 x0 x6) ((rd_L1 x0 x6).length:Int) 0) else (none)) else (impl_closureOf.l0 k x0 x5 (wrap64 (x6 - 1)))) else (none)) else (none)) else (some x5)
def impl_closureOf.l1:Nat→List (List Int)→List Bool→Int→List Int→Int→Int→Option (List Bool)
 | 0,_,_,_,_,_,_=>none
 | k + 1,x0,x5,x6,x28,x29,x30=>if x30 < x29 then (if 0≤x30 then (if x30 < (x28.length:Int) then (if 0≤(rd x28 x30) then (if (rd x28 x30) < (x5.length:Int) then (impl_closureOf.l1 k x0 (x5.set ((rd x28 x30):Int).toNat true) x6 x28 x29 (wrap64 (x30 + 1))) else (none)) else (none)) else (none)) else (none)) else (impl_closureOf.l0 k x0 x5 (wrap64 (x6 - 1)))
end
def impl_closureOf.f (k:Nat) (l0:List (List Int)) (l1:List Int):Option (List Bool):=(impl_markOf.f k (l0.length:Int) l1).bind fun t145=>(impl_closureOf.l0 k l0 t145 (wrap64 ((l0.length:Int) - 1)))
set_option maxHeartbeats 8000000 in
set_option maxRecDepth 100000 in
theorem impl_closureOf.calls (k:Nat) (A0:Option Addr) (c0:Nat) (l0:List (List Int)) (A1:Option Addr) (c1:Nat) (l1:List Int) (r:List Bool) (w:World) (hr0:Kd.C (Kd.slice 3 (Kd.int .i64)) w A0 l0.length l0) (hc0:l0.length≤c0) (hr1:Kd.C (Kd.int .i64) w A1 l1.length l1) (hc1:l1.length≤c1) (h:impl_closureOf.f k l0 l1=some r) :
  Calls Try.prog 55 #[.slice A0 l0.length c0,.slice A1 l1.length c1] w fun e w'=>∃ v0_:Value,e=.returned (v0_)∧Kd.R Kd.bool 4 w' w.heap.size (fun _=>True) v0_ r∧Below w.heap.size w w':=by
 have HR0:=aM6 hr0;have HC0:=aM6 hc0;clear hr0 hc0;have HR1:=aM6 hr1;have HC1:=aM6 hc1;clear hr1 hc1;have HB:=aM6 (Below.refl w.heap.size w);have H:((impl_markOf.f k (l0.length:Int) l1).bind fun t145=>(impl_closureOf.l0 k l0 t145 (wrap64 ((l0.length:Int) - 1))))=some r:=h;clear h;replace H:=bI6.mp H;obtain ⟨t145,A30,H⟩:=H;(try dsimp only at H);have A3:=aM6 A30;clear A30;have H':=aM6 H;clear H;go_enter Try.func55,Try.ntmps55
 go_wp2_with (first|((with_reducible refine gate_callee (f:=81) rfl ?_);refine goesL_ (some 12) rfl rfl Try.func81 (zsx6_4) rfl #[.int .i64 (l0.length:Int),.slice A1 l1.length c1] rfl (zsx6_5) ?_;(with_reducible refine (impl_markOf.calls k (l0.length:Int) _ _ l1 t145 _ ?side1 ?side2 A3.out).mono ?_);(case side1=>exact zsx6_15);(case side2=>exact HC1.out);rintro e w4 ⟨v146,rfl,ho0,hb⟩;refine ⟨_,rfl,?_⟩;have n0_:=aM6 (Kd.R_lower ho0 (bZ6 (zsx6_6)));have n1_:=aM6 (below_step (zsx6_6) hb);clear HB;have HO147:=n0_;have HB:=n1_;clear n0_ n1_;(try clear hb);(try clear hb2);(try clear hk);(try clear hi);(try clear ho0)))
 go_loopg [6] k (fun kq v6 w'=>∃ (x5_1:List Bool) (x6_1:Int),v6=.int .i64 x6_1∧Aside0 (impl_closureOf.l0 kq l0 x5_1 x6_1=some r)∧Aside0 (kq≤k)∧Aside0 (Kd.R Kd.bool 4 w' w.heap.size (fun _=>True) v146 x5_1)∧Aside0 (Below w.heap.size w w'))
 case atStart=>exact ⟨(t145),(wrap64 ((l0.length:Int) - 1)),(zsx6_0),H',⟨Nat.le_refl _⟩,⟨by (with_reducible repeat (first|apply Kd.R_alloc|apply Kd.R_drewN|apply Kd.R_drew));exact HO147.out⟩,⟨zsx6_6⟩⟩
 case round =>
  clear H';(try clear c1);(try clear p2);obtain ⟨x5_1,x6_1,rfl,HA,HK1,HO_5,HB⟩:=hrel
  cases gk with
  | zero=>exact absurd HA.out (by simp [impl_closureOf.l0])
  | succ k1 =>
   have H:=HA.out;clear HA;simp only [impl_closureOf.l0] at H
   by_cases c5:x6_1 ≥ 0
   ·rw [if_pos c5] at H
    have c5b0:decide (0≤x6_1)=true:=dT6 c5;clear c5
    by_cases c6:0≤x6_1
    ·rw [if_pos c6] at H
     have c6b0:decide (0≤x6_1)=true:=dT6 c6;clear c6
     by_cases c7:x6_1 < (x5_1.length:Int)
     ·rw [if_pos c7] at H
      have c7b0:decide (x6_1 < (x5_1.length:Int))=true:=dT6 c7;clear c7;obtain ⟨bq8,hbq8⟩:∃ b_:Bool,b_=(rdOf false x5_1 x6_1):=⟨_,rfl⟩
      replace H:(if bq8=true then (if x6_1 < (l0.length:Int) then (impl_closureOf.l1 k1 l0 x5_1 x6_1 (rd_L1 l0 x6_1) ((rd_L1 l0 x6_1).length:Int) 0) else (none)) else (impl_closureOf.l0 k1 l0 x5_1 (wrap64 (x6_1 - 1))))=some r:=by rw [← hbq8] at H;exact H
      have Nbq8:=aM6 hbq8;clear hbq8
      by_cases c9:bq8=true
      ·subst c9
       rw [if_pos rfl] at H;(try dsimp only at H)
       by_cases c10:x6_1 < (l0.length:Int)
       ·rw [if_pos c10] at H
        have c10b0:decide (x6_1 < (l0.length:Int))=true:=dT6 c10;clear c10;have H':=aM6 H;clear H;obtain ⟨Ao11,co11,eo11⟩:=Kd.R_slice HO_5.out;subst eo11;have p148:0≤(x6_1:Int):=oD6 (zsx6_3);have q148:x6_1 < (x5_1.length:Int):=oD6 (zsx6_3);obtain ⟨ad148,e148,hx148_0⟩:=Kd.at_bool (Kd.R_reads' HO_5.out).2.2 x6_1 p148 q148;(try rw [← Nbq8.out] at hx148_0)
        cases e148
        replace p148:=eq_true p148;replace q148:=eq_true q148;have p149:0≤(x6_1:Int):=oD6 (zsx6_3);have q149:x6_1 < (l0.length:Int):=oD6 (zsx6_3);obtain ⟨ad149,A149_0,c149_0,e149,hx149_0,hl149_0,hi149_0⟩:=at_L1 HR0.out x6_1 p149 q149
        cases e149
        replace hx149_0:=(HB.out.cell (bL6 w _ hx149_0)).trans hx149_0;have HR149_0:=aM6 hi149_0;have HC149_0:=aM6 hl149_0;clear hi149_0 hl149_0;replace p149:=eq_true p149;replace q149:=eq_true q149
        go_wp2
        go_loopg [30] k1 (fun kq v30 w'=>∃ (x5_2:List Bool) (x30_2:Int),v30=.int .i64 x30_2∧Aside0 (impl_closureOf.l1 kq l0 x5_2 x6_1 (rd_L1 l0 x6_1) ((rd_L1 l0 x6_1).length:Int) x30_2=some r)∧Aside0 (kq≤k1)∧Aside0 (Kd.R Kd.bool 4 w' w.heap.size (fun _=>True) (.slice (some ad148) x5_1.length co11) x5_2)∧Aside0 (Below w.heap.size w w'))
        case atStart=>exact ⟨(x5_1),(0),(zsx6_0),H',⟨Nat.le_refl _⟩,⟨zsx6_9⟩,⟨zsx6_6⟩⟩
        case round =>
         clear H';(try clear c1);(try clear p1);(try clear q1);(try clear hx1);(try clear p2);(try clear c5);(try clear c5b0);(try clear c6);(try clear c6b0);(try clear p6);(try clear c7);(try clear c7b0);(try clear c8);(try clear q8);(try clear c9);(try clear c10);(try clear c10b0);(try clear hx148_0);(try clear hx149_0);(try clear p148);(try clear p149);(try clear p2);(try clear q148);(try clear q149);obtain ⟨x5_2,x30_2,rfl,HA,HK2,HO_5,HB⟩:=hrel;have hl5_2:=(Kd.R_reads' HO_5.out).1;rw [hl5_2] at HO_5;(try simp only [hl5_2])
         cases gk with
         | zero=>exact absurd HA.out (by simp [impl_closureOf.l1])
         | succ k2 =>
          have H:=HA.out;clear HA;simp only [impl_closureOf.l1] at H
          by_cases c12:x30_2 < ((rd_L1 l0 x6_1).length:Int)
          ·rw [if_pos c12] at H
           have c12b0:decide (x30_2 < ((rd_L1 l0 x6_1).length:Int))=true:=dT6 c12;clear c12
           by_cases c13:0≤x30_2
           ·rw [if_pos c13] at H
            have c13b0:decide (0≤x30_2)=true:=dT6 c13;clear c13
            by_cases c14:x30_2 < ((rd_L1 l0 x6_1).length:Int)
            ·rw [if_pos c14] at H
             have c14b0:decide (x30_2 < ((rd_L1 l0 x6_1).length:Int))=true:=dT6 c14;clear c14
             by_cases c15:0≤(rd (rd_L1 l0 x6_1) x30_2)
             ·rw [if_pos c15] at H
              have c15b0:decide (0≤(rd (rd_L1 l0 x6_1) x30_2))=true:=dT6 c15;clear c15
              by_cases c16:(rd (rd_L1 l0 x6_1) x30_2) < (x5_2.length:Int)
              ·rw [if_pos c16] at H
               have c16b0:decide ((rd (rd_L1 l0 x6_1) x30_2) < (x5_2.length:Int))=true:=dT6 c16;clear c16;obtain ⟨y151,hy151⟩:∃ y_:List Bool,y_=(x5_2.set ((rd (rd_L1 l0 x6_1) x30_2):Int).toNat true):=⟨_,rfl⟩
               replace H:(impl_closureOf.l1 k2 l0 y151 x6_1 (rd_L1 l0 x6_1) ((rd_L1 l0 x6_1).length:Int) (wrap64 (x30_2 + 1)))=some r:=by first|(rw [hy151];with_reducible exact H)|(have H2_:=(Option.bind_some _ _).symm.trans H;rw [hy151];with_reducible exact H2_)|(have H2_:=(Option.bind_some _ _).symm.trans H;with_reducible exact H2_)|with_reducible exact H|(rw [hy151];exact H)|exact H
               have Ny151:=aM6 hy151;clear hy151;have H':=aM6 H;clear H;have p150:0≤(x30_2:Int):=oD6 (zsx6_3);have q150:x30_2 < ((rd_L1 l0 x6_1).length:Int):=oD6 (zsx6_3);obtain ⟨ad150,e150,hx150_0⟩:=Kd.at_int HR149_0.out x30_2 p150 q150
               cases e150
               replace hx150_0:=(HB.out.cell (bL6 w _ hx150_0)).trans hx150_0;replace p150:=eq_true p150;replace q150:=eq_true q150;have p17:0≤((rd (rd_L1 l0 x6_1) x30_2):Int):=oD6 (zsx6_3);have q17:((rd (rd_L1 l0 x6_1) x30_2):Int) < ((x5_2.length:Int):Int):=oD6 (zsx6_3);obtain ⟨go17,co17,eo17,gb17,gl17,cl17,HG17⟩:=Kd.R_form HO_5.out (by omega)
               (first|cases eo17|(injection eo17 with ea_ en_ ec_;(first|subst ea_|(injection ea_ with ea_;subst ea_));subst ec_;clear en_))
               have GB17:=aM6 gb17;have GG17:=aM6 HG17;clear gb17 gl17 HG17
               (first|simp only [add_plain] at hx148_0|skip)
               obtain ⟨hx17_0,hf17_0⟩:=Kd.R_celln false HO_5.out ((rd (rd_L1 l0 x6_1) x30_2):Int) p17 q17;replace p17:=eq_true p17;replace q17:=eq_true q17;have HP18:=Kd.R_putg HO_5.out ((rd (rd_L1 l0 x6_1) x30_2):Int) true
               go_wp2_with (first|((with_reducible refine gate_store (t:=4) (p:=36) rfl ?_);refine store_event (t:=4) (p:=36) (v:=?vo_w19) (w1:=(wr.setCell ⟨go17,((rd (rd_L1 l0 x6_1) x30_2):Int).toNat,none⟩ (.bool true))) ?hg ?ho ?hn ?hr ?_;(case ho=>rfl);(case hg=>rfl);(case hn=>rfl);(case hr=>exact zsx6_14);intro w19 hw;have hg:wr.grownBy w19 (some go17):=(by rw [hw];exact HP18.2);have hp_:Kd.R Kd.bool 4 w19 w.heap.size (fun _=>True) (.slice (some ⟨go17,0,none⟩) x5_2.length co11) y151:=(by rw [hw,Ny151.out];exact HP18.1);clear HP18;have n0_:=aM6 (hp_);have n1_:=aM6 ((by rw [hw];exact below_set (HB.out) GB17.out:Below w.heap.size w w19));clear HO_5 HB;have HO_5:=n0_;have HB:=n1_;clear n0_ n1_ hg hw hp_))
               (try simp only [← hl5_2])
               go_roundg k2
               case measure=>have:=HK1.out;have:=HK2.out;omega
               case rel=>exact ⟨(y151),(wrap64 (x30_2 + 1)),(zsx6_0),H',⟨zsx6_10⟩,⟨zsx6_11⟩,⟨zsx6_6⟩⟩
              ·rw [if_neg c16] at H
               exact absurd H (by simp)
             ·rw [if_neg c15] at H
              exact absurd H (by simp)
            ·rw [if_neg c14] at H
             exact absurd H (by simp)
           ·rw [if_neg c13] at H
            exact absurd H (by simp)
          ·rw [if_neg c12] at H
           have c12b0:decide (x30_2 < ((rd_L1 l0 x6_1).length:Int))=false:=decide_eq_false c12;clear c12;have H':=aM6 H;clear H
           go_wp2
           (try simp only [← hl5_2])
           go_roundg k2
           case measure=>have:=HK1.out;have:=HK2.out;omega
           case rel=>exact ⟨(x5_2),(wrap64 (x6_1 - 1)),(zsx6_0),H',⟨zsx6_10⟩,⟨zsx6_11⟩,⟨zsx6_6⟩⟩
       ·rw [if_neg c10] at H
        exact absurd H (by simp)
      ·replace c9:=Bool.eq_false_iff.mpr c9
       subst c9;rw [if_neg (show ¬ (false=true) by decide)] at H;(try dsimp only at H);have H':=aM6 H;clear H;obtain ⟨Ao20,co20,eo20⟩:=Kd.R_slice HO_5.out;subst eo20;have p148:0≤(x6_1:Int):=oD6 (zsx6_3);have q148:x6_1 < (x5_1.length:Int):=oD6 (zsx6_3);obtain ⟨ad148,e148,hx148_0⟩:=Kd.at_bool (Kd.R_reads' HO_5.out).2.2 x6_1 p148 q148;(try rw [← Nbq8.out] at hx148_0)
       cases e148
       replace p148:=eq_true p148;replace q148:=eq_true q148
       go_wp2
       go_roundg k1
       case measure=>have:=HK1.out;omega
       case rel=>exact ⟨(x5_1),(wrap64 (x6_1 - 1)),(zsx6_0),H',⟨by have:=HK1.out;omega⟩,⟨zsx6_9⟩,⟨zsx6_6⟩⟩
     ·rw [if_neg c7] at H
      exact absurd H (by simp)
    ·rw [if_neg c6] at H
     exact absurd H (by simp)
   ·rw [if_neg c5] at H
    have c5b0:decide (0≤x6_1)=false:=decide_eq_false c5;clear c5;obtain rfl:=Option.some.inj H
    go_wp2
    go_ret
    exact ⟨_,zsx6_8,zsx6_9,zsx6_6⟩
def impl_LeastClosure.j0:Nat→List (List Int)→List Int→Bool→Option (List Int × Bool)
 | 0,_,_,_=>none
 | k + 1,x0,x1,x15=>if x15=true then (some (([]:List Int),false)) else ((impl_closureOf.f k x0 x1).bind fun t154=>((impl_listOf.f k t154).bind fun t157=>(some (t157,true))))
def impl_LeastClosure.f (k:Nat) (l0:List (List Int)) (l1:List Int):Option (List Int × Bool):=(impl_AreArcs.f k l0).bind fun t152=>(if t152=true then ((impl_areBlocks.f k l1 (l0.length:Int)).bind fun t153=>(impl_LeastClosure.j0 k l0 l1 (!t153))) else (impl_LeastClosure.j0 k l0 l1 true))
set_option maxHeartbeats 8000000 in
set_option maxRecDepth 100000 in
theorem impl_LeastClosure.calls (k:Nat) (A0:Option Addr) (c0:Nat) (l0:List (List Int)) (A1:Option Addr) (c1:Nat) (l1:List Int) (r1:List Int) (r2:Bool) (w:World) (hr0:Kd.C (Kd.slice 3 (Kd.int .i64)) w A0 l0.length l0) (hc0:l0.length≤c0) (hr1:Kd.C (Kd.int .i64) w A1 l1.length l1) (hc1:l1.length≤c1) (h:impl_LeastClosure.f k l0 l1=some (r1,r2)) :
  Calls Try.prog 21 #[.slice A0 l0.length c0,.slice A1 l1.length c1] w fun e w'=>∃ v0_:Value,e=.returned (.tuple #[v0_,.bool r2])∧Kd.R (Kd.int .i64) 3 w' w.heap.size (fun _=>True) v0_ r1∧Below w.heap.size w w':=by
 have HR0:=aM6 hr0;have HC0:=aM6 hc0;clear hr0 hc0;have HR1:=aM6 hr1;have HC1:=aM6 hc1;clear hr1 hc1;have HB:=aM6 (Below.refl w.heap.size w);have H:((impl_AreArcs.f k l0).bind fun t152=>(if t152=true then ((impl_areBlocks.f k l1 (l0.length:Int)).bind fun t153=>(impl_LeastClosure.j0 k l0 l1 (!t153))) else (impl_LeastClosure.j0 k l0 l1 true)))=some (r1,r2):=h;clear h;have HC3:=aM6 H;clear H;go_enter Try.func21,Try.ntmps21
 go_upto_region 1 with (fail)
 go_cut [15] (fun v15 wc=>∃ (kq:Nat) (x15_2:Bool),v15=.bool x15_2∧Aside0 (impl_LeastClosure.j0 kq l0 l1 x15_2=some (r1,r2))∧Aside0 (kq≤k)∧Aside0 (Below w.heap.size w wc))
 case first =>
  have H:=HC3.out;clear HC3;replace H:=bI6.mp H;obtain ⟨t152,A40,H⟩:=H;(try dsimp only at H);have A4:=aM6 A40;clear A40
  by_cases c5:t152=true
  ·subst c5
   rw [if_pos rfl] at H;(try dsimp only at H);replace H:=bI6.mp H;obtain ⟨t153,A60,H⟩:=H;(try dsimp only at H);have A6:=aM6 A60;clear A60;have H':=aM6 H;clear H
   go_wp2_with (first|((with_reducible refine gate_callee (f:=18) rfl ?_);refine goesL_ (some 7) rfl rfl Try.func18 (zsx6_4) rfl #[.slice A0 l0.length c0] rfl (zsx6_5) ?_;(with_reducible refine (impl_AreArcs.calls k _ _ l0 true _ ?side1 ?side2 A4.out).mono ?_);(case side1=>exact zsx6_16);(case side2=>exact HC0.out);rintro e w' ⟨rfl,⟨nd,rfl⟩⟩;refine ⟨_,rfl,?_⟩)|(go_at_call 61;(with_reducible refine (impl_areBlocks.calls k _ _ l1 (l0.length:Int) t153 _ ?side1 ?side2 A6.out).mono ?_);(case side1=>exact zsx6_22);(case side2=>exact HC1.out);rintro e w' ⟨rfl,⟨nd,rfl⟩⟩))
   go_meet
   case rel=>exact ⟨_,(!t153),(zsx6_0),H',⟨zsx6_1⟩,⟨zsx6_6⟩⟩
  ·replace c5:=Bool.eq_false_iff.mpr c5
   subst c5;rw [if_neg (show ¬ (false=true) by decide)] at H;(try dsimp only at H);have H':=aM6 H;clear H
   go_wp2_with (first|((with_reducible refine gate_callee (f:=18) rfl ?_);refine goesL_ (some 7) rfl rfl Try.func18 (zsx6_4) rfl #[.slice A0 l0.length c0] rfl (zsx6_5) ?_;(with_reducible refine (impl_AreArcs.calls k _ _ l0 false _ ?side1 ?side2 A4.out).mono ?_);(case side1=>exact zsx6_16);(case side2=>exact HC0.out);rintro e w' ⟨rfl,⟨nd,rfl⟩⟩;refine ⟨_,rfl,?_⟩))
   go_meet
   case rel=>exact ⟨_,(true),(zsx6_0),H',⟨zsx6_1⟩,⟨zsx6_6⟩⟩
 case rest =>
  clear HC3;(try clear c1);(try clear c2);(try clear p2);(try clear c5);obtain ⟨kq,x15_2,rfl,HA,HJ2,HB⟩:=hcut
  cases kq with
  | zero=>exact absurd HA.out (by simp [impl_LeastClosure.j0])
  | succ kj2 =>
   have H:=HA.out;clear HA;simp only [impl_LeastClosure.j0] at H
   by_cases c7:x15_2=true
   ·subst c7
    rw [if_pos rfl] at H;(try dsimp only at H);simp only [Option.some.injEq,Prod.mk.injEq] at H;obtain ⟨rfl,rfl⟩:=H
    go_wp2
    go_ret2
    exact ⟨_,zsx6_8,zsx6_12,zsx6_6⟩
   ·replace c7:=Bool.eq_false_iff.mpr c7
    subst c7;rw [if_neg (show ¬ (false=true) by decide)] at H;(try dsimp only at H);replace H:=bI6.mp H;obtain ⟨t154,A80,H⟩:=H;(try dsimp only at H);have A8:=aM6 A80;clear A80;replace H:=bI6.mp H;obtain ⟨t157,A90,H⟩:=H;(try dsimp only at H);have A9:=aM6 A90;clear A90;simp only [Option.some.injEq,Prod.mk.injEq] at H;obtain ⟨rfl,rfl⟩:=H
    go_wp2_with (first|((with_reducible refine gate_callee (f:=55) rfl ?_);refine goesL_ (some 18) rfl rfl Try.func55 (zsx6_4) rfl #[.slice A0 l0.length c0,.slice A1 l1.length c1] rfl (zsx6_5) ?_;(with_reducible refine (impl_closureOf.calls kj2 _ _ l0 _ _ l1 t154 _ ?side1 ?side2 ?side3 ?side4 A8.out).mono ?_);(case side1=>exact zsx6_16);(case side2=>exact HC0.out);(case side3=>exact zsx6_17);(case side4=>exact HC1.out);rintro e w10 ⟨v155,rfl,ho0,hb⟩;refine ⟨_,rfl,?_⟩;have n0_:=aM6 (Kd.R_lower ho0 (bZ6 (zsx6_6)));have n1_:=aM6 (below_step (zsx6_6) hb);clear HB;have HO156:=n0_;have HB:=n1_;clear n0_ n1_;(try clear hb);(try clear hb2);(try clear hk);(try clear hi);(try clear ho0);obtain ⟨Ao11,co11,eo11⟩:=Kd.R_slice HO156.out;subst eo11)|((with_reducible refine gate_callee (f:=54) rfl ?_);refine goesL_ (some 19) rfl rfl Try.func54 (zsx6_4) rfl #[.slice Ao11 t154.length co11] rfl (zsx6_5) ?_;(with_reducible refine (impl_listOf.calls kj2 _ _ t154 t157 _ ?side1 ?side2 A9.out).mono ?_);(case side1=>repeat (first|exact (Kd.R_reads' HO156.out).2.2|(with_reducible refine Kd.C_alloc ?_ _)|(with_reducible refine Kd.C_drewN ?_ _)|(with_reducible refine Kd.C_drew ?_)));(case side2=>exact (Kd.R_reads' HO156.out).2.1);rintro e w12 ⟨v158,rfl,ho0,hb⟩;refine ⟨_,rfl,?_⟩;have n0_:=aM6 (Kd.R_below (by (with_reducible repeat (first|apply Kd.R_alloc|apply Kd.R_drewN|apply Kd.R_drew));exact HO156.out) hb);have n1_:=aM6 (Kd.R_lower ho0 (bZ6 (zsx6_6)));have n2_:=aM6 (below_step (zsx6_6) hb);clear HO156 HB;have HO156:=n0_;have HO159:=n1_;have HB:=n2_;clear n0_ n1_ n2_;(try clear hb);(try clear hb2);(try clear hk);(try clear hi);(try clear ho0)))
    go_ret2
    exact ⟨_,zsx6_8,by (with_reducible repeat (first|apply Kd.R_alloc|apply Kd.R_drewN|apply Kd.R_drew));exact HO159.out,zsx6_6⟩
def spec_LeastClosure.f (k:Nat) (l0:List (List Int)) (l1:List Int):Option (List Int × Bool):=(spec_clBlocks.f k l0 l1).bind fun t490=>(if t490=true then ((spec_clLeast.f k l0 l1).bind fun t491=>(some (t491,true))) else (some (([]:List Int),false)))
set_option maxHeartbeats 8000000 in
set_option maxRecDepth 100000 in
theorem spec_LeastClosure.calls (k:Nat) (A0:Option Addr) (c0:Nat) (l0:List (List Int)) (A1:Option Addr) (c1:Nat) (l1:List Int) (r1:List Int) (r2:Bool) (w:World) (hr0:Kd.C (Kd.slice 3 (Kd.int .i64)) w A0 l0.length l0) (hc0:l0.length≤c0) (hr1:Kd.C (Kd.int .i64) w A1 l1.length l1) (hc1:l1.length≤c1) (h:spec_LeastClosure.f k l0 l1=some (r1,r2)) :
  Calls Try.prog 31 #[.slice A0 l0.length c0,.slice A1 l1.length c1] w fun e w'=>∃ v0_:Value,e=.returned (.tuple #[v0_,.bool r2])∧Kd.R (Kd.int .i64) 3 w' w.heap.size (fun _=>True) v0_ r1∧Below w.heap.size w w':=by
 have HR0:=aM6 hr0;have HC0:=aM6 hc0;clear hr0 hc0;have HR1:=aM6 hr1;have HC1:=aM6 hc1;clear hr1 hc1;have HB:=aM6 (Below.refl w.heap.size w);have H:((spec_clBlocks.f k l0 l1).bind fun t490=>(if t490=true then ((spec_clLeast.f k l0 l1).bind fun t491=>(some (t491,true))) else (some (([]:List Int),false))))=some (r1,r2):=h;clear h;replace H:=bI6.mp H;obtain ⟨t490,A30,H⟩:=H;(try dsimp only at H);have A3:=aM6 A30;clear A30
 by_cases c4:t490=true
 ·subst c4
  rw [if_pos rfl] at H;(try dsimp only at H);replace H:=bI6.mp H;obtain ⟨t491,A50,H⟩:=H;(try dsimp only at H);have A5:=aM6 A50;clear A50;simp only [Option.some.injEq,Prod.mk.injEq] at H;obtain ⟨rfl,rfl⟩:=H;go_enter Try.func31,Try.ntmps31
  go_wp2_with (first|((with_reducible refine gate_callee (f:=74) rfl ?_);refine goesL_ (some 8) rfl rfl Try.func74 (zsx6_4) rfl #[.slice A0 l0.length c0,.slice A1 l1.length c1] rfl (zsx6_5) ?_;(with_reducible refine (spec_clBlocks.calls k _ _ l0 _ _ l1 true _ ?side1 ?side2 ?side3 ?side4 A3.out).mono ?_);(case side1=>exact zsx6_18);(case side2=>exact HC0.out);(case side3=>exact zsx6_15);(case side4=>exact HC1.out);rintro e w' ⟨rfl,⟨nd,rfl⟩⟩;refine ⟨_,rfl,?_⟩)|((with_reducible refine gate_callee (f:=75) rfl ?_);refine goesL_ (some 12) rfl rfl Try.func75 (zsx6_4) rfl #[.slice A0 l0.length c0,.slice A1 l1.length c1] rfl (zsx6_5) ?_;(with_reducible refine (spec_clLeast.calls k _ _ l0 _ _ l1 t491 _ ?side1 ?side2 ?side3 ?side4 A5.out).mono ?_);(case side1=>exact zsx6_18);(case side2=>exact HC0.out);(case side3=>exact zsx6_15);(case side4=>exact HC1.out);rintro e w6 ⟨v492,rfl,ho0,hb⟩;refine ⟨_,rfl,?_⟩;have n0_:=aM6 (Kd.R_lower ho0 (bZ6 (zsx6_6)));have n1_:=aM6 (below_step (zsx6_6) hb);clear HB;have HO493:=n0_;have HB:=n1_;clear n0_ n1_;(try clear hb);(try clear hb2);(try clear hk);(try clear hi);(try clear ho0)))
  go_ret2
  exact ⟨_,zsx6_8,by (with_reducible repeat (first|apply Kd.R_alloc|apply Kd.R_drewN|apply Kd.R_drew));exact HO493.out,zsx6_6⟩
 ·replace c4:=Bool.eq_false_iff.mpr c4
  subst c4;rw [if_neg (show ¬ (false=true) by decide)] at H;(try dsimp only at H);simp only [Option.some.injEq,Prod.mk.injEq] at H;obtain ⟨rfl,rfl⟩:=H;go_enter Try.func31,Try.ntmps31
  go_wp2_with (first|((with_reducible refine gate_callee (f:=74) rfl ?_);refine goesL_ (some 8) rfl rfl Try.func74 (zsx6_4) rfl #[.slice A0 l0.length c0,.slice A1 l1.length c1] rfl (zsx6_5) ?_;(with_reducible refine (spec_clBlocks.calls k _ _ l0 _ _ l1 false _ ?side1 ?side2 ?side3 ?side4 A3.out).mono ?_);(case side1=>exact zsx6_18);(case side2=>exact HC0.out);(case side3=>exact zsx6_15);(case side4=>exact HC1.out);rintro e w' ⟨rfl,⟨nd,rfl⟩⟩;refine ⟨_,rfl,?_⟩))
  go_ret2
  exact ⟨_,zsx6_8,zsx6_12,zsx6_6⟩
def impl_allIn.l0:Nat→List Bool→List Int→Int→Int→Option (Bool)
 | 0,_,_,_,_=>none
 | k + 1,x0,x7,x8,x9=>if x9 < x8 then (if 0≤x9 then (if x9 < (x7.length:Int) then (if 0≤(rd x7 x9) then (if (rd x7 x9) < (x0.length:Int) then (if (rdOf false x0 (rd x7 x9)=true) then (impl_allIn.l0 k x0 x7 x8 (wrap64 (x9 + 1))) else (some false)) else (none)) else (none)) else (none)) else (none)) else (some true)
def impl_allIn.f (k:Nat) (l0:List Bool) (l1:List Int):Option (Bool):=impl_allIn.l0 k l0 l1 (l1.length:Int) 0
set_option maxHeartbeats 8000000 in
set_option maxRecDepth 100000 in
theorem impl_allIn.calls (k:Nat) (A0:Option Addr) (c0:Nat) (l0:List Bool) (A1:Option Addr) (c1:Nat) (l1:List Int) (r:Bool) (w:World) (hr0:Kd.C Kd.bool w A0 l0.length l0) (hc0:l0.length≤c0) (hr1:Kd.C (Kd.int .i64) w A1 l1.length l1) (hc1:l1.length≤c1) (h:impl_allIn.f k l0 l1=some r) :
  Calls Try.prog 50 #[.slice A0 l0.length c0,.slice A1 l1.length c1] w fun e w'=>e=.returned (.bool r)∧Drawn0 w w':=by
 have HR0:=aM6 hr0;have HC0:=aM6 hc0;clear hr0 hc0;have HR1:=aM6 hr1;have HC1:=aM6 hc1;clear hr1 hc1;have H:(impl_allIn.l0 k l0 l1 (l1.length:Int) 0)=some r:=h;clear h;have H':=aM6 H;clear H;go_enter Try.func50,Try.ntmps50
 go_wp2
 go_loopg [9] k (fun kq v9 w'=>∃ (x9_1:Int),v9=.int .i64 x9_1∧Aside0 (impl_allIn.l0 kq l0 l1 (l1.length:Int) x9_1=some r)∧Aside0 (kq≤k)∧Drawn0 w w')
 case atStart=>exact ⟨(0),(zsx6_0),H',⟨Nat.le_refl _⟩,zsx6_2⟩
 case round =>
  clear H';(try clear c1);(try clear p2);obtain ⟨x9_1,rfl,HA,HK1,⟨m1,rfl⟩⟩:=hrel
  cases gk with
  | zero=>exact absurd HA.out (by simp [impl_allIn.l0])
  | succ k1 =>
   have H:=HA.out;clear HA;simp only [impl_allIn.l0] at H
   by_cases c3:x9_1 < (l1.length:Int)
   ·rw [if_pos c3] at H
    have c3b0:decide (x9_1 < (l1.length:Int))=true:=dT6 c3;clear c3
    by_cases c4:0≤x9_1
    ·rw [if_pos c4] at H
     have c4b0:decide (0≤x9_1)=true:=dT6 c4;clear c4
     by_cases c5:x9_1 < (l1.length:Int)
     ·rw [if_pos c5] at H
      have c5b0:decide (x9_1 < (l1.length:Int))=true:=dT6 c5;clear c5
      by_cases c6:0≤(rd l1 x9_1)
      ·rw [if_pos c6] at H
       have c6b0:decide (0≤(rd l1 x9_1))=true:=dT6 c6;clear c6
       by_cases c7:(rd l1 x9_1) < (l0.length:Int)
       ·rw [if_pos c7] at H
        have c7b0:decide ((rd l1 x9_1) < (l0.length:Int))=true:=dT6 c7;clear c7;obtain ⟨bq8,hbq8⟩:∃ b_:Bool,b_=(rdOf false l0 (rd l1 x9_1)):=⟨_,rfl⟩
        replace H:(if (bq8=true) then (impl_allIn.l0 k1 l0 l1 (l1.length:Int) (wrap64 (x9_1 + 1))) else (some false))=some r:=by rw [← hbq8] at H;exact H
        have Nbq8:=aM6 hbq8;clear hbq8
        by_cases c9:(bq8=true)
        ·subst c9
         rw [if_pos rfl] at H;(try dsimp only at H);have H':=aM6 H;clear H;have p122:0≤(x9_1:Int):=oD6 (zsx6_3);have q122:x9_1 < (l1.length:Int):=oD6 (zsx6_3);obtain ⟨ad122,e122,hx122_0⟩:=Kd.at_int HR1.out x9_1 p122 q122
         cases e122
         replace p122:=eq_true p122;replace q122:=eq_true q122;have p123:0≤((rd l1 x9_1):Int):=oD6 (zsx6_3);have q123:(rd l1 x9_1) < (l0.length:Int):=oD6 (zsx6_3);obtain ⟨ad123,e123,hx123_0⟩:=Kd.at_bool HR0.out (rd l1 x9_1) p123 q123;(try rw [← Nbq8.out] at hx123_0)
         cases e123
         replace p123:=eq_true p123;replace q123:=eq_true q123
         go_wp2
         go_roundg k1
         case measure=>have:=HK1.out;omega
         case rel=>exact ⟨(wrap64 (x9_1 + 1)),(zsx6_0),H',⟨by have:=HK1.out;omega⟩,zsx6_2⟩
        ·replace c9:=Bool.eq_false_iff.mpr c9
         subst c9;rw [if_neg (show ¬ (false=true) by decide)] at H;(try dsimp only at H);obtain rfl:=Option.some.inj H;have p122:0≤(x9_1:Int):=oD6 (zsx6_3);have q122:x9_1 < (l1.length:Int):=oD6 (zsx6_3);obtain ⟨ad122,e122,hx122_0⟩:=Kd.at_int HR1.out x9_1 p122 q122
         cases e122
         replace p122:=eq_true p122;replace q122:=eq_true q122;have p123:0≤((rd l1 x9_1):Int):=oD6 (zsx6_3);have q123:(rd l1 x9_1) < (l0.length:Int):=oD6 (zsx6_3);obtain ⟨ad123,e123,hx123_0⟩:=Kd.at_bool HR0.out (rd l1 x9_1) p123 q123;(try rw [← Nbq8.out] at hx123_0)
         cases e123
         replace p123:=eq_true p123;replace q123:=eq_true q123
         go_wp2
         go_ret
         exact ⟨zsx6_0,zsx6_2⟩
       ·rw [if_neg c7] at H
        exact absurd H (by simp)
      ·rw [if_neg c6] at H
       exact absurd H (by simp)
     ·rw [if_neg c5] at H
      exact absurd H (by simp)
    ·rw [if_neg c4] at H
     exact absurd H (by simp)
   ·rw [if_neg c3] at H
    have c3b0:decide (x9_1 < (l1.length:Int))=false:=decide_eq_false c3;clear c3;obtain rfl:=Option.some.inj H
    go_wp2
    go_ret
    exact ⟨zsx6_0,zsx6_2⟩
def impl_insideOf.l0:Nat→List (List Int)→List Bool→Int→Int→Option (List Bool)
 | 0,_,_,_,_=>none
 | k + 1,x0,x5,x12,x13=>if x13 < x12 then (if 0≤x13 then (if x13 < (x5.length:Int) then (if rdOf false x5 x13=true then (if x13 < (x0.length:Int) then ((impl_allIn.f k x5 (rd_L1 x0 x13)).bind fun t499=>(impl_insideOf.l0 k x0 (x5.set (x13:Int).toNat t499) x12 (wrap64 (x13 + 1)))) else (none)) else (impl_insideOf.l0 k x0 (x5.set (x13:Int).toNat false) x12 (wrap64 (x13 + 1)))) else (none)) else (none)) else (some x5)
def impl_insideOf.f (k:Nat) (l0:List (List Int)) (l1:List Int):Option (List Bool):=(impl_markOf.f k (l0.length:Int) l1).bind fun t494=>(impl_insideOf.l0 k l0 t494 (l0.length:Int) 0)
set_option maxHeartbeats 8000000 in
set_option maxRecDepth 100000 in
theorem impl_insideOf.calls (k:Nat) (A0:Option Addr) (c0:Nat) (l0:List (List Int)) (A1:Option Addr) (c1:Nat) (l1:List Int) (r:List Bool) (w:World) (hr0:Kd.C (Kd.slice 3 (Kd.int .i64)) w A0 l0.length l0) (hc0:l0.length≤c0) (hr1:Kd.C (Kd.int .i64) w A1 l1.length l1) (hc1:l1.length≤c1) (h:impl_insideOf.f k l0 l1=some r) :
  Calls Try.prog 76 #[.slice A0 l0.length c0,.slice A1 l1.length c1] w fun e w'=>∃ v0_:Value,e=.returned (v0_)∧Kd.R Kd.bool 4 w' w.heap.size (fun _=>True) v0_ r∧Below w.heap.size w w':=by
 have HR0:=aM6 hr0;have HC0:=aM6 hc0;clear hr0 hc0;have HR1:=aM6 hr1;have HC1:=aM6 hc1;clear hr1 hc1;have HB:=aM6 (Below.refl w.heap.size w);have H:((impl_markOf.f k (l0.length:Int) l1).bind fun t494=>(impl_insideOf.l0 k l0 t494 (l0.length:Int) 0))=some r:=h;clear h;replace H:=bI6.mp H;obtain ⟨t494,A30,H⟩:=H;(try dsimp only at H);have A3:=aM6 A30;clear A30;have H':=aM6 H;clear H;go_enter Try.func76,Try.ntmps76
 go_wp2_with (first|((with_reducible refine gate_callee (f:=81) rfl ?_);refine goesL_ (some 10) rfl rfl Try.func81 (zsx6_4) rfl #[.int .i64 (l0.length:Int),.slice A1 l1.length c1] rfl (zsx6_5) ?_;(with_reducible refine (impl_markOf.calls k (l0.length:Int) _ _ l1 t494 _ ?side1 ?side2 A3.out).mono ?_);(case side1=>exact zsx6_15);(case side2=>exact HC1.out);rintro e w4 ⟨v495,rfl,ho0,hb⟩;refine ⟨_,rfl,?_⟩;have n0_:=aM6 (Kd.R_lower ho0 (bZ6 (zsx6_6)));have n1_:=aM6 (below_step (zsx6_6) hb);clear HB;have HO496:=n0_;have HB:=n1_;clear n0_ n1_;(try clear hb);(try clear hb2);(try clear hk);(try clear hi);(try clear ho0)))
 go_loopg [13] k (fun kq v13 w'=>∃ (x5_1:List Bool) (x13_1:Int),v13=.int .i64 x13_1∧Aside0 (impl_insideOf.l0 kq l0 x5_1 (l0.length:Int) x13_1=some r)∧Aside0 (kq≤k)∧Aside0 (Kd.R Kd.bool 4 w' w.heap.size (fun _=>True) v495 x5_1)∧Aside0 (Below w.heap.size w w'))
 case atStart=>exact ⟨(t494),(0),(zsx6_0),H',⟨Nat.le_refl _⟩,⟨by (with_reducible repeat (first|apply Kd.R_alloc|apply Kd.R_drewN|apply Kd.R_drew));exact HO496.out⟩,⟨zsx6_6⟩⟩
 case round =>
  clear H';(try clear c1);(try clear p2);obtain ⟨x5_1,x13_1,rfl,HA,HK1,HO_5,HB⟩:=hrel
  cases gk with
  | zero=>exact absurd HA.out (by simp [impl_insideOf.l0])
  | succ k1 =>
   have H:=HA.out;clear HA;simp only [impl_insideOf.l0] at H
   by_cases c5:x13_1 < (l0.length:Int)
   ·rw [if_pos c5] at H
    have c5b0:decide (x13_1 < (l0.length:Int))=true:=dT6 c5;clear c5
    by_cases c6:0≤x13_1
    ·rw [if_pos c6] at H
     have c6b0:decide (0≤x13_1)=true:=dT6 c6;clear c6
     by_cases c7:x13_1 < (x5_1.length:Int)
     ·rw [if_pos c7] at H
      have c7b0:decide (x13_1 < (x5_1.length:Int))=true:=dT6 c7;clear c7;obtain ⟨bq8,hbq8⟩:∃ b_:Bool,b_=(rdOf false x5_1 x13_1):=⟨_,rfl⟩
      replace H:(if bq8=true then (if x13_1 < (l0.length:Int) then ((impl_allIn.f k1 x5_1 (rd_L1 l0 x13_1)).bind fun t499=>(impl_insideOf.l0 k1 l0 (x5_1.set (x13_1:Int).toNat t499) (l0.length:Int) (wrap64 (x13_1 + 1)))) else (none)) else (impl_insideOf.l0 k1 l0 (x5_1.set (x13_1:Int).toNat false) (l0.length:Int) (wrap64 (x13_1 + 1))))=some r:=by rw [← hbq8] at H;exact H
      have Nbq8:=aM6 hbq8;clear hbq8
      by_cases c9:bq8=true
      ·subst c9
       rw [if_pos rfl] at H;(try dsimp only at H)
       by_cases c10:x13_1 < (l0.length:Int)
       ·rw [if_pos c10] at H
        have c10b0:decide (x13_1 < (l0.length:Int))=true:=dT6 c10;clear c10;replace H:=bI6.mp H;obtain ⟨t499,A110,H⟩:=H;(try dsimp only at H);have A11:=aM6 A110;clear A110;obtain ⟨y500,hy500⟩:∃ y_:List Bool,y_=(x5_1.set (x13_1:Int).toNat t499):=⟨_,rfl⟩
        replace H:(impl_insideOf.l0 k1 l0 y500 (l0.length:Int) (wrap64 (x13_1 + 1)))=some r:=by first|(rw [hy500];with_reducible exact H)|(have H2_:=(Option.bind_some _ _).symm.trans H;rw [hy500];with_reducible exact H2_)|(have H2_:=(Option.bind_some _ _).symm.trans H;with_reducible exact H2_)|with_reducible exact H|(rw [hy500];exact H)|exact H
        have Ny500:=aM6 hy500;clear hy500;have H':=aM6 H;clear H;obtain ⟨Ao13,co13,eo13⟩:=Kd.R_slice HO_5.out;subst eo13;have p497:0≤(x13_1:Int):=oD6 (zsx6_3);have q497:x13_1 < (x5_1.length:Int):=oD6 (zsx6_3);obtain ⟨ad497,e497,hx497_0⟩:=Kd.at_bool (Kd.R_reads' HO_5.out).2.2 x13_1 p497 q497;(try rw [← Nbq8.out] at hx497_0)
        cases e497
        replace p497:=eq_true p497;replace q497:=eq_true q497;have p498:0≤(x13_1:Int):=oD6 (zsx6_3);have q498:x13_1 < (l0.length:Int):=oD6 (zsx6_3);obtain ⟨ad498,A498_0,c498_0,e498,hx498_0,hl498_0,hi498_0⟩:=at_L1 HR0.out x13_1 p498 q498
        cases e498
        replace hx498_0:=(HB.out.cell (bL6 w _ hx498_0)).trans hx498_0;have HR498_0:=aM6 hi498_0;have HC498_0:=aM6 hl498_0;clear hi498_0 hl498_0;replace p498:=eq_true p498;replace q498:=eq_true q498
        go_wp2_with (first|(go_at_call 50;(with_reducible refine (impl_allIn.calls k1 _ _ x5_1 _ _ (rd_L1 l0 x13_1) t499 _ ?side1 ?side2 ?side3 ?side4 A11.out).mono ?_);(case side1=>exact zsx6_19);(case side2=>exact (Kd.R_reads' HO_5.out).2.1);(case side3=>repeat (first|exact (Kd.C_below HR498_0.out HB.out)|(with_reducible refine Kd.C_alloc ?_ _)|(with_reducible refine Kd.C_drewN ?_ _)|(with_reducible refine Kd.C_drew ?_)));(case side4=>exact HC498_0.out);rintro e w' ⟨rfl,⟨nd,rfl⟩⟩;(try (rw [drewN_self wr];generalize hq_:World.drewN wr _=wr;have n0_:Aside0 (Kd.R Kd.bool 4 wr w.heap.size (fun _=>True) (.slice (some ad497) x5_1.length co13) x5_1):=⟨by rw [← hq_];exact (zsx6_9)⟩;have n1_:Aside0 (Below w.heap.size w wr):=⟨by rw [← hq_];exact (zsx6_6)⟩;clear HO_5 HB hq_;have HO_5:=n0_;have HB:=n1_;clear n0_ n1_));have p12:0≤(x13_1:Int):=oD6 (zsx6_3);have q12:(x13_1:Int) < ((x5_1.length:Int):Int):=oD6 (zsx6_3);obtain ⟨go12,co12,eo12,gb12,gl12,cl12,HG12⟩:=Kd.R_form HO_5.out (by omega);(first|cases eo12|(injection eo12 with ea_ en_ ec_;(first|subst ea_|(injection ea_ with ea_;subst ea_));subst ec_;clear en_));have GB12:=aM6 gb12;have GG12:=aM6 HG12;clear gb12 gl12 HG12;(first|simp only [add_plain] at hx497_0|skip);obtain ⟨hx12_0,hf12_0⟩:=Kd.R_celln false HO_5.out (x13_1:Int) p12 q12;replace p12:=eq_true p12;replace q12:=eq_true q12;obtain ⟨hy14_,hz14_⟩:=Kd.R_celln false HO_5.out (x13_1:Int) (oD6 (zsx6_3)) (oD6 (zsx6_3));have HP14:=Kd.R_putg HO_5.out (x13_1:Int) t499)|((with_reducible refine gate_store (t:=4) (p:=30) rfl ?_);refine store_event (t:=4) (p:=30) (v:=?vo_w15) (w1:=(wr.setCell ⟨go12,(x13_1:Int).toNat,none⟩ (.bool t499))) ?hg ?ho ?hn ?hr ?_;(case ho=>rfl);(case hg=>rfl);(case hn=>rfl);(case hr=>exact zsx6_14);intro w15 hw;have hg:wr.grownBy w15 (some go12):=(by rw [hw];exact HP14.2);have hp_:Kd.R Kd.bool 4 w15 w.heap.size (fun _=>True) (.slice (some ⟨go12,0,none⟩) x5_1.length co13) y500:=(by rw [hw,Ny500.out];exact HP14.1);clear HP14;have n0_:=aM6 (hp_);have n1_:=aM6 ((by rw [hw];exact below_set (HB.out) GB12.out:Below w.heap.size w w15));clear HO_5 HB;have HO_5:=n0_;have HB:=n1_;clear n0_ n1_ hg hw hp_))
        go_roundg k1
        case measure=>have:=HK1.out;omega
        case rel=>exact ⟨(y500),(wrap64 (x13_1 + 1)),(zsx6_0),H',⟨by have:=HK1.out;omega⟩,⟨zsx6_9⟩,⟨zsx6_6⟩⟩
       ·rw [if_neg c10] at H
        exact absurd H (by simp)
      ·replace c9:=Bool.eq_false_iff.mpr c9
       subst c9;rw [if_neg (show ¬ (false=true) by decide)] at H;(try dsimp only at H);obtain ⟨y501,hy501⟩:∃ y_:List Bool,y_=(x5_1.set (x13_1:Int).toNat false):=⟨_,rfl⟩
       replace H:(impl_insideOf.l0 k1 l0 y501 (l0.length:Int) (wrap64 (x13_1 + 1)))=some r:=by first|(rw [hy501];with_reducible exact H)|(have H2_:=(Option.bind_some _ _).symm.trans H;rw [hy501];with_reducible exact H2_)|(have H2_:=(Option.bind_some _ _).symm.trans H;with_reducible exact H2_)|with_reducible exact H|(rw [hy501];exact H)|exact H
       have Ny501:=aM6 hy501;clear hy501;have H':=aM6 H;clear H;obtain ⟨Ao17,co17,eo17⟩:=Kd.R_slice HO_5.out;subst eo17;have p497:0≤(x13_1:Int):=oD6 (zsx6_3);have q497:x13_1 < (x5_1.length:Int):=oD6 (zsx6_3);obtain ⟨ad497,e497,hx497_0⟩:=Kd.at_bool (Kd.R_reads' HO_5.out).2.2 x13_1 p497 q497;(try rw [← Nbq8.out] at hx497_0)
       cases e497
       replace p497:=eq_true p497;replace q497:=eq_true q497;have p16:0≤(x13_1:Int):=oD6 (zsx6_3);have q16:(x13_1:Int) < ((x5_1.length:Int):Int):=oD6 (zsx6_3);obtain ⟨go16,co16,eo16,gb16,gl16,cl16,HG16⟩:=Kd.R_form HO_5.out (by omega)
       (first|cases eo16|(injection eo16 with ea_ en_ ec_;(first|subst ea_|(injection ea_ with ea_;subst ea_));subst ec_;clear en_))
       have GB16:=aM6 gb16;have GG16:=aM6 HG16;clear gb16 gl16 HG16
       (first|simp only [add_plain] at hx497_0|skip)
       obtain ⟨hx16_0,hf16_0⟩:=Kd.R_celln false HO_5.out (x13_1:Int) p16 q16;replace p16:=eq_true p16;replace q16:=eq_true q16;have HP18:=Kd.R_putg HO_5.out (x13_1:Int) false
       go_wp2_with (first|((with_reducible refine gate_store (t:=4) (p:=30) rfl ?_);refine store_event (t:=4) (p:=30) (v:=?vo_w19) (w1:=(wr.setCell ⟨go16,(x13_1:Int).toNat,none⟩ (.bool false))) ?hg ?ho ?hn ?hr ?_;(case ho=>rfl);(case hg=>rfl);(case hn=>rfl);(case hr=>exact zsx6_14);intro w19 hw;have hg:wr.grownBy w19 (some go16):=(by rw [hw];exact HP18.2);have hp_:Kd.R Kd.bool 4 w19 w.heap.size (fun _=>True) (.slice (some ⟨go16,0,none⟩) x5_1.length co17) y501:=(by rw [hw,Ny501.out];exact HP18.1);clear HP18;have n0_:=aM6 (hp_);have n1_:=aM6 ((by rw [hw];exact below_set (HB.out) GB16.out:Below w.heap.size w w19));clear HO_5 HB;have HO_5:=n0_;have HB:=n1_;clear n0_ n1_ hg hw hp_))
       go_roundg k1
       case measure=>have:=HK1.out;omega
       case rel=>exact ⟨(y501),(wrap64 (x13_1 + 1)),(zsx6_0),H',⟨by have:=HK1.out;omega⟩,⟨zsx6_9⟩,⟨zsx6_6⟩⟩
     ·rw [if_neg c7] at H
      exact absurd H (by simp)
    ·rw [if_neg c6] at H
     exact absurd H (by simp)
   ·rw [if_neg c5] at H
    have c5b0:decide (x13_1 < (l0.length:Int))=false:=decide_eq_false c5;clear c5;obtain rfl:=Option.some.inj H
    go_wp2
    go_ret
    exact ⟨_,zsx6_8,zsx6_9,zsx6_6⟩
def impl_GreatestInside.j0:Nat→List (List Int)→List Int→Bool→Option (List Int × Bool)
 | 0,_,_,_=>none
 | k + 1,x0,x1,x15=>if x15=true then (some (([]:List Int),false)) else ((impl_insideOf.f k x0 x1).bind fun t504=>((impl_listOf.f k t504).bind fun t507=>(some (t507,true))))
def impl_GreatestInside.f (k:Nat) (l0:List (List Int)) (l1:List Int):Option (List Int × Bool):=(impl_AreArcs.f k l0).bind fun t502=>(if t502=true then ((impl_areBlocks.f k l1 (l0.length:Int)).bind fun t503=>(impl_GreatestInside.j0 k l0 l1 (!t503))) else (impl_GreatestInside.j0 k l0 l1 true))
set_option maxHeartbeats 8000000 in
set_option maxRecDepth 100000 in
theorem impl_GreatestInside.calls (k:Nat) (A0:Option Addr) (c0:Nat) (l0:List (List Int)) (A1:Option Addr) (c1:Nat) (l1:List Int) (r1:List Int) (r2:Bool) (w:World) (hr0:Kd.C (Kd.slice 3 (Kd.int .i64)) w A0 l0.length l0) (hc0:l0.length≤c0) (hr1:Kd.C (Kd.int .i64) w A1 l1.length l1) (hc1:l1.length≤c1) (h:impl_GreatestInside.f k l0 l1=some (r1,r2)) :
  Calls Try.prog 32 #[.slice A0 l0.length c0,.slice A1 l1.length c1] w fun e w'=>∃ v0_:Value,e=.returned (.tuple #[v0_,.bool r2])∧Kd.R (Kd.int .i64) 3 w' w.heap.size (fun _=>True) v0_ r1∧Below w.heap.size w w':=by
 have HR0:=aM6 hr0;have HC0:=aM6 hc0;clear hr0 hc0;have HR1:=aM6 hr1;have HC1:=aM6 hc1;clear hr1 hc1;have HB:=aM6 (Below.refl w.heap.size w);have H:((impl_AreArcs.f k l0).bind fun t502=>(if t502=true then ((impl_areBlocks.f k l1 (l0.length:Int)).bind fun t503=>(impl_GreatestInside.j0 k l0 l1 (!t503))) else (impl_GreatestInside.j0 k l0 l1 true)))=some (r1,r2):=h;clear h;have HC3:=aM6 H;clear H;go_enter Try.func32,Try.ntmps32
 go_upto_region 1 with (fail)
 go_cut [15] (fun v15 wc=>∃ (kq:Nat) (x15_2:Bool),v15=.bool x15_2∧Aside0 (impl_GreatestInside.j0 kq l0 l1 x15_2=some (r1,r2))∧Aside0 (kq≤k)∧Aside0 (Below w.heap.size w wc))
 case first =>
  have H:=HC3.out;clear HC3;replace H:=bI6.mp H;obtain ⟨t502,A40,H⟩:=H;(try dsimp only at H);have A4:=aM6 A40;clear A40
  by_cases c5:t502=true
  ·subst c5
   rw [if_pos rfl] at H;(try dsimp only at H);replace H:=bI6.mp H;obtain ⟨t503,A60,H⟩:=H;(try dsimp only at H);have A6:=aM6 A60;clear A60;have H':=aM6 H;clear H
   go_wp2_with (first|((with_reducible refine gate_callee (f:=18) rfl ?_);refine goesL_ (some 7) rfl rfl Try.func18 (zsx6_4) rfl #[.slice A0 l0.length c0] rfl (zsx6_5) ?_;(with_reducible refine (impl_AreArcs.calls k _ _ l0 true _ ?side1 ?side2 A4.out).mono ?_);(case side1=>exact zsx6_16);(case side2=>exact HC0.out);rintro e w' ⟨rfl,⟨nd,rfl⟩⟩;refine ⟨_,rfl,?_⟩)|(go_at_call 61;(with_reducible refine (impl_areBlocks.calls k _ _ l1 (l0.length:Int) t503 _ ?side1 ?side2 A6.out).mono ?_);(case side1=>exact zsx6_22);(case side2=>exact HC1.out);rintro e w' ⟨rfl,⟨nd,rfl⟩⟩))
   go_meet
   case rel=>exact ⟨_,(!t503),(zsx6_0),H',⟨zsx6_1⟩,⟨zsx6_6⟩⟩
  ·replace c5:=Bool.eq_false_iff.mpr c5
   subst c5;rw [if_neg (show ¬ (false=true) by decide)] at H;(try dsimp only at H);have H':=aM6 H;clear H
   go_wp2_with (first|((with_reducible refine gate_callee (f:=18) rfl ?_);refine goesL_ (some 7) rfl rfl Try.func18 (zsx6_4) rfl #[.slice A0 l0.length c0] rfl (zsx6_5) ?_;(with_reducible refine (impl_AreArcs.calls k _ _ l0 false _ ?side1 ?side2 A4.out).mono ?_);(case side1=>exact zsx6_16);(case side2=>exact HC0.out);rintro e w' ⟨rfl,⟨nd,rfl⟩⟩;refine ⟨_,rfl,?_⟩))
   go_meet
   case rel=>exact ⟨_,(true),(zsx6_0),H',⟨zsx6_1⟩,⟨zsx6_6⟩⟩
 case rest =>
  clear HC3;(try clear c1);(try clear p2);(try clear c3);(try clear c5);obtain ⟨kq,x15_2,rfl,HA,HJ2,HB⟩:=hcut
  cases kq with
  | zero=>exact absurd HA.out (by simp [impl_GreatestInside.j0])
  | succ kj2 =>
   have H:=HA.out;clear HA;simp only [impl_GreatestInside.j0] at H
   by_cases c7:x15_2=true
   ·subst c7
    rw [if_pos rfl] at H;(try dsimp only at H);simp only [Option.some.injEq,Prod.mk.injEq] at H;obtain ⟨rfl,rfl⟩:=H
    go_wp2
    go_ret2
    exact ⟨_,zsx6_8,zsx6_12,zsx6_6⟩
   ·replace c7:=Bool.eq_false_iff.mpr c7
    subst c7;rw [if_neg (show ¬ (false=true) by decide)] at H;(try dsimp only at H);replace H:=bI6.mp H;obtain ⟨t504,A80,H⟩:=H;(try dsimp only at H);have A8:=aM6 A80;clear A80;replace H:=bI6.mp H;obtain ⟨t507,A90,H⟩:=H;(try dsimp only at H);have A9:=aM6 A90;clear A90;simp only [Option.some.injEq,Prod.mk.injEq] at H;obtain ⟨rfl,rfl⟩:=H
    go_wp2_with (first|((with_reducible refine gate_callee (f:=76) rfl ?_);refine goesL_ (some 18) rfl rfl Try.func76 (zsx6_4) rfl #[.slice A0 l0.length c0,.slice A1 l1.length c1] rfl (zsx6_5) ?_;(with_reducible refine (impl_insideOf.calls kj2 _ _ l0 _ _ l1 t504 _ ?side1 ?side2 ?side3 ?side4 A8.out).mono ?_);(case side1=>exact zsx6_16);(case side2=>exact HC0.out);(case side3=>exact zsx6_17);(case side4=>exact HC1.out);rintro e w10 ⟨v505,rfl,ho0,hb⟩;refine ⟨_,rfl,?_⟩;have n0_:=aM6 (Kd.R_lower ho0 (bZ6 (zsx6_6)));have n1_:=aM6 (below_step (zsx6_6) hb);clear HB;have HO506:=n0_;have HB:=n1_;clear n0_ n1_;(try clear hb);(try clear hb2);(try clear hk);(try clear hi);(try clear ho0);obtain ⟨Ao11,co11,eo11⟩:=Kd.R_slice HO506.out;subst eo11)|((with_reducible refine gate_callee (f:=54) rfl ?_);refine goesL_ (some 19) rfl rfl Try.func54 (zsx6_4) rfl #[.slice Ao11 t504.length co11] rfl (zsx6_5) ?_;(with_reducible refine (impl_listOf.calls kj2 _ _ t504 t507 _ ?side1 ?side2 A9.out).mono ?_);(case side1=>repeat (first|exact (Kd.R_reads' HO506.out).2.2|(with_reducible refine Kd.C_alloc ?_ _)|(with_reducible refine Kd.C_drewN ?_ _)|(with_reducible refine Kd.C_drew ?_)));(case side2=>exact (Kd.R_reads' HO506.out).2.1);rintro e w12 ⟨v508,rfl,ho0,hb⟩;refine ⟨_,rfl,?_⟩;have n0_:=aM6 (Kd.R_below (by (with_reducible repeat (first|apply Kd.R_alloc|apply Kd.R_drewN|apply Kd.R_drew));exact HO506.out) hb);have n1_:=aM6 (Kd.R_lower ho0 (bZ6 (zsx6_6)));have n2_:=aM6 (below_step (zsx6_6) hb);clear HO506 HB;have HO506:=n0_;have HO509:=n1_;have HB:=n2_;clear n0_ n1_ n2_;(try clear hb);(try clear hb2);(try clear hk);(try clear hi);(try clear ho0)))
    go_ret2
    exact ⟨_,zsx6_8,by (with_reducible repeat (first|apply Kd.R_alloc|apply Kd.R_drewN|apply Kd.R_drew));exact HO509.out,zsx6_6⟩
mutual
def spec_clInside.l0:Nat→List (List Int)→List Bool→Int→Int→Option (List Int)
 | 0,_,_,_,_=>none
 | k + 1,x0,x5,x14,x15=>if x15 < x14 then (if 0≤x15 then (if x15 < (x0.length:Int) then (spec_clInside.l1 k x0 x5 x15 x14 x15 (rd_L1 x0 x15) ((rd_L1 x0 x15).length:Int) 0) else (none)) else (none)) else ((spec_clList.f k x5).bind fun t513=>(some t513))
def spec_clInside.l1:Nat→List (List Int)→List Bool→Int→Int→Int→List Int→Int→Int→Option (List Int)
 | 0,_,_,_,_,_,_,_,_=>none
 | k + 1,x0,x5,x6,x14,x15,x21,x22,x23=>if x23 < x22 then (if 0≤x23 then (if x23 < (x21.length:Int) then (if 0≤x6 then (if x6 < (x5.length:Int) then (if rdOf false x5 x6=true then (if 0≤(rd x21 x23) then (if (rd x21 x23) < (x5.length:Int) then (spec_clInside.l1 k x0 (x5.set (x6:Int).toNat (rdOf false x5 (rd x21 x23))) x6 x14 x15 x21 x22 (wrap64 (x23 + 1))) else (none)) else (none)) else (spec_clInside.l1 k x0 (x5.set (x6:Int).toNat false) x6 x14 x15 x21 x22 (wrap64 (x23 + 1)))) else (none)) else (none)) else (none)) else (none)) else (spec_clInside.l0 k x0 x5 x14 (wrap64 (x15 + 1)))
end
def spec_clInside.f (k:Nat) (l0:List (List Int)) (l1:List Int):Option (List Int):=(spec_clMarks.f k (l0.length:Int) l1).bind fun t510=>(spec_clInside.l0 k l0 t510 (l0.length:Int) 0)
set_option maxHeartbeats 8000000 in
set_option maxRecDepth 100000 in
theorem spec_clInside.calls (k:Nat) (A0:Option Addr) (c0:Nat) (l0:List (List Int)) (A1:Option Addr) (c1:Nat) (l1:List Int) (r:List Int) (w:World) (hr0:Kd.C (Kd.slice 3 (Kd.int .i64)) w A0 l0.length l0) (hc0:l0.length≤c0) (hr1:Kd.C (Kd.int .i64) w A1 l1.length l1) (hc1:l1.length≤c1) (h:spec_clInside.f k l0 l1=some r) :
  Calls Try.prog 77 #[.slice A0 l0.length c0,.slice A1 l1.length c1] w fun e w'=>∃ v0_:Value,e=.returned (v0_)∧Kd.R (Kd.int .i64) 3 w' w.heap.size (fun _=>True) v0_ r∧Below w.heap.size w w':=by
 have HR0:=aM6 hr0;have HC0:=aM6 hc0;clear hr0 hc0;have HR1:=aM6 hr1;have HC1:=aM6 hc1;clear hr1 hc1;have HB:=aM6 (Below.refl w.heap.size w);have H:((spec_clMarks.f k (l0.length:Int) l1).bind fun t510=>(spec_clInside.l0 k l0 t510 (l0.length:Int) 0))=some r:=h;clear h;replace H:=bI6.mp H;obtain ⟨t510,A30,H⟩:=H;(try dsimp only at H);have A3:=aM6 A30;clear A30;have H':=aM6 H;clear H;go_enter Try.func77,Try.ntmps77
 go_wp2_with (first|((with_reducible refine gate_callee (f:=59) rfl ?_);refine goesL_ (some 12) rfl rfl Try.func59 (zsx6_4) rfl #[.int .i64 (l0.length:Int),.slice A1 l1.length c1] rfl (zsx6_5) ?_;(with_reducible refine (spec_clMarks.calls k (l0.length:Int) _ _ l1 t510 _ ?side1 ?side2 A3.out).mono ?_);(case side1=>exact zsx6_15);(case side2=>exact HC1.out);rintro e w4 ⟨v511,rfl,ho0,hb⟩;refine ⟨_,rfl,?_⟩;have n0_:=aM6 (Kd.R_lower ho0 (bZ6 (zsx6_6)));have n1_:=aM6 (below_step (zsx6_6) hb);clear HB;have HO512:=n0_;have HB:=n1_;clear n0_ n1_;(try clear hb);(try clear hb2);(try clear hk);(try clear hi);(try clear ho0)))
 go_loopg [15] k (fun kq v15 w'=>∃ (x5_1:List Bool) (x15_1:Int),v15=.int .i64 x15_1∧Aside0 (spec_clInside.l0 kq l0 x5_1 (l0.length:Int) x15_1=some r)∧Aside0 (kq≤k)∧Aside0 (Kd.R Kd.bool 4 w' w.heap.size (fun _=>True) v511 x5_1)∧Aside0 (Below w.heap.size w w'))
 case atStart=>exact ⟨(t510),(0),(zsx6_0),H',⟨Nat.le_refl _⟩,⟨by (with_reducible repeat (first|apply Kd.R_alloc|apply Kd.R_drewN|apply Kd.R_drew));exact HO512.out⟩,⟨zsx6_6⟩⟩
 case round =>
  clear H';(try clear c1);(try clear p2);obtain ⟨x5_1,x15_1,rfl,HA,HK1,HO_5,HB⟩:=hrel
  cases gk with
  | zero=>exact absurd HA.out (by simp [spec_clInside.l0])
  | succ k1 =>
   have H:=HA.out;clear HA;simp only [spec_clInside.l0] at H
   by_cases c5:x15_1 < (l0.length:Int)
   ·rw [if_pos c5] at H
    have c5b0:decide (x15_1 < (l0.length:Int))=true:=dT6 c5;clear c5
    by_cases c6:0≤x15_1
    ·rw [if_pos c6] at H
     have c6b0:decide (0≤x15_1)=true:=dT6 c6;clear c6
     by_cases c7:x15_1 < (l0.length:Int)
     ·rw [if_pos c7] at H
      have c7b0:decide (x15_1 < (l0.length:Int))=true:=dT6 c7;clear c7;have H':=aM6 H;clear H;have p516:0≤(x15_1:Int):=oD6 (zsx6_3);have q516:x15_1 < (l0.length:Int):=oD6 (zsx6_3);obtain ⟨ad516,A516_0,c516_0,e516,hx516_0,hl516_0,hi516_0⟩:=at_L1 HR0.out x15_1 p516 q516
      cases e516
      replace hx516_0:=(HB.out.cell (bL6 w _ hx516_0)).trans hx516_0;have HR516_0:=aM6 hi516_0;have HC516_0:=aM6 hl516_0;clear hi516_0 hl516_0;replace p516:=eq_true p516;replace q516:=eq_true q516
      go_wp2
      go_loopg [23] k1 (fun kq v23 w'=>∃ (x5_2:List Bool) (x23_2:Int),v23=.int .i64 x23_2∧Aside0 (spec_clInside.l1 kq l0 x5_2 x15_1 (l0.length:Int) x15_1 (rd_L1 l0 x15_1) ((rd_L1 l0 x15_1).length:Int) x23_2=some r)∧Aside0 (kq≤k1)∧Aside0 (Kd.R Kd.bool 4 w' w.heap.size (fun _=>True) v511 x5_2)∧Aside0 (Below w.heap.size w w'))
      case atStart=>exact ⟨(x5_1),(0),(zsx6_0),H',⟨Nat.le_refl _⟩,⟨zsx6_9⟩,⟨zsx6_6⟩⟩
      case round =>
       clear H';(try clear c1);(try clear p2);(try clear c5);(try clear c5b0);(try clear p5);(try clear q5);(try clear hx5);(try clear c6);(try clear c6b0);(try clear c7);(try clear c7b0);(try clear hx516_0);(try clear p2);(try clear p516);(try clear q516);obtain ⟨x5_2,x23_2,rfl,HA,HK2,HO_5,HB⟩:=hrel
       cases gk with
       | zero=>exact absurd HA.out (by simp [spec_clInside.l1])
       | succ k2 =>
        have H:=HA.out;clear HA;simp only [spec_clInside.l1] at H
        by_cases c8:x23_2 < ((rd_L1 l0 x15_1).length:Int)
        ·rw [if_pos c8] at H
         have c8b0:decide (x23_2 < ((rd_L1 l0 x15_1).length:Int))=true:=dT6 c8;clear c8
         by_cases c9:0≤x23_2
         ·rw [if_pos c9] at H
          have c9b0:decide (0≤x23_2)=true:=dT6 c9;clear c9
          by_cases c10:x23_2 < ((rd_L1 l0 x15_1).length:Int)
          ·rw [if_pos c10] at H
           have c10b0:decide (x23_2 < ((rd_L1 l0 x15_1).length:Int))=true:=dT6 c10;clear c10
           by_cases c11:0≤x15_1
           ·rw [if_pos c11] at H
            have c11b0:decide (0≤x15_1)=true:=dT6 c11;clear c11
            by_cases c12:x15_1 < (x5_2.length:Int)
            ·rw [if_pos c12] at H
             have c12b0:decide (x15_1 < (x5_2.length:Int))=true:=dT6 c12;clear c12;obtain ⟨bq13,hbq13⟩:∃ b_:Bool,b_=(rdOf false x5_2 x15_1):=⟨_,rfl⟩
             replace H:(if bq13=true then (if 0≤(rd (rd_L1 l0 x15_1) x23_2) then (if (rd (rd_L1 l0 x15_1) x23_2) < (x5_2.length:Int) then (spec_clInside.l1 k2 l0 (x5_2.set (x15_1:Int).toNat (rdOf false x5_2 (rd (rd_L1 l0 x15_1) x23_2))) x15_1 (l0.length:Int) x15_1 (rd_L1 l0 x15_1) ((rd_L1 l0 x15_1).length:Int) (wrap64 (x23_2 + 1))) else (none)) else (none)) else (spec_clInside.l1 k2 l0 (x5_2.set (x15_1:Int).toNat false) x15_1 (l0.length:Int) x15_1 (rd_L1 l0 x15_1) ((rd_L1 l0 x15_1).length:Int) (wrap64 (x23_2 + 1))))=some r:=by rw [← hbq13] at H;exact H
             have Nbq13:=aM6 hbq13;clear hbq13
             by_cases c14:bq13=true
             ·subst c14
              rw [if_pos rfl] at H;(try dsimp only at H)
              by_cases c15:0≤(rd (rd_L1 l0 x15_1) x23_2)
              ·rw [if_pos c15] at H
               have c15b0:decide (0≤(rd (rd_L1 l0 x15_1) x23_2))=true:=dT6 c15;clear c15
               by_cases c16:(rd (rd_L1 l0 x15_1) x23_2) < (x5_2.length:Int)
               ·rw [if_pos c16] at H
                have c16b0:decide ((rd (rd_L1 l0 x15_1) x23_2) < (x5_2.length:Int))=true:=dT6 c16;clear c16;obtain ⟨y520,hy520⟩:∃ y_:List Bool,y_=(x5_2.set (x15_1:Int).toNat (rdOf false x5_2 (rd (rd_L1 l0 x15_1) x23_2))):=⟨_,rfl⟩
                replace H:(spec_clInside.l1 k2 l0 y520 x15_1 (l0.length:Int) x15_1 (rd_L1 l0 x15_1) ((rd_L1 l0 x15_1).length:Int) (wrap64 (x23_2 + 1)))=some r:=by first|(rw [hy520];with_reducible exact H)|(have H2_:=(Option.bind_some _ _).symm.trans H;rw [hy520];with_reducible exact H2_)|(have H2_:=(Option.bind_some _ _).symm.trans H;with_reducible exact H2_)|with_reducible exact H|(rw [hy520];exact H)|exact H
                have Ny520:=aM6 hy520;clear hy520;have H':=aM6 H;clear H;have p517:0≤(x23_2:Int):=oD6 (zsx6_3);have q517:x23_2 < ((rd_L1 l0 x15_1).length:Int):=oD6 (zsx6_3);obtain ⟨ad517,e517,hx517_0⟩:=Kd.at_int HR516_0.out x23_2 p517 q517
                cases e517
                replace hx517_0:=(HB.out.cell (bL6 w _ hx517_0)).trans hx517_0;replace p517:=eq_true p517;replace q517:=eq_true q517;obtain ⟨Ao18,co18,eo18⟩:=Kd.R_slice HO_5.out;subst eo18;have p518:0≤(x15_1:Int):=oD6 (zsx6_3);have q518:x15_1 < (x5_2.length:Int):=oD6 (zsx6_3);obtain ⟨ad518,e518,hx518_0⟩:=Kd.at_bool (Kd.R_reads' HO_5.out).2.2 x15_1 p518 q518;(try rw [← Nbq13.out] at hx518_0)
                cases e518
                replace p518:=eq_true p518;replace q518:=eq_true q518;have p519:0≤((rd (rd_L1 l0 x15_1) x23_2):Int):=oD6 (zsx6_3);have q519:(rd (rd_L1 l0 x15_1) x23_2) < (x5_2.length:Int):=oD6 (zsx6_3);obtain ⟨ad519,e519,hx519_0⟩:=Kd.at_bool (Kd.R_reads' HO_5.out).2.2 (rd (rd_L1 l0 x15_1) x23_2) p519 q519;(try rw [← Nbq13.out] at hx519_0);obtain rfl:ad518=ad519:=(by injection e519);replace p519:=eq_true p519;replace q519:=eq_true q519;have p17:0≤(x15_1:Int):=oD6 (zsx6_3);have q17:(x15_1:Int) < ((x5_2.length:Int):Int):=oD6 (zsx6_3);obtain ⟨go17,co17,eo17,gb17,gl17,cl17,HG17⟩:=Kd.R_form HO_5.out (by omega)
                (first|cases eo17|(injection eo17 with ea_ en_ ec_;(first|subst ea_|(injection ea_ with ea_;subst ea_));subst ec_;clear en_))
                have GB17:=aM6 gb17;have GG17:=aM6 HG17;clear gb17 gl17 HG17
                (first|simp only [add_plain] at hx518_0|skip)
                (first|simp only [add_plain] at hx519_0|skip)
                obtain ⟨hx17_0,hf17_0⟩:=Kd.R_celln false HO_5.out (x15_1:Int) p17 q17;replace p17:=eq_true p17;replace q17:=eq_true q17;have HP19:=Kd.R_putg HO_5.out (x15_1:Int) (rdOf false x5_2 (rd (rd_L1 l0 x15_1) x23_2))
                go_wp2_with (first|((with_reducible refine gate_store (t:=4) (p:=39) rfl ?_);refine store_event (t:=4) (p:=39) (v:=?vo_w20) (w1:=(wr.setCell ⟨go17,(x15_1:Int).toNat,none⟩ (.bool (rdOf false x5_2 (rd (rd_L1 l0 x15_1) x23_2))))) ?hg ?ho ?hn ?hr ?_;(case ho=>rfl);(case hg=>rfl);(case hn=>rfl);(case hr=>exact zsx6_14);intro w20 hw;have hg:wr.grownBy w20 (some go17):=(by rw [hw];exact HP19.2);have hp_:Kd.R Kd.bool 4 w20 w.heap.size (fun _=>True) (.slice (some ⟨go17,0,none⟩) x5_2.length co18) y520:=(by rw [hw,Ny520.out];exact HP19.1);clear HP19;have n0_:=aM6 (hp_);have n1_:=aM6 ((by rw [hw];exact below_set (HB.out) GB17.out:Below w.heap.size w w20));clear HO_5 HB;have HO_5:=n0_;have HB:=n1_;clear n0_ n1_ hg hw hp_))
                go_roundg k2
                case measure=>have:=HK1.out;have:=HK2.out;omega
                case rel=>exact ⟨(y520),(wrap64 (x23_2 + 1)),(zsx6_0),H',⟨zsx6_10⟩,⟨zsx6_9⟩,⟨zsx6_6⟩⟩
               ·rw [if_neg c16] at H
                exact absurd H (by simp)
              ·rw [if_neg c15] at H
               exact absurd H (by simp)
             ·replace c14:=Bool.eq_false_iff.mpr c14
              subst c14;rw [if_neg (show ¬ (false=true) by decide)] at H;(try dsimp only at H);obtain ⟨y521,hy521⟩:∃ y_:List Bool,y_=(x5_2.set (x15_1:Int).toNat false):=⟨_,rfl⟩
              replace H:(spec_clInside.l1 k2 l0 y521 x15_1 (l0.length:Int) x15_1 (rd_L1 l0 x15_1) ((rd_L1 l0 x15_1).length:Int) (wrap64 (x23_2 + 1)))=some r:=by first|(rw [hy521];with_reducible exact H)|(have H2_:=(Option.bind_some _ _).symm.trans H;rw [hy521];with_reducible exact H2_)|(have H2_:=(Option.bind_some _ _).symm.trans H;with_reducible exact H2_)|with_reducible exact H|(rw [hy521];exact H)|exact H
              have Ny521:=aM6 hy521;clear hy521;have H':=aM6 H;clear H;have p517:0≤(x23_2:Int):=oD6 (zsx6_3);have q517:x23_2 < ((rd_L1 l0 x15_1).length:Int):=oD6 (zsx6_3);obtain ⟨ad517,e517,hx517_0⟩:=Kd.at_int HR516_0.out x23_2 p517 q517
              cases e517
              replace hx517_0:=(HB.out.cell (bL6 w _ hx517_0)).trans hx517_0;replace p517:=eq_true p517;replace q517:=eq_true q517;obtain ⟨Ao22,co22,eo22⟩:=Kd.R_slice HO_5.out;subst eo22;have p518:0≤(x15_1:Int):=oD6 (zsx6_3);have q518:x15_1 < (x5_2.length:Int):=oD6 (zsx6_3);obtain ⟨ad518,e518,hx518_0⟩:=Kd.at_bool (Kd.R_reads' HO_5.out).2.2 x15_1 p518 q518;(try rw [← Nbq13.out] at hx518_0)
              cases e518
              replace p518:=eq_true p518;replace q518:=eq_true q518;have p21:0≤(x15_1:Int):=oD6 (zsx6_3);have q21:(x15_1:Int) < ((x5_2.length:Int):Int):=oD6 (zsx6_3);obtain ⟨go21,co21,eo21,gb21,gl21,cl21,HG21⟩:=Kd.R_form HO_5.out (by omega)
              (first|cases eo21|(injection eo21 with ea_ en_ ec_;(first|subst ea_|(injection ea_ with ea_;subst ea_));subst ec_;clear en_))
              have GB21:=aM6 gb21;have GG21:=aM6 HG21;clear gb21 gl21 HG21
              (first|simp only [add_plain] at hx518_0|skip)
              obtain ⟨hx21_0,hf21_0⟩:=Kd.R_celln false HO_5.out (x15_1:Int) p21 q21;replace p21:=eq_true p21;replace q21:=eq_true q21;have HP23:=Kd.R_putg HO_5.out (x15_1:Int) false
              go_wp2_with (first|((with_reducible refine gate_store (t:=4) (p:=39) rfl ?_);refine store_event (t:=4) (p:=39) (v:=?vo_w24) (w1:=(wr.setCell ⟨go21,(x15_1:Int).toNat,none⟩ (.bool false))) ?hg ?ho ?hn ?hr ?_;(case ho=>rfl);(case hg=>rfl);(case hn=>rfl);(case hr=>exact zsx6_14);intro w24 hw;have hg:wr.grownBy w24 (some go21):=(by rw [hw];exact HP23.2);have hp_:Kd.R Kd.bool 4 w24 w.heap.size (fun _=>True) (.slice (some ⟨go21,0,none⟩) x5_2.length co22) y521:=(by rw [hw,Ny521.out];exact HP23.1);clear HP23;have n0_:=aM6 (hp_);have n1_:=aM6 ((by rw [hw];exact below_set (HB.out) GB21.out:Below w.heap.size w w24));clear HO_5 HB;have HO_5:=n0_;have HB:=n1_;clear n0_ n1_ hg hw hp_))
              go_roundg k2
              case measure=>have:=HK1.out;have:=HK2.out;omega
              case rel=>exact ⟨(y521),(wrap64 (x23_2 + 1)),(zsx6_0),H',⟨zsx6_10⟩,⟨zsx6_9⟩,⟨zsx6_6⟩⟩
            ·rw [if_neg c12] at H
             exact absurd H (by simp)
           ·rw [if_neg c11] at H
            exact absurd H (by simp)
          ·rw [if_neg c10] at H
           exact absurd H (by simp)
         ·rw [if_neg c9] at H
          exact absurd H (by simp)
        ·rw [if_neg c8] at H
         have c8b0:decide (x23_2 < ((rd_L1 l0 x15_1).length:Int))=false:=decide_eq_false c8;clear c8;have H':=aM6 H;clear H
         go_wp2
         go_roundg k2
         case measure=>have:=HK1.out;have:=HK2.out;omega
         case rel=>exact ⟨(x5_2),(wrap64 (x15_1 + 1)),(zsx6_0),H',⟨zsx6_10⟩,⟨zsx6_9⟩,⟨zsx6_6⟩⟩
     ·rw [if_neg c7] at H
      exact absurd H (by simp)
    ·rw [if_neg c6] at H
     exact absurd H (by simp)
   ·rw [if_neg c5] at H
    have c5b0:decide (x15_1 < (l0.length:Int))=false:=decide_eq_false c5;clear c5;replace H:=bI6.mp H;obtain ⟨t513,A250,H⟩:=H;(try dsimp only at H);have A25:=aM6 A250;clear A250;obtain rfl:=Option.some.inj H;obtain ⟨Ao26,co26,eo26⟩:=Kd.R_slice HO_5.out;subst eo26
    go_wp2_with (first|((with_reducible refine gate_callee (f:=60) rfl ?_);refine goesL_ (some 43) rfl rfl Try.func60 (zsx6_4) rfl #[.slice Ao26 x5_1.length co26] rfl (zsx6_5) ?_;(with_reducible refine (spec_clList.calls k1 _ _ x5_1 t513 _ ?side1 ?side2 A25.out).mono ?_);(case side1=>exact zsx6_19);(case side2=>exact (Kd.R_reads' HO_5.out).2.1);rintro e w27 ⟨v514,rfl,ho0,hb⟩;refine ⟨_,rfl,?_⟩;have n0_:=aM6 (Kd.R_below (zsx6_9) hb);have n1_:=aM6 (Kd.R_lower ho0 (bZ6 (zsx6_6)));have n2_:=aM6 (below_step (zsx6_6) hb);clear HO_5 HB;have HO_5:=n0_;have HO515:=n1_;have HB:=n2_;clear n0_ n1_ n2_;(try clear hb);(try clear hb2);(try clear hk);(try clear hi);(try clear ho0)))
    go_ret
    exact ⟨_,zsx6_8,by (with_reducible repeat (first|apply Kd.R_alloc|apply Kd.R_drewN|apply Kd.R_drew));exact HO515.out,zsx6_6⟩
def spec_GreatestInside.f (k:Nat) (l0:List (List Int)) (l1:List Int):Option (List Int × Bool):=(spec_clBlocks.f k l0 l1).bind fun t522=>(if t522=true then ((spec_clInside.f k l0 l1).bind fun t523=>(some (t523,true))) else (some (([]:List Int),false)))
set_option maxHeartbeats 8000000 in
set_option maxRecDepth 100000 in
theorem spec_GreatestInside.calls (k:Nat) (A0:Option Addr) (c0:Nat) (l0:List (List Int)) (A1:Option Addr) (c1:Nat) (l1:List Int) (r1:List Int) (r2:Bool) (w:World) (hr0:Kd.C (Kd.slice 3 (Kd.int .i64)) w A0 l0.length l0) (hc0:l0.length≤c0) (hr1:Kd.C (Kd.int .i64) w A1 l1.length l1) (hc1:l1.length≤c1) (h:spec_GreatestInside.f k l0 l1=some (r1,r2)) :
  Calls Try.prog 33 #[.slice A0 l0.length c0,.slice A1 l1.length c1] w fun e w'=>∃ v0_:Value,e=.returned (.tuple #[v0_,.bool r2])∧Kd.R (Kd.int .i64) 3 w' w.heap.size (fun _=>True) v0_ r1∧Below w.heap.size w w':=by
 have HR0:=aM6 hr0;have HC0:=aM6 hc0;clear hr0 hc0;have HR1:=aM6 hr1;have HC1:=aM6 hc1;clear hr1 hc1;have HB:=aM6 (Below.refl w.heap.size w);have H:((spec_clBlocks.f k l0 l1).bind fun t522=>(if t522=true then ((spec_clInside.f k l0 l1).bind fun t523=>(some (t523,true))) else (some (([]:List Int),false))))=some (r1,r2):=h;clear h;replace H:=bI6.mp H;obtain ⟨t522,A30,H⟩:=H;(try dsimp only at H);have A3:=aM6 A30;clear A30
 by_cases c4:t522=true
 ·subst c4
  rw [if_pos rfl] at H;(try dsimp only at H);replace H:=bI6.mp H;obtain ⟨t523,A50,H⟩:=H;(try dsimp only at H);have A5:=aM6 A50;clear A50;simp only [Option.some.injEq,Prod.mk.injEq] at H;obtain ⟨rfl,rfl⟩:=H;go_enter Try.func33,Try.ntmps33
  go_wp2_with (first|((with_reducible refine gate_callee (f:=74) rfl ?_);refine goesL_ (some 8) rfl rfl Try.func74 (zsx6_4) rfl #[.slice A0 l0.length c0,.slice A1 l1.length c1] rfl (zsx6_5) ?_;(with_reducible refine (spec_clBlocks.calls k _ _ l0 _ _ l1 true _ ?side1 ?side2 ?side3 ?side4 A3.out).mono ?_);(case side1=>exact zsx6_18);(case side2=>exact HC0.out);(case side3=>exact zsx6_15);(case side4=>exact HC1.out);rintro e w' ⟨rfl,⟨nd,rfl⟩⟩;refine ⟨_,rfl,?_⟩)|((with_reducible refine gate_callee (f:=77) rfl ?_);refine goesL_ (some 12) rfl rfl Try.func77 (zsx6_4) rfl #[.slice A0 l0.length c0,.slice A1 l1.length c1] rfl (zsx6_5) ?_;(with_reducible refine (spec_clInside.calls k _ _ l0 _ _ l1 t523 _ ?side1 ?side2 ?side3 ?side4 A5.out).mono ?_);(case side1=>exact zsx6_18);(case side2=>exact HC0.out);(case side3=>exact zsx6_15);(case side4=>exact HC1.out);rintro e w6 ⟨v524,rfl,ho0,hb⟩;refine ⟨_,rfl,?_⟩;have n0_:=aM6 (Kd.R_lower ho0 (bZ6 (zsx6_6)));have n1_:=aM6 (below_step (zsx6_6) hb);clear HB;have HO525:=n0_;have HB:=n1_;clear n0_ n1_;(try clear hb);(try clear hb2);(try clear hk);(try clear hi);(try clear ho0)))
  go_ret2
  exact ⟨_,zsx6_8,by (with_reducible repeat (first|apply Kd.R_alloc|apply Kd.R_drewN|apply Kd.R_drew));exact HO525.out,zsx6_6⟩
 ·replace c4:=Bool.eq_false_iff.mpr c4
  subst c4;rw [if_neg (show ¬ (false=true) by decide)] at H;(try dsimp only at H);simp only [Option.some.injEq,Prod.mk.injEq] at H;obtain ⟨rfl,rfl⟩:=H;go_enter Try.func33,Try.ntmps33
  go_wp2_with (first|((with_reducible refine gate_callee (f:=74) rfl ?_);refine goesL_ (some 8) rfl rfl Try.func74 (zsx6_4) rfl #[.slice A0 l0.length c0,.slice A1 l1.length c1] rfl (zsx6_5) ?_;(with_reducible refine (spec_clBlocks.calls k _ _ l0 _ _ l1 false _ ?side1 ?side2 ?side3 ?side4 A3.out).mono ?_);(case side1=>exact zsx6_18);(case side2=>exact HC0.out);(case side3=>exact zsx6_15);(case side4=>exact HC1.out);rintro e w' ⟨rfl,⟨nd,rfl⟩⟩;refine ⟨_,rfl,?_⟩))
  go_ret2
  exact ⟨_,zsx6_8,zsx6_12,zsx6_6⟩
def impl_isClosure.l0:Nat→List (List Int)→List Bool→List Int→Int→Int→Option (Bool)
 | 0,_,_,_,_,_=>none
 | k + 1,x0,x5,x12,x13,x14=>if x14 < x13 then (if 0≤x14 then (if x14 < (x12.length:Int) then (if 0≤(rd x12 x14) then (if (rd x12 x14) < (x0.length:Int) then ((impl_allIn.f k x5 (rd_L1 x0 (rd x12 x14))).bind fun t134=>(if t134=true then (impl_isClosure.l0 k x0 x5 x12 x13 (wrap64 (x14 + 1))) else (some false))) else (none)) else (none)) else (none)) else (none)) else (some true)
def impl_isClosure.f (k:Nat) (l0:List (List Int)) (l1:List Int):Option (Bool):=(impl_markOf.f k (l0.length:Int) l1).bind fun t129=>(impl_isClosure.l0 k l0 t129 l1 (l1.length:Int) 0)
set_option maxHeartbeats 8000000 in
set_option maxRecDepth 100000 in
theorem impl_isClosure.calls (k:Nat) (A0:Option Addr) (c0:Nat) (l0:List (List Int)) (A1:Option Addr) (c1:Nat) (l1:List Int) (r:Bool) (w:World) (hr0:Kd.C (Kd.slice 3 (Kd.int .i64)) w A0 l0.length l0) (hc0:l0.length≤c0) (hr1:Kd.C (Kd.int .i64) w A1 l1.length l1) (hc1:l1.length≤c1) (h:impl_isClosure.f k l0 l1=some r) :
  Calls Try.prog 62 #[.slice A0 l0.length c0,.slice A1 l1.length c1] w fun e w'=>e=.returned (.bool r)∧Below w.heap.size w w':=by
 have HR0:=aM6 hr0;have HC0:=aM6 hc0;clear hr0 hc0;have HR1:=aM6 hr1;have HC1:=aM6 hc1;clear hr1 hc1;have HB:=aM6 (Below.refl w.heap.size w);have H:((impl_markOf.f k (l0.length:Int) l1).bind fun t129=>(impl_isClosure.l0 k l0 t129 l1 (l1.length:Int) 0))=some r:=h;clear h;replace H:=bI6.mp H;obtain ⟨t129,A30,H⟩:=H;(try dsimp only at H);have A3:=aM6 A30;clear A30;have H':=aM6 H;clear H;go_enter Try.func62,Try.ntmps62
 go_wp2_with (first|((with_reducible refine gate_callee (f:=81) rfl ?_);refine goesL_ (some 11) rfl rfl Try.func81 (zsx6_4) rfl #[.int .i64 (l0.length:Int),.slice A1 l1.length c1] rfl (zsx6_5) ?_;(with_reducible refine (impl_markOf.calls k (l0.length:Int) _ _ l1 t129 _ ?side1 ?side2 A3.out).mono ?_);(case side1=>exact zsx6_15);(case side2=>exact HC1.out);rintro e w4 ⟨v130,rfl,ho0,hb⟩;refine ⟨_,rfl,?_⟩;have n0_:=aM6 (Kd.R_lower ho0 (bZ6 (zsx6_6)));have n1_:=aM6 (below_step (zsx6_6) hb);clear HB;have HO131:=n0_;have HB:=n1_;clear n0_ n1_;(try clear hb);(try clear hb2);(try clear hk);(try clear hi);(try clear ho0)))
 go_loopg [14] k (fun kq v14 w'=>∃ (x14_1:Int),v14=.int .i64 x14_1∧Aside0 (impl_isClosure.l0 kq l0 t129 l1 (l1.length:Int) x14_1=some r)∧Aside0 (kq≤k)∧Aside0 (Kd.R Kd.bool 4 w' w.heap.size (fun _=>True) v130 t129)∧Aside0 (Below w.heap.size w w'))
 case atStart=>exact ⟨(0),(zsx6_0),H',⟨Nat.le_refl _⟩,⟨by (with_reducible repeat (first|apply Kd.R_alloc|apply Kd.R_drewN|apply Kd.R_drew));exact HO131.out⟩,⟨zsx6_6⟩⟩
 case round =>
  clear H';(try clear c1);(try clear p2);obtain ⟨x14_1,rfl,HA,HK1,HO_5,HB⟩:=hrel
  cases gk with
  | zero=>exact absurd HA.out (by simp [impl_isClosure.l0])
  | succ k1 =>
   have H:=HA.out;clear HA;simp only [impl_isClosure.l0] at H
   by_cases c5:x14_1 < (l1.length:Int)
   ·rw [if_pos c5] at H
    have c5b0:decide (x14_1 < (l1.length:Int))=true:=dT6 c5;clear c5
    by_cases c6:0≤x14_1
    ·rw [if_pos c6] at H
     have c6b0:decide (0≤x14_1)=true:=dT6 c6;clear c6
     by_cases c7:x14_1 < (l1.length:Int)
     ·rw [if_pos c7] at H
      have c7b0:decide (x14_1 < (l1.length:Int))=true:=dT6 c7;clear c7
      by_cases c8:0≤(rd l1 x14_1)
      ·rw [if_pos c8] at H
       have c8b0:decide (0≤(rd l1 x14_1))=true:=dT6 c8;clear c8
       by_cases c9:(rd l1 x14_1) < (l0.length:Int)
       ·rw [if_pos c9] at H
        have c9b0:decide ((rd l1 x14_1) < (l0.length:Int))=true:=dT6 c9;clear c9;replace H:=bI6.mp H;obtain ⟨t134,A100,H⟩:=H;(try dsimp only at H);have A10:=aM6 A100;clear A100
        by_cases c11:t134=true
        ·subst c11
         rw [if_pos rfl] at H;(try dsimp only at H);have H':=aM6 H;clear H;have p132:0≤(x14_1:Int):=oD6 (zsx6_3);have q132:x14_1 < (l1.length:Int):=oD6 (zsx6_3);obtain ⟨ad132,e132,hx132_0⟩:=Kd.at_int HR1.out x14_1 p132 q132
         cases e132
         replace hx132_0:=(HB.out.cell (bL6 w _ hx132_0)).trans hx132_0;replace p132:=eq_true p132;replace q132:=eq_true q132;have p133:0≤((rd l1 x14_1):Int):=oD6 (zsx6_3);have q133:(rd l1 x14_1) < (l0.length:Int):=oD6 (zsx6_3);obtain ⟨ad133,A133_0,c133_0,e133,hx133_0,hl133_0,hi133_0⟩:=at_L1 HR0.out (rd l1 x14_1) p133 q133
         cases e133
         replace hx133_0:=(HB.out.cell (bL6 w _ hx133_0)).trans hx133_0;have HR133_0:=aM6 hi133_0;have HC133_0:=aM6 hl133_0;clear hi133_0 hl133_0;replace p133:=eq_true p133;replace q133:=eq_true q133;obtain ⟨Ao12,co12,eo12⟩:=Kd.R_slice HO_5.out;subst eo12
         go_wp2_with (first|((with_reducible refine gate_callee (f:=50) rfl ?_);refine goesL_ (some 23) rfl rfl Try.func50 (zsx6_4) rfl #[.slice Ao12 t129.length co12,.slice A133_0 (rd_L1 l0 (rd l1 x14_1)).length c133_0] rfl (zsx6_5) ?_;(with_reducible refine (impl_allIn.calls k1 _ _ t129 _ _ (rd_L1 l0 (rd l1 x14_1)) true _ ?side1 ?side2 ?side3 ?side4 A10.out).mono ?_);(case side1=>exact zsx6_19);(case side2=>exact (Kd.R_reads' HO_5.out).2.1);(case side3=>exact zsx6_20);(case side4=>exact HC133_0.out);rintro e w' ⟨rfl,⟨nd,rfl⟩⟩;refine ⟨_,rfl,?_⟩))
         go_roundg k1
         case measure=>have:=HK1.out;omega
         case rel=>exact ⟨(wrap64 (x14_1 + 1)),(zsx6_0),H',⟨by have:=HK1.out;omega⟩,⟨zsx6_9⟩,⟨zsx6_6⟩⟩
        ·replace c11:=Bool.eq_false_iff.mpr c11
         subst c11;rw [if_neg (show ¬ (false=true) by decide)] at H;(try dsimp only at H);obtain rfl:=Option.some.inj H;have p132:0≤(x14_1:Int):=oD6 (zsx6_3);have q132:x14_1 < (l1.length:Int):=oD6 (zsx6_3);obtain ⟨ad132,e132,hx132_0⟩:=Kd.at_int HR1.out x14_1 p132 q132
         cases e132
         replace hx132_0:=(HB.out.cell (bL6 w _ hx132_0)).trans hx132_0;replace p132:=eq_true p132;replace q132:=eq_true q132;have p133:0≤((rd l1 x14_1):Int):=oD6 (zsx6_3);have q133:(rd l1 x14_1) < (l0.length:Int):=oD6 (zsx6_3);obtain ⟨ad133,A133_0,c133_0,e133,hx133_0,hl133_0,hi133_0⟩:=at_L1 HR0.out (rd l1 x14_1) p133 q133
         cases e133
         replace hx133_0:=(HB.out.cell (bL6 w _ hx133_0)).trans hx133_0;have HR133_0:=aM6 hi133_0;have HC133_0:=aM6 hl133_0;clear hi133_0 hl133_0;replace p133:=eq_true p133;replace q133:=eq_true q133;obtain ⟨Ao13,co13,eo13⟩:=Kd.R_slice HO_5.out;subst eo13
         go_wp2_with (first|((with_reducible refine gate_callee (f:=50) rfl ?_);refine goesL_ (some 23) rfl rfl Try.func50 (zsx6_4) rfl #[.slice Ao13 t129.length co13,.slice A133_0 (rd_L1 l0 (rd l1 x14_1)).length c133_0] rfl (zsx6_5) ?_;(with_reducible refine (impl_allIn.calls k1 _ _ t129 _ _ (rd_L1 l0 (rd l1 x14_1)) false _ ?side1 ?side2 ?side3 ?side4 A10.out).mono ?_);(case side1=>exact zsx6_19);(case side2=>exact (Kd.R_reads' HO_5.out).2.1);(case side3=>exact zsx6_20);(case side4=>exact HC133_0.out);rintro e w' ⟨rfl,⟨nd,rfl⟩⟩;refine ⟨_,rfl,?_⟩))
         go_ret
         exact ⟨zsx6_8,zsx6_6⟩
       ·rw [if_neg c9] at H
        exact absurd H (by simp)
      ·rw [if_neg c8] at H
       exact absurd H (by simp)
     ·rw [if_neg c7] at H
      exact absurd H (by simp)
    ·rw [if_neg c6] at H
     exact absurd H (by simp)
   ·rw [if_neg c5] at H
    have c5b0:decide (x14_1 < (l1.length:Int))=false:=decide_eq_false c5;clear c5;obtain rfl:=Option.some.inj H
    go_wp2
    go_ret
    exact ⟨zsx6_8,zsx6_6⟩
def impl_IsClosure.f (k:Nat) (l0:List (List Int)) (l1:List Int):Option (Bool × Bool):=(impl_AreArcs.f k l0).bind fun t135=>(if t135=true then ((impl_areBlocks.f k l1 (l0.length:Int)).bind fun t136=>(if t136=true then ((impl_isClosure.f k l0 l1).bind fun t137=>(some (t137,true))) else (some (false,false)))) else (some (false,false)))
set_option maxHeartbeats 8000000 in
set_option maxRecDepth 100000 in
theorem impl_IsClosure.calls (k:Nat) (A0:Option Addr) (c0:Nat) (l0:List (List Int)) (A1:Option Addr) (c1:Nat) (l1:List Int) (r1:Bool) (r2:Bool) (w:World) (hr0:Kd.C (Kd.slice 3 (Kd.int .i64)) w A0 l0.length l0) (hc0:l0.length≤c0) (hr1:Kd.C (Kd.int .i64) w A1 l1.length l1) (hc1:l1.length≤c1) (h:impl_IsClosure.f k l0 l1=some (r1,r2)) :
  Calls Try.prog 20 #[.slice A0 l0.length c0,.slice A1 l1.length c1] w fun e w'=>e=.returned (.tuple #[.bool r1,.bool r2])∧Below w.heap.size w w':=by
 have HR0:=aM6 hr0;have HC0:=aM6 hc0;clear hr0 hc0;have HR1:=aM6 hr1;have HC1:=aM6 hc1;clear hr1 hc1;have HB:=aM6 (Below.refl w.heap.size w);have H:((impl_AreArcs.f k l0).bind fun t135=>(if t135=true then ((impl_areBlocks.f k l1 (l0.length:Int)).bind fun t136=>(if t136=true then ((impl_isClosure.f k l0 l1).bind fun t137=>(some (t137,true))) else (some (false,false)))) else (some (false,false))))=some (r1,r2):=h;clear h;replace H:=bI6.mp H;obtain ⟨t135,A30,H⟩:=H;(try dsimp only at H);have A3:=aM6 A30;clear A30
 by_cases c4:t135=true
 ·subst c4
  rw [if_pos rfl] at H;(try dsimp only at H);replace H:=bI6.mp H;obtain ⟨t136,A50,H⟩:=H;(try dsimp only at H);have A5:=aM6 A50;clear A50
  by_cases c6:t136=true
  ·subst c6
   rw [if_pos rfl] at H;(try dsimp only at H);replace H:=bI6.mp H;obtain ⟨t137,A70,H⟩:=H;(try dsimp only at H);have A7:=aM6 A70;clear A70;simp only [Option.some.injEq,Prod.mk.injEq] at H;obtain ⟨rfl,rfl⟩:=H;go_enter Try.func20,Try.ntmps20
   go_wp2_with (first|((with_reducible refine gate_callee (f:=18) rfl ?_);refine goesL_ (some 7) rfl rfl Try.func18 (zsx6_4) rfl #[.slice A0 l0.length c0] rfl (zsx6_5) ?_;(with_reducible refine (impl_AreArcs.calls k _ _ l0 true _ ?side1 ?side2 A3.out).mono ?_);(case side1=>exact zsx6_18);(case side2=>exact HC0.out);rintro e w' ⟨rfl,⟨nd,rfl⟩⟩;refine ⟨_,rfl,?_⟩)|(go_at_call 61;(with_reducible refine (impl_areBlocks.calls k _ _ l1 (l0.length:Int) true _ ?side1 ?side2 A5.out).mono ?_);(case side1=>exact zsx6_15);(case side2=>exact HC1.out);rintro e w' ⟨rfl,⟨nd,rfl⟩⟩)|((with_reducible refine gate_callee (f:=62) rfl ?_);refine goesL_ (some 18) rfl rfl Try.func62 (zsx6_4) rfl #[.slice A0 l0.length c0,.slice A1 l1.length c1] rfl (zsx6_5) ?_;(with_reducible refine (impl_isClosure.calls k _ _ l0 _ _ l1 t137 _ ?side1 ?side2 ?side3 ?side4 A7.out).mono ?_);(case side1=>exact zsx6_18);(case side2=>exact HC0.out);(case side3=>exact zsx6_15);(case side4=>exact HC1.out);rintro e w8 ⟨rfl,hb⟩;refine ⟨_,rfl,?_⟩;have n0_:=aM6 (below_step (zsx6_6) hb);clear HB;have HB:=n0_;clear n0_;(try clear hb);(try clear hb2);(try clear hk);(try clear hi)))
   go_ret2
   exact ⟨zsx6_8,zsx6_6⟩
  ·replace c6:=Bool.eq_false_iff.mpr c6
   subst c6;rw [if_neg (show ¬ (false=true) by decide)] at H;(try dsimp only at H);simp only [Option.some.injEq,Prod.mk.injEq] at H;obtain ⟨rfl,rfl⟩:=H;go_enter Try.func20,Try.ntmps20
   go_wp2_with (first|((with_reducible refine gate_callee (f:=18) rfl ?_);refine goesL_ (some 7) rfl rfl Try.func18 (zsx6_4) rfl #[.slice A0 l0.length c0] rfl (zsx6_5) ?_;(with_reducible refine (impl_AreArcs.calls k _ _ l0 true _ ?side1 ?side2 A3.out).mono ?_);(case side1=>exact zsx6_18);(case side2=>exact HC0.out);rintro e w' ⟨rfl,⟨nd,rfl⟩⟩;refine ⟨_,rfl,?_⟩)|(go_at_call 61;(with_reducible refine (impl_areBlocks.calls k _ _ l1 (l0.length:Int) false _ ?side1 ?side2 A5.out).mono ?_);(case side1=>exact zsx6_15);(case side2=>exact HC1.out);rintro e w' ⟨rfl,⟨nd,rfl⟩⟩))
   go_ret2
   exact ⟨zsx6_8,zsx6_6⟩
 ·replace c4:=Bool.eq_false_iff.mpr c4
  subst c4;rw [if_neg (show ¬ (false=true) by decide)] at H;(try dsimp only at H);simp only [Option.some.injEq,Prod.mk.injEq] at H;obtain ⟨rfl,rfl⟩:=H;go_enter Try.func20,Try.ntmps20
  go_wp2_with (first|((with_reducible refine gate_callee (f:=18) rfl ?_);refine goesL_ (some 7) rfl rfl Try.func18 (zsx6_4) rfl #[.slice A0 l0.length c0] rfl (zsx6_5) ?_;(with_reducible refine (impl_AreArcs.calls k _ _ l0 false _ ?side1 ?side2 A3.out).mono ?_);(case side1=>exact zsx6_18);(case side2=>exact HC0.out);rintro e w' ⟨rfl,⟨nd,rfl⟩⟩;refine ⟨_,rfl,?_⟩))
  go_ret2
  exact ⟨zsx6_8,zsx6_6⟩
mutual
def spec_clIs.l0:Nat→List (List Int)→List Bool→List Int→Int→Int→Option (Bool)
 | 0,_,_,_,_,_=>none
 | k + 1,x0,x5,x14,x15,x16=>if x16 < x15 then (if 0≤x16 then (if x16 < (x14.length:Int) then (if 0≤(rd x14 x16) then (if (rd x14 x16) < (x0.length:Int) then (spec_clIs.l1 k x0 x5 x14 x15 x16 (rd_L1 x0 (rd x14 x16)) ((rd_L1 x0 (rd x14 x16)).length:Int) 0) else (none)) else (none)) else (none)) else (none)) else (some true)
def spec_clIs.l1:Nat→List (List Int)→List Bool→List Int→Int→Int→List Int→Int→Int→Option (Bool)
 | 0,_,_,_,_,_,_,_,_=>none
 | k + 1,x0,x5,x14,x15,x16,x23,x24,x25=>if x25 < x24 then (if 0≤x25 then (if x25 < (x23.length:Int) then (if 0≤(rd x23 x25) then (if (rd x23 x25) < (x5.length:Int) then (if (rdOf false x5 (rd x23 x25)=true) then (spec_clIs.l1 k x0 x5 x14 x15 x16 x23 x24 (wrap64 (x25 + 1))) else (some false)) else (none)) else (none)) else (none)) else (none)) else (spec_clIs.l0 k x0 x5 x14 x15 (wrap64 (x16 + 1)))
end
def spec_clIs.f (k:Nat) (l0:List (List Int)) (l1:List Int):Option (Bool):=(spec_clMarks.f k (l0.length:Int) l1).bind fun t526=>(spec_clIs.l0 k l0 t526 l1 (l1.length:Int) 0)
set_option maxHeartbeats 8000000 in
set_option maxRecDepth 100000 in
theorem spec_clIs.calls (k:Nat) (A0:Option Addr) (c0:Nat) (l0:List (List Int)) (A1:Option Addr) (c1:Nat) (l1:List Int) (r:Bool) (w:World) (hr0:Kd.C (Kd.slice 3 (Kd.int .i64)) w A0 l0.length l0) (hc0:l0.length≤c0) (hr1:Kd.C (Kd.int .i64) w A1 l1.length l1) (hc1:l1.length≤c1) (h:spec_clIs.f k l0 l1=some r) :
  Calls Try.prog 78 #[.slice A0 l0.length c0,.slice A1 l1.length c1] w fun e w'=>e=.returned (.bool r)∧Below w.heap.size w w':=by
 have HR0:=aM6 hr0;have HC0:=aM6 hc0;clear hr0 hc0;have HR1:=aM6 hr1;have HC1:=aM6 hc1;clear hr1 hc1;have HB:=aM6 (Below.refl w.heap.size w);have H:((spec_clMarks.f k (l0.length:Int) l1).bind fun t526=>(spec_clIs.l0 k l0 t526 l1 (l1.length:Int) 0))=some r:=h;clear h;replace H:=bI6.mp H;obtain ⟨t526,A30,H⟩:=H;(try dsimp only at H);have A3:=aM6 A30;clear A30;have H':=aM6 H;clear H;go_enter Try.func78,Try.ntmps78
 go_wp2_with (first|((with_reducible refine gate_callee (f:=59) rfl ?_);refine goesL_ (some 13) rfl rfl Try.func59 (zsx6_4) rfl #[.int .i64 (l0.length:Int),.slice A1 l1.length c1] rfl (zsx6_5) ?_;(with_reducible refine (spec_clMarks.calls k (l0.length:Int) _ _ l1 t526 _ ?side1 ?side2 A3.out).mono ?_);(case side1=>exact zsx6_15);(case side2=>exact HC1.out);rintro e w4 ⟨v527,rfl,ho0,hb⟩;refine ⟨_,rfl,?_⟩;have n0_:=aM6 (Kd.R_lower ho0 (bZ6 (zsx6_6)));have n1_:=aM6 (below_step (zsx6_6) hb);clear HB;have HO528:=n0_;have HB:=n1_;clear n0_ n1_;(try clear hb);(try clear hb2);(try clear hk);(try clear hi);(try clear ho0)))
 go_loopg [16] k (fun kq v16 w'=>∃ (x16_1:Int),v16=.int .i64 x16_1∧Aside0 (spec_clIs.l0 kq l0 t526 l1 (l1.length:Int) x16_1=some r)∧Aside0 (kq≤k)∧Aside0 (Kd.R Kd.bool 4 w' w.heap.size (fun _=>True) v527 t526)∧Aside0 (Below w.heap.size w w'))
 case atStart=>exact ⟨(0),(zsx6_0),H',⟨Nat.le_refl _⟩,⟨by (with_reducible repeat (first|apply Kd.R_alloc|apply Kd.R_drewN|apply Kd.R_drew));exact HO528.out⟩,⟨zsx6_6⟩⟩
 case round =>
  clear H';(try clear c1);(try clear p2);obtain ⟨x16_1,rfl,HA,HK1,HO_5,HB⟩:=hrel
  cases gk with
  | zero=>exact absurd HA.out (by simp [spec_clIs.l0])
  | succ k1 =>
   have H:=HA.out;clear HA;simp only [spec_clIs.l0] at H
   by_cases c5:x16_1 < (l1.length:Int)
   ·rw [if_pos c5] at H
    have c5b0:decide (x16_1 < (l1.length:Int))=true:=dT6 c5;clear c5
    by_cases c6:0≤x16_1
    ·rw [if_pos c6] at H
     have c6b0:decide (0≤x16_1)=true:=dT6 c6;clear c6
     by_cases c7:x16_1 < (l1.length:Int)
     ·rw [if_pos c7] at H
      have c7b0:decide (x16_1 < (l1.length:Int))=true:=dT6 c7;clear c7
      by_cases c8:0≤(rd l1 x16_1)
      ·rw [if_pos c8] at H
       have c8b0:decide (0≤(rd l1 x16_1))=true:=dT6 c8;clear c8
       by_cases c9:(rd l1 x16_1) < (l0.length:Int)
       ·rw [if_pos c9] at H
        have c9b0:decide ((rd l1 x16_1) < (l0.length:Int))=true:=dT6 c9;clear c9;have H':=aM6 H;clear H;have p529:0≤(x16_1:Int):=oD6 (zsx6_3);have q529:x16_1 < (l1.length:Int):=oD6 (zsx6_3);obtain ⟨ad529,e529,hx529_0⟩:=Kd.at_int HR1.out x16_1 p529 q529
        cases e529
        replace hx529_0:=(HB.out.cell (bL6 w _ hx529_0)).trans hx529_0;replace p529:=eq_true p529;replace q529:=eq_true q529;have p530:0≤((rd l1 x16_1):Int):=oD6 (zsx6_3);have q530:(rd l1 x16_1) < (l0.length:Int):=oD6 (zsx6_3);obtain ⟨ad530,A530_0,c530_0,e530,hx530_0,hl530_0,hi530_0⟩:=at_L1 HR0.out (rd l1 x16_1) p530 q530
        cases e530
        replace hx530_0:=(HB.out.cell (bL6 w _ hx530_0)).trans hx530_0;have HR530_0:=aM6 hi530_0;have HC530_0:=aM6 hl530_0;clear hi530_0 hl530_0;replace p530:=eq_true p530;replace q530:=eq_true q530
        go_wp2
        go_loopg [25] k1 (fun kq v25 w'=>∃ (x25_2:Int),v25=.int .i64 x25_2∧Aside0 (spec_clIs.l1 kq l0 t526 l1 (l1.length:Int) x16_1 (rd_L1 l0 (rd l1 x16_1)) ((rd_L1 l0 (rd l1 x16_1)).length:Int) x25_2=some r)∧Aside0 (kq≤k1)∧Aside0 (Kd.R Kd.bool 4 w' w.heap.size (fun _=>True) v527 t526)∧Aside0 (Below w.heap.size w w'))
        case atStart=>exact ⟨(0),(zsx6_0),H',⟨Nat.le_refl _⟩,⟨zsx6_9⟩,⟨zsx6_6⟩⟩
        case round =>
         clear H';(try clear c1);(try clear p2);(try clear c5);(try clear c5b0);(try clear p5);(try clear q5);(try clear hx5);(try clear c6);(try clear c6b0);(try clear c7);(try clear c7b0);(try clear c8);(try clear c8b0);(try clear c9);(try clear c9b0);(try clear hx529_0);(try clear hx530_0);(try clear p2);(try clear p529);(try clear p530);(try clear q529);(try clear q530);obtain ⟨x25_2,rfl,HA,HK2,HO_5,HB⟩:=hrel
         cases gk with
         | zero=>exact absurd HA.out (by simp [spec_clIs.l1])
         | succ k2 =>
          have H:=HA.out;clear HA;simp only [spec_clIs.l1] at H
          by_cases c10:x25_2 < ((rd_L1 l0 (rd l1 x16_1)).length:Int)
          ·rw [if_pos c10] at H
           have c10b0:decide (x25_2 < ((rd_L1 l0 (rd l1 x16_1)).length:Int))=true:=dT6 c10;clear c10
           by_cases c11:0≤x25_2
           ·rw [if_pos c11] at H
            have c11b0:decide (0≤x25_2)=true:=dT6 c11;clear c11
            by_cases c12:x25_2 < ((rd_L1 l0 (rd l1 x16_1)).length:Int)
            ·rw [if_pos c12] at H
             have c12b0:decide (x25_2 < ((rd_L1 l0 (rd l1 x16_1)).length:Int))=true:=dT6 c12;clear c12
             by_cases c13:0≤(rd (rd_L1 l0 (rd l1 x16_1)) x25_2)
             ·rw [if_pos c13] at H
              have c13b0:decide (0≤(rd (rd_L1 l0 (rd l1 x16_1)) x25_2))=true:=dT6 c13;clear c13
              by_cases c14:(rd (rd_L1 l0 (rd l1 x16_1)) x25_2) < (t526.length:Int)
              ·rw [if_pos c14] at H
               have c14b0:decide ((rd (rd_L1 l0 (rd l1 x16_1)) x25_2) < (t526.length:Int))=true:=dT6 c14;clear c14;obtain ⟨bq15,hbq15⟩:∃ b_:Bool,b_=(rdOf false t526 (rd (rd_L1 l0 (rd l1 x16_1)) x25_2)):=⟨_,rfl⟩
               replace H:(if (bq15=true) then (spec_clIs.l1 k2 l0 t526 l1 (l1.length:Int) x16_1 (rd_L1 l0 (rd l1 x16_1)) ((rd_L1 l0 (rd l1 x16_1)).length:Int) (wrap64 (x25_2 + 1))) else (some false))=some r:=by rw [← hbq15] at H;exact H
               have Nbq15:=aM6 hbq15;clear hbq15
               by_cases c16:(bq15=true)
               ·subst c16
                rw [if_pos rfl] at H;(try dsimp only at H);have H':=aM6 H;clear H;have p531:0≤(x25_2:Int):=oD6 (zsx6_3);have q531:x25_2 < ((rd_L1 l0 (rd l1 x16_1)).length:Int):=oD6 (zsx6_3);obtain ⟨ad531,e531,hx531_0⟩:=Kd.at_int HR530_0.out x25_2 p531 q531
                cases e531
                replace hx531_0:=(HB.out.cell (bL6 w _ hx531_0)).trans hx531_0;replace p531:=eq_true p531;replace q531:=eq_true q531;obtain ⟨Ao17,co17,eo17⟩:=Kd.R_slice HO_5.out;subst eo17;have p532:0≤((rd (rd_L1 l0 (rd l1 x16_1)) x25_2):Int):=oD6 (zsx6_3);have q532:(rd (rd_L1 l0 (rd l1 x16_1)) x25_2) < (t526.length:Int):=oD6 (zsx6_3);obtain ⟨ad532,e532,hx532_0⟩:=Kd.at_bool (Kd.R_reads' HO_5.out).2.2 (rd (rd_L1 l0 (rd l1 x16_1)) x25_2) p532 q532;(try rw [← Nbq15.out] at hx532_0)
                cases e532
                replace p532:=eq_true p532;replace q532:=eq_true q532
                go_wp2
                go_roundg k2
                case measure=>have:=HK1.out;have:=HK2.out;omega
                case rel=>exact ⟨(wrap64 (x25_2 + 1)),(zsx6_0),H',⟨zsx6_10⟩,⟨zsx6_9⟩,⟨zsx6_6⟩⟩
               ·replace c16:=Bool.eq_false_iff.mpr c16
                subst c16;rw [if_neg (show ¬ (false=true) by decide)] at H;(try dsimp only at H);obtain rfl:=Option.some.inj H;have p531:0≤(x25_2:Int):=oD6 (zsx6_3);have q531:x25_2 < ((rd_L1 l0 (rd l1 x16_1)).length:Int):=oD6 (zsx6_3);obtain ⟨ad531,e531,hx531_0⟩:=Kd.at_int HR530_0.out x25_2 p531 q531
                cases e531
                replace hx531_0:=(HB.out.cell (bL6 w _ hx531_0)).trans hx531_0;replace p531:=eq_true p531;replace q531:=eq_true q531;obtain ⟨Ao18,co18,eo18⟩:=Kd.R_slice HO_5.out;subst eo18;have p532:0≤((rd (rd_L1 l0 (rd l1 x16_1)) x25_2):Int):=oD6 (zsx6_3);have q532:(rd (rd_L1 l0 (rd l1 x16_1)) x25_2) < (t526.length:Int):=oD6 (zsx6_3);obtain ⟨ad532,e532,hx532_0⟩:=Kd.at_bool (Kd.R_reads' HO_5.out).2.2 (rd (rd_L1 l0 (rd l1 x16_1)) x25_2) p532 q532;(try rw [← Nbq15.out] at hx532_0)
                cases e532
                replace p532:=eq_true p532;replace q532:=eq_true q532
                go_wp2
                go_ret
                exact ⟨zsx6_8,zsx6_6⟩
              ·rw [if_neg c14] at H
               exact absurd H (by simp)
             ·rw [if_neg c13] at H
              exact absurd H (by simp)
            ·rw [if_neg c12] at H
             exact absurd H (by simp)
           ·rw [if_neg c11] at H
            exact absurd H (by simp)
          ·rw [if_neg c10] at H
           have c10b0:decide (x25_2 < ((rd_L1 l0 (rd l1 x16_1)).length:Int))=false:=decide_eq_false c10;clear c10;have H':=aM6 H;clear H
           go_wp2
           go_roundg k2
           case measure=>have:=HK1.out;have:=HK2.out;omega
           case rel=>exact ⟨(wrap64 (x16_1 + 1)),(zsx6_0),H',⟨zsx6_10⟩,⟨zsx6_9⟩,⟨zsx6_6⟩⟩
       ·rw [if_neg c9] at H
        exact absurd H (by simp)
      ·rw [if_neg c8] at H
       exact absurd H (by simp)
     ·rw [if_neg c7] at H
      exact absurd H (by simp)
    ·rw [if_neg c6] at H
     exact absurd H (by simp)
   ·rw [if_neg c5] at H
    have c5b0:decide (x16_1 < (l1.length:Int))=false:=decide_eq_false c5;clear c5;obtain rfl:=Option.some.inj H
    go_wp2
    go_ret
    exact ⟨zsx6_8,zsx6_6⟩
def spec_IsClosure.f (k:Nat) (l0:List (List Int)) (l1:List Int):Option (Bool × Bool):=(spec_clBlocks.f k l0 l1).bind fun t533=>(if t533=true then ((spec_clIs.f k l0 l1).bind fun t534=>(some (t534,true))) else (some (false,false)))
set_option maxHeartbeats 8000000 in
set_option maxRecDepth 100000 in
theorem spec_IsClosure.calls (k:Nat) (A0:Option Addr) (c0:Nat) (l0:List (List Int)) (A1:Option Addr) (c1:Nat) (l1:List Int) (r1:Bool) (r2:Bool) (w:World) (hr0:Kd.C (Kd.slice 3 (Kd.int .i64)) w A0 l0.length l0) (hc0:l0.length≤c0) (hr1:Kd.C (Kd.int .i64) w A1 l1.length l1) (hc1:l1.length≤c1) (h:spec_IsClosure.f k l0 l1=some (r1,r2)) :
  Calls Try.prog 34 #[.slice A0 l0.length c0,.slice A1 l1.length c1] w fun e w'=>e=.returned (.tuple #[.bool r1,.bool r2])∧Below w.heap.size w w':=by
 have HR0:=aM6 hr0;have HC0:=aM6 hc0;clear hr0 hc0;have HR1:=aM6 hr1;have HC1:=aM6 hc1;clear hr1 hc1;have HB:=aM6 (Below.refl w.heap.size w);have H:((spec_clBlocks.f k l0 l1).bind fun t533=>(if t533=true then ((spec_clIs.f k l0 l1).bind fun t534=>(some (t534,true))) else (some (false,false))))=some (r1,r2):=h;clear h;replace H:=bI6.mp H;obtain ⟨t533,A30,H⟩:=H;(try dsimp only at H);have A3:=aM6 A30;clear A30
 by_cases c4:t533=true
 ·subst c4
  rw [if_pos rfl] at H;(try dsimp only at H);replace H:=bI6.mp H;obtain ⟨t534,A50,H⟩:=H;(try dsimp only at H);have A5:=aM6 A50;clear A50;simp only [Option.some.injEq,Prod.mk.injEq] at H;obtain ⟨rfl,rfl⟩:=H;go_enter Try.func34,Try.ntmps34
  go_wp2_with (first|((with_reducible refine gate_callee (f:=74) rfl ?_);refine goesL_ (some 8) rfl rfl Try.func74 (zsx6_4) rfl #[.slice A0 l0.length c0,.slice A1 l1.length c1] rfl (zsx6_5) ?_;(with_reducible refine (spec_clBlocks.calls k _ _ l0 _ _ l1 true _ ?side1 ?side2 ?side3 ?side4 A3.out).mono ?_);(case side1=>exact zsx6_18);(case side2=>exact HC0.out);(case side3=>exact zsx6_15);(case side4=>exact HC1.out);rintro e w' ⟨rfl,⟨nd,rfl⟩⟩;refine ⟨_,rfl,?_⟩)|((with_reducible refine gate_callee (f:=78) rfl ?_);refine goesL_ (some 12) rfl rfl Try.func78 (zsx6_4) rfl #[.slice A0 l0.length c0,.slice A1 l1.length c1] rfl (zsx6_5) ?_;(with_reducible refine (spec_clIs.calls k _ _ l0 _ _ l1 t534 _ ?side1 ?side2 ?side3 ?side4 A5.out).mono ?_);(case side1=>exact zsx6_18);(case side2=>exact HC0.out);(case side3=>exact zsx6_15);(case side4=>exact HC1.out);rintro e w6 ⟨rfl,hb⟩;refine ⟨_,rfl,?_⟩;have n0_:=aM6 (below_step (zsx6_6) hb);clear HB;have HB:=n0_;clear n0_;(try clear hb);(try clear hb2);(try clear hk);(try clear hi)))
  go_ret2
  exact ⟨zsx6_8,zsx6_6⟩
 ·replace c4:=Bool.eq_false_iff.mpr c4
  subst c4;rw [if_neg (show ¬ (false=true) by decide)] at H;(try dsimp only at H);simp only [Option.some.injEq,Prod.mk.injEq] at H;obtain ⟨rfl,rfl⟩:=H;go_enter Try.func34,Try.ntmps34
  go_wp2_with (first|((with_reducible refine gate_callee (f:=74) rfl ?_);refine goesL_ (some 8) rfl rfl Try.func74 (zsx6_4) rfl #[.slice A0 l0.length c0,.slice A1 l1.length c1] rfl (zsx6_5) ?_;(with_reducible refine (spec_clBlocks.calls k _ _ l0 _ _ l1 false _ ?side1 ?side2 ?side3 ?side4 A3.out).mono ?_);(case side1=>exact zsx6_18);(case side2=>exact HC0.out);(case side3=>exact zsx6_15);(case side4=>exact HC1.out);rintro e w' ⟨rfl,⟨nd,rfl⟩⟩;refine ⟨_,rfl,?_⟩))
  go_ret2
  exact ⟨zsx6_8,zsx6_6⟩
def impl_arePits.l0:Nat→List (List Int)→List (List Int)→Int→Int→Option (Bool)
 | 0,_,_,_,_=>none
 | k + 1,x0,x10,x11,x12=>if x12 < x11 then (if 0≤x12 then (if x12 < (x10.length:Int) then ((impl_areBlocks.f k (rd_L1 x10 x12) (x0.length:Int)).bind fun t538=>(if t538=true then ((impl_isClosure.f k x0 (rd_L1 x10 x12)).bind fun t539=>(if t539=true then (impl_arePits.l0 k x0 x10 x11 (wrap64 (x12 + 1))) else (some false))) else (some false))) else (none)) else (none)) else (some true)
def impl_arePits.f (k:Nat) (l0:List (List Int)) (l1:List (List Int)):Option (Bool):=(impl_AreArcs.f k l0).bind fun t536=>(if t536=true then (impl_arePits.l0 k l0 l1 (l1.length:Int) 0) else (some false))
set_option maxHeartbeats 8000000 in
set_option maxRecDepth 100000 in
theorem impl_arePits.calls (k:Nat) (A0:Option Addr) (c0:Nat) (l0:List (List Int)) (A1:Option Addr) (c1:Nat) (l1:List (List Int)) (r:Bool) (w:World) (hr0:Kd.C (Kd.slice 3 (Kd.int .i64)) w A0 l0.length l0) (hc0:l0.length≤c0) (hr1:Kd.C (Kd.slice 3 (Kd.int .i64)) w A1 l1.length l1) (hc1:l1.length≤c1) (h:impl_arePits.f k l0 l1=some r) :
  Calls Try.prog 80 #[.slice A0 l0.length c0,.slice A1 l1.length c1] w fun e w'=>e=.returned (.bool r)∧Below w.heap.size w w':=by
 have HR0:=aM6 hr0;have HC0:=aM6 hc0;clear hr0 hc0;have HR1:=aM6 hr1;have HC1:=aM6 hc1;clear hr1 hc1;have HB:=aM6 (Below.refl w.heap.size w);have H:((impl_AreArcs.f k l0).bind fun t536=>(if t536=true then (impl_arePits.l0 k l0 l1 (l1.length:Int) 0) else (some false)))=some r:=h;clear h;replace H:=bI6.mp H;obtain ⟨t536,A30,H⟩:=H;(try dsimp only at H);have A3:=aM6 A30;clear A30
 by_cases c4:t536=true
 ·subst c4
  rw [if_pos rfl] at H;(try dsimp only at H);have H':=aM6 H;clear H;go_enter Try.func80,Try.ntmps80
  go_wp2_with (first|((with_reducible refine gate_callee (f:=18) rfl ?_);refine goesL_ (some 8) rfl rfl Try.func18 (zsx6_4) rfl #[.slice A0 l0.length c0] rfl (zsx6_5) ?_;(with_reducible refine (impl_AreArcs.calls k _ _ l0 true _ ?side1 ?side2 A3.out).mono ?_);(case side1=>exact zsx6_18);(case side2=>exact HC0.out);rintro e w' ⟨rfl,⟨nd,rfl⟩⟩;refine ⟨_,rfl,?_⟩))
  go_loopg [12] k (fun kq v12 w'=>∃ (x12_1:Int),v12=.int .i64 x12_1∧Aside0 (impl_arePits.l0 kq l0 l1 (l1.length:Int) x12_1=some r)∧Aside0 (kq≤k)∧Aside0 (Below w.heap.size w w'))
  case atStart=>exact ⟨(0),(zsx6_0),H',⟨Nat.le_refl _⟩,⟨zsx6_6⟩⟩
  case round =>
   clear H';(try clear c1);(try clear p2);(try clear c4);obtain ⟨x12_1,rfl,HA,HK1,HB⟩:=hrel
   cases gk with
   | zero=>exact absurd HA.out (by simp [impl_arePits.l0])
   | succ k1 =>
    have H:=HA.out;clear HA;simp only [impl_arePits.l0] at H
    by_cases c5:x12_1 < (l1.length:Int)
    ·rw [if_pos c5] at H
     have c5b0:decide (x12_1 < (l1.length:Int))=true:=dT6 c5;clear c5
     by_cases c6:0≤x12_1
     ·rw [if_pos c6] at H
      have c6b0:decide (0≤x12_1)=true:=dT6 c6;clear c6
      by_cases c7:x12_1 < (l1.length:Int)
      ·rw [if_pos c7] at H
       have c7b0:decide (x12_1 < (l1.length:Int))=true:=dT6 c7;clear c7;replace H:=bI6.mp H;obtain ⟨t538,A80,H⟩:=H;(try dsimp only at H);have A8:=aM6 A80;clear A80
       by_cases c9:t538=true
       ·subst c9
        rw [if_pos rfl] at H;(try dsimp only at H);replace H:=bI6.mp H;obtain ⟨t539,A100,H⟩:=H;(try dsimp only at H);have A10:=aM6 A100;clear A100
        by_cases c11:t539=true
        ·subst c11
         rw [if_pos rfl] at H;(try dsimp only at H);have H':=aM6 H;clear H;have p537:0≤(x12_1:Int):=oD6 (zsx6_3);have q537:x12_1 < (l1.length:Int):=oD6 (zsx6_3);obtain ⟨ad537,A537_0,c537_0,e537,hx537_0,hl537_0,hi537_0⟩:=at_L1 HR1.out x12_1 p537 q537
         cases e537
         replace hx537_0:=(HB.out.cell (bL6 w _ hx537_0)).trans hx537_0;have HR537_0:=aM6 hi537_0;have HC537_0:=aM6 hl537_0;clear hi537_0 hl537_0;replace p537:=eq_true p537;replace q537:=eq_true q537
         go_wp2_with (first|((with_reducible refine gate_callee (f:=61) rfl ?_);refine goesL_ (some 19) rfl rfl Try.func61 (zsx6_4) rfl #[.slice A537_0 (rd_L1 l1 x12_1).length c537_0,.int .i64 (l0.length:Int)] rfl (zsx6_5) ?_;(with_reducible refine (impl_areBlocks.calls k1 _ _ (rd_L1 l1 x12_1) (l0.length:Int) true _ ?side1 ?side2 A8.out).mono ?_);(case side1=>exact zsx6_21);(case side2=>exact HC537_0.out);rintro e w' ⟨rfl,⟨nd,rfl⟩⟩;refine ⟨_,rfl,?_⟩)|(go_at_call 62;(with_reducible refine (impl_isClosure.calls k1 _ _ l0 _ _ (rd_L1 l1 x12_1) true _ ?side1 ?side2 ?side3 ?side4 A10.out).mono ?_);(case side1=>exact zsx6_23);(case side2=>exact HC0.out);(case side3=>exact zsx6_24);(case side4=>exact HC537_0.out);rintro e w12 ⟨rfl,hb⟩;have n0_:=aM6 (below_step (zsx6_6) hb);clear HB;have HB:=n0_;clear n0_;(try clear hb);(try clear hb2);(try clear hk);(try clear hi)))
         go_roundg k1
         case measure=>have:=HK1.out;omega
         case rel=>exact ⟨(wrap64 (x12_1 + 1)),(zsx6_0),H',⟨by have:=HK1.out;omega⟩,⟨zsx6_6⟩⟩
        ·replace c11:=Bool.eq_false_iff.mpr c11
         subst c11;rw [if_neg (show ¬ (false=true) by decide)] at H;(try dsimp only at H);obtain rfl:=Option.some.inj H;have p537:0≤(x12_1:Int):=oD6 (zsx6_3);have q537:x12_1 < (l1.length:Int):=oD6 (zsx6_3);obtain ⟨ad537,A537_0,c537_0,e537,hx537_0,hl537_0,hi537_0⟩:=at_L1 HR1.out x12_1 p537 q537
         cases e537
         replace hx537_0:=(HB.out.cell (bL6 w _ hx537_0)).trans hx537_0;have HR537_0:=aM6 hi537_0;have HC537_0:=aM6 hl537_0;clear hi537_0 hl537_0;replace p537:=eq_true p537;replace q537:=eq_true q537
         go_wp2_with (first|((with_reducible refine gate_callee (f:=61) rfl ?_);refine goesL_ (some 19) rfl rfl Try.func61 (zsx6_4) rfl #[.slice A537_0 (rd_L1 l1 x12_1).length c537_0,.int .i64 (l0.length:Int)] rfl (zsx6_5) ?_;(with_reducible refine (impl_areBlocks.calls k1 _ _ (rd_L1 l1 x12_1) (l0.length:Int) true _ ?side1 ?side2 A8.out).mono ?_);(case side1=>exact zsx6_21);(case side2=>exact HC537_0.out);rintro e w' ⟨rfl,⟨nd,rfl⟩⟩;refine ⟨_,rfl,?_⟩)|(go_at_call 62;(with_reducible refine (impl_isClosure.calls k1 _ _ l0 _ _ (rd_L1 l1 x12_1) false _ ?side1 ?side2 ?side3 ?side4 A10.out).mono ?_);(case side1=>exact zsx6_23);(case side2=>exact HC0.out);(case side3=>exact zsx6_24);(case side4=>exact HC537_0.out);rintro e w13 ⟨rfl,hb⟩;have n0_:=aM6 (below_step (zsx6_6) hb);clear HB;have HB:=n0_;clear n0_;(try clear hb);(try clear hb2);(try clear hk);(try clear hi)))
         go_ret
         exact ⟨zsx6_8,zsx6_6⟩
       ·replace c9:=Bool.eq_false_iff.mpr c9
        subst c9;rw [if_neg (show ¬ (false=true) by decide)] at H;(try dsimp only at H);obtain rfl:=Option.some.inj H;have p537:0≤(x12_1:Int):=oD6 (zsx6_3);have q537:x12_1 < (l1.length:Int):=oD6 (zsx6_3);obtain ⟨ad537,A537_0,c537_0,e537,hx537_0,hl537_0,hi537_0⟩:=at_L1 HR1.out x12_1 p537 q537
        cases e537
        replace hx537_0:=(HB.out.cell (bL6 w _ hx537_0)).trans hx537_0;have HR537_0:=aM6 hi537_0;have HC537_0:=aM6 hl537_0;clear hi537_0 hl537_0;replace p537:=eq_true p537;replace q537:=eq_true q537
        go_wp2_with (first|((with_reducible refine gate_callee (f:=61) rfl ?_);refine goesL_ (some 19) rfl rfl Try.func61 (zsx6_4) rfl #[.slice A537_0 (rd_L1 l1 x12_1).length c537_0,.int .i64 (l0.length:Int)] rfl (zsx6_5) ?_;(with_reducible refine (impl_areBlocks.calls k1 _ _ (rd_L1 l1 x12_1) (l0.length:Int) false _ ?side1 ?side2 A8.out).mono ?_);(case side1=>exact zsx6_21);(case side2=>exact HC537_0.out);rintro e w' ⟨rfl,⟨nd,rfl⟩⟩;refine ⟨_,rfl,?_⟩))
        go_ret
        exact ⟨zsx6_8,zsx6_6⟩
      ·rw [if_neg c7] at H
       exact absurd H (by simp)
     ·rw [if_neg c6] at H
      exact absurd H (by simp)
    ·rw [if_neg c5] at H
     have c5b0:decide (x12_1 < (l1.length:Int))=false:=decide_eq_false c5;clear c5;obtain rfl:=Option.some.inj H
     go_wp2
     go_ret
     exact ⟨zsx6_8,zsx6_6⟩
 ·replace c4:=Bool.eq_false_iff.mpr c4
  subst c4;rw [if_neg (show ¬ (false=true) by decide)] at H;(try dsimp only at H);obtain rfl:=Option.some.inj H;go_enter Try.func80,Try.ntmps80
  go_wp2_with (first|((with_reducible refine gate_callee (f:=18) rfl ?_);refine goesL_ (some 8) rfl rfl Try.func18 (zsx6_4) rfl #[.slice A0 l0.length c0] rfl (zsx6_5) ?_;(with_reducible refine (impl_AreArcs.calls k _ _ l0 false _ ?side1 ?side2 A3.out).mono ?_);(case side1=>exact zsx6_18);(case side2=>exact HC0.out);rintro e w' ⟨rfl,⟨nd,rfl⟩⟩;refine ⟨_,rfl,?_⟩))
  go_ret
  exact ⟨zsx6_8,zsx6_6⟩
end Go.Proofs.Ytbhlffakpneecaa.PFnClosures
end
