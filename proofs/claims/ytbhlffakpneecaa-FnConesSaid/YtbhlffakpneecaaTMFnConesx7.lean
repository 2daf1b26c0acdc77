/- Texts that print.sh has printed for the law FnCones,one function each,put together in one file: contracts of its functions. -/
import Derived.Test.YtbhlffakpneecaaTMFnConesx0
import Derived.Test.YtbhlffakpneecaaTMFnConesx5
import Derived.Test.YtbhlffakpneecaaTMFnConesx6
section
namespace Go.Proofs.Ytbhlffakpneecaa.PFnCones
open Go.RowKit Go.Proofs.YtbhlffakpneecaaW.PrintWords Go.Proofs.YtbhlffakpneecaaW.PrintLast Go.Proofs.YtbhlffakpneecaaW.PrintMore
attribute [local go_sem] max2_int min2_int max_two min_two max_three min_three max_four min_four   -- for this text's walks alone
set_option linter.unusedVariables false
set_option linter.unusedSimpArgs false
theorem aM7:type_of% @Aside0.mk:=@Aside0.mk
theorem oD7:type_of% @of_decide_eq_true:=@of_decide_eq_true
theorem dT7:type_of% @decide_eq_true:=@decide_eq_true
theorem bI7:type_of% @Option.bind_eq_some_iff.{0,0}:=@Option.bind_eq_some_iff.{0,0}
theorem bL7:type_of% @World.block_lt_of_cell?:=@World.block_lt_of_cell?
theorem zsx7_0 {P:Prop} (h:P:=by (try simp only [List.map_toArray,List.map_cons,List.map_nil]);first|done|rfl|(simp only [List.length_drop,List.length_take];rfl)):P:=h
theorem zsx7_1 {P:Prop} (h:P:=by repeat (first|(with_reducible first|exact HB.out|apply below_alloc|apply pw_below_drewN|apply below_drew1)|exact HB.out)):P:=h
theorem zsx7_2 {P:Prop} (h:P:=by first|rfl|(simp;done)|(simp [*];done)):P:=h
theorem zsx7_3 {P:Prop} (h:P:=by first|omega|exact Nat.le_refl _):P:=h
theorem zsx7_4 {P:Prop} (h:P:=by first|rfl|(simp [errW_none,errW_some] <;> rfl)|(simp [*,errW_none,errW_some] <;> rfl)):P:=h
theorem zsx7_5 {P:Prop} (h:P:=by first|exact Kd.R_nil _ _ _ _ _|exact Kd.N_nil _ _ _ _ _|exact Kd.V_nil _ _ _ _ _|exact Kd.Q_nil _ _ _ _ _|exact Kd.S_nil _ _ _ _ _):P:=h
theorem zsx7_6 {P:Prop} (h:P:=by first|(with_reducible assumption)|assumption):P:=h
theorem zsx7_7 {P:Prop} (h:P:=by (with_reducible repeat (first|apply Kd.S_alloc|apply Kd.S_drewN|apply Kd.S_drew));exact HO_4.out):P:=h
theorem zsx7_8 {P:Prop} (h:P:=by (with_reducible repeat (first|apply Kd.R_alloc|apply Kd.R_drewN|apply Kd.R_drew));exact HO_7.out):P:=h
theorem zsx7_9 {P:Prop} (h:P:=by (with_reducible repeat (first|apply Kd.R_alloc|apply Kd.R_drewN|apply Kd.R_drew));exact Kd.R_mono HO_41.out (fun _ hk=>⟨trivial,hk⟩)):P:=h
theorem zsx7_10 {P:Prop} (h:P:=by have:=HK1.out;have:=HK2.out;have:=HK3.out;omega):P:=h
theorem zsx7_11 {P:Prop} (h:P:=by (with_reducible repeat (first|apply Kd.R_alloc|apply Kd.R_drewN|apply Kd.R_drew));exact Kd.R_mono HO_41.out (fun _ hk=>hk.2)):P:=h
theorem zsx7_12 {P:Prop} (h:P:=by (with_reducible repeat (first|apply Kd.R_alloc|apply Kd.R_drewN|apply Kd.R_drew));exact Kd.R_mono HO_7.out (fun _ hk=>trivial)):P:=h
theorem zsx7_13 {P:Prop} (h:P:=by first|exact Kd.S_nil _ _ _ _ _|exact Kd.N_nil _ _ _ _ _|exact Kd.V_nil _ _ _ _ _|exact Kd.Q_nil _ _ _ _ _|exact Kd.R_nil _ _ _ _ _):P:=h
theorem zsx7_14 {P:Prop} (h:P:=by repeat (first|exact Drawn0.refl _|apply Drawn0.step)):P:=h
theorem zsx7_15 {P:Prop} (h:P:=by repeat (first|exact (Kd.C_below HR0.out HB.out)|(with_reducible refine Kd.C_alloc ?_ _)|(with_reducible refine Kd.C_drewN ?_ _)|(with_reducible refine Kd.C_drew ?_))):P:=h
theorem zsx7_16 {P:Prop} (h:P:=by repeat (first|exact HR0.out|(with_reducible refine Kd.C_alloc ?_ _)|(with_reducible refine Kd.C_drewN ?_ _)|(with_reducible refine Kd.C_drew ?_))):P:=h
theorem zsx7_17 {P:Prop} (h:P:=by repeat (first|exact HR1.out|(with_reducible refine Kd.C_alloc ?_ _)|(with_reducible refine Kd.C_drewN ?_ _)|(with_reducible refine Kd.C_drew ?_))):P:=h
def impl_LeastClosure.j0:Nat→List (List Int)→List Int→Bool→Option (List Int × Bool)
 | 0,_,_,_=>none
 | k + 1,x0,x1,x15=>if x15=true then (some (([]:List Int),false)) else ((impl_closureOf.f k x0 x1).bind fun t497=>((impl_listOf.f k t497).bind fun t500=>(some (t500,true))))
def impl_LeastClosure.f (k:Nat) (l0:List (List Int)) (l1:List Int):Option (List Int × Bool):=(impl_AreArcs.f k l0).bind fun t495=>(if t495=true then ((impl_areBlocks.f k l1 (l0.length:Int)).bind fun t496=>(impl_LeastClosure.j0 k l0 l1 (!t496))) else (impl_LeastClosure.j0 k l0 l1 true))
set_option maxHeartbeats 8000000 in
set_option maxRecDepth 100000 in
theorem impl_LeastClosure.calls (k:Nat) (A0:Option Addr) (c0:Nat) (l0:List (List Int)) (A1:Option Addr) (c1:Nat) (l1:List Int) (r1:List Int) (r2:Bool) (w:World) (hr0:Kd.C (Kd.slice 3 (Kd.int .i64)) w A0 l0.length l0) (hc0:l0.length≤c0) (hr1:Kd.C (Kd.int .i64) w A1 l1.length l1) (hc1:l1.length≤c1) (h:impl_LeastClosure.f k l0 l1=some (r1,r2)) :
  Calls Try.prog 21 #[.slice A0 l0.length c0,.slice A1 l1.length c1] w fun e w'=>∃ v0_:Value,e=.returned (.tuple #[v0_,.bool r2])∧Kd.R (Kd.int .i64) 3 w' w.heap.size (fun _=>True) v0_ r1∧Below w.heap.size w w':=by
 have HR0:=aM7 hr0
 have HC0:=aM7 hc0
 clear hr0 hc0
 have HR1:=aM7 hr1
 have HC1:=aM7 hc1
 clear hr1 hc1
 have HB:=aM7 (Below.refl w.heap.size w)
 have H:((impl_AreArcs.f k l0).bind fun t495=>(if t495=true then ((impl_areBlocks.f k l1 (l0.length:Int)).bind fun t496=>(impl_LeastClosure.j0 k l0 l1 (!t496))) else (impl_LeastClosure.j0 k l0 l1 true)))=some (r1,r2):=h
 clear h
 have HC3:=aM7 H
 clear H
 go_enter Try.func21,Try.ntmps21
 go_upto_region 1 with (fail)
 go_cut [15] (fun v15 wc=>∃ (kq:Nat) (x15_2:Bool),v15=.bool x15_2∧Aside0 (impl_LeastClosure.j0 kq l0 l1 x15_2=some (r1,r2))∧Aside0 (kq≤k)∧Aside0 (Below w.heap.size w wc))
 case first =>
  have H:=HC3.out
  clear HC3
  replace H:=bI7.mp H
  obtain ⟨t495,A40,H⟩:=H
  replace H:(if t495=true then ((impl_areBlocks.f k l1 (l0.length:Int)).bind fun t496=>(impl_LeastClosure.j0 k l0 l1 (!t496))) else (impl_LeastClosure.j0 k l0 l1 true))=some (r1,r2):=H
  have A4:=aM7 A40
  clear A40
  by_cases c5:t495=true
  ·subst c5
   have H1:((impl_areBlocks.f k l1 (l0.length:Int)).bind fun t496=>(impl_LeastClosure.j0 k l0 l1 (!t496)))=some (r1,r2):=by rw [if_pos rfl] at H;exact H
   clear H
   have H:=H1
   clear H1
   replace H:=bI7.mp H
   obtain ⟨t496,A60,H⟩:=H
   replace H:(impl_LeastClosure.j0 k l0 l1 (!t496))=some (r1,r2):=H
   have A6:=aM7 A60
   clear A60
   have H':=aM7 H
   clear H
   go_wp2_with (first|((with_reducible refine gate_callee (f:=18) rfl ?_);refine goesL_ (some 7) rfl rfl Try.func18 (by kernel_rfl) rfl #[.slice A0 l0.length c0] rfl (zsx7_0) ?_;(with_reducible refine (impl_AreArcs.calls k _ _ l0 true _ ?side1 ?side2 A4.out).mono ?_);(case side1=>exact zsx7_15);(case side2=>exact HC0.out);rintro e w' ⟨rfl,⟨nd,rfl⟩⟩;refine ⟨_,rfl,?_⟩)|(go_at_call 61;(with_reducible refine (impl_areBlocks.calls k _ _ l1 (l0.length:Int) t496 _ ?side1 ?side2 A6.out).mono ?_);(case side1=>repeat (first|exact (Kd.C_below HR1.out (zsx7_1))|(with_reducible refine Kd.C_alloc ?_ _)|(with_reducible refine Kd.C_drewN ?_ _)|(with_reducible refine Kd.C_drew ?_)));(case side2=>exact HC1.out);rintro e w' ⟨rfl,⟨nd,rfl⟩⟩))
   go_meet
   case rel=>exact ⟨_,(!t496),(zsx7_2),H',⟨zsx7_3⟩,⟨zsx7_1⟩⟩
  ·replace c5:=Bool.eq_false_iff.mpr c5
   subst c5
   have H1:(impl_LeastClosure.j0 k l0 l1 true)=some (r1,r2):=by rw [if_neg (show ¬ (false=true) by decide)] at H;exact H
   clear H
   have H:=H1
   clear H1
   have H':=aM7 H
   clear H
   go_wp2_with (first|((with_reducible refine gate_callee (f:=18) rfl ?_);refine goesL_ (some 7) rfl rfl Try.func18 (by kernel_rfl) rfl #[.slice A0 l0.length c0] rfl (zsx7_0) ?_;(with_reducible refine (impl_AreArcs.calls k _ _ l0 false _ ?side1 ?side2 A4.out).mono ?_);(case side1=>exact zsx7_15);(case side2=>exact HC0.out);rintro e w' ⟨rfl,⟨nd,rfl⟩⟩;refine ⟨_,rfl,?_⟩))
   go_meet
   case rel=>exact ⟨_,(true),(zsx7_2),H',⟨zsx7_3⟩,⟨zsx7_1⟩⟩
 case rest =>
  clear HC3
  try clear c1
  try clear c2
  try clear p2
  try clear c5
  obtain ⟨kq,x15_2,rfl,HA,HJ2,HB⟩:=hcut
  cases kq with
  | zero=>exact absurd HA.out (by simp [impl_LeastClosure.j0])
  | succ kj2 =>
   have H:=HA.out
   clear HA
   simp only [impl_LeastClosure.j0] at H
   by_cases c7:x15_2=true
   ·subst c7
    have H1:(some (([]:List Int),false))=some (r1,r2):=by rw [if_pos rfl] at H;exact H
    clear H
    have H:=H1
    clear H1
    simp only [Option.some.injEq,Prod.mk.injEq] at H
    obtain ⟨rfl,rfl⟩:=H
    go_wp2
    go_ret2
    exact ⟨_,zsx7_4,zsx7_5,zsx7_1⟩
   ·replace c7:=Bool.eq_false_iff.mpr c7
    subst c7
    have H1:((impl_closureOf.f kj2 l0 l1).bind fun t497=>((impl_listOf.f kj2 t497).bind fun t500=>(some (t500,true))))=some (r1,r2):=by rw [if_neg (show ¬ (false=true) by decide)] at H;exact H
    clear H
    have H:=H1
    clear H1
    replace H:=bI7.mp H
    obtain ⟨t497,A80,H⟩:=H
    replace H:((impl_listOf.f kj2 t497).bind fun t500=>(some (t500,true)))=some (r1,r2):=H
    have A8:=aM7 A80
    clear A80
    replace H:=bI7.mp H
    obtain ⟨t500,A90,H⟩:=H
    replace H:(some (t500,true))=some (r1,r2):=H
    have A9:=aM7 A90
    clear A90
    simp only [Option.some.injEq,Prod.mk.injEq] at H
    obtain ⟨rfl,rfl⟩:=H
    go_wp2_with (first|((with_reducible refine gate_callee (f:=55) rfl ?_);refine goesL_ (some 18) rfl rfl Try.func55 (by kernel_rfl) rfl #[.slice A0 l0.length c0,.slice A1 l1.length c1] rfl (zsx7_0) ?_;(with_reducible refine (impl_closureOf.calls kj2 _ _ l0 _ _ l1 t497 _ ?side1 ?side2 ?side3 ?side4 A8.out).mono ?_);(case side1=>exact zsx7_15);(case side2=>exact HC0.out);(case side3=>repeat (first|exact (Kd.C_below HR1.out HB.out)|(with_reducible refine Kd.C_alloc ?_ _)|(with_reducible refine Kd.C_drewN ?_ _)|(with_reducible refine Kd.C_drew ?_)));(case side4=>exact HC1.out);rintro e w10 ⟨v498,rfl,ho0,hb⟩;refine ⟨_,rfl,?_⟩;have n0_:=aM7 (Kd.R_lower ho0 (below_size (zsx7_1)));have n1_:=aM7 (below_step (zsx7_1) hb);clear HB;have HO499:=n0_;have HB:=n1_;clear n0_ n1_;(try clear hb);(try clear hb2);(try clear hk);(try clear hi);(try clear ho0);obtain ⟨Ao11,co11,eo11⟩:=Kd.R_slice HO499.out;subst eo11)|((with_reducible refine gate_callee (f:=54) rfl ?_);refine goesL_ (some 19) rfl rfl Try.func54 (by kernel_rfl) rfl #[.slice Ao11 t497.length co11] rfl (zsx7_0) ?_;(with_reducible refine (impl_listOf.calls kj2 _ _ t497 t500 _ ?side1 ?side2 A9.out).mono ?_);(case side1=>repeat (first|exact (Kd.R_reads' HO499.out).2.2|(with_reducible refine Kd.C_alloc ?_ _)|(with_reducible refine Kd.C_drewN ?_ _)|(with_reducible refine Kd.C_drew ?_)));(case side2=>exact (Kd.R_reads' HO499.out).2.1);rintro e w12 ⟨v501,rfl,ho0,hb⟩;refine ⟨_,rfl,?_⟩;have n0_:=aM7 (Kd.R_below (by (with_reducible repeat (first|apply Kd.R_alloc|apply Kd.R_drewN|apply Kd.R_drew));exact HO499.out) hb);have n1_:=aM7 (Kd.R_lower ho0 (below_size (zsx7_1)));have n2_:=aM7 (below_step (zsx7_1) hb);clear HO499 HB;have HO499:=n0_;have HO502:=n1_;have HB:=n2_;clear n0_ n1_ n2_;(try clear hb);(try clear hb2);(try clear hk);(try clear hi);(try clear ho0)))
    go_ret2
    exact ⟨_,zsx7_4,by (with_reducible repeat (first|apply Kd.R_alloc|apply Kd.R_drewN|apply Kd.R_drew));exact HO502.out,zsx7_1⟩
mutual
def impl_ReducedArcs.l0:Nat→List (List Int)→List (List Int)→List (List Int)→Int→Int→Option ((List (List Int)) × Bool)
 | 0,_,_,_,_,_=>none
 | k + 1,x0,x4,x20,x21,x22=>if x22 < x21 then (if 0≤x22 then (if x22 < (x20.length:Int) then (if 0≤(x0.length:Int) then (if ((x0.length:Int):Int).toNat≤281474976710656 then (impl_ReducedArcs.l1 k x0 x4 x22 (rd_L5 x20 x22) (List.replicate ((x0.length:Int):Int).toNat false) x20 x21 x22 (rd_L5 x20 x22) ((rd_L5 x20 x22).length:Int) 0) else (none)) else (none)) else (none)) else (none)) else (some (x4,true))
def impl_ReducedArcs.l1:Nat→List (List Int)→List (List Int)→Int→List Int→List Bool→List (List Int)→Int→Int→List Int→Int→Int→Option ((List (List Int)) × Bool)
 | 0,_,_,_,_,_,_,_,_,_,_,_=>none
 | k + 1,x0,x4,x5,x6,x7,x20,x21,x22,x30,x31,x32=>if x32 < x31 then (if 0≤x32 then (if x32 < (x30.length:Int) then (if 0≤(rd x30 x32) then (if (rd x30 x32) < (x0.length:Int) then ((impl_closureOf.f k x0 (rd_L5 x0 (rd x30 x32))).bind fun t514=>(impl_ReducedArcs.l2 k x0 x4 x5 x6 x7 x20 x21 x22 x30 x31 x32 t514 (t514.length:Int) 0)) else (none)) else (none)) else (none)) else (none)) else (impl_ReducedArcs.l3 k x0 x4 x5 x7 x20 x21 x22 x6 (x6.length:Int) 0)
def impl_ReducedArcs.l2:Nat→List (List Int)→List (List Int)→Int→List Int→List Bool→List (List Int)→Int→Int→List Int→Int→Int→List Bool→Int→Int→Option ((List (List Int)) × Bool)
 | 0,_,_,_,_,_,_,_,_,_,_,_,_,_,_=>none
 | k + 1,x0,x4,x5,x6,x7,x20,x21,x22,x30,x31,x32,x41,x42,x43=>if x43 < x42 then (if 0≤x43 then (if x43 < (x41.length:Int) then (if x43 < (x7.length:Int) then (if rdOf false x7 x43=true then (impl_ReducedArcs.l2 k x0 x4 x5 x6 (x7.set (x43:Int).toNat true) x20 x21 x22 x30 x31 x32 x41 x42 (wrap64 (x43 + 1))) else (impl_ReducedArcs.l2 k x0 x4 x5 x6 (x7.set (x43:Int).toNat (rdOf false x41 x43)) x20 x21 x22 x30 x31 x32 x41 x42 (wrap64 (x43 + 1)))) else (none)) else (none)) else (none)) else (impl_ReducedArcs.l1 k x0 x4 x5 x6 x7 x20 x21 x22 x30 x31 (wrap64 (x32 + 1)))
def impl_ReducedArcs.l3:Nat→List (List Int)→List (List Int)→Int→List Bool→List (List Int)→Int→Int→List Int→Int→Int→Option ((List (List Int)) × Bool)
 | 0,_,_,_,_,_,_,_,_,_,_=>none
 | k + 1,x0,x4,x5,x7,x20,x21,x22,x60,x61,x62=>if x62 < x61 then (if 0≤x62 then (if x62 < (x60.length:Int) then (if 0≤(rd x60 x62) then (if (rd x60 x62) < (x7.length:Int) then (if (rdOf false x7 (rd x60 x62)=true) then (impl_ReducedArcs.l3 k x0 x4 x5 x7 x20 x21 x22 x60 x61 (wrap64 (x62 + 1))) else (if 0≤x5 then (if x5 < (x4.length:Int) then (if (rd_L5 x4 x5).length < 17592186044416 then (impl_ReducedArcs.l3 k x0 (x4.set (x5:Int).toNat ((rd_L5 x4 x5) ++ [rd x60 x62])) x5 x7 x20 x21 x22 x60 x61 (wrap64 (x62 + 1))) else (none)) else (none)) else (none))) else (none)) else (none)) else (none)) else (none)) else (impl_ReducedArcs.l0 k x0 x4 x20 x21 (wrap64 (x22 + 1)))
end
def impl_ReducedArcs.f (k:Nat) (l0:List (List Int)):Option ((List (List Int)) × Bool):=(impl_AreArcs.f k l0).bind fun t504=>(if t504=true then (if 0≤(l0.length:Int) then (if ((l0.length:Int):Int).toNat≤11728124029610 then (impl_ReducedArcs.l0 k l0 (List.replicate ((l0.length:Int):Int).toNat []) l0 (l0.length:Int) 0) else (none)) else (none)) else (some (([]:List (List Int)),false)))
set_option maxHeartbeats 8000000 in
set_option maxRecDepth 100000 in
theorem impl_ReducedArcs.calls (k:Nat) (A0:Option Addr) (c0:Nat) (l0:List (List Int)) (r1:List (List Int)) (r2:Bool) (w:World) (hr0:Kd.C (Kd.slice 3 (Kd.int .i64)) w A0 l0.length l0) (hc0:l0.length≤c0) (h:impl_ReducedArcs.f k l0=some (r1,r2)) :
  Calls Try.prog 23 #[.slice A0 l0.length c0] w fun e w'=>∃ v0_:Value,e=.returned (.tuple #[v0_,.bool r2])∧Kd.S (Kd.slice 3 (Kd.int .i64)) 33 w' w.heap.size (fun _=>True) v0_ r1∧Below w.heap.size w w':=by
 have HR0:=aM7 hr0
 have HC0:=aM7 hc0
 clear hr0 hc0
 have HB:=aM7 (Below.refl w.heap.size w)
 have H:((impl_AreArcs.f k l0).bind fun t504=>(if t504=true then (if 0≤(l0.length:Int) then (if ((l0.length:Int):Int).toNat≤11728124029610 then (impl_ReducedArcs.l0 k l0 (List.replicate ((l0.length:Int):Int).toNat []) l0 (l0.length:Int) 0) else (none)) else (none)) else (some (([]:List (List Int)),false))))=some (r1,r2):=h
 clear h
 replace H:=bI7.mp H
 obtain ⟨t504,A20,H⟩:=H
 replace H:(if t504=true then (if 0≤(l0.length:Int) then (if ((l0.length:Int):Int).toNat≤11728124029610 then (impl_ReducedArcs.l0 k l0 (List.replicate ((l0.length:Int):Int).toNat []) l0 (l0.length:Int) 0) else (none)) else (none)) else (some (([]:List (List Int)),false)))=some (r1,r2):=H
 have A2:=aM7 A20
 clear A20
 by_cases c3:t504=true
 ·subst c3
  have H1:(if 0≤(l0.length:Int) then (if ((l0.length:Int):Int).toNat≤11728124029610 then (impl_ReducedArcs.l0 k l0 (List.replicate ((l0.length:Int):Int).toNat []) l0 (l0.length:Int) 0) else (none)) else (none))=some (r1,r2):=by rw [if_pos rfl] at H;exact H
  clear H
  have H:=H1
  clear H1
  by_cases c4:0≤(l0.length:Int)
  ·rw [if_pos c4] at H
   have c4b0:=eq_true c4
   have c4b1:decide (0≤(l0.length:Int))=true:=dT7 c4
   clear c4
   by_cases c5:((l0.length:Int):Int).toNat≤11728124029610
   ·rw [if_pos c5] at H
    have c5b0:=eq_true c5
    have c5b1:decide (((l0.length:Int):Int).toNat≤11728124029610)=true:=dT7 c5
    clear c5
    obtain ⟨y505,hy505⟩:∃ y_:List (List Int),y_=(List.replicate ((l0.length:Int):Int).toNat []):=⟨_,rfl⟩
    replace H:(impl_ReducedArcs.l0 k l0 y505 l0 (l0.length:Int) 0)=some (r1,r2):=by first|(rw [hy505];with_reducible exact H)|(have H2_:=(Option.bind_some _ _).symm.trans H;rw [hy505];with_reducible exact H2_)|(have H2_:=(Option.bind_some _ _).symm.trans H;with_reducible exact H2_)|with_reducible exact H|(rw [hy505];exact H)|exact H
    have Ny505:=aM7 hy505
    clear hy505
    have H':=aM7 H
    clear H
    go_enter Try.func23,Try.ntmps23
    go_wp2_with (first|((with_reducible refine gate_callee (f:=18) rfl ?_);refine goesL_ (some 15) rfl rfl Try.func18 (by kernel_rfl) rfl #[.slice A0 l0.length c0] rfl (zsx7_0) ?_;(with_reducible refine (impl_AreArcs.calls k _ _ l0 true _ ?side1 ?side2 A2.out).mono ?_);(case side1=>exact zsx7_16);(case side2=>exact HC0.out);rintro e w' ⟨rfl,⟨nd,rfl⟩⟩;refine ⟨_,rfl,?_⟩)|((with_reducible refine gate_dst (N:=19) rfl ?_);refine Kd.S_make (Kd.slice 3 (Kd.int .i64)) _ 33 rfl (N:=19) rfl 22 _ _ rfl (l0.length:Int) rfl rfl Try.underlying22 (.slice none 0 0) 24 info33 rfl (by decide) (by omega) [] (ok:=fun _=>True) (okp:=fun _=>True) ⟨_,rfl,Kd.R_nil _ _ _ _ _⟩ (fun _ hk=>hk) trivial (oD7 (zsx7_6)) (Nat.le_trans (Nat.mul_le_mul_right _ (oD7 (zsx7_6):(l0.length:Int).toNat≤11728124029610)) (by omega)) (Below.refl _ _) (Nat.le_refl _) ?_;intro v506 w6 ho7 hb hg_ hnew_;clear hg_ hnew_;(first|rw [← Ny505.out] at ho7|(simp only [Int.reduceToNat] at ho7;rw [← Ny505.out] at ho7));have n0_:=aM7 (Kd.S_lower ho7 (below_size (zsx7_1)));have n1_:=aM7 (below_step (zsx7_1) hb);clear HB;have HO507:=n0_;have HB:=n1_;clear n0_ n1_ hb ho7))
    go_loopg [22] k (fun kq v22 w'=>∃ (x4_1:List (List Int)) (x22_1:Int),v22=.int .i64 x22_1∧Aside0 (impl_ReducedArcs.l0 kq l0 x4_1 l0 (l0.length:Int) x22_1=some (r1,r2))∧Aside0 (kq≤k)∧Aside0 (Kd.S (Kd.slice 3 (Kd.int .i64)) 33 w' w.heap.size (fun _=>True) v506 x4_1)∧Aside0 (Below w.heap.size w w'))
    case atStart=>exact ⟨(y505),(0),(zsx7_2),H',⟨Nat.le_refl _⟩,⟨by (with_reducible repeat (first|apply Kd.S_alloc|apply Kd.S_drewN|apply Kd.S_drew));exact HO507.out⟩,⟨zsx7_1⟩⟩
    case round =>
     clear H'
     try clear c1
     try clear c2
     try clear p2
     try clear c3
     try clear c4
     try clear c4b0
     try clear c4b1
     try clear c5
     try clear c5b0
     try clear c5b1
     obtain ⟨x4_1,x22_1,rfl,HA,HK1,HO_4,HB⟩:=hrel
     cases gk with
     | zero=>exact absurd HA.out (by simp [impl_ReducedArcs.l0])
     | succ k1 =>
      have H:=HA.out
      clear HA
      simp only [impl_ReducedArcs.l0] at H
      by_cases c8:x22_1 < (l0.length:Int)
      ·rw [if_pos c8] at H
       have c8b0:decide (x22_1 < (l0.length:Int))=true:=dT7 c8
       clear c8
       by_cases c9:0≤x22_1
       ·rw [if_pos c9] at H
        have c9b0:decide (0≤x22_1)=true:=dT7 c9
        clear c9
        by_cases c10:x22_1 < (l0.length:Int)
        ·rw [if_pos c10] at H
         have c10b0:decide (x22_1 < (l0.length:Int))=true:=dT7 c10
         clear c10
         by_cases c11:0≤(l0.length:Int)
         ·rw [if_pos c11] at H
          have c11b0:=eq_true c11
          have c11b1:decide (0≤(l0.length:Int))=true:=dT7 c11
          clear c11
          by_cases c12:((l0.length:Int):Int).toNat≤281474976710656
          ·rw [if_pos c12] at H
           have c12b0:=eq_true c12
           have c12b1:decide (((l0.length:Int):Int).toNat≤281474976710656)=true:=dT7 c12
           clear c12
           obtain ⟨y509,hy509⟩:∃ y_:List Bool,y_=(List.replicate ((l0.length:Int):Int).toNat false):=⟨_,rfl⟩
           replace H:(impl_ReducedArcs.l1 k1 l0 x4_1 x22_1 (rd_L5 l0 x22_1) y509 l0 (l0.length:Int) x22_1 (rd_L5 l0 x22_1) ((rd_L5 l0 x22_1).length:Int) 0)=some (r1,r2):=by first|(rw [hy509];with_reducible exact H)|(have H2_:=(Option.bind_some _ _).symm.trans H;rw [hy509];with_reducible exact H2_)|(have H2_:=(Option.bind_some _ _).symm.trans H;with_reducible exact H2_)|with_reducible exact H|(rw [hy509];exact H)|exact H
           have Ny509:=aM7 hy509
           clear hy509
           have H':=aM7 H
           clear H
           have p508:0≤(x22_1:Int):=oD7 (zsx7_6)
           have q508:x22_1 < (l0.length:Int):=oD7 (zsx7_6)
           obtain ⟨ad508,A508_0,c508_0,e508,hx508_0,hl508_0,hi508_0⟩:=at_L5 HR0.out x22_1 p508 q508
           cases e508
           replace hx508_0:=(HB.out.cell (bL7 w _ hx508_0)).trans hx508_0
           have HR508_0:=aM7 hi508_0
           have HC508_0:=aM7 hl508_0
           clear hi508_0 hl508_0
           replace p508:=eq_true p508
           replace q508:=eq_true q508
           go_wp2_with (first|((with_reducible refine gate_dst (N:=29) rfl ?_);refine Kd.R_make Kd.bool _ 4 rfl (N:=29) rfl 55 _ _ rfl (l0.length:Int) rfl rfl Try.underlying55 (.bool false) 1 info4 rfl (by decide) (by omega) false (ok:=fun _=>True) (okp:=fun _=>True) rfl (fun _ hk=>hk) trivial (oD7 (zsx7_6)) (Nat.le_trans (Nat.mul_le_mul_right _ (oD7 (zsx7_6):(l0.length:Int).toNat≤281474976710656)) (by omega)) (Below.refl _ _) (Nat.le_refl _) ?_;intro v510 w13 ho14 hb hg_ hnew_;clear hg_ hnew_;(first|rw [← Ny509.out] at ho14|(simp only [Int.reduceToNat] at ho14;rw [← Ny509.out] at ho14));have n0_:=aM7 (Kd.S_below (zsx7_7) hb);have n1_:=aM7 (Kd.R_lower ho14 (below_size (zsx7_1)));have n2_:=aM7 (below_step (zsx7_1) hb);clear HO_4 HB;have HO_4:=n0_;have HO511:=n1_;have HB:=n2_;clear n0_ n1_ n2_ hb ho14))
           go_loopg [32] k1 (fun kq v32 w'=>∃ (x7_2:List Bool) (x32_2:Int),v32=.int .i64 x32_2∧Aside0 (impl_ReducedArcs.l1 kq l0 x4_1 x22_1 (rd_L5 l0 x22_1) x7_2 l0 (l0.length:Int) x22_1 (rd_L5 l0 x22_1) ((rd_L5 l0 x22_1).length:Int) x32_2=some (r1,r2))∧Aside0 (kq≤k1)∧Aside0 (Kd.S (Kd.slice 3 (Kd.int .i64)) 33 w' w.heap.size (fun _=>True) v506 x4_1)∧Aside0 (Kd.R Kd.bool 4 w' w.heap.size (fun _=>True) v510 x7_2)∧Aside0 (Below w.heap.size w w'))
           case atStart=>exact ⟨(y509),(0),(zsx7_2),H',⟨Nat.le_refl _⟩,⟨zsx7_7⟩,⟨by (with_reducible repeat (first|apply Kd.R_alloc|apply Kd.R_drewN|apply Kd.R_drew));exact HO511.out⟩,⟨zsx7_1⟩⟩
           case round =>
            clear H'
            try clear c1
            try clear c2
            try clear p2
            try clear c3
            try clear c4
            try clear c4b0
            try clear c4b1
            try clear c5
            try clear c5b0
            try clear c5b1
            try clear p5
            try clear q5
            try clear hx5
            try clear c8
            try clear c8b0
            try clear c9
            try clear c9b0
            try clear c10
            try clear c10b0
            try clear c11
            try clear c11b0
            try clear c11b1
            try clear c12
            try clear c12b0
            try clear c12b1
            try clear hx508_0
            try clear p2
            try clear p508
            try clear q508
            obtain ⟨x7_2,x32_2,rfl,HA,HK2,HO_4,HO_7,HB⟩:=hrel
            cases gk with
            | zero=>exact absurd HA.out (by simp [impl_ReducedArcs.l1])
            | succ k2 =>
             have H:=HA.out
             clear HA
             simp only [impl_ReducedArcs.l1] at H
             by_cases c15:x32_2 < ((rd_L5 l0 x22_1).length:Int)
             ·rw [if_pos c15] at H
              have c15b0:decide (x32_2 < ((rd_L5 l0 x22_1).length:Int))=true:=dT7 c15
              clear c15
              by_cases c16:0≤x32_2
              ·rw [if_pos c16] at H
               have c16b0:decide (0≤x32_2)=true:=dT7 c16
               clear c16
               by_cases c17:x32_2 < ((rd_L5 l0 x22_1).length:Int)
               ·rw [if_pos c17] at H
                have c17b0:decide (x32_2 < ((rd_L5 l0 x22_1).length:Int))=true:=dT7 c17
                clear c17
                by_cases c18:0≤(rd (rd_L5 l0 x22_1) x32_2)
                ·rw [if_pos c18] at H
                 have c18b0:decide (0≤(rd (rd_L5 l0 x22_1) x32_2))=true:=dT7 c18
                 clear c18
                 by_cases c19:(rd (rd_L5 l0 x22_1) x32_2) < (l0.length:Int)
                 ·rw [if_pos c19] at H
                  have c19b0:decide ((rd (rd_L5 l0 x22_1) x32_2) < (l0.length:Int))=true:=dT7 c19
                  clear c19
                  replace H:=bI7.mp H
                  obtain ⟨t514,A200,H⟩:=H
                  replace H:(impl_ReducedArcs.l2 k2 l0 x4_1 x22_1 (rd_L5 l0 x22_1) x7_2 l0 (l0.length:Int) x22_1 (rd_L5 l0 x22_1) ((rd_L5 l0 x22_1).length:Int) x32_2 t514 (t514.length:Int) 0)=some (r1,r2):=H
                  have A20:=aM7 A200
                  clear A200
                  have H':=aM7 H
                  clear H
                  have p512:0≤(x32_2:Int):=oD7 (zsx7_6)
                  have q512:x32_2 < ((rd_L5 l0 x22_1).length:Int):=oD7 (zsx7_6)
                  obtain ⟨ad512,e512,hx512_0⟩:=Kd.at_int HR508_0.out x32_2 p512 q512
                  cases e512
                  replace hx512_0:=(HB.out.cell (bL7 w _ hx512_0)).trans hx512_0
                  replace p512:=eq_true p512
                  replace q512:=eq_true q512
                  have p513:0≤((rd (rd_L5 l0 x22_1) x32_2):Int):=oD7 (zsx7_6)
                  have q513:(rd (rd_L5 l0 x22_1) x32_2) < (l0.length:Int):=oD7 (zsx7_6)
                  obtain ⟨ad513,A513_0,c513_0,e513,hx513_0,hl513_0,hi513_0⟩:=at_L5 HR0.out (rd (rd_L5 l0 x22_1) x32_2) p513 q513
                  obtain rfl:ad508=ad513:=(by injection e513)
                  replace hx513_0:=(HB.out.cell (bL7 w _ hx513_0)).trans hx513_0
                  have HR513_0:=aM7 hi513_0
                  have HC513_0:=aM7 hl513_0
                  clear hi513_0 hl513_0
                  replace p513:=eq_true p513
                  replace q513:=eq_true q513
                  go_wp2_with (first|((with_reducible refine gate_callee (f:=55) rfl ?_);refine goesL_ (some 41) rfl rfl Try.func55 (by kernel_rfl) rfl #[.slice (some ad508) l0.length c0,.slice A513_0 (rd_L5 l0 (rd (rd_L5 l0 x22_1) x32_2)).length c513_0] rfl (zsx7_0) ?_;(with_reducible refine (impl_closureOf.calls k2 _ _ l0 _ _ (rd_L5 l0 (rd (rd_L5 l0 x22_1) x32_2)) t514 _ ?side1 ?side2 ?side3 ?side4 A20.out).mono ?_);(case side1=>exact zsx7_15);(case side2=>exact HC0.out);(case side3=>repeat (first|exact (Kd.C_below HR513_0.out HB.out)|(with_reducible refine Kd.C_alloc ?_ _)|(with_reducible refine Kd.C_drewN ?_ _)|(with_reducible refine Kd.C_drew ?_)));(case side4=>exact HC513_0.out);rintro e w21 ⟨v515,rfl,ho0,hb⟩;refine ⟨_,rfl,?_⟩;have n0_:=aM7 (Kd.S_below (zsx7_7) hb);have n1_:=aM7 (Kd.R_elder' (zsx7_8) (Kd.R_base ho0) hb);have n2_:=aM7 (Kd.R_lower (Kd.R_new' ho0 (Kd.R_lt (zsx7_8))) (below_size (zsx7_1)));have n3_:=aM7 (below_step (zsx7_1) hb);clear HO_4 HO_7 HB;have HO_4:=n0_;have HO_7:=n1_;have HO516:=n2_;have HB:=n3_;clear n0_ n1_ n2_ n3_;(try clear hb);(try clear hb2);(try clear hk);(try clear hi);(try clear ho0);obtain ⟨Ao22,co22,eo22⟩:=Kd.R_slice HO516.out;subst eo22))
                  go_loopg [43] k2 (fun kq v43 w'=>∃ (x7_3:List Bool) (x43_3:Int),v43=.int .i64 x43_3∧Aside0 (impl_ReducedArcs.l2 kq l0 x4_1 x22_1 (rd_L5 l0 x22_1) x7_3 l0 (l0.length:Int) x22_1 (rd_L5 l0 x22_1) ((rd_L5 l0 x22_1).length:Int) x32_2 t514 (t514.length:Int) x43_3=some (r1,r2))∧Aside0 (kq≤k2)∧Aside0 (Kd.S (Kd.slice 3 (Kd.int .i64)) 33 w' w.heap.size (fun _=>True) v506 x4_1)∧Aside0 (Kd.R Kd.bool 4 w' w.heap.size (fun k_=>some k_≠((.slice Ao22 t514.length co22):Value).ownBlock) v510 x7_3)∧Aside0 (Kd.R Kd.bool 4 w' w.heap.size (fun k_=>some k_≠(v510:Value).ownBlock) (.slice Ao22 t514.length co22) t514)∧Aside0 (Below w.heap.size w w'))
                  case atStart=>exact ⟨(x7_2),(0),(zsx7_2),H',⟨Nat.le_refl _⟩,⟨zsx7_7⟩,⟨by (with_reducible repeat (first|apply Kd.R_alloc|apply Kd.R_drewN|apply Kd.R_drew));exact Kd.R_mono HO_7.out (fun _ hk=>hk.2)⟩,⟨by (with_reducible repeat (first|apply Kd.R_alloc|apply Kd.R_drewN|apply Kd.R_drew));exact Kd.R_mono HO516.out (fun _ hk=>hk.2)⟩,⟨zsx7_1⟩⟩
                  case round =>
                   clear H'
                   try clear c1
                   try clear c2
                   try clear p2
                   try clear c3
                   try clear c4
                   try clear c4b0
                   try clear c4b1
                   try clear c5
                   try clear c5b0
                   try clear c5b1
                   try clear p5
                   try clear q5
                   try clear hx5
                   try clear c8
                   try clear c8b0
                   try clear c9
                   try clear c9b0
                   try clear c10
                   try clear c10b0
                   try clear c11
                   try clear c11b0
                   try clear c11b1
                   try clear c12
                   try clear c12b0
                   try clear c12b1
                   try clear c15
                   try clear c15b0
                   try clear c16
                   try clear c16b0
                   try clear c17
                   try clear c17b0
                   try clear c18
                   try clear c18b0
                   try clear c19
                   try clear c19b0
                   try clear hx508_0
                   try clear hx512_0
                   try clear hx513_0
                   try clear p2
                   try clear p5
                   try clear p508
                   try clear p512
                   try clear p513
                   try clear q5
                   try clear q508
                   try clear q512
                   try clear q513
                   obtain ⟨x7_3,x43_3,rfl,HA,HK3,HO_4,HO_7,HO_41,HB⟩:=hrel
                   cases gk with
                   | zero=>exact absurd HA.out (by simp [impl_ReducedArcs.l2])
                   | succ k3 =>
                    have H:=HA.out
                    clear HA
                    simp only [impl_ReducedArcs.l2] at H
                    by_cases c23:x43_3 < (t514.length:Int)
                    ·rw [if_pos c23] at H
                     have c23b0:decide (x43_3 < (t514.length:Int))=true:=dT7 c23
                     clear c23
                     by_cases c24:0≤x43_3
                     ·rw [if_pos c24] at H
                      have c24b0:decide (0≤x43_3)=true:=dT7 c24
                      clear c24
                      by_cases c25:x43_3 < (t514.length:Int)
                      ·rw [if_pos c25] at H
                       have c25b0:decide (x43_3 < (t514.length:Int))=true:=dT7 c25
                       clear c25
                       by_cases c26:x43_3 < (x7_3.length:Int)
                       ·rw [if_pos c26] at H
                        have c26b0:decide (x43_3 < (x7_3.length:Int))=true:=dT7 c26
                        clear c26
                        obtain ⟨bq27,hbq27⟩:∃ b_:Bool,b_=(rdOf false x7_3 x43_3):=⟨_,rfl⟩
                        replace H:(if bq27=true then (impl_ReducedArcs.l2 k3 l0 x4_1 x22_1 (rd_L5 l0 x22_1) (x7_3.set (x43_3:Int).toNat true) l0 (l0.length:Int) x22_1 (rd_L5 l0 x22_1) ((rd_L5 l0 x22_1).length:Int) x32_2 t514 (t514.length:Int) (wrap64 (x43_3 + 1))) else (impl_ReducedArcs.l2 k3 l0 x4_1 x22_1 (rd_L5 l0 x22_1) (x7_3.set (x43_3:Int).toNat (rdOf false t514 x43_3)) l0 (l0.length:Int) x22_1 (rd_L5 l0 x22_1) ((rd_L5 l0 x22_1).length:Int) x32_2 t514 (t514.length:Int) (wrap64 (x43_3 + 1))))=some (r1,r2):=by rw [← hbq27] at H;exact H
                        have Nbq27:=aM7 hbq27
                        clear hbq27
                        by_cases c28:bq27=true
                        ·subst c28
                         have H1:(impl_ReducedArcs.l2 k3 l0 x4_1 x22_1 (rd_L5 l0 x22_1) (x7_3.set (x43_3:Int).toNat true) l0 (l0.length:Int) x22_1 (rd_L5 l0 x22_1) ((rd_L5 l0 x22_1).length:Int) x32_2 t514 (t514.length:Int) (wrap64 (x43_3 + 1)))=some (r1,r2):=by rw [if_pos rfl] at H;exact H
                         clear H
                         have H:=H1
                         clear H1
                         obtain ⟨y519,hy519⟩:∃ y_:List Bool,y_=(x7_3.set (x43_3:Int).toNat true):=⟨_,rfl⟩
                         replace H:(impl_ReducedArcs.l2 k3 l0 x4_1 x22_1 (rd_L5 l0 x22_1) y519 l0 (l0.length:Int) x22_1 (rd_L5 l0 x22_1) ((rd_L5 l0 x22_1).length:Int) x32_2 t514 (t514.length:Int) (wrap64 (x43_3 + 1)))=some (r1,r2):=by first|(rw [hy519];with_reducible exact H)|(have H2_:=(Option.bind_some _ _).symm.trans H;rw [hy519];with_reducible exact H2_)|(have H2_:=(Option.bind_some _ _).symm.trans H;with_reducible exact H2_)|with_reducible exact H|(rw [hy519];exact H)|exact H
                         have Ny519:=aM7 hy519
                         clear hy519
                         have H':=aM7 H
                         clear H
                         have p517:0≤(x43_3:Int):=oD7 (zsx7_6)
                         have q517:x43_3 < (t514.length:Int):=oD7 (zsx7_6)
                         obtain ⟨ad517,e517,hx517_0⟩:=Kd.at_bool (Kd.R_reads' HO_41.out).2.2 x43_3 p517 q517
                         (try rw [← Nbq27.out] at hx517_0)
                         cases e517
                         replace p517:=eq_true p517
                         replace q517:=eq_true q517
                         obtain ⟨Ao30,co30,eo30⟩:=Kd.R_slice HO_7.out
                         subst eo30
                         have p518:0≤(x43_3:Int):=oD7 (zsx7_6)
                         have q518:x43_3 < (x7_3.length:Int):=oD7 (zsx7_6)
                         obtain ⟨ad518,e518,hx518_0⟩:=Kd.at_bool (Kd.R_reads' HO_7.out).2.2 x43_3 p518 q518
                         (try rw [← Nbq27.out] at hx518_0)
                         cases e518
                         replace p518:=eq_true p518
                         replace q518:=eq_true q518
                         have p29:0≤(x43_3:Int):=oD7 (zsx7_6)
                         have q29:(x43_3:Int) < ((x7_3.length:Int):Int):=oD7 (zsx7_6)
                         obtain ⟨go29,co29,eo29,gb29,gl29,cl29,HG29⟩:=Kd.R_form HO_7.out (by omega)
                         (first|cases eo29|(injection eo29 with ea_ en_ ec_;(first|subst ea_|(injection ea_ with ea_;subst ea_));subst ec_;clear en_))
                         have GB29:=aM7 gb29
                         have GG29:=aM7 HG29
                         clear gb29 gl29 HG29
                         (first|simp only [add_plain] at hx518_0|skip)
                         obtain ⟨hx29_0,hf29_0⟩:=Kd.R_celln false HO_7.out (x43_3:Int) p29 q29
                         replace p29:=eq_true p29
                         replace q29:=eq_true q29
                         have HP31:=Kd.R_putg HO_7.out (x43_3:Int) true
                         go_wp2_with (first|((with_reducible refine gate_store (t:=4) (p:=57) rfl ?_);refine store_event (t:=4) (p:=57) (v:=?vo_w32) (w1:=(wr.setCell ⟨go29,(x43_3:Int).toNat,none⟩ (.bool true))) ?hg ?ho ?hn ?hr ?_;(case ho=>rfl);(case hg=>rfl);(case hn=>rfl);(case hr=>first|(go_simp;done)|(go_simp;rfl));intro w32 hw;have hg:wr.grownBy w32 (some go29):=(by rw [hw];exact HP31.2);have hp_:Kd.R Kd.bool 4 w32 w.heap.size (fun k_=>some k_≠(.slice (some ad517) t514.length co22:Value).ownBlock) (.slice (some ⟨go29,0,none⟩) x7_3.length co30) y519:=(by rw [hw,Ny519.out];exact HP31.1);clear HP31;have n0_:=aM7 (Kd.S_over' (v:=(.slice (some ⟨go29,0,none⟩) x7_3.length co30)) (zsx7_7) (Kd.R_typed HO_7.out) (by decide) hg);have n1_:=aM7 (hp_);have n2_:=aM7 (Kd.R_after (v:=(.slice (some ⟨go29,0,none⟩) x7_3.length co30)) (v1:=(.slice (some ⟨go29,0,none⟩) x7_3.length co30)) (ok:=(fun _=>True)) (zsx7_9) hg (.inl rfl));have n3_:=aM7 ((by rw [hw];exact below_set (HB.out) GB29.out:Below w.heap.size w w32));clear HO_4 HO_7 HO_41 HB;have HO_4:=n0_;have HO_7:=n1_;have HO_41:=n2_;have HB:=n3_;clear n0_ n1_ n2_ n3_ hg hw hp_))
                         go_roundg k3
                         case measure=>have:=HK1.out;have:=HK2.out;have:=HK3.out;omega
                         case rel=>exact ⟨(y519),(wrap64 (x43_3 + 1)),(zsx7_2),H',⟨zsx7_10⟩,⟨zsx7_7⟩,⟨zsx7_8⟩,⟨zsx7_11⟩,⟨zsx7_1⟩⟩
                        ·replace c28:=Bool.eq_false_iff.mpr c28
                         subst c28
                         have H1:(impl_ReducedArcs.l2 k3 l0 x4_1 x22_1 (rd_L5 l0 x22_1) (x7_3.set (x43_3:Int).toNat (rdOf false t514 x43_3)) l0 (l0.length:Int) x22_1 (rd_L5 l0 x22_1) ((rd_L5 l0 x22_1).length:Int) x32_2 t514 (t514.length:Int) (wrap64 (x43_3 + 1)))=some (r1,r2):=by rw [if_neg (show ¬ (false=true) by decide)] at H;exact H
                         clear H
                         have H:=H1
                         clear H1
                         obtain ⟨y520,hy520⟩:∃ y_:List Bool,y_=(x7_3.set (x43_3:Int).toNat (rdOf false t514 x43_3)):=⟨_,rfl⟩
                         replace H:(impl_ReducedArcs.l2 k3 l0 x4_1 x22_1 (rd_L5 l0 x22_1) y520 l0 (l0.length:Int) x22_1 (rd_L5 l0 x22_1) ((rd_L5 l0 x22_1).length:Int) x32_2 t514 (t514.length:Int) (wrap64 (x43_3 + 1)))=some (r1,r2):=by first|(rw [hy520];with_reducible exact H)|(have H2_:=(Option.bind_some _ _).symm.trans H;rw [hy520];with_reducible exact H2_)|(have H2_:=(Option.bind_some _ _).symm.trans H;with_reducible exact H2_)|with_reducible exact H|(rw [hy520];exact H)|exact H
                         have Ny520:=aM7 hy520
                         clear hy520
                         have H':=aM7 H
                         clear H
                         have p517:0≤(x43_3:Int):=oD7 (zsx7_6)
                         have q517:x43_3 < (t514.length:Int):=oD7 (zsx7_6)
                         obtain ⟨ad517,e517,hx517_0⟩:=Kd.at_bool (Kd.R_reads' HO_41.out).2.2 x43_3 p517 q517
                         (try rw [← Nbq27.out] at hx517_0)
                         cases e517
                         replace p517:=eq_true p517
                         replace q517:=eq_true q517
                         obtain ⟨Ao34,co34,eo34⟩:=Kd.R_slice HO_7.out
                         subst eo34
                         have p518:0≤(x43_3:Int):=oD7 (zsx7_6)
                         have q518:x43_3 < (x7_3.length:Int):=oD7 (zsx7_6)
                         obtain ⟨ad518,e518,hx518_0⟩:=Kd.at_bool (Kd.R_reads' HO_7.out).2.2 x43_3 p518 q518
                         (try rw [← Nbq27.out] at hx518_0)
                         cases e518
                         replace p518:=eq_true p518
                         replace q518:=eq_true q518
                         have p33:0≤(x43_3:Int):=oD7 (zsx7_6)
                         have q33:(x43_3:Int) < ((x7_3.length:Int):Int):=oD7 (zsx7_6)
                         obtain ⟨go33,co33,eo33,gb33,gl33,cl33,HG33⟩:=Kd.R_form HO_7.out (by omega)
                         (first|cases eo33|(injection eo33 with ea_ en_ ec_;(first|subst ea_|(injection ea_ with ea_;subst ea_));subst ec_;clear en_))
                         have GB33:=aM7 gb33
                         have GG33:=aM7 HG33
                         clear gb33 gl33 HG33
                         (first|simp only [add_plain] at hx518_0|skip)
                         obtain ⟨hx33_0,hf33_0⟩:=Kd.R_celln false HO_7.out (x43_3:Int) p33 q33
                         replace p33:=eq_true p33
                         replace q33:=eq_true q33
                         have HP35:=Kd.R_putg HO_7.out (x43_3:Int) (rdOf false t514 x43_3)
                         go_wp2_with (first|((with_reducible refine gate_store (t:=4) (p:=57) rfl ?_);refine store_event (t:=4) (p:=57) (v:=?vo_w36) (w1:=(wr.setCell ⟨go33,(x43_3:Int).toNat,none⟩ (.bool (rdOf false t514 x43_3)))) ?hg ?ho ?hn ?hr ?_;(case ho=>rfl);(case hg=>rfl);(case hn=>rfl);(case hr=>first|(go_simp;done)|(go_simp;rfl));intro w36 hw;have hg:wr.grownBy w36 (some go33):=(by rw [hw];exact HP35.2);have hp_:Kd.R Kd.bool 4 w36 w.heap.size (fun k_=>some k_≠(.slice (some ad517) t514.length co22:Value).ownBlock) (.slice (some ⟨go33,0,none⟩) x7_3.length co34) y520:=(by rw [hw,Ny520.out];exact HP35.1);clear HP35;have n0_:=aM7 (Kd.S_over' (v:=(.slice (some ⟨go33,0,none⟩) x7_3.length co34)) (zsx7_7) (Kd.R_typed HO_7.out) (by decide) hg);have n1_:=aM7 (hp_);have n2_:=aM7 (Kd.R_after (v:=(.slice (some ⟨go33,0,none⟩) x7_3.length co34)) (v1:=(.slice (some ⟨go33,0,none⟩) x7_3.length co34)) (ok:=(fun _=>True)) (zsx7_9) hg (.inl rfl));have n3_:=aM7 ((by rw [hw];exact below_set (HB.out) GB33.out:Below w.heap.size w w36));clear HO_4 HO_7 HO_41 HB;have HO_4:=n0_;have HO_7:=n1_;have HO_41:=n2_;have HB:=n3_;clear n0_ n1_ n2_ n3_ hg hw hp_))
                         go_roundg k3
                         case measure=>have:=HK1.out;have:=HK2.out;have:=HK3.out;omega
                         case rel=>exact ⟨(y520),(wrap64 (x43_3 + 1)),(zsx7_2),H',⟨zsx7_10⟩,⟨zsx7_7⟩,⟨zsx7_8⟩,⟨zsx7_11⟩,⟨zsx7_1⟩⟩
                       ·rw [if_neg c26] at H
                        exact absurd H (by simp)
                      ·rw [if_neg c25] at H
                       exact absurd H (by simp)
                     ·rw [if_neg c24] at H
                      exact absurd H (by simp)
                    ·rw [if_neg c23] at H
                     have c23b0:decide (x43_3 < (t514.length:Int))=false:=decide_eq_false c23
                     clear c23
                     have H':=aM7 H
                     clear H
                     go_wp2
                     go_roundg k3
                     case measure=>have:=HK1.out;have:=HK2.out;have:=HK3.out;omega
                     case rel=>exact ⟨(x7_3),(wrap64 (x32_2 + 1)),(zsx7_2),H',⟨zsx7_10⟩,⟨zsx7_7⟩,⟨zsx7_12⟩,⟨zsx7_1⟩⟩
                 ·rw [if_neg c19] at H
                  exact absurd H (by simp)
                ·rw [if_neg c18] at H
                 exact absurd H (by simp)
               ·rw [if_neg c17] at H
                exact absurd H (by simp)
              ·rw [if_neg c16] at H
               exact absurd H (by simp)
             ·rw [if_neg c15] at H
              have c15b0:decide (x32_2 < ((rd_L5 l0 x22_1).length:Int))=false:=decide_eq_false c15
              clear c15
              have H':=aM7 H
              clear H
              go_wp2
              go_loopg [62] k2 (fun kq v62 w'=>∃ (x4_3:List (List Int)) (x62_3:Int),v62=.int .i64 x62_3∧Aside0 (impl_ReducedArcs.l3 kq l0 x4_3 x22_1 x7_2 l0 (l0.length:Int) x22_1 (rd_L5 l0 x22_1) ((rd_L5 l0 x22_1).length:Int) x62_3=some (r1,r2))∧Aside0 (kq≤k2)∧Aside0 (Kd.S (Kd.slice 3 (Kd.int .i64)) 33 w' w.heap.size (fun _=>True) v506 x4_3)∧Aside0 (Kd.R Kd.bool 4 w' w.heap.size (fun _=>True) v510 x7_2)∧Aside0 (Below w.heap.size w w'))
              case atStart=>exact ⟨(x4_1),(0),(zsx7_2),H',⟨Nat.le_refl _⟩,⟨zsx7_7⟩,⟨zsx7_8⟩,⟨zsx7_1⟩⟩
              case round =>
               clear H'
               try clear c1
               try clear c2
               try clear p2
               try clear q2
               try clear hx2
               try clear hf2
               try clear c3
               try clear p3
               try clear q3
               try clear hx3
               try clear hf3
               try clear c4
               try clear c4b0
               try clear c4b1
               try clear c5
               try clear c5b0
               try clear c5b1
               try clear p5
               try clear q5
               try clear hx5
               try clear p6
               try clear c8
               try clear c8b0
               try clear c9
               try clear c9b0
               try clear c10
               try clear c10b0
               try clear c11
               try clear c11b0
               try clear c11b1
               try clear c12
               try clear c12b0
               try clear c12b1
               try clear c15
               try clear c15b0
               try clear c16
               try clear c16b0
               try clear c17
               try clear c17b0
               try clear c18
               try clear c18b0
               try clear c19
               try clear c19b0
               try clear c23
               try clear c23b0
               try clear c24
               try clear c24b0
               try clear c25
               try clear c25b0
               try clear c26
               try clear c26b0
               try clear q27
               try clear c28
               try clear p29
               try clear q29
               try clear hx29
               try clear hf29
               try clear p33
               try clear q33
               try clear hx33
               try clear hf33
               try clear hx29_0
               try clear hx33_0
               try clear hx508_0
               try clear hx512_0
               try clear hx513_0
               try clear hx517_0
               try clear hx518_0
               try clear p2
               try clear p29
               try clear p33
               try clear p5
               try clear p508
               try clear p512
               try clear p513
               try clear p517
               try clear p518
               try clear q29
               try clear q33
               try clear q5
               try clear q508
               try clear q512
               try clear q513
               try clear q517
               try clear q518
               obtain ⟨x4_3,x62_3,rfl,HA,HK3,HO_4,HO_7,HB⟩:=hrel
               cases gk with
               | zero=>exact absurd HA.out (by simp [impl_ReducedArcs.l3])
               | succ k3 =>
                have H:=HA.out
                clear HA
                simp only [impl_ReducedArcs.l3] at H
                by_cases c37:x62_3 < ((rd_L5 l0 x22_1).length:Int)
                ·rw [if_pos c37] at H
                 have c37b0:decide (x62_3 < ((rd_L5 l0 x22_1).length:Int))=true:=dT7 c37
                 clear c37
                 by_cases c38:0≤x62_3
                 ·rw [if_pos c38] at H
                  have c38b0:decide (0≤x62_3)=true:=dT7 c38
                  clear c38
                  by_cases c39:x62_3 < ((rd_L5 l0 x22_1).length:Int)
                  ·rw [if_pos c39] at H
                   have c39b0:decide (x62_3 < ((rd_L5 l0 x22_1).length:Int))=true:=dT7 c39
                   clear c39
                   by_cases c40:0≤(rd (rd_L5 l0 x22_1) x62_3)
                   ·rw [if_pos c40] at H
                    have c40b0:decide (0≤(rd (rd_L5 l0 x22_1) x62_3))=true:=dT7 c40
                    clear c40
                    by_cases c41:(rd (rd_L5 l0 x22_1) x62_3) < (x7_2.length:Int)
                    ·rw [if_pos c41] at H
                     have c41b0:decide ((rd (rd_L5 l0 x22_1) x62_3) < (x7_2.length:Int))=true:=dT7 c41
                     clear c41
                     obtain ⟨bq42,hbq42⟩:∃ b_:Bool,b_=(rdOf false x7_2 (rd (rd_L5 l0 x22_1) x62_3)):=⟨_,rfl⟩
                     replace H:(if (bq42=true) then (impl_ReducedArcs.l3 k3 l0 x4_3 x22_1 x7_2 l0 (l0.length:Int) x22_1 (rd_L5 l0 x22_1) ((rd_L5 l0 x22_1).length:Int) (wrap64 (x62_3 + 1))) else (if 0≤x22_1 then (if x22_1 < (x4_3.length:Int) then (if (rd_L5 x4_3 x22_1).length < 17592186044416 then (impl_ReducedArcs.l3 k3 l0 (x4_3.set (x22_1:Int).toNat ((rd_L5 x4_3 x22_1) ++ [rd (rd_L5 l0 x22_1) x62_3])) x22_1 x7_2 l0 (l0.length:Int) x22_1 (rd_L5 l0 x22_1) ((rd_L5 l0 x22_1).length:Int) (wrap64 (x62_3 + 1))) else (none)) else (none)) else (none)))=some (r1,r2):=by rw [← hbq42] at H;exact H
                     have Nbq42:=aM7 hbq42
                     clear hbq42
                     by_cases c43:(bq42=true)
                     ·subst c43
                      have H1:(impl_ReducedArcs.l3 k3 l0 x4_3 x22_1 x7_2 l0 (l0.length:Int) x22_1 (rd_L5 l0 x22_1) ((rd_L5 l0 x22_1).length:Int) (wrap64 (x62_3 + 1)))=some (r1,r2):=by rw [if_pos rfl] at H;exact H
                      clear H
                      have H:=H1
                      clear H1
                      have H':=aM7 H
                      clear H
                      have p521:0≤(x62_3:Int):=oD7 (zsx7_6)
                      have q521:x62_3 < ((rd_L5 l0 x22_1).length:Int):=oD7 (zsx7_6)
                      obtain ⟨ad521,e521,hx521_0⟩:=Kd.at_int HR508_0.out x62_3 p521 q521
                      cases e521
                      replace hx521_0:=(HB.out.cell (bL7 w _ hx521_0)).trans hx521_0
                      replace p521:=eq_true p521
                      replace q521:=eq_true q521
                      obtain ⟨Ao44,co44,eo44⟩:=Kd.R_slice HO_7.out
                      subst eo44
                      have p522:0≤((rd (rd_L5 l0 x22_1) x62_3):Int):=oD7 (zsx7_6)
                      have q522:(rd (rd_L5 l0 x22_1) x62_3) < (x7_2.length:Int):=oD7 (zsx7_6)
                      obtain ⟨ad522,e522,hx522_0⟩:=Kd.at_bool (Kd.R_reads' HO_7.out).2.2 (rd (rd_L5 l0 x22_1) x62_3) p522 q522
                      (try rw [← Nbq42.out] at hx522_0)
                      cases e522
                      replace p522:=eq_true p522
                      replace q522:=eq_true q522
                      go_wp2
                      go_roundg k3
                      case measure=>have:=HK1.out;have:=HK2.out;have:=HK3.out;omega
                      case rel=>exact ⟨(x4_3),(wrap64 (x62_3 + 1)),(zsx7_2),H',⟨zsx7_10⟩,⟨zsx7_7⟩,⟨zsx7_8⟩,⟨zsx7_1⟩⟩
                     ·replace c43:=Bool.eq_false_iff.mpr c43
                      subst c43
                      have H1:(if 0≤x22_1 then (if x22_1 < (x4_3.length:Int) then (if (rd_L5 x4_3 x22_1).length < 17592186044416 then (impl_ReducedArcs.l3 k3 l0 (x4_3.set (x22_1:Int).toNat ((rd_L5 x4_3 x22_1) ++ [rd (rd_L5 l0 x22_1) x62_3])) x22_1 x7_2 l0 (l0.length:Int) x22_1 (rd_L5 l0 x22_1) ((rd_L5 l0 x22_1).length:Int) (wrap64 (x62_3 + 1))) else (none)) else (none)) else (none))=some (r1,r2):=by rw [if_neg (show ¬ (false=true) by decide)] at H;exact H
                      clear H
                      have H:=H1
                      clear H1
                      by_cases c45:0≤x22_1
                      ·rw [if_pos c45] at H
                       have c45b0:decide (0≤x22_1)=true:=dT7 c45
                       clear c45
                       by_cases c46:x22_1 < (x4_3.length:Int)
                       ·rw [if_pos c46] at H
                        have c46b0:decide (x22_1 < (x4_3.length:Int))=true:=dT7 c46
                        clear c46
                        by_cases c47:(rd_L5 x4_3 x22_1).length < 17592186044416
                        ·rw [if_pos c47] at H
                         have LMc47:=aM7 c47
                         clear c47
                         obtain ⟨y524,hy524⟩:∃ y_:List Int,y_=((rd_L5 x4_3 x22_1) ++ [rd (rd_L5 l0 x22_1) x62_3]):=⟨_,rfl⟩
                         replace H:(impl_ReducedArcs.l3 k3 l0 (x4_3.set (x22_1:Int).toNat y524) x22_1 x7_2 l0 (l0.length:Int) x22_1 (rd_L5 l0 x22_1) ((rd_L5 l0 x22_1).length:Int) (wrap64 (x62_3 + 1)))=some (r1,r2):=by first|(rw [hy524];with_reducible exact H)|(have H2_:=(Option.bind_some _ _).symm.trans H;rw [hy524];with_reducible exact H2_)|(have H2_:=(Option.bind_some _ _).symm.trans H;with_reducible exact H2_)|with_reducible exact H|(rw [hy524];exact H)|exact H
                         have Ny524:=aM7 hy524
                         clear hy524
                         obtain ⟨y527,hy527⟩:∃ y_:List (List Int),y_=(x4_3.set (x22_1:Int).toNat y524):=⟨_,rfl⟩
                         replace H:(impl_ReducedArcs.l3 k3 l0 y527 x22_1 x7_2 l0 (l0.length:Int) x22_1 (rd_L5 l0 x22_1) ((rd_L5 l0 x22_1).length:Int) (wrap64 (x62_3 + 1)))=some (r1,r2):=by first|(rw [hy527];with_reducible exact H)|(have H2_:=(Option.bind_some _ _).symm.trans H;rw [hy527];with_reducible exact H2_)|(have H2_:=(Option.bind_some _ _).symm.trans H;with_reducible exact H2_)|with_reducible exact H|(rw [hy527];exact H)|exact H
                         have Ny527:=aM7 hy527
                         clear hy527
                         have H':=aM7 H
                         clear H
                         have p521:0≤(x62_3:Int):=oD7 (zsx7_6)
                         have q521:x62_3 < ((rd_L5 l0 x22_1).length:Int):=oD7 (zsx7_6)
                         obtain ⟨ad521,e521,hx521_0⟩:=Kd.at_int HR508_0.out x62_3 p521 q521
                         cases e521
                         replace hx521_0:=(HB.out.cell (bL7 w _ hx521_0)).trans hx521_0
                         replace p521:=eq_true p521
                         replace q521:=eq_true q521
                         obtain ⟨Ao49,co49,eo49⟩:=Kd.R_slice HO_7.out
                         subst eo49
                         have p522:0≤((rd (rd_L5 l0 x22_1) x62_3):Int):=oD7 (zsx7_6)
                         have q522:(rd (rd_L5 l0 x22_1) x62_3) < (x7_2.length:Int):=oD7 (zsx7_6)
                         obtain ⟨ad522,e522,hx522_0⟩:=Kd.at_bool (Kd.R_reads' HO_7.out).2.2 (rd (rd_L5 l0 x22_1) x62_3) p522 q522
                         (try rw [← Nbq42.out] at hx522_0)
                         cases e522
                         replace p522:=eq_true p522
                         replace q522:=eq_true q522
                         obtain ⟨Ao50,co50,eo50⟩:=Kd.S_slice HO_4.out
                         subst eo50
                         have p523:0≤(x22_1:Int):=oD7 (zsx7_6)
                         have q523:x22_1 < (x4_3.length:Int):=oD7 (zsx7_6)
                         obtain ⟨ad523,A523_0,c523_0,e523,hx523_0,hl523_0,hi523_0⟩:=at_L5 (Kd.S_reads' HO_4.out).2.2 x22_1 p523 q523
                         cases e523
                         obtain ⟨ce523,hce523,hMe523,hcc523⟩:=Kd.S_get HO_4.out [] x22_1 p523 (by first|exact q523|exact oD7 (zsx7_6)|(have e_:=(Kd.S_reads' HO_4.out).1;omega))
                         obtain ⟨ve523_0,rfl,ge523_0⟩:=hMe523
                         have hv523_0:=hcc523 0 _ rfl
                         rw [Nat.add_zero,show ((Kd.slice 3 (Kd.int .i64))).sz=1 from rfl,Nat.mul_one] at hv523_0
                         replace hv523_0:=Option.some.inj (hv523_0.symm.trans hx523_0)
                         rw [hv523_0] at ge523_0
                         have HL523_0:=aM7 (show Kd.R (Kd.int .i64) 3 _ _ _ _ (rd_L5 x4_3 x22_1) from ge523_0)
                         clear hv523_0 ge523_0
                         have HX523_0:=aM7 hx523_0
                         clear hcc523 hce523
                         have HR523_0:=aM7 hi523_0
                         have HC523_0:=aM7 hl523_0
                         clear hi523_0 hl523_0
                         replace p523:=eq_true p523
                         replace q523:=eq_true q523
                         obtain ⟨go51,co51,eo51,gb51,gl51,cl51,HG51⟩:=Kd.S_form HO_4.out (by have h_:(x22_1:Int) < ((x4_3.length:Int):Int):=oD7 (zsx7_6);have h2_:0≤(x22_1:Int):=(oD7 (zsx7_6));omega)
                         (first|cases eo51|(injection eo51 with ea_ en_ ec_;(first|subst ea_|(injection ea_ with ea_;subst ea_));subst ec_;clear en_))
                         have GB51:=aM7 gb51
                         have GG51:=aM7 HG51
                         clear gb51 gl51 HG51
                         (first|simp only [add_plain] at hx523_0|skip)
                         obtain ⟨oki51,ce51,hcl51,hM51,hcc51,_,_,hH51⟩:=Kd.S_elem HO_4.out [] (x22_1:Int) (oD7 (zsx7_6)) (by have h_:(x22_1:Int) < ((x4_3.length:Int):Int):=oD7 (zsx7_6);first|exact h_|(have e_:=(Kd.S_reads' HO_4.out).1;omega)|simpa using h_)
                         obtain ⟨ve51_0,rfl,ge51_0⟩:=hM51
                         have hv51:=hcc51 0 _ rfl
                         have hX51:=HX523_0.out
                         (try simp only [add_plain] at hX51)
                         (try simp only [Nat.add_zero] at hv51)
                         (try rw [show ((Kd.slice 3 (Kd.int .i64))).sz=1 from rfl,Nat.mul_one] at hv51)
                         replace hv51:=Option.some.inj (hv51.symm.trans hX51)
                         subst hv51
                         clear hX51 hcc51 hcl51
                         have UU51:=aM7 (show Kd.R (Kd.int .i64) 3 _ w.heap.size oki51 (.slice A523_0 (rd_L5 x4_3 x22_1).length c523_0) (rd_L5 x4_3 x22_1) from ge51_0)
                         have HH51:=aM7 hH51
                         have HN51:=aM7 (Kd.S_reads' HO_4.out).1
                         clear hH51 ge51_0
                         go_wp2_with (first|((with_reducible refine gate_builtin (b:=.append) (xs:=#[.tmp 76,.tmp 78]) rfl ?_);at_builtin;refine Kd.R_append (Kd.int .i64) (w0:=w) w.heap.size rfl (.tmp 76) (.tmp 78) 33 3 (.int .i64 0) 8 rfl Try.underlying33 info3 rfl (by decide) (by omega) (.slice A523_0 (rd_L5 x4_3 x22_1).length c523_0) (rd_L5 x4_3 x22_1) (rd (rd_L5 l0 x22_1) x62_3) [.int .i64 (rd (rd_L5 l0 x22_1) x62_3)] (fun k_=>oki51 k_ ∨ ((fun _=>True)) k_∧wr.heap.size≤k_) (fun _=>False) rfl rfl ?aP (fun _ hk=>hk.elim) ?aF ?aO ?aB ?aS ?aL ?_;(case aP=>exact rfl);(case aB=>exact (zsx7_1));(case aF=>exact (fun k_ hk=>.inr ⟨trivial,hk⟩));(case aO=>exact (by (with_reducible repeat (first|apply Kd.R_alloc|apply Kd.R_drewN|apply Kd.R_drew));exact Kd.R_mono UU51.out (fun _ hk=>.inl hk)));(case aS=>exact (below_size (zsx7_1)));(case aL=>have:=LMc47.out;omega);intro v525 w52 ho hb hg hat;rw [← Ny524.out] at ho;have n0_:=aM7 (Kd.R_over' (v:=(.slice A523_0 (rd_L5 x4_3 x22_1).length c523_0)) (zsx7_8) (Kd.R_typed HL523_0.out) (by decide) hg);have n1_:=aM7 (hb);have n2_:=aM7 (Kd.H_grown (Kd.H_widen (by repeat (first|exact HH51.out|refine Kd.H_alloc ?_ _|refine Kd.H_drewN ?_ _|refine Kd.H_drew ?_))) hg (fun k_ e_=>.inl (UU51.out.1 k_ e_)));have n3_:=aM7 (ho);clear HO_7 HB HH51 HO_4 UU51 HL523_0;have HO_7:=n0_;have HB:=n1_;have HH51:=n2_;have HO526:=n3_;clear n0_ n1_ n2_ n3_ ho hb hg hat;have p48:0≤(x22_1:Int):=oD7 (zsx7_6);have q48:(x22_1:Int) < ((x4_3.length:Int):Int):=oD7 (zsx7_6);replace p48:=eq_true p48;replace q48:=eq_true q48;obtain ⟨Ao55,co55,eo55⟩:=Kd.R_slice HO526.out;subst eo55;obtain ⟨_,_,hraw53,_,_,hcc53,_⟩:=Kd.H_raw HH51.out (oD7 (zsx7_6)) (by have h_:(x22_1:Int) < ((x4_3.length:Int):Int):=oD7 (zsx7_6);first|exact h_|(have e_:=(HN51.out);omega)|simpa using h_);obtain ⟨_,hfr53⟩:=Kd.H_at HH51.out (oD7 (zsx7_6)) (by have h_:(x22_1:Int) < ((x4_3.length:Int):Int):=oD7 (zsx7_6);first|exact h_|(have e_:=(HN51.out);omega)|simpa using h_);have hx53_0:=hcc53 0 _ rfl;have hf53_0:=hfr53 0;(try simp only [Nat.add_zero] at hx53_0 hf53_0);(try rw [show ((Kd.slice 3 (Kd.int .i64))).sz=1 from rfl,Nat.mul_one] at hx53_0);(try rw [show ((Kd.slice 3 (Kd.int .i64))).sz=1 from rfl,Nat.mul_one] at hf53_0);have HP53:=Kd.S_seg0 HH51.out (oD7 (zsx7_6)) (by have h_:(x22_1:Int) < ((x4_3.length:Int):Int):=oD7 (zsx7_6);first|exact h_|(have e_:=(HN51.out);omega)|simpa using h_) (seg:=[.slice Ao55 y524.length co55]) (j:=0) (show 1≤1 from by decide) (x':=y524) (Kd.M_row HO526.out) (fun _ hk=>hk);(try simp only [show ((Kd.slice 3 (Kd.int .i64))).sz=1 from rfl,Nat.mul_one,Nat.add_zero] at HP53);clear hcc53 hfr53)|((with_reducible refine gate_store (t:=33) (p:=80) rfl ?_);refine store_event (t:=33) (p:=80) (v:=?vo_w54) (w1:=(w52.setCell ⟨go51,(x22_1:Int).toNat,none⟩ (.slice Ao55 y524.length co55))) ?hg ?ho ?hn ?hr ?_;(case ho=>rfl);(case hg=>rfl);(case hn=>rfl);(case hr=>first|(go_simp;done)|(go_simp;rfl));intro w54 hw;have hg:w52.grownBy w54 (some go51):=(by rw [hw];exact HP53.2);have hp_:Kd.S (Kd.slice 3 (Kd.int .i64)) 33 w54 w.heap.size (fun _=>True) (.slice (some ⟨go51,0,none⟩) x4_3.length co50) y527:=(by rw [hw,Ny527.out];exact HP53.1);clear HP53;have n0_:=aM7 (Kd.R_over' (v:=(.slice (some ⟨go51,0,none⟩) x4_3.length co50)) (zsx7_8) (Kd.R_typed hraw53) (by decide) hg);have n1_:=aM7 ((by rw [hw];exact below_set HB.out GB51.out:Below w.heap.size w w54));have n2_:=aM7 (hp_);clear HO_7 HB HO526 HH51;have HO_7:=n0_;have HB:=n1_;have HO_4:=n2_;clear n0_ n1_ n2_ hg hw hp_ hraw53))
                         go_roundg k3
                         case measure=>have:=HK1.out;have:=HK2.out;have:=HK3.out;omega
                         case rel=>exact ⟨(y527),(wrap64 (x62_3 + 1)),(zsx7_2),H',⟨zsx7_10⟩,⟨zsx7_7⟩,⟨zsx7_8⟩,⟨zsx7_1⟩⟩
                        ·rw [if_neg c47] at H
                         exact absurd H (by simp)
                       ·rw [if_neg c46] at H
                        exact absurd H (by simp)
                      ·rw [if_neg c45] at H
                       exact absurd H (by simp)
                    ·rw [if_neg c41] at H
                     exact absurd H (by simp)
                   ·rw [if_neg c40] at H
                    exact absurd H (by simp)
                  ·rw [if_neg c39] at H
                   exact absurd H (by simp)
                 ·rw [if_neg c38] at H
                  exact absurd H (by simp)
                ·rw [if_neg c37] at H
                 have c37b0:decide (x62_3 < ((rd_L5 l0 x22_1).length:Int))=false:=decide_eq_false c37
                 clear c37
                 have H':=aM7 H
                 clear H
                 go_wp2
                 go_roundg k3
                 case measure=>have:=HK1.out;have:=HK2.out;have:=HK3.out;omega
                 case rel=>exact ⟨(x4_3),(wrap64 (x22_1 + 1)),(zsx7_2),H',⟨zsx7_10⟩,⟨zsx7_7⟩,⟨zsx7_1⟩⟩
          ·rw [if_neg c12] at H
           exact absurd H (by simp)
         ·rw [if_neg c11] at H
          exact absurd H (by simp)
        ·rw [if_neg c10] at H
         exact absurd H (by simp)
       ·rw [if_neg c9] at H
        exact absurd H (by simp)
      ·rw [if_neg c8] at H
       have c8b0:decide (x22_1 < (l0.length:Int))=false:=decide_eq_false c8
       clear c8
       simp only [Option.some.injEq,Prod.mk.injEq] at H
       obtain ⟨rfl,rfl⟩:=H
       go_wp2
       go_ret2
       exact ⟨_,zsx7_4,zsx7_7,zsx7_1⟩
   ·rw [if_neg c5] at H
    exact absurd H (by simp)
  ·rw [if_neg c4] at H
   exact absurd H (by simp)
 ·replace c3:=Bool.eq_false_iff.mpr c3
  subst c3
  have H1:(some (([]:List (List Int)),false))=some (r1,r2):=by rw [if_neg (show ¬ (false=true) by decide)] at H;exact H
  clear H
  have H:=H1
  clear H1
  simp only [Option.some.injEq,Prod.mk.injEq] at H
  obtain ⟨rfl,rfl⟩:=H
  go_enter Try.func23,Try.ntmps23
  go_wp2_with (first|((with_reducible refine gate_callee (f:=18) rfl ?_);refine goesL_ (some 15) rfl rfl Try.func18 (by kernel_rfl) rfl #[.slice A0 l0.length c0] rfl (zsx7_0) ?_;(with_reducible refine (impl_AreArcs.calls k _ _ l0 false _ ?side1 ?side2 A2.out).mono ?_);(case side1=>exact zsx7_16);(case side2=>exact HC0.out);rintro e w' ⟨rfl,⟨nd,rfl⟩⟩;refine ⟨_,rfl,?_⟩))
  go_ret2
  exact ⟨_,zsx7_4,zsx7_13,zsx7_1⟩
def spec_l1Has.l0:Nat→Int→List Int→Int→Int→Option (Bool)
 | 0,_,_,_,_=>none
 | k + 1,x1,x7,x8,x9=>if x9 < x8 then (if 0≤x9 then (if x9 < (x7.length:Int) then (if (rd x7 x9)=x1 then (some true) else (spec_l1Has.l0 k x1 x7 x8 (wrap64 (x9 + 1)))) else (none)) else (none)) else (some false)
def spec_l1Has.f (k:Nat) (l0:List Int) (a1:Int):Option (Bool):=spec_l1Has.l0 k a1 l0 (l0.length:Int) 0
set_option maxHeartbeats 8000000 in
set_option maxRecDepth 100000 in
theorem spec_l1Has.calls (k:Nat) (A0:Option Addr) (c0:Nat) (l0:List Int) (a1:Int) (r:Bool) (w:World) (hr0:Kd.C (Kd.int .i64) w A0 l0.length l0) (hc0:l0.length≤c0) (h:spec_l1Has.f k l0 a1=some r) :
  Calls Try.prog 63 #[.slice A0 l0.length c0,.int .i64 a1] w fun e w'=>e=.returned (.bool r)∧Drawn0 w w':=by
 have HR0:=aM7 hr0
 have HC0:=aM7 hc0
 clear hr0 hc0
 have H:(spec_l1Has.l0 k a1 l0 (l0.length:Int) 0)=some r:=h
 clear h
 have H':=aM7 H
 clear H
 go_enter Try.func63,Try.ntmps63
 go_wp2
 go_loopg [9] k (fun kq v9 w'=>∃ (x9_1:Int),v9=.int .i64 x9_1∧Aside0 (spec_l1Has.l0 kq a1 l0 (l0.length:Int) x9_1=some r)∧Aside0 (kq≤k)∧Drawn0 w w')
 case atStart=>exact ⟨(0),(zsx7_2),H',⟨Nat.le_refl _⟩,zsx7_14⟩
 case round =>
  clear H'
  try clear p2
  obtain ⟨x9_1,rfl,HA,HK1,⟨m1,rfl⟩⟩:=hrel
  cases gk with
  | zero=>exact absurd HA.out (by simp [spec_l1Has.l0])
  | succ k1 =>
   have H:=HA.out
   clear HA
   simp only [spec_l1Has.l0] at H
   by_cases c3:x9_1 < (l0.length:Int)
   ·rw [if_pos c3] at H
    have c3b0:decide (x9_1 < (l0.length:Int))=true:=dT7 c3
    clear c3
    by_cases c4:0≤x9_1
    ·rw [if_pos c4] at H
     have c4b0:decide (0≤x9_1)=true:=dT7 c4
     clear c4
     by_cases c5:x9_1 < (l0.length:Int)
     ·rw [if_pos c5] at H
      have c5b0:decide (x9_1 < (l0.length:Int))=true:=dT7 c5
      clear c5
      by_cases c6:(rd l0 x9_1)=a1
      ·rw [if_pos c6] at H
       have c6b0:((rd l0 x9_1) == a1)=true:=beq_iff_eq.mpr c6
       have c6b1:((rd l0 x9_1) != a1)=false:=bne_eq_false_iff_eq.mpr c6
       clear c6
       obtain rfl:=Option.some.inj H
       have p528:0≤(x9_1:Int):=oD7 (zsx7_6)
       have q528:x9_1 < (l0.length:Int):=oD7 (zsx7_6)
       obtain ⟨ad528,e528,hx528_0⟩:=Kd.at_int HR0.out x9_1 p528 q528
       cases e528
       replace p528:=eq_true p528
       replace q528:=eq_true q528
       go_wp2
       go_ret
       exact ⟨zsx7_2,zsx7_14⟩
      ·rw [if_neg c6] at H
       have c6b0:((rd l0 x9_1) == a1)=false:=beq_eq_false_iff_ne.mpr c6
       have c6b1:((rd l0 x9_1) != a1)=true:=bne_iff_ne.mpr c6
       have H':=aM7 H
       clear H
       have p528:0≤(x9_1:Int):=oD7 (zsx7_6)
       have q528:x9_1 < (l0.length:Int):=oD7 (zsx7_6)
       obtain ⟨ad528,e528,hx528_0⟩:=Kd.at_int HR0.out x9_1 p528 q528
       cases e528
       replace p528:=eq_true p528
       replace q528:=eq_true q528
       go_wp2
       go_roundg k1
       case measure=>have:=HK1.out;omega
       case rel=>exact ⟨(wrap64 (x9_1 + 1)),(zsx7_2),H',⟨by have:=HK1.out;omega⟩,zsx7_14⟩
     ·rw [if_neg c5] at H
      exact absurd H (by simp)
    ·rw [if_neg c4] at H
     exact absurd H (by simp)
   ·rw [if_neg c3] at H
    have c3b0:decide (x9_1 < (l0.length:Int))=false:=decide_eq_false c3
    clear c3
    obtain rfl:=Option.some.inj H
    go_wp2
    go_ret
    exact ⟨zsx7_2,zsx7_14⟩
mutual
def spec_ReducedArcs.l0:Nat→List (List Int)→List (List Int)→List (List Int)→Int→Int→Option ((List (List Int)) × Bool)
 | 0,_,_,_,_,_=>none
 | k + 1,x0,x4,x16,x17,x18=>if x18 < x17 then (if 0≤x18 then (if x18 < (x16.length:Int) then (spec_ReducedArcs.l1 k x0 x4 (rd_L5 x16 x18) ([]:List Int) x16 x17 x18 (rd_L5 x16 x18) ((rd_L5 x16 x18).length:Int) 0) else (none)) else (none)) else (some (x4,true))
def spec_ReducedArcs.l1:Nat→List (List Int)→List (List Int)→List Int→List Int→List (List Int)→Int→Int→List Int→Int→Int→Option ((List (List Int)) × Bool)
 | 0,_,_,_,_,_,_,_,_,_,_=>none
 | k + 1,x0,x4,x6,x7,x16,x17,x18,x22,x23,x24=>if x24 < x23 then (if 0≤x24 then (if x24 < (x22.length:Int) then (spec_ReducedArcs.l2 k x0 x4 x6 x7 (rd x22 x24) false x16 x17 x18 x22 x23 x24 x6 (x6.length:Int) 0) else (none)) else (none)) else (if x4.length < 5864062014805 then (spec_ReducedArcs.l0 k x0 (x4 ++ [x7]) x16 x17 (wrap64 (x18 + 1))) else (none))
def spec_ReducedArcs.l2:Nat→List (List Int)→List (List Int)→List Int→List Int→Int→Bool→List (List Int)→Int→Int→List Int→Int→Int→List Int→Int→Int→Option ((List (List Int)) × Bool)
 | 0,_,_,_,_,_,_,_,_,_,_,_,_,_,_,_=>none
 | k + 1,x0,x4,x6,x7,x9,x10,x16,x17,x18,x22,x23,x24,x28,x29,x30=>if x30 < x29 then (if 0≤x30 then (if x30 < (x28.length:Int) then (if x10=true then (spec_ReducedArcs.l2 k x0 x4 x6 x7 x9 true x16 x17 x18 x22 x23 x24 x28 x29 (wrap64 (x30 + 1))) else (if (rd x28 x30) > x9 then ((spec_clUp.f k x0 (rd x28 x30)).bind fun t536=>((spec_l1Has.f k t536 x9).bind fun t539=>(spec_ReducedArcs.l2 k x0 x4 x6 x7 x9 t539 x16 x17 x18 x22 x23 x24 x28 x29 (wrap64 (x30 + 1))))) else (spec_ReducedArcs.l2 k x0 x4 x6 x7 x9 false x16 x17 x18 x22 x23 x24 x28 x29 (wrap64 (x30 + 1))))) else (none)) else (none)) else (if x10=true then (spec_ReducedArcs.l1 k x0 x4 x6 x7 x16 x17 x18 x22 x23 (wrap64 (x24 + 1))) else (if x7.length < 17592186044416 then (spec_ReducedArcs.l1 k x0 x4 x6 (x7 ++ [x9]) x16 x17 x18 x22 x23 (wrap64 (x24 + 1))) else (none)))
end
def spec_ReducedArcs.f (k:Nat) (l0:List (List Int)):Option ((List (List Int)) × Bool):=(spec_clArcs.f k l0).bind fun t529=>(if t529=true then (spec_ReducedArcs.l0 k l0 ([]:List (List Int)) l0 (l0.length:Int) 0) else (some (([]:List (List Int)),false)))
set_option maxHeartbeats 8000000 in
set_option maxRecDepth 100000 in
theorem spec_ReducedArcs.calls (k:Nat) (A0:Option Addr) (c0:Nat) (l0:List (List Int)) (r1:List (List Int)) (r2:Bool) (w:World) (hr0:Kd.C (Kd.slice 3 (Kd.int .i64)) w A0 l0.length l0) (hc0:l0.length≤c0) (h:spec_ReducedArcs.f k l0=some (r1,r2)) :
  Calls Try.prog 24 #[.slice A0 l0.length c0] w fun e w'=>∃ v0_:Value,e=.returned (.tuple #[v0_,.bool r2])∧Kd.S (Kd.slice 3 (Kd.int .i64)) 33 w' w.heap.size (fun _=>True) v0_ r1∧Below w.heap.size w w':=by
 have HR0:=aM7 hr0
 have HC0:=aM7 hc0
 clear hr0 hc0
 have HB:=aM7 (Below.refl w.heap.size w)
 have H:((spec_clArcs.f k l0).bind fun t529=>(if t529=true then (spec_ReducedArcs.l0 k l0 ([]:List (List Int)) l0 (l0.length:Int) 0) else (some (([]:List (List Int)),false))))=some (r1,r2):=h
 clear h
 replace H:=bI7.mp H
 obtain ⟨t529,A20,H⟩:=H
 replace H:(if t529=true then (spec_ReducedArcs.l0 k l0 ([]:List (List Int)) l0 (l0.length:Int) 0) else (some (([]:List (List Int)),false)))=some (r1,r2):=H
 have A2:=aM7 A20
 clear A20
 by_cases c3:t529=true
 ·subst c3
  have H1:(spec_ReducedArcs.l0 k l0 ([]:List (List Int)) l0 (l0.length:Int) 0)=some (r1,r2):=by rw [if_pos rfl] at H;exact H
  clear H
  have H:=H1
  clear H1
  have H':=aM7 H
  clear H
  go_enter Try.func24,Try.ntmps24
  go_wp2_with (first|((with_reducible refine gate_callee (f:=47) rfl ?_);refine goesL_ (some 14) rfl rfl Try.func47 (by kernel_rfl) rfl #[.slice A0 l0.length c0] rfl (zsx7_0) ?_;(with_reducible refine (spec_clArcs.calls k _ _ l0 true _ ?side1 ?side2 A2.out).mono ?_);(case side1=>exact zsx7_16);(case side2=>exact HC0.out);rintro e w' ⟨rfl,⟨nd,rfl⟩⟩;refine ⟨_,rfl,?_⟩))
  go_loopg [4,18] k (fun kq v4 v18 w'=>∃ (x4_1:List (List Int)) (x18_1:Int),v18=.int .i64 x18_1∧Aside0 (spec_ReducedArcs.l0 kq l0 x4_1 l0 (l0.length:Int) x18_1=some (r1,r2))∧Aside0 (kq≤k)∧Aside0 (Kd.S (Kd.slice 3 (Kd.int .i64)) 33 w' w.heap.size (fun _=>True) v4 x4_1)∧Aside0 (Below w.heap.size w w'))
  case atStart=>exact ⟨(([]:List (List Int))),(0),(zsx7_2),H',⟨Nat.le_refl _⟩,⟨zsx7_13⟩,⟨zsx7_1⟩⟩
  case round =>
   clear H'
   try clear c2
   try clear p2
   try clear c3
   obtain ⟨x4_1,x18_1,rfl,HA,HK1,HO_4,HB⟩:=hrel
   cases gk with
   | zero=>exact absurd HA.out (by simp [spec_ReducedArcs.l0])
   | succ k1 =>
    have H:=HA.out
    clear HA
    simp only [spec_ReducedArcs.l0] at H
    by_cases c4:x18_1 < (l0.length:Int)
    ·rw [if_pos c4] at H
     have c4b0:decide (x18_1 < (l0.length:Int))=true:=dT7 c4
     clear c4
     by_cases c5:0≤x18_1
     ·rw [if_pos c5] at H
      have c5b0:decide (0≤x18_1)=true:=dT7 c5
      clear c5
      by_cases c6:x18_1 < (l0.length:Int)
      ·rw [if_pos c6] at H
       have c6b0:decide (x18_1 < (l0.length:Int))=true:=dT7 c6
       clear c6
       have H':=aM7 H
       clear H
       have p530:0≤(x18_1:Int):=oD7 (zsx7_6)
       have q530:x18_1 < (l0.length:Int):=oD7 (zsx7_6)
       obtain ⟨ad530,A530_0,c530_0,e530,hx530_0,hl530_0,hi530_0⟩:=at_L5 HR0.out x18_1 p530 q530
       cases e530
       replace hx530_0:=(HB.out.cell (bL7 w _ hx530_0)).trans hx530_0
       have HR530_0:=aM7 hi530_0
       have HC530_0:=aM7 hl530_0
       clear hi530_0 hl530_0
       replace p530:=eq_true p530
       replace q530:=eq_true q530
       go_wp2
       go_loopg [7,24] k1 (fun kq v7 v24 w'=>∃ (x7_2:List Int) (x24_2:Int),v24=.int .i64 x24_2∧Aside0 (spec_ReducedArcs.l1 kq l0 x4_1 (rd_L5 l0 x18_1) x7_2 l0 (l0.length:Int) x18_1 (rd_L5 l0 x18_1) ((rd_L5 l0 x18_1).length:Int) x24_2=some (r1,r2))∧Aside0 (kq≤k1)∧Aside0 (Kd.S (Kd.slice 3 (Kd.int .i64)) 33 w' w.heap.size (fun k_=>some k_≠(v7:Value).ownBlock) u4 x4_1)∧Aside0 (Kd.R (Kd.int .i64) 3 w' w.heap.size (fun _=>True) v7 x7_2)∧Aside0 (Below w.heap.size w w'))
       case atStart=>exact ⟨(([]:List Int)),(0),(zsx7_2),H',⟨Nat.le_refl _⟩,⟨by (with_reducible repeat (first|apply Kd.S_alloc|apply Kd.S_drewN|apply Kd.S_drew));exact Kd.S_mono HO_4.out (fun _ hk=>(by simp [Value.ownBlock]))⟩,⟨zsx7_5⟩,⟨zsx7_1⟩⟩
       case round =>
        clear H'
        try clear c2
        try clear p2
        try clear c3
        try clear c4
        try clear c4b0
        try clear c5
        try clear c5b0
        try clear p5
        try clear q5
        try clear hx5
        try clear c6
        try clear c6b0
        try clear hx530_0
        try clear p2
        try clear p530
        try clear q530
        obtain ⟨x7_2,x24_2,rfl,HA,HK2,HO_4,HO_7,HB⟩:=hrel
        cases gk with
        | zero=>exact absurd HA.out (by simp [spec_ReducedArcs.l1])
        | succ k2 =>
         have H:=HA.out
         clear HA
         simp only [spec_ReducedArcs.l1] at H
         by_cases c7:x24_2 < ((rd_L5 l0 x18_1).length:Int)
         ·rw [if_pos c7] at H
          have c7b0:decide (x24_2 < ((rd_L5 l0 x18_1).length:Int))=true:=dT7 c7
          clear c7
          by_cases c8:0≤x24_2
          ·rw [if_pos c8] at H
           have c8b0:decide (0≤x24_2)=true:=dT7 c8
           clear c8
           by_cases c9:x24_2 < ((rd_L5 l0 x18_1).length:Int)
           ·rw [if_pos c9] at H
            have c9b0:decide (x24_2 < ((rd_L5 l0 x18_1).length:Int))=true:=dT7 c9
            clear c9
            have H':=aM7 H
            clear H
            have p534:0≤(x24_2:Int):=oD7 (zsx7_6)
            have q534:x24_2 < ((rd_L5 l0 x18_1).length:Int):=oD7 (zsx7_6)
            obtain ⟨ad534,e534,hx534_0⟩:=Kd.at_int HR530_0.out x24_2 p534 q534
            cases e534
            replace hx534_0:=(HB.out.cell (bL7 w _ hx534_0)).trans hx534_0
            replace p534:=eq_true p534
            replace q534:=eq_true q534
            go_wp2
            go_loopg [10,30] k2 (fun kq v10 v30 w'=>∃ (x10_3:Bool) (x30_3:Int),v10=.bool x10_3∧v30=.int .i64 x30_3∧Aside0 (spec_ReducedArcs.l2 kq l0 x4_1 (rd_L5 l0 x18_1) x7_2 (rd (rd_L5 l0 x18_1) x24_2) x10_3 l0 (l0.length:Int) x18_1 (rd_L5 l0 x18_1) ((rd_L5 l0 x18_1).length:Int) x24_2 (rd_L5 l0 x18_1) ((rd_L5 l0 x18_1).length:Int) x30_3=some (r1,r2))∧Aside0 (kq≤k2)∧Aside0 (Kd.S (Kd.slice 3 (Kd.int .i64)) 33 w' w.heap.size (fun k_=>some k_≠(u7:Value).ownBlock) u4 x4_1)∧Aside0 (Kd.R (Kd.int .i64) 3 w' w.heap.size (fun _=>True) u7 x7_2)∧Aside0 (Below w.heap.size w w'))
            case atStart=>exact ⟨(false),(0),(zsx7_2),(zsx7_2),H',⟨Nat.le_refl _⟩,⟨zsx7_7⟩,⟨zsx7_8⟩,⟨zsx7_1⟩⟩
            case round =>
             clear H'
             try clear c2
             try clear p2
             try clear c3
             try clear c4
             try clear c4b0
             try clear c5
             try clear c5b0
             try clear p5
             try clear q5
             try clear hx5
             try clear c6
             try clear c6b0
             try clear c7
             try clear c7b0
             try clear c8
             try clear c8b0
             try clear c9
             try clear c9b0
             try clear hx530_0
             try clear hx534_0
             try clear p2
             try clear p5
             try clear p530
             try clear p534
             try clear q5
             try clear q530
             try clear q534
             obtain ⟨x10_3,x30_3,rfl,rfl,HA,HK3,HO_4,HO_7,HB⟩:=hrel
             cases gk with
             | zero=>exact absurd HA.out (by simp [spec_ReducedArcs.l2])
             | succ k3 =>
              have H:=HA.out
              clear HA
              simp only [spec_ReducedArcs.l2] at H
              by_cases c10:x30_3 < ((rd_L5 l0 x18_1).length:Int)
              ·rw [if_pos c10] at H
               have c10b0:decide (x30_3 < ((rd_L5 l0 x18_1).length:Int))=true:=dT7 c10
               clear c10
               by_cases c11:0≤x30_3
               ·rw [if_pos c11] at H
                have c11b0:decide (0≤x30_3)=true:=dT7 c11
                clear c11
                by_cases c12:x30_3 < ((rd_L5 l0 x18_1).length:Int)
                ·rw [if_pos c12] at H
                 have c12b0:decide (x30_3 < ((rd_L5 l0 x18_1).length:Int))=true:=dT7 c12
                 clear c12
                 by_cases c13:x10_3=true
                 ·subst c13
                  have H1:(spec_ReducedArcs.l2 k3 l0 x4_1 (rd_L5 l0 x18_1) x7_2 (rd (rd_L5 l0 x18_1) x24_2) true l0 (l0.length:Int) x18_1 (rd_L5 l0 x18_1) ((rd_L5 l0 x18_1).length:Int) x24_2 (rd_L5 l0 x18_1) ((rd_L5 l0 x18_1).length:Int) (wrap64 (x30_3 + 1)))=some (r1,r2):=by rw [if_pos rfl] at H;exact H
                  clear H
                  have H:=H1
                  clear H1
                  have H':=aM7 H
                  clear H
                  have p535:0≤(x30_3:Int):=oD7 (zsx7_6)
                  have q535:x30_3 < ((rd_L5 l0 x18_1).length:Int):=oD7 (zsx7_6)
                  obtain ⟨ad535,e535,hx535_0⟩:=Kd.at_int HR530_0.out x30_3 p535 q535
                  obtain rfl:ad534=ad535:=(by injection e535)
                  replace hx535_0:=(HB.out.cell (bL7 w _ hx535_0)).trans hx535_0
                  replace p535:=eq_true p535
                  replace q535:=eq_true q535
                  go_wp2
                  go_roundg k3
                  case measure=>have:=HK1.out;have:=HK2.out;have:=HK3.out;omega
                  case rel=>exact ⟨(true),(wrap64 (x30_3 + 1)),(zsx7_2),(zsx7_2),H',⟨zsx7_10⟩,⟨zsx7_7⟩,⟨zsx7_8⟩,⟨zsx7_1⟩⟩
                 ·replace c13:=Bool.eq_false_iff.mpr c13
                  subst c13
                  have H1:(if (rd (rd_L5 l0 x18_1) x30_3) > (rd (rd_L5 l0 x18_1) x24_2) then ((spec_clUp.f k3 l0 (rd (rd_L5 l0 x18_1) x30_3)).bind fun t536=>((spec_l1Has.f k3 t536 (rd (rd_L5 l0 x18_1) x24_2)).bind fun t539=>(spec_ReducedArcs.l2 k3 l0 x4_1 (rd_L5 l0 x18_1) x7_2 (rd (rd_L5 l0 x18_1) x24_2) t539 l0 (l0.length:Int) x18_1 (rd_L5 l0 x18_1) ((rd_L5 l0 x18_1).length:Int) x24_2 (rd_L5 l0 x18_1) ((rd_L5 l0 x18_1).length:Int) (wrap64 (x30_3 + 1))))) else (spec_ReducedArcs.l2 k3 l0 x4_1 (rd_L5 l0 x18_1) x7_2 (rd (rd_L5 l0 x18_1) x24_2) false l0 (l0.length:Int) x18_1 (rd_L5 l0 x18_1) ((rd_L5 l0 x18_1).length:Int) x24_2 (rd_L5 l0 x18_1) ((rd_L5 l0 x18_1).length:Int) (wrap64 (x30_3 + 1))))=some (r1,r2):=by rw [if_neg (show ¬ (false=true) by decide)] at H;exact H
                  clear H
                  have H:=H1
                  clear H1
                  by_cases c14:(rd (rd_L5 l0 x18_1) x30_3) > (rd (rd_L5 l0 x18_1) x24_2)
                  ·rw [if_pos c14] at H
                   have c14b0:decide ((rd (rd_L5 l0 x18_1) x24_2) < (rd (rd_L5 l0 x18_1) x30_3))=true:=dT7 c14
                   clear c14
                   replace H:=bI7.mp H
                   obtain ⟨t536,A150,H⟩:=H
                   replace H:((spec_l1Has.f k3 t536 (rd (rd_L5 l0 x18_1) x24_2)).bind fun t539=>(spec_ReducedArcs.l2 k3 l0 x4_1 (rd_L5 l0 x18_1) x7_2 (rd (rd_L5 l0 x18_1) x24_2) t539 l0 (l0.length:Int) x18_1 (rd_L5 l0 x18_1) ((rd_L5 l0 x18_1).length:Int) x24_2 (rd_L5 l0 x18_1) ((rd_L5 l0 x18_1).length:Int) (wrap64 (x30_3 + 1))))=some (r1,r2):=H
                   have A15:=aM7 A150
                   clear A150
                   replace H:=bI7.mp H
                   obtain ⟨t539,A160,H⟩:=H
                   replace H:(spec_ReducedArcs.l2 k3 l0 x4_1 (rd_L5 l0 x18_1) x7_2 (rd (rd_L5 l0 x18_1) x24_2) t539 l0 (l0.length:Int) x18_1 (rd_L5 l0 x18_1) ((rd_L5 l0 x18_1).length:Int) x24_2 (rd_L5 l0 x18_1) ((rd_L5 l0 x18_1).length:Int) (wrap64 (x30_3 + 1)))=some (r1,r2):=H
                   have A16:=aM7 A160
                   clear A160
                   have H':=aM7 H
                   clear H
                   have p535:0≤(x30_3:Int):=oD7 (zsx7_6)
                   have q535:x30_3 < ((rd_L5 l0 x18_1).length:Int):=oD7 (zsx7_6)
                   obtain ⟨ad535,e535,hx535_0⟩:=Kd.at_int HR530_0.out x30_3 p535 q535
                   obtain rfl:ad534=ad535:=(by injection e535)
                   replace hx535_0:=(HB.out.cell (bL7 w _ hx535_0)).trans hx535_0
                   replace p535:=eq_true p535
                   replace q535:=eq_true q535
                   go_wp2_with (first|(go_at_call 57;(with_reducible refine (spec_clUp.calls k3 _ _ l0 (rd (rd_L5 l0 x18_1) x30_3) t536 _ ?side1 ?side2 A15.out).mono ?_);(case side1=>exact zsx7_15);(case side2=>exact HC0.out);rintro e w17 ⟨v537,rfl,ho0,hb⟩;have n0_:=aM7 (Kd.S_elder' (zsx7_7) (Kd.R_base ho0) hb);have n1_:=aM7 (Kd.R_elder' (zsx7_8) (Kd.R_base ho0) hb);have n2_:=aM7 (Kd.R_lower (Kd.R_new' ho0 (Kd.R_lt (zsx7_8))) (below_size (zsx7_1)));have n3_:=aM7 (below_step (zsx7_1) hb);clear HO_4 HO_7 HB;have HO_4:=n0_;have HO_7:=n1_;have HO538:=n2_;have HB:=n3_;clear n0_ n1_ n2_ n3_;(try clear hb);(try clear hb2);(try clear hk);(try clear hi);(try clear ho0);obtain ⟨Ao18,co18,eo18⟩:=Kd.R_slice HO538.out;subst eo18)|(go_at_call 63;(with_reducible refine (spec_l1Has.calls k3 _ _ t536 (rd (rd_L5 l0 x18_1) x24_2) t539 _ ?side1 ?side2 A16.out).mono ?_);(case side1=>repeat (first|exact (Kd.R_reads' HO538.out).2.2|(with_reducible refine Kd.C_alloc ?_ _)|(with_reducible refine Kd.C_drewN ?_ _)|(with_reducible refine Kd.C_drew ?_)));(case side2=>exact (Kd.R_reads' HO538.out).2.1);rintro e w' ⟨rfl,⟨nd,rfl⟩⟩))
                   go_roundg k3
                   case measure=>have:=HK1.out;have:=HK2.out;have:=HK3.out;omega
                   case rel=>exact ⟨(t539),(wrap64 (x30_3 + 1)),(zsx7_2),(zsx7_2),H',⟨zsx7_10⟩,⟨by (with_reducible repeat (first|apply Kd.S_alloc|apply Kd.S_drewN|apply Kd.S_drew));exact Kd.S_mono HO_4.out (fun _ hk=>hk.1)⟩,⟨zsx7_12⟩,⟨zsx7_1⟩⟩
                  ·rw [if_neg c14] at H
                   have c14b0:decide ((rd (rd_L5 l0 x18_1) x24_2) < (rd (rd_L5 l0 x18_1) x30_3))=false:=decide_eq_false c14
                   clear c14
                   have H':=aM7 H
                   clear H
                   have p535:0≤(x30_3:Int):=oD7 (zsx7_6)
                   have q535:x30_3 < ((rd_L5 l0 x18_1).length:Int):=oD7 (zsx7_6)
                   obtain ⟨ad535,e535,hx535_0⟩:=Kd.at_int HR530_0.out x30_3 p535 q535
                   obtain rfl:ad534=ad535:=(by injection e535)
                   replace hx535_0:=(HB.out.cell (bL7 w _ hx535_0)).trans hx535_0
                   replace p535:=eq_true p535
                   replace q535:=eq_true q535
                   go_wp2
                   go_roundg k3
                   case measure=>have:=HK1.out;have:=HK2.out;have:=HK3.out;omega
                   case rel=>exact ⟨(false),(wrap64 (x30_3 + 1)),(zsx7_2),(zsx7_2),H',⟨zsx7_10⟩,⟨zsx7_7⟩,⟨zsx7_8⟩,⟨zsx7_1⟩⟩
                ·rw [if_neg c12] at H
                 exact absurd H (by simp)
               ·rw [if_neg c11] at H
                exact absurd H (by simp)
              ·rw [if_neg c10] at H
               have c10b0:decide (x30_3 < ((rd_L5 l0 x18_1).length:Int))=false:=decide_eq_false c10
               clear c10
               by_cases c19:x10_3=true
               ·subst c19
                have H1:(spec_ReducedArcs.l1 k3 l0 x4_1 (rd_L5 l0 x18_1) x7_2 l0 (l0.length:Int) x18_1 (rd_L5 l0 x18_1) ((rd_L5 l0 x18_1).length:Int) (wrap64 (x24_2 + 1)))=some (r1,r2):=by rw [if_pos rfl] at H;exact H
                clear H
                have H:=H1
                clear H1
                have H':=aM7 H
                clear H
                go_wp2
                go_roundg k3
                case measure=>have:=HK1.out;have:=HK2.out;have:=HK3.out;omega
                case rel=>exact ⟨(x7_2),(wrap64 (x24_2 + 1)),(zsx7_2),H',⟨zsx7_10⟩,⟨zsx7_7⟩,⟨zsx7_8⟩,⟨zsx7_1⟩⟩
               ·replace c19:=Bool.eq_false_iff.mpr c19
                subst c19
                have H1:(if x7_2.length < 17592186044416 then (spec_ReducedArcs.l1 k3 l0 x4_1 (rd_L5 l0 x18_1) (x7_2 ++ [(rd (rd_L5 l0 x18_1) x24_2)]) l0 (l0.length:Int) x18_1 (rd_L5 l0 x18_1) ((rd_L5 l0 x18_1).length:Int) (wrap64 (x24_2 + 1))) else (none))=some (r1,r2):=by rw [if_neg (show ¬ (false=true) by decide)] at H;exact H
                clear H
                have H:=H1
                clear H1
                by_cases c20:x7_2.length < 17592186044416
                ·rw [if_pos c20] at H
                 have LMc20:=aM7 c20
                 clear c20
                 obtain ⟨y540,hy540⟩:∃ y_:List Int,y_=(x7_2 ++ [(rd (rd_L5 l0 x18_1) x24_2)]):=⟨_,rfl⟩
                 replace H:(spec_ReducedArcs.l1 k3 l0 x4_1 (rd_L5 l0 x18_1) y540 l0 (l0.length:Int) x18_1 (rd_L5 l0 x18_1) ((rd_L5 l0 x18_1).length:Int) (wrap64 (x24_2 + 1)))=some (r1,r2):=by first|(rw [hy540];with_reducible exact H)|(have H2_:=(Option.bind_some _ _).symm.trans H;rw [hy540];with_reducible exact H2_)|(have H2_:=(Option.bind_some _ _).symm.trans H;with_reducible exact H2_)|with_reducible exact H|(rw [hy540];exact H)|exact H
                 have Ny540:=aM7 hy540
                 clear hy540
                 have H':=aM7 H
                 clear H
                 go_wp2_with (first|((with_reducible refine gate_builtin (b:=.append) (xs:=#[.tmp 50,.tmp 52]) rfl ?_);at_builtin;refine Kd.R_append (Kd.int .i64) (w0:=w) w.heap.size rfl (.tmp 50) (.tmp 52) 33 3 (.int .i64 0) 8 rfl Try.underlying33 info3 rfl (by decide) (by omega) u7 x7_2 (rd (rd_L5 l0 x18_1) x24_2) [.int .i64 (rd (rd_L5 l0 x18_1) x24_2)] (fun _=>True) (fun _=>False) rfl rfl ?aP (fun _ hk=>hk.elim) ?aF ?aO ?aB ?aS ?aL ?_;(case aP=>exact rfl);(case aB=>exact (zsx7_1));(case aF=>exact (fun _ _=>trivial));(case aO=>exact (zsx7_8));(case aS=>exact (below_size (zsx7_1)));(case aL=>have:=LMc20.out;omega);intro v541 w21 ho hb hg hat;rw [← Ny540.out] at ho;have n0_:=aM7 (Kd.S_after (ok:=(fun _=>True)) (by (with_reducible repeat (first|apply Kd.S_alloc|apply Kd.S_drewN|apply Kd.S_drew));exact Kd.S_mono HO_4.out (fun _ hk=>⟨trivial,hk⟩)) hg hat);have n1_:=aM7 (hb);have n2_:=aM7 (ho);clear HO_4 HB HO_7;have HO_4:=n0_;have HB:=n1_;have HO542:=n2_;clear n0_ n1_ n2_ ho hb hg hat))
                 go_roundg k3
                 case measure=>have:=HK1.out;have:=HK2.out;have:=HK3.out;omega
                 case rel=>exact ⟨(y540),(wrap64 (x24_2 + 1)),(zsx7_2),H',⟨zsx7_10⟩,⟨by (with_reducible repeat (first|apply Kd.S_alloc|apply Kd.S_drewN|apply Kd.S_drew));exact Kd.S_mono HO_4.out (fun _ hk=>hk.2)⟩,⟨by (with_reducible repeat (first|apply Kd.R_alloc|apply Kd.R_drewN|apply Kd.R_drew));exact HO542.out⟩,⟨zsx7_1⟩⟩
                ·rw [if_neg c20] at H
                 exact absurd H (by simp)
           ·rw [if_neg c9] at H
            exact absurd H (by simp)
          ·rw [if_neg c8] at H
           exact absurd H (by simp)
         ·rw [if_neg c7] at H
          have c7b0:decide (x24_2 < ((rd_L5 l0 x18_1).length:Int))=false:=decide_eq_false c7
          clear c7
          by_cases c22:x4_1.length < 5864062014805
          ·rw [if_pos c22] at H
           have LMc22:=aM7 c22
           clear c22
           obtain ⟨y531,hy531⟩:∃ y_:List (List Int),y_=(x4_1 ++ [x7_2]):=⟨_,rfl⟩
           replace H:(spec_ReducedArcs.l0 k2 l0 y531 l0 (l0.length:Int) (wrap64 (x18_1 + 1)))=some (r1,r2):=by first|(rw [hy531];with_reducible exact H)|(have H2_:=(Option.bind_some _ _).symm.trans H;rw [hy531];with_reducible exact H2_)|(have H2_:=(Option.bind_some _ _).symm.trans H;with_reducible exact H2_)|with_reducible exact H|(rw [hy531];exact H)|exact H
           have Ny531:=aM7 hy531
           clear hy531
           have H':=aM7 H
           clear H
           obtain ⟨Ao24,co24,eo24⟩:=Kd.R_slice HO_7.out
           subst eo24
           go_wp2_with (first|((with_reducible refine gate_builtin (b:=.append) (xs:=#[.tmp 55,.tmp 57]) rfl ?_);at_builtin;refine Kd.S_append (Kd.slice 3 (Kd.int .i64)) (w0:=w) w.heap.size rfl (.tmp 55) (.tmp 57) 22 33 (.slice none 0 0) 24 rfl Try.underlying22 info33 rfl (by decide) (by omega) u4 x4_1 x7_2 [.slice Ao24 x7_2.length co24] (fun _=>True) (fun k_=>some k_=(.slice Ao24 x7_2.length co24:Value).ownBlock) rfl rfl ?aP (fun k_ hk_=>((Kd.R_mono (ok':=fun k_=>((fun _=>True)) k_∧some k_≠(u4:Value).ownBlock) (Kd.R_apart' (HO_7.out) (Kd.S_typed HO_4.out) (by decide)) (fun k_ hk=>⟨trivial,hk.2⟩))).1 k_ hk_.symm) ?aF ?aO ?aB ?aS ?aL ?_;(case aP=>exact Kd.M_row (Kd.R_mono (Kd.R_tight rfl (Kd.R_mono (ok':=fun k_=>((fun _=>True)) k_∧some k_≠(u4:Value).ownBlock) (Kd.R_apart' (HO_7.out) (Kd.S_typed HO_4.out) (by decide)) (fun k_ hk=>⟨trivial,hk.2⟩))) (fun _ h_=>h_)));(case aB=>exact (zsx7_1));(case aF=>exact (fun _ _=>trivial));(case aO=>exact (by (with_reducible repeat (first|apply Kd.S_alloc|apply Kd.S_drewN|apply Kd.S_drew));exact Kd.S_mono HO_4.out (fun k_ hk=>⟨trivial,fun e_=>hk e_⟩)));(case aS=>exact (below_size (zsx7_1)));(case aL=>have:=LMc22.out;omega);intro v532 w23 ho hb hg hat;rw [← Ny531.out] at ho;have n0_:=aM7 (hb);have n1_:=aM7 (ho);clear HB HO_4 HO_7;have HB:=n0_;have HO533:=n1_;clear n0_ n1_ ho hb hg hat))
           go_roundg k2
           case measure=>have:=HK1.out;have:=HK2.out;omega
           case rel=>exact ⟨(y531),(wrap64 (x18_1 + 1)),(zsx7_2),H',⟨by have:=HK1.out;have:=HK2.out;omega⟩,⟨by (with_reducible repeat (first|apply Kd.S_alloc|apply Kd.S_drewN|apply Kd.S_drew));exact HO533.out⟩,⟨zsx7_1⟩⟩
          ·rw [if_neg c22] at H
           exact absurd H (by simp)
      ·rw [if_neg c6] at H
       exact absurd H (by simp)
     ·rw [if_neg c5] at H
      exact absurd H (by simp)
    ·rw [if_neg c4] at H
     have c4b0:decide (x18_1 < (l0.length:Int))=false:=decide_eq_false c4
     clear c4
     simp only [Option.some.injEq,Prod.mk.injEq] at H
     obtain ⟨rfl,rfl⟩:=H
     go_wp2
     go_ret2
     exact ⟨_,zsx7_4,zsx7_7,zsx7_1⟩
 ·replace c3:=Bool.eq_false_iff.mpr c3
  subst c3
  have H1:(some (([]:List (List Int)),false))=some (r1,r2):=by rw [if_neg (show ¬ (false=true) by decide)] at H;exact H
  clear H
  have H:=H1
  clear H1
  simp only [Option.some.injEq,Prod.mk.injEq] at H
  obtain ⟨rfl,rfl⟩:=H
  go_enter Try.func24,Try.ntmps24
  go_wp2_with (first|((with_reducible refine gate_callee (f:=47) rfl ?_);refine goesL_ (some 14) rfl rfl Try.func47 (by kernel_rfl) rfl #[.slice A0 l0.length c0] rfl (zsx7_0) ?_;(with_reducible refine (spec_clArcs.calls k _ _ l0 false _ ?side1 ?side2 A2.out).mono ?_);(case side1=>exact zsx7_16);(case side2=>exact HC0.out);rintro e w' ⟨rfl,⟨nd,rfl⟩⟩;refine ⟨_,rfl,?_⟩))
  go_ret2
  exact ⟨_,zsx7_4,zsx7_13,zsx7_1⟩
mutual
def impl_goodValues.j0:Nat→List Int→Bool→Option (Bool)
 | 0,_,_=>none
 | k + 1,x0,x12=>if x12=true then (some false) else (impl_goodValues.l0 k x0 (x0.length:Int) 0)
def impl_goodValues.l0:Nat→List Int→Int→Int→Option (Bool)
 | 0,_,_,_=>none
 | k + 1,x13,x14,x15=>if x15 < x14 then (if 0≤x15 then (if x15 < (x13.length:Int) then (if (rd x13 x15) < (-1000000) then (some false) else (if (rd x13 x15) > 1000000 then (some false) else (impl_goodValues.l0 k x13 x14 (wrap64 (x15 + 1))))) else (none)) else (none)) else (some true)
end
def impl_goodValues.f (k:Nat) (l0:List Int):Option (Bool):=if (l0.length:Int) < 1 then (impl_goodValues.j0 k l0 true) else (impl_goodValues.j0 k l0 (decide ((l0.length:Int) > 120)))
set_option maxHeartbeats 8000000 in
set_option maxRecDepth 100000 in
theorem impl_goodValues.calls (k:Nat) (A0:Option Addr) (c0:Nat) (l0:List Int) (r:Bool) (w:World) (hr0:Kd.C (Kd.int .i64) w A0 l0.length l0) (hc0:l0.length≤c0) (h:impl_goodValues.f k l0=some r) :
  Calls Try.prog 68 #[.slice A0 l0.length c0] w fun e w'=>e=.returned (.bool r)∧Drawn0 w w':=by
 have HR0:=aM7 hr0
 have HC0:=aM7 hc0
 clear hr0 hc0
 have H:(if (l0.length:Int) < 1 then (impl_goodValues.j0 k l0 true) else (impl_goodValues.j0 k l0 (decide ((l0.length:Int) > 120))))=some r:=h
 clear h
 have HC2:=aM7 H
 clear H
 go_enter Try.func68,Try.ntmps68
 go_upto_region 1 with (fail)
 go_cut [12] (fun v12 wc=>∃ (kq:Nat) (x12_1:Bool),v12=.bool x12_1∧Aside0 (impl_goodValues.j0 kq l0 x12_1=some r)∧Aside0 (kq≤k)∧Drawn0 w wc)
 case first =>
  have H:=HC2.out
  clear HC2
  by_cases c3:(l0.length:Int) < 1
  ·rw [if_pos c3] at H
   have c3b0:decide ((l0.length:Int) < 1)=true:=dT7 c3
   have c3b1:decide (l0.length < 1)=true:=dT7 (by omega)
   clear c3
   (first|rw [c3b0]|(simp only [i64_w,i32_w];rw [c3b0])|skip)
   have H':=aM7 H
   clear H
   go_wp2
   go_meet
   case rel=>exact ⟨_,(true),(zsx7_2),H',⟨zsx7_3⟩,zsx7_14⟩
  ·rw [if_neg c3] at H
   have c3b0:decide ((l0.length:Int) < 1)=false:=decide_eq_false c3
   have c3b1:decide (l0.length < 1)=false:=decide_eq_false (by omega)
   clear c3
   (first|rw [c3b0]|(simp only [i64_w,i32_w];rw [c3b0])|skip)
   have H':=aM7 H
   clear H
   go_wp2
   go_meet
   case rel=>exact ⟨_,(decide ((l0.length:Int) > 120)),(zsx7_2),H',⟨zsx7_3⟩,zsx7_14⟩
 case rest =>
  clear HC2
  try clear p2
  try clear c3
  try clear c3b0
  try clear c3b1
  obtain ⟨kq,x12_1,rfl,HA,HJ1,⟨mc1,rfl⟩⟩:=hcut
  cases kq with
  | zero=>exact absurd HA.out (by simp [impl_goodValues.j0])
  | succ kj1 =>
   have H:=HA.out
   clear HA
   simp only [impl_goodValues.j0] at H
   by_cases c4:x12_1=true
   ·subst c4
    have H1:(some false)=some r:=by rw [if_pos rfl] at H;exact H
    clear H
    have H:=H1
    clear H1
    obtain rfl:=Option.some.inj H
    go_wp2
    go_ret
    exact ⟨zsx7_2,zsx7_14⟩
   ·replace c4:=Bool.eq_false_iff.mpr c4
    subst c4
    have H1:(impl_goodValues.l0 kj1 l0 (l0.length:Int) 0)=some r:=by rw [if_neg (show ¬ (false=true) by decide)] at H;exact H
    clear H
    have H:=H1
    clear H1
    have H':=aM7 H
    clear H
    go_wp2
    go_loopg [15] kj1 (fun kq v15 w'=>∃ (x15_2:Int),v15=.int .i64 x15_2∧Aside0 (impl_goodValues.l0 kq l0 (l0.length:Int) x15_2=some r)∧Aside0 (kq≤kj1)∧Drawn0 w w')
    case atStart=>exact ⟨(0),(zsx7_2),H',⟨Nat.le_refl _⟩,zsx7_14⟩
    case round =>
     clear H'
     try clear c1
     try clear p2
     try clear c3
     try clear c3b0
     try clear c3b1
     try clear c4
     try clear p2
     obtain ⟨x15_2,rfl,HA,HK2,⟨m2,rfl⟩⟩:=hrel
     cases gk with
     | zero=>exact absurd HA.out (by simp [impl_goodValues.l0])
     | succ k2 =>
      have H:=HA.out
      clear HA
      simp only [impl_goodValues.l0] at H
      by_cases c5:x15_2 < (l0.length:Int)
      ·rw [if_pos c5] at H
       have c5b0:decide (x15_2 < (l0.length:Int))=true:=dT7 c5
       clear c5
       by_cases c6:0≤x15_2
       ·rw [if_pos c6] at H
        have c6b0:decide (0≤x15_2)=true:=dT7 c6
        clear c6
        by_cases c7:x15_2 < (l0.length:Int)
        ·rw [if_pos c7] at H
         have c7b0:decide (x15_2 < (l0.length:Int))=true:=dT7 c7
         clear c7
         by_cases c8:(rd l0 x15_2) < (-1000000)
         ·rw [if_pos c8] at H
          have c8b0:decide ((rd l0 x15_2) < (-1000000))=true:=dT7 c8
          clear c8
          obtain rfl:=Option.some.inj H
          have p638:0≤(x15_2:Int):=oD7 (zsx7_6)
          have q638:x15_2 < (l0.length:Int):=oD7 (zsx7_6)
          obtain ⟨ad638,e638,hx638_0⟩:=Kd.at_int HR0.out x15_2 p638 q638
          cases e638
          replace p638:=eq_true p638
          replace q638:=eq_true q638
          go_wp2
          go_ret
          exact ⟨zsx7_2,zsx7_14⟩
         ·rw [if_neg c8] at H
          have c8b0:decide ((rd l0 x15_2) < (-1000000))=false:=decide_eq_false c8
          clear c8
          by_cases c9:(rd l0 x15_2) > 1000000
          ·rw [if_pos c9] at H
           have c9b0:decide (1000000 < (rd l0 x15_2))=true:=dT7 c9
           clear c9
           obtain rfl:=Option.some.inj H
           have p638:0≤(x15_2:Int):=oD7 (zsx7_6)
           have q638:x15_2 < (l0.length:Int):=oD7 (zsx7_6)
           obtain ⟨ad638,e638,hx638_0⟩:=Kd.at_int HR0.out x15_2 p638 q638
           cases e638
           replace p638:=eq_true p638
           replace q638:=eq_true q638
           go_wp2
           go_ret
           exact ⟨zsx7_2,zsx7_14⟩
          ·rw [if_neg c9] at H
           have c9b0:decide (1000000 < (rd l0 x15_2))=false:=decide_eq_false c9
           clear c9
           have H':=aM7 H
           clear H
           have p638:0≤(x15_2:Int):=oD7 (zsx7_6)
           have q638:x15_2 < (l0.length:Int):=oD7 (zsx7_6)
           obtain ⟨ad638,e638,hx638_0⟩:=Kd.at_int HR0.out x15_2 p638 q638
           cases e638
           replace p638:=eq_true p638
           replace q638:=eq_true q638
           go_wp2
           go_roundg k2
           case measure=>have:=HJ1.out;have:=HK2.out;omega
           case rel=>exact ⟨(wrap64 (x15_2 + 1)),(zsx7_2),H',⟨by have:=HJ1.out;have:=HK2.out;omega⟩,zsx7_14⟩
        ·rw [if_neg c7] at H
         exact absurd H (by simp)
       ·rw [if_neg c6] at H
        exact absurd H (by simp)
      ·rw [if_neg c5] at H
       have c5b0:decide (x15_2 < (l0.length:Int))=false:=decide_eq_false c5
       clear c5
       obtain rfl:=Option.some.inj H
       go_wp2
       go_ret
       exact ⟨zsx7_2,zsx7_14⟩
def impl_valueSum.l0:Nat→List Int→Int→List Int→Int→Int→Option (Int)
 | 0,_,_,_,_,_=>none
 | k + 1,x0,x5,x8,x9,x10=>if x10 < x9 then (if 0≤x10 then (if x10 < (x8.length:Int) then (if 0≤(rd x8 x10) then (if (rd x8 x10) < (x0.length:Int) then (impl_valueSum.l0 k x0 (wrap64 (x5 + (rd x0 (rd x8 x10)))) x8 x9 (wrap64 (x10 + 1))) else (none)) else (none)) else (none)) else (none)) else (some x5)
def impl_valueSum.f (k:Nat) (l0:List Int) (l1:List Int):Option (Int):=impl_valueSum.l0 k l0 0 l1 (l1.length:Int) 0
set_option maxHeartbeats 8000000 in
set_option maxRecDepth 100000 in
theorem impl_valueSum.calls (k:Nat) (A0:Option Addr) (c0:Nat) (l0:List Int) (A1:Option Addr) (c1:Nat) (l1:List Int) (r:Int) (w:World) (hr0:Kd.C (Kd.int .i64) w A0 l0.length l0) (hc0:l0.length≤c0) (hr1:Kd.C (Kd.int .i64) w A1 l1.length l1) (hc1:l1.length≤c1) (h:impl_valueSum.f k l0 l1=some r) :
  Calls Try.prog 69 #[.slice A0 l0.length c0,.slice A1 l1.length c1] w fun e w'=>e=.returned (.int .i64 r)∧Drawn0 w w':=by
 have HR0:=aM7 hr0
 have HC0:=aM7 hc0
 clear hr0 hc0
 have HR1:=aM7 hr1
 have HC1:=aM7 hc1
 clear hr1 hc1
 have H:(impl_valueSum.l0 k l0 0 l1 (l1.length:Int) 0)=some r:=h
 clear h
 have H':=aM7 H
 clear H
 go_enter Try.func69,Try.ntmps69
 go_wp2
 go_loopg [5,10] k (fun kq v5 v10 w'=>∃ (x5_1:Int) (x10_1:Int),v5=.int .i64 x5_1∧v10=.int .i64 x10_1∧Aside0 (impl_valueSum.l0 kq l0 x5_1 l1 (l1.length:Int) x10_1=some r)∧Aside0 (kq≤k)∧Drawn0 w w')
 case atStart=>exact ⟨(0),(0),(zsx7_2),(zsx7_2),H',⟨Nat.le_refl _⟩,zsx7_14⟩
 case round =>
  clear H'
  try clear c1
  try clear p2
  obtain ⟨x5_1,x10_1,rfl,rfl,HA,HK1,⟨m1,rfl⟩⟩:=hrel
  cases gk with
  | zero=>exact absurd HA.out (by simp [impl_valueSum.l0])
  | succ k1 =>
   have H:=HA.out
   clear HA
   simp only [impl_valueSum.l0] at H
   by_cases c3:x10_1 < (l1.length:Int)
   ·rw [if_pos c3] at H
    have c3b0:decide (x10_1 < (l1.length:Int))=true:=dT7 c3
    clear c3
    by_cases c4:0≤x10_1
    ·rw [if_pos c4] at H
     have c4b0:decide (0≤x10_1)=true:=dT7 c4
     clear c4
     by_cases c5:x10_1 < (l1.length:Int)
     ·rw [if_pos c5] at H
      have c5b0:decide (x10_1 < (l1.length:Int))=true:=dT7 c5
      clear c5
      by_cases c6:0≤(rd l1 x10_1)
      ·rw [if_pos c6] at H
       have c6b0:decide (0≤(rd l1 x10_1))=true:=dT7 c6
       clear c6
       by_cases c7:(rd l1 x10_1) < (l0.length:Int)
       ·rw [if_pos c7] at H
        have c7b0:decide ((rd l1 x10_1) < (l0.length:Int))=true:=dT7 c7
        clear c7
        have H':=aM7 H
        clear H
        have p639:0≤(x10_1:Int):=oD7 (zsx7_6)
        have q639:x10_1 < (l1.length:Int):=oD7 (zsx7_6)
        obtain ⟨ad639,e639,hx639_0⟩:=Kd.at_int HR1.out x10_1 p639 q639
        cases e639
        replace p639:=eq_true p639
        replace q639:=eq_true q639
        have p640:0≤((rd l1 x10_1):Int):=oD7 (zsx7_6)
        have q640:(rd l1 x10_1) < (l0.length:Int):=oD7 (zsx7_6)
        obtain ⟨ad640,e640,hx640_0⟩:=Kd.at_int HR0.out (rd l1 x10_1) p640 q640
        cases e640
        replace p640:=eq_true p640
        replace q640:=eq_true q640
        go_wp2
        go_roundg k1
        case measure=>have:=HK1.out;omega
        case rel=>exact ⟨(wrap64 (x5_1 + (rd l0 (rd l1 x10_1)))),(wrap64 (x10_1 + 1)),(zsx7_2),(zsx7_2),H',⟨by have:=HK1.out;omega⟩,zsx7_14⟩
       ·rw [if_neg c7] at H
        exact absurd H (by simp)
      ·rw [if_neg c6] at H
       exact absurd H (by simp)
     ·rw [if_neg c5] at H
      exact absurd H (by simp)
    ·rw [if_neg c4] at H
     exact absurd H (by simp)
   ·rw [if_neg c3] at H
    have c3b0:decide (x10_1 < (l1.length:Int))=false:=decide_eq_false c3
    clear c3
    obtain rfl:=Option.some.inj H
    go_wp2
    go_ret
    exact ⟨zsx7_2,zsx7_14⟩
def impl_ValueOf.f (k:Nat) (l0:List Int) (l1:List Int):Option (Int × Bool):=(impl_goodValues.f k l0).bind fun t641=>(if t641=true then ((impl_areBlocks.f k l1 (l0.length:Int)).bind fun t642=>(if t642=true then ((impl_valueSum.f k l0 l1).bind fun t643=>(some (t643,true))) else (some (0,false)))) else (some (0,false)))
set_option maxHeartbeats 8000000 in
set_option maxRecDepth 100000 in
theorem impl_ValueOf.calls (k:Nat) (A0:Option Addr) (c0:Nat) (l0:List Int) (A1:Option Addr) (c1:Nat) (l1:List Int) (r1:Int) (r2:Bool) (w:World) (hr0:Kd.C (Kd.int .i64) w A0 l0.length l0) (hc0:l0.length≤c0) (hr1:Kd.C (Kd.int .i64) w A1 l1.length l1) (hc1:l1.length≤c1) (h:impl_ValueOf.f k l0 l1=some (r1,r2)) :
  Calls Try.prog 28 #[.slice A0 l0.length c0,.slice A1 l1.length c1] w fun e w'=>e=.returned (.tuple #[.int .i64 r1,.bool r2])∧Drawn0 w w':=by
 have HR0:=aM7 hr0
 have HC0:=aM7 hc0
 clear hr0 hc0
 have HR1:=aM7 hr1
 have HC1:=aM7 hc1
 clear hr1 hc1
 have H:((impl_goodValues.f k l0).bind fun t641=>(if t641=true then ((impl_areBlocks.f k l1 (l0.length:Int)).bind fun t642=>(if t642=true then ((impl_valueSum.f k l0 l1).bind fun t643=>(some (t643,true))) else (some (0,false)))) else (some (0,false))))=some (r1,r2):=h
 clear h
 replace H:=bI7.mp H
 obtain ⟨t641,A30,H⟩:=H
 replace H:(if t641=true then ((impl_areBlocks.f k l1 (l0.length:Int)).bind fun t642=>(if t642=true then ((impl_valueSum.f k l0 l1).bind fun t643=>(some (t643,true))) else (some (0,false)))) else (some (0,false)))=some (r1,r2):=H
 have A3:=aM7 A30
 clear A30
 by_cases c4:t641=true
 ·subst c4
  have H1:((impl_areBlocks.f k l1 (l0.length:Int)).bind fun t642=>(if t642=true then ((impl_valueSum.f k l0 l1).bind fun t643=>(some (t643,true))) else (some (0,false))))=some (r1,r2):=by rw [if_pos rfl] at H;exact H
  clear H
  have H:=H1
  clear H1
  replace H:=bI7.mp H
  obtain ⟨t642,A50,H⟩:=H
  replace H:(if t642=true then ((impl_valueSum.f k l0 l1).bind fun t643=>(some (t643,true))) else (some (0,false)))=some (r1,r2):=H
  have A5:=aM7 A50
  clear A50
  by_cases c6:t642=true
  ·subst c6
   have H1:((impl_valueSum.f k l0 l1).bind fun t643=>(some (t643,true)))=some (r1,r2):=by rw [if_pos rfl] at H;exact H
   clear H
   have H:=H1
   clear H1
   replace H:=bI7.mp H
   obtain ⟨t643,A70,H⟩:=H
   replace H:(some (t643,true))=some (r1,r2):=H
   have A7:=aM7 A70
   clear A70
   simp only [Option.some.injEq,Prod.mk.injEq] at H
   obtain ⟨rfl,rfl⟩:=H
   go_enter Try.func28,Try.ntmps28
   go_wp2_with (first|((with_reducible refine gate_callee (f:=68) rfl ?_);refine goesL_ (some 7) rfl rfl Try.func68 (by kernel_rfl) rfl #[.slice A0 l0.length c0] rfl (zsx7_0) ?_;(with_reducible refine (impl_goodValues.calls k _ _ l0 true _ ?side1 ?side2 A3.out).mono ?_);(case side1=>exact zsx7_16);(case side2=>exact HC0.out);rintro e w' ⟨rfl,⟨nd,rfl⟩⟩;refine ⟨_,rfl,?_⟩)|(go_at_call 61;(with_reducible refine (impl_areBlocks.calls k _ _ l1 (l0.length:Int) true _ ?side1 ?side2 A5.out).mono ?_);(case side1=>exact zsx7_17);(case side2=>exact HC1.out);rintro e w' ⟨rfl,⟨nd,rfl⟩⟩)|((with_reducible refine gate_callee (f:=69) rfl ?_);refine goesL_ (some 18) rfl rfl Try.func69 (by kernel_rfl) rfl #[.slice A0 l0.length c0,.slice A1 l1.length c1] rfl (zsx7_0) ?_;(with_reducible refine (impl_valueSum.calls k _ _ l0 _ _ l1 t643 _ ?side1 ?side2 ?side3 ?side4 A7.out).mono ?_);(case side1=>exact zsx7_16);(case side2=>exact HC0.out);(case side3=>exact zsx7_17);(case side4=>exact HC1.out);rintro e w' ⟨rfl,⟨nd,rfl⟩⟩;refine ⟨_,rfl,?_⟩))
   go_ret2
   exact ⟨zsx7_2,zsx7_14⟩
  ·replace c6:=Bool.eq_false_iff.mpr c6
   subst c6
   have H1:(some (0,false))=some (r1,r2):=by rw [if_neg (show ¬ (false=true) by decide)] at H;exact H
   clear H
   have H:=H1
   clear H1
   simp only [Option.some.injEq,Prod.mk.injEq] at H
   obtain ⟨rfl,rfl⟩:=H
   go_enter Try.func28,Try.ntmps28
   go_wp2_with (first|((with_reducible refine gate_callee (f:=68) rfl ?_);refine goesL_ (some 7) rfl rfl Try.func68 (by kernel_rfl) rfl #[.slice A0 l0.length c0] rfl (zsx7_0) ?_;(with_reducible refine (impl_goodValues.calls k _ _ l0 true _ ?side1 ?side2 A3.out).mono ?_);(case side1=>exact zsx7_16);(case side2=>exact HC0.out);rintro e w' ⟨rfl,⟨nd,rfl⟩⟩;refine ⟨_,rfl,?_⟩)|(go_at_call 61;(with_reducible refine (impl_areBlocks.calls k _ _ l1 (l0.length:Int) false _ ?side1 ?side2 A5.out).mono ?_);(case side1=>exact zsx7_17);(case side2=>exact HC1.out);rintro e w' ⟨rfl,⟨nd,rfl⟩⟩))
   go_ret2
   exact ⟨zsx7_2,zsx7_14⟩
 ·replace c4:=Bool.eq_false_iff.mpr c4
  subst c4
  have H1:(some (0,false))=some (r1,r2):=by rw [if_neg (show ¬ (false=true) by decide)] at H;exact H
  clear H
  have H:=H1
  clear H1
  simp only [Option.some.injEq,Prod.mk.injEq] at H
  obtain ⟨rfl,rfl⟩:=H
  go_enter Try.func28,Try.ntmps28
  go_wp2_with (first|((with_reducible refine gate_callee (f:=68) rfl ?_);refine goesL_ (some 7) rfl rfl Try.func68 (by kernel_rfl) rfl #[.slice A0 l0.length c0] rfl (zsx7_0) ?_;(with_reducible refine (impl_goodValues.calls k _ _ l0 false _ ?side1 ?side2 A3.out).mono ?_);(case side1=>exact zsx7_16);(case side2=>exact HC0.out);rintro e w' ⟨rfl,⟨nd,rfl⟩⟩;refine ⟨_,rfl,?_⟩))
  go_ret2
  exact ⟨zsx7_2,zsx7_14⟩
def spec_l1All.l0:Nat→Int→Int→List Int→Int→Int→Option (Bool)
 | 0,_,_,_,_,_=>none
 | k + 1,x1,x2,x9,x10,x11=>if x11 < x10 then (if 0≤x11 then (if x11 < (x9.length:Int) then ((spec_l1In.f (rd x9 x11) x1 x2).bind fun t645=>(if t645=true then (spec_l1All.l0 k x1 x2 x9 x10 (wrap64 (x11 + 1))) else (some false))) else (none)) else (none)) else (some true)
def spec_l1All.f (k:Nat) (l0:List Int) (a1:Int) (a2:Int):Option (Bool):=spec_l1All.l0 k a1 a2 l0 (l0.length:Int) 0
set_option maxHeartbeats 8000000 in
set_option maxRecDepth 100000 in
theorem spec_l1All.calls (k:Nat) (A0:Option Addr) (c0:Nat) (l0:List Int) (a1:Int) (a2:Int) (r:Bool) (w:World) (hr0:Kd.C (Kd.int .i64) w A0 l0.length l0) (hc0:l0.length≤c0) (h:spec_l1All.f k l0 a1 a2=some r) :
  Calls Try.prog 71 #[.slice A0 l0.length c0,.int .i64 a1,.int .i64 a2] w fun e w'=>e=.returned (.bool r)∧Drawn0 w w':=by
 have HR0:=aM7 hr0
 have HC0:=aM7 hc0
 clear hr0 hc0
 have H:(spec_l1All.l0 k a1 a2 l0 (l0.length:Int) 0)=some r:=h
 clear h
 have H':=aM7 H
 clear H
 go_enter Try.func71,Try.ntmps71
 go_wp2
 go_loopg [11] k (fun kq v11 w'=>∃ (x11_1:Int),v11=.int .i64 x11_1∧Aside0 (spec_l1All.l0 kq a1 a2 l0 (l0.length:Int) x11_1=some r)∧Aside0 (kq≤k)∧Drawn0 w w')
 case atStart=>exact ⟨(0),(zsx7_2),H',⟨Nat.le_refl _⟩,zsx7_14⟩
 case round =>
  clear H'
  try clear p2
  obtain ⟨x11_1,rfl,HA,HK1,⟨m1,rfl⟩⟩:=hrel
  cases gk with
  | zero=>exact absurd HA.out (by simp [spec_l1All.l0])
  | succ k1 =>
   have H:=HA.out
   clear HA
   simp only [spec_l1All.l0] at H
   by_cases c4:x11_1 < (l0.length:Int)
   ·rw [if_pos c4] at H
    have c4b0:decide (x11_1 < (l0.length:Int))=true:=dT7 c4
    clear c4
    by_cases c5:0≤x11_1
    ·rw [if_pos c5] at H
     have c5b0:decide (0≤x11_1)=true:=dT7 c5
     clear c5
     by_cases c6:x11_1 < (l0.length:Int)
     ·rw [if_pos c6] at H
      have c6b0:decide (x11_1 < (l0.length:Int))=true:=dT7 c6
      clear c6
      replace H:=bI7.mp H
      obtain ⟨t645,A70,H⟩:=H
      replace H:(if t645=true then (spec_l1All.l0 k1 a1 a2 l0 (l0.length:Int) (wrap64 (x11_1 + 1))) else (some false))=some r:=H
      have A7:=aM7 A70
      clear A70
      by_cases c8:t645=true
      ·subst c8
       have H1:(spec_l1All.l0 k1 a1 a2 l0 (l0.length:Int) (wrap64 (x11_1 + 1)))=some r:=by rw [if_pos rfl] at H;exact H
       clear H
       have H:=H1
       clear H1
       have H':=aM7 H
       clear H
       have p644:0≤(x11_1:Int):=oD7 (zsx7_6)
       have q644:x11_1 < (l0.length:Int):=oD7 (zsx7_6)
       obtain ⟨ad644,e644,hx644_0⟩:=Kd.at_int HR0.out x11_1 p644 q644
       cases e644
       replace p644:=eq_true p644
       replace q644:=eq_true q644
       go_wp2_with (first|((with_reducible refine gate_callee (f:=70) rfl ?_);refine goesL_ (some 18) rfl rfl Try.func70 (by kernel_rfl) rfl #[.int .i64 (rd l0 x11_1),.int .i64 a1,.int .i64 a2] rfl (zsx7_0) ?_;(with_reducible refine (spec_l1In.calls (rd l0 x11_1) a1 a2 true _ A7.out).mono ?_);rintro e w' ⟨rfl,⟨nd,rfl⟩⟩;refine ⟨_,rfl,?_⟩))
       go_roundg k1
       case measure=>have:=HK1.out;omega
       case rel=>exact ⟨(wrap64 (x11_1 + 1)),(zsx7_2),H',⟨by have:=HK1.out;omega⟩,zsx7_14⟩
      ·replace c8:=Bool.eq_false_iff.mpr c8
       subst c8
       have H1:(some false)=some r:=by rw [if_neg (show ¬ (false=true) by decide)] at H;exact H
       clear H
       have H:=H1
       clear H1
       obtain rfl:=Option.some.inj H
       have p644:0≤(x11_1:Int):=oD7 (zsx7_6)
       have q644:x11_1 < (l0.length:Int):=oD7 (zsx7_6)
       obtain ⟨ad644,e644,hx644_0⟩:=Kd.at_int HR0.out x11_1 p644 q644
       cases e644
       replace p644:=eq_true p644
       replace q644:=eq_true q644
       go_wp2_with (first|((with_reducible refine gate_callee (f:=70) rfl ?_);refine goesL_ (some 18) rfl rfl Try.func70 (by kernel_rfl) rfl #[.int .i64 (rd l0 x11_1),.int .i64 a1,.int .i64 a2] rfl (zsx7_0) ?_;(with_reducible refine (spec_l1In.calls (rd l0 x11_1) a1 a2 false _ A7.out).mono ?_);rintro e w' ⟨rfl,⟨nd,rfl⟩⟩;refine ⟨_,rfl,?_⟩))
       go_ret
       exact ⟨zsx7_2,zsx7_14⟩
     ·rw [if_neg c6] at H
      exact absurd H (by simp)
    ·rw [if_neg c5] at H
     exact absurd H (by simp)
   ·rw [if_neg c4] at H
    have c4b0:decide (x11_1 < (l0.length:Int))=false:=decide_eq_false c4
    clear c4
    obtain rfl:=Option.some.inj H
    go_wp2
    go_ret
    exact ⟨zsx7_2,zsx7_14⟩
mutual
def spec_ValueOf.j0:Nat→List Int→List Int→Bool→Option (Int × Bool)
 | 0,_,_,_=>none
 | k + 1,x0,x1,x25=>if x25=true then (some (0,false)) else (spec_ValueOf.l0 k x0 0 x1 (x1.length:Int) 0)
def spec_ValueOf.l0:Nat→List Int→Int→List Int→Int→Int→Option (Int × Bool)
 | 0,_,_,_,_,_=>none
 | k + 1,x0,x6,x26,x27,x28=>if x28 < x27 then (if 0≤x28 then (if x28 < (x26.length:Int) then (if 0≤(rd x26 x28) then (if (rd x26 x28) < (x0.length:Int) then (spec_ValueOf.l0 k x0 (wrap64 (x6 + (rd x0 (rd x26 x28)))) x26 x27 (wrap64 (x28 + 1))) else (none)) else (none)) else (none)) else (none)) else (some (x6,true))
end
def spec_ValueOf.f (k:Nat) (l0:List Int) (l1:List Int):Option (Int × Bool):=(spec_l1In.f (l0.length:Int) 1 120).bind fun t646=>(if t646=true then ((spec_l1All.f k l0 (-1000000) 1000000).bind fun t647=>(if t647=true then ((spec_l1Rising.f k l1 0 (wrap64 ((l0.length:Int) - 1))).bind fun t648=>(spec_ValueOf.j0 k l0 l1 (!t648))) else (spec_ValueOf.j0 k l0 l1 true))) else (spec_ValueOf.j0 k l0 l1 true))
set_option maxHeartbeats 8000000 in
set_option maxRecDepth 100000 in
theorem spec_ValueOf.calls (k:Nat) (A0:Option Addr) (c0:Nat) (l0:List Int) (A1:Option Addr) (c1:Nat) (l1:List Int) (r1:Int) (r2:Bool) (w:World) (hr0:Kd.C (Kd.int .i64) w A0 l0.length l0) (hc0:l0.length≤c0) (hr1:Kd.C (Kd.int .i64) w A1 l1.length l1) (hc1:l1.length≤c1) (h:spec_ValueOf.f k l0 l1=some (r1,r2)) :
  Calls Try.prog 29 #[.slice A0 l0.length c0,.slice A1 l1.length c1] w fun e w'=>e=.returned (.tuple #[.int .i64 r1,.bool r2])∧Drawn0 w w':=by
 have HR0:=aM7 hr0
 have HC0:=aM7 hc0
 clear hr0 hc0
 have HR1:=aM7 hr1
 have HC1:=aM7 hc1
 clear hr1 hc1
 have H:((spec_l1In.f (l0.length:Int) 1 120).bind fun t646=>(if t646=true then ((spec_l1All.f k l0 (-1000000) 1000000).bind fun t647=>(if t647=true then ((spec_l1Rising.f k l1 0 (wrap64 ((l0.length:Int) - 1))).bind fun t648=>(spec_ValueOf.j0 k l0 l1 (!t648))) else (spec_ValueOf.j0 k l0 l1 true))) else (spec_ValueOf.j0 k l0 l1 true)))=some (r1,r2):=h
 clear h
 have HC3:=aM7 H
 clear H
 go_enter Try.func29,Try.ntmps29
 go_upto_region 1 with (fail)
 go_cut [25] (fun v25 wc=>∃ (kq:Nat) (x25_2:Bool),v25=.bool x25_2∧Aside0 (spec_ValueOf.j0 kq l0 l1 x25_2=some (r1,r2))∧Aside0 (kq≤k)∧Drawn0 w wc)
 case first =>
  have H:=HC3.out
  clear HC3
  replace H:=bI7.mp H
  obtain ⟨t646,A40,H⟩:=H
  replace H:(if t646=true then ((spec_l1All.f k l0 (-1000000) 1000000).bind fun t647=>(if t647=true then ((spec_l1Rising.f k l1 0 (wrap64 ((l0.length:Int) - 1))).bind fun t648=>(spec_ValueOf.j0 k l0 l1 (!t648))) else (spec_ValueOf.j0 k l0 l1 true))) else (spec_ValueOf.j0 k l0 l1 true))=some (r1,r2):=H
  have A4:=aM7 A40
  clear A40
  by_cases c5:t646=true
  ·subst c5
   have H1:((spec_l1All.f k l0 (-1000000) 1000000).bind fun t647=>(if t647=true then ((spec_l1Rising.f k l1 0 (wrap64 ((l0.length:Int) - 1))).bind fun t648=>(spec_ValueOf.j0 k l0 l1 (!t648))) else (spec_ValueOf.j0 k l0 l1 true)))=some (r1,r2):=by rw [if_pos rfl] at H;exact H
   clear H
   have H:=H1
   clear H1
   replace H:=bI7.mp H
   obtain ⟨t647,A60,H⟩:=H
   replace H:(if t647=true then ((spec_l1Rising.f k l1 0 (wrap64 ((l0.length:Int) - 1))).bind fun t648=>(spec_ValueOf.j0 k l0 l1 (!t648))) else (spec_ValueOf.j0 k l0 l1 true))=some (r1,r2):=H
   have A6:=aM7 A60
   clear A60
   by_cases c7:t647=true
   ·subst c7
    have H1:((spec_l1Rising.f k l1 0 (wrap64 ((l0.length:Int) - 1))).bind fun t648=>(spec_ValueOf.j0 k l0 l1 (!t648)))=some (r1,r2):=by rw [if_pos rfl] at H;exact H
    clear H
    have H:=H1
    clear H1
    replace H:=bI7.mp H
    obtain ⟨t648,A80,H⟩:=H
    replace H:(spec_ValueOf.j0 k l0 l1 (!t648))=some (r1,r2):=H
    have A8:=aM7 A80
    clear A80
    have H':=aM7 H
    clear H
    go_wp2_with (first|((with_reducible refine gate_callee (f:=70) rfl ?_);refine goesL_ (some 11) rfl rfl Try.func70 (by kernel_rfl) rfl #[.int .i64 (l0.length:Int),.int .i64 1,.int .i64 120] rfl (zsx7_0) ?_;(with_reducible refine (spec_l1In.calls (l0.length:Int) 1 120 true _ A4.out).mono ?_);rintro e w' ⟨rfl,⟨nd,rfl⟩⟩;refine ⟨_,rfl,?_⟩)|(go_at_call 71;(with_reducible refine (spec_l1All.calls k _ _ l0 (-1000000) 1000000 true _ ?side1 ?side2 A6.out).mono ?_);(case side1=>exact zsx7_16);(case side2=>exact HC0.out);rintro e w' ⟨rfl,⟨nd,rfl⟩⟩)|(go_at_call 72;(with_reducible refine (spec_l1Rising.calls k _ _ l1 0 (wrap64 ((l0.length:Int) - 1)) t648 _ ?side1 ?side2 A8.out).mono ?_);(case side1=>exact zsx7_17);(case side2=>exact HC1.out);rintro e w' ⟨rfl,⟨nd,rfl⟩⟩))
    go_meet
    case rel=>exact ⟨_,(!t648),(zsx7_2),H',⟨zsx7_3⟩,zsx7_14⟩
   ·replace c7:=Bool.eq_false_iff.mpr c7
    subst c7
    have H1:(spec_ValueOf.j0 k l0 l1 true)=some (r1,r2):=by rw [if_neg (show ¬ (false=true) by decide)] at H;exact H
    clear H
    have H:=H1
    clear H1
    have H':=aM7 H
    clear H
    go_wp2_with (first|((with_reducible refine gate_callee (f:=70) rfl ?_);refine goesL_ (some 11) rfl rfl Try.func70 (by kernel_rfl) rfl #[.int .i64 (l0.length:Int),.int .i64 1,.int .i64 120] rfl (zsx7_0) ?_;(with_reducible refine (spec_l1In.calls (l0.length:Int) 1 120 true _ A4.out).mono ?_);rintro e w' ⟨rfl,⟨nd,rfl⟩⟩;refine ⟨_,rfl,?_⟩)|(go_at_call 71;(with_reducible refine (spec_l1All.calls k _ _ l0 (-1000000) 1000000 false _ ?side1 ?side2 A6.out).mono ?_);(case side1=>exact zsx7_16);(case side2=>exact HC0.out);rintro e w' ⟨rfl,⟨nd,rfl⟩⟩))
    go_meet
    case rel=>exact ⟨_,(true),(zsx7_2),H',⟨zsx7_3⟩,zsx7_14⟩
  ·replace c5:=Bool.eq_false_iff.mpr c5
   subst c5
   have H1:(spec_ValueOf.j0 k l0 l1 true)=some (r1,r2):=by rw [if_neg (show ¬ (false=true) by decide)] at H;exact H
   clear H
   have H:=H1
   clear H1
   have H':=aM7 H
   clear H
   go_wp2_with (first|((with_reducible refine gate_callee (f:=70) rfl ?_);refine goesL_ (some 11) rfl rfl Try.func70 (by kernel_rfl) rfl #[.int .i64 (l0.length:Int),.int .i64 1,.int .i64 120] rfl (zsx7_0) ?_;(with_reducible refine (spec_l1In.calls (l0.length:Int) 1 120 false _ A4.out).mono ?_);rintro e w' ⟨rfl,⟨nd,rfl⟩⟩;refine ⟨_,rfl,?_⟩))
   go_meet
   case rel=>exact ⟨_,(true),(zsx7_2),H',⟨zsx7_3⟩,zsx7_14⟩
 case rest =>
  clear HC3
  try clear c1
  try clear c2
  try clear p2
  try clear c5
  try clear p6
  try clear c7
  obtain ⟨kq,x25_2,rfl,HA,HJ2,⟨mc2,rfl⟩⟩:=hcut
  cases kq with
  | zero=>exact absurd HA.out (by simp [spec_ValueOf.j0])
  | succ kj2 =>
   have H:=HA.out
   clear HA
   simp only [spec_ValueOf.j0] at H
   by_cases c9:x25_2=true
   ·subst c9
    have H1:(some (0,false))=some (r1,r2):=by rw [if_pos rfl] at H;exact H
    clear H
    have H:=H1
    clear H1
    simp only [Option.some.injEq,Prod.mk.injEq] at H
    obtain ⟨rfl,rfl⟩:=H
    go_wp2
    go_ret2
    exact ⟨zsx7_2,zsx7_14⟩
   ·replace c9:=Bool.eq_false_iff.mpr c9
    subst c9
    have H1:(spec_ValueOf.l0 kj2 l0 0 l1 (l1.length:Int) 0)=some (r1,r2):=by rw [if_neg (show ¬ (false=true) by decide)] at H;exact H
    clear H
    have H:=H1
    clear H1
    have H':=aM7 H
    clear H
    go_wp2
    go_loopg [6,28] kj2 (fun kq v6 v28 w'=>∃ (x6_2:Int) (x28_2:Int),v6=.int .i64 x6_2∧v28=.int .i64 x28_2∧Aside0 (spec_ValueOf.l0 kq l0 x6_2 l1 (l1.length:Int) x28_2=some (r1,r2))∧Aside0 (kq≤kj2)∧Drawn0 w w')
    case atStart=>exact ⟨(0),(0),(zsx7_2),(zsx7_2),H',⟨Nat.le_refl _⟩,zsx7_14⟩
    case round =>
     clear H'
     try clear c1
     try clear c2
     try clear p2
     try clear c5
     try clear p6
     try clear c7
     try clear c9
     try clear p2
     try clear p6
     obtain ⟨x6_2,x28_2,rfl,rfl,HA,HK2,⟨m2,rfl⟩⟩:=hrel
     cases gk with
     | zero=>exact absurd HA.out (by simp [spec_ValueOf.l0])
     | succ k2 =>
      have H:=HA.out
      clear HA
      simp only [spec_ValueOf.l0] at H
      by_cases c10:x28_2 < (l1.length:Int)
      ·rw [if_pos c10] at H
       have c10b0:decide (x28_2 < (l1.length:Int))=true:=dT7 c10
       clear c10
       by_cases c11:0≤x28_2
       ·rw [if_pos c11] at H
        have c11b0:decide (0≤x28_2)=true:=dT7 c11
        clear c11
        by_cases c12:x28_2 < (l1.length:Int)
        ·rw [if_pos c12] at H
         have c12b0:decide (x28_2 < (l1.length:Int))=true:=dT7 c12
         clear c12
         by_cases c13:0≤(rd l1 x28_2)
         ·rw [if_pos c13] at H
          have c13b0:decide (0≤(rd l1 x28_2))=true:=dT7 c13
          clear c13
          by_cases c14:(rd l1 x28_2) < (l0.length:Int)
          ·rw [if_pos c14] at H
           have c14b0:decide ((rd l1 x28_2) < (l0.length:Int))=true:=dT7 c14
           clear c14
           have H':=aM7 H
           clear H
           have p649:0≤(x28_2:Int):=oD7 (zsx7_6)
           have q649:x28_2 < (l1.length:Int):=oD7 (zsx7_6)
           obtain ⟨ad649,e649,hx649_0⟩:=Kd.at_int HR1.out x28_2 p649 q649
           cases e649
           replace p649:=eq_true p649
           replace q649:=eq_true q649
           have p650:0≤((rd l1 x28_2):Int):=oD7 (zsx7_6)
           have q650:(rd l1 x28_2) < (l0.length:Int):=oD7 (zsx7_6)
           obtain ⟨ad650,e650,hx650_0⟩:=Kd.at_int HR0.out (rd l1 x28_2) p650 q650
           cases e650
           replace p650:=eq_true p650
           replace q650:=eq_true q650
           go_wp2
           go_roundg k2
           case measure=>have:=HJ2.out;have:=HK2.out;omega
           case rel=>exact ⟨(wrap64 (x6_2 + (rd l0 (rd l1 x28_2)))),(wrap64 (x28_2 + 1)),(zsx7_2),(zsx7_2),H',⟨by have:=HJ2.out;have:=HK2.out;omega⟩,zsx7_14⟩
          ·rw [if_neg c14] at H
           exact absurd H (by simp)
         ·rw [if_neg c13] at H
          exact absurd H (by simp)
        ·rw [if_neg c12] at H
         exact absurd H (by simp)
       ·rw [if_neg c11] at H
        exact absurd H (by simp)
      ·rw [if_neg c10] at H
       have c10b0:decide (x28_2 < (l1.length:Int))=false:=decide_eq_false c10
       clear c10
       simp only [Option.some.injEq,Prod.mk.injEq] at H
       obtain ⟨rfl,rfl⟩:=H
       go_wp2
       go_ret2
       exact ⟨zsx7_2,zsx7_14⟩
end Go.Proofs.Ytbhlffakpneecaa.PFnCones
end
