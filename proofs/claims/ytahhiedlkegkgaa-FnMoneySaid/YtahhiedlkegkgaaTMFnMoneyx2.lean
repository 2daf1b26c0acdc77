/- Texts that print.sh has printed for the law FnMoney,one function each,put together in one file: contracts of its functions. -/
import Derived.Test.YtahhiedlkegkgaaTStepW
import Derived.Test.YtahhiedlkegkgaaTMFnMoneyx0
import Derived.Test.YtahhiedlkegkgaaTMFnMoneyx1
section
namespace Go.Proofs.Ytahhiedlkegkgaa.PFnMoney
open Go.RowKit Go.Proofs.YtahhiedlkegkgaaW.PrintWords Go.Proofs.YtahhiedlkegkgaaW.PrintLast Go.Proofs.YtahhiedlkegkgaaW.PrintMore
attribute [local go_sem] max2_int min2_int max_two min_two max_three min_three max_four min_four   -- for this text's walks alone
set_option linter.unusedVariables false
set_option linter.unusedSimpArgs false
theorem aM2:type_of% @Aside0.mk:=@Aside0.mk
theorem uA2:type_of% @List.setIfInBounds_toArray.{0}:=@List.setIfInBounds_toArray.{0}
theorem uB2:type_of% @List.set_cons_zero.{0}:=@List.set_cons_zero.{0}
theorem uC2:type_of% @List.set_cons_succ.{0}:=@List.set_cons_succ.{0}
theorem oD2:type_of% @of_decide_eq_true:=@of_decide_eq_true
theorem dT2:type_of% @decide_eq_true:=@decide_eq_true
theorem bI2:type_of% @Option.bind_eq_some_iff.{0,0}:=@Option.bind_eq_some_iff.{0,0}
theorem bL2:type_of% @World.block_lt_of_cell?:=@World.block_lt_of_cell?
theorem bC2:type_of% @blk_cell:=@blk_cell
theorem eT2:type_of% @eq_true:=@eq_true
theorem bS2:type_of% @below_step:=@below_step
theorem zyx2_0 {P:Prop} (h:P:=by repeat (first|(with_reducible first|exact HB.out|apply below_alloc|apply pw_below_drewN|apply below_drew1)|exact HB.out)):P:=h
theorem zyx2_1 {P:Prop} (h:P:=by kernel_rfl):P:=h
theorem zyx2_2 {P:Prop} (h:P:=by (try simp only [List.map_toArray,List.map_cons,List.map_nil]);first|done|rfl|(simp only [List.length_drop,List.length_take];rfl)):P:=h
theorem zyx2_3 {P:Prop} (h:P:=by (with_reducible repeat (first|refine blk_drewN ?_ _|refine blk_drew ?_|refine blk_alloc ?_ _));exact BK644.out):P:=h
theorem zyx2_4 {P:Prop} (h:P:=by repeat (first|(with_reducible first|exact HB.out|apply below_alloc|apply pw_below_drewN|apply below_drew1|refine below_set ?_ GE644.out)|exact HB.out)):P:=h
theorem zyx2_5 {P:Prop} (h:P:=by first|(with_reducible assumption)|assumption):P:=h
theorem zyx2_6 {P:Prop} (h:P:=by (with_reducible repeat (first|apply Kd.R_alloc|apply Kd.R_drewN|apply Kd.R_drew));exact HO655.out):P:=h
theorem zyx2_7 {P:Prop} (h:P:=by first|rfl|(simp [errW_none,errW_some] <;> rfl)|(simp [*,errW_none,errW_some] <;> rfl)):P:=h
theorem zyx2_8 {P:Prop} (h:P:=by first|rfl|(simp;done)|(simp [*];done)):P:=h
theorem zyx2_9 {P:Prop} (h:P:=by repeat (first|exact Drawn0.refl _|apply Drawn0.step)):P:=h
theorem zyx2_10 {P:Prop} (h:P:=by repeat (first|(with_reducible first|exact HB.out|apply below_alloc|apply pw_below_drewN|apply below_drew1|refine below_set ?_ GE377.out)|exact HB.out)):P:=h
theorem zyx2_11 {P:Prop} (h:P:=by first|(go_simp;done)|(go_simp;rfl)):P:=h
theorem zyx2_12 {P:Prop} (h:P:=by repeat (first|exact (Kd.C_below HR1.out HB.out)|(with_reducible refine Kd.C_alloc ?_ _)|(with_reducible refine Kd.C_drewN ?_ _)|(with_reducible refine Kd.C_drew ?_))):P:=h
theorem zyx2_13 {P:Prop} (h:P:=by repeat (first|exact (Kd.R_reads' HO655.out).2.2|(with_reducible refine Kd.C_alloc ?_ _)|(with_reducible refine Kd.C_drewN ?_ _)|(with_reducible refine Kd.C_drew ?_))):P:=h
theorem zyx2_14 {P:Prop} (h:P:=by rw [hg];exact (below_size (zyx2_0))):P:=h
def impl_ruleValue.f (k:Nat) (a0_0:Int) (a0_1:Int) (a0_2:Int) (l0_3:List Int) (l0_4:List Int) (l0_5:List Int) (l1:List (S94)) (a2:Int):Option (Int × Bool):=(impl_placeOf.f a0_0 a0_1 a0_2 a2).bind fun bt645=>(if 0≤a2 then (if a2 < (l0_3.length:Int) then (if a2 < (l0_4.length:Int) then (if a2 < (l0_5.length:Int) then ((impl_evalPart.f k l1 (wrap64 ((l1.length:Int) - 1)) (([rd l0_3 a2,rd l0_4 a2,rd l0_5 a2,bt645.2.2,wrap64 ((rd l0_3 a2) * (rd l0_4 a2))]:List Int))).bind fun bt656=>(if bt656.2=true then (if bt656.1 < (-1000000) then (some (0,false)) else (if bt656.1 > 1000000 then (some (0,false)) else (some (bt656.1,true)))) else (some (0,false)))) else (none)) else (none)) else (none)) else (none))
theorem impl_ruleValue.mono:∀ a0 a1 a2 a3 a4 a5 a6 a7 k,LeO (impl_ruleValue.f k a0 a1 a2 a3 a4 a5 a6 a7) (impl_ruleValue.f (k + 1) a0 a1 a2 a3 a4 a5 a6 a7):=by
 intro a0 a1 a2 a3 a4 a5 a6 a7 k
 unfold impl_ruleValue.f
 repeat' first
   | (with_reducible exact impl_evalPart.mono _ _ _ _)
   | (with_reducible exact LeO.refl _)
   | (with_reducible exact LeO.none _)
   | (with_reducible refine LeO.ite ?_ ?_)
   | (with_reducible refine LeO.bind ?_ (fun _=>?_))
   | exact impl_evalPart.mono _ _ _ _
   | exact LeO.none _
   | refine LeO.ite ?_ ?_
   | refine LeO.bind ?_ (fun _=>?_)
def impl_ruleValue.T2:Bool × List (List Nat × List Nat):=(true,[([],[]),([],[]),([1],[1]),([2],[2]),([],[]),([4],[4]),([],[]),([5,6],[5,6]),([7],[7]),([],[]),([9],[9]),([],[]),([10,11],[10,11]),([12],[12]),([],[]),([14],[14]),([],[]),([15,16],[15,16]),([17],[17]),([],[]),([],[]),([20],[20]),([],[]),([21,22],[21,22]),([23],[23]),([],[]),([25],[25]),([],[]),([26,27],[26,27]),([28],[28]),([24,29],[24,29]),([8,13,18,19,30],[8,13,18,19,30]),([0,3,31],[0,3,31]),([32],[32]),([33],[33]),([33],[33]),([34,32,0,1,2,3,4,5,6,7,8,9,10,11,12,13,14,15,16,17,18,19,20,21,22,23,24,25,26,27,28,29,30,31,32,33,34],[34]),([35,36,0,1,2,3,4,5,6,7,8,9,10,11,12,13,14,15,16,17,18,19,20,21,22,23,24,25,26,27,28,29,30,31,32,33,34,35,36],[35])])
def impl_ruleValue.B2:List Nat:=[0,0,2,6,0,16,0,112,240,0,512,0,3584,7680,0,16384,0,114688,245760,0,0,1048576,0,7340032,15728640,0,33554432,0,234881024,503316480,1072693248,2147483632,4294967295,8589934591,17179869183,17179869183,34359738367,137438953471]
theorem impl_ruleValue.tab2:rtab .any (opsOf Try.f33 2)=impl_ruleValue.T2:=by kernel_rfl
theorem impl_ruleValue.bits2:waitsOk impl_ruleValue.T2.2 impl_ruleValue.B2=true:=by kernel_rfl
set_option maxHeartbeats 8000000 in
set_option maxRecDepth 100000 in
theorem impl_ruleValue.calls (k:Nat) (a0_0:Int) (a0_1:Int) (a0_2:Int) (A0_3:Option Addr) (c0_3:Nat) (l0_3:List Int) (A0_4:Option Addr) (c0_4:Nat) (l0_4:List Int) (A0_5:Option Addr) (c0_5:Nat) (l0_5:List Int) (A1:Option Addr) (c1:Nat) (l1:List (S94)) (a2:Int) (r1:Int) (r2:Bool) (w:World) (hr0_3:Kd.C (Kd.int .i64) w A0_3 l0_3.length l0_3) (hc0_3:l0_3.length≤c0_3) (hr0_4:Kd.C (Kd.int .i64) w A0_4 l0_4.length l0_4) (hc0_4:l0_4.length≤c0_4) (hr0_5:Kd.C (Kd.int .i64) w A0_5 l0_5.length l0_5) (hc0_5:l0_5.length≤c0_5) (hr1:Kd.C k94 w A1 l1.length l1) (hc1:l1.length≤c1) (h:impl_ruleValue.f k a0_0 a0_1 a0_2 l0_3 l0_4 l0_5 l1 a2=some (r1,r2)) :
  Calls Try.prog 33 #[.agg #[.int .i64 a0_0,.int .i64 a0_1,.int .i64 a0_2,.slice A0_3 l0_3.length c0_3,.slice A0_4 l0_4.length c0_4,.slice A0_5 l0_5.length c0_5],.slice A1 l1.length c1,.int .i64 a2] w fun e w'=>e=.returned (.tuple #[.int .i64 r1,.bool r2])∧Below w.heap.size w w':=by
 have hu27:=Try.underlying27;have hu24:=Try.underlying24;have HR0_3:=aM2 hr0_3;have HC0_3:=aM2 hc0_3;clear hr0_3 hc0_3;have HR0_4:=aM2 hr0_4;have HC0_4:=aM2 hc0_4;clear hr0_4 hc0_4;have HR0_5:=aM2 hr0_5;have HC0_5:=aM2 hc0_5;clear hr0_5 hc0_5;have HR1:=aM2 hr1;have HC1:=aM2 hc1;clear hr1 hc1;have HB:=aM2 (Below.refl w.heap.size w);have H:((impl_placeOf.f a0_0 a0_1 a0_2 a2).bind fun bt645=>(if 0≤a2 then (if a2 < (l0_3.length:Int) then (if a2 < (l0_4.length:Int) then (if a2 < (l0_5.length:Int) then ((impl_evalPart.f k l1 (wrap64 ((l1.length:Int) - 1)) (([rd l0_3 a2,rd l0_4 a2,rd l0_5 a2,bt645.2.2,wrap64 ((rd l0_3 a2) * (rd l0_4 a2))]:List Int))).bind fun bt656=>(if bt656.2=true then (if bt656.1 < (-1000000) then (some (0,false)) else (if bt656.1 > 1000000 then (some (0,false)) else (some (bt656.1,true)))) else (some (0,false)))) else (none)) else (none)) else (none)) else (none)))=some (r1,r2):=h;clear h;replace H:=bI2.mp H;obtain ⟨⟨t645,t646,t647⟩,A40,H⟩:=H;(try dsimp only at H);have A4:=aM2 A40;clear A40
 by_cases c5:0≤a2
 ·rw [if_pos c5] at H
  have c5b0:decide (0≤a2)=true:=dT2 c5;clear c5
  by_cases c6:a2 < (l0_3.length:Int)
  ·rw [if_pos c6] at H
   have c6b0:decide (a2 < (l0_3.length:Int))=true:=dT2 c6;clear c6
   by_cases c7:a2 < (l0_4.length:Int)
   ·rw [if_pos c7] at H
    have c7b0:decide (a2 < (l0_4.length:Int))=true:=dT2 c7;clear c7
    by_cases c8:a2 < (l0_5.length:Int)
    ·rw [if_pos c8] at H
     have c8b0:decide (a2 < (l0_5.length:Int))=true:=dT2 c8;clear c8;obtain ⟨y653,hy653⟩:∃ y_:List Int,y_=(([rd l0_3 a2,rd l0_4 a2,rd l0_5 a2,t647,wrap64 ((rd l0_3 a2) * (rd l0_4 a2))]:List Int)):=⟨_,rfl⟩
     replace H:((impl_evalPart.f k l1 (wrap64 ((l1.length:Int) - 1)) y653).bind fun bt656=>(if bt656.2=true then (if bt656.1 < (-1000000) then (some (0,false)) else (if bt656.1 > 1000000 then (some (0,false)) else (some (bt656.1,true)))) else (some (0,false))))=some (r1,r2):=by first|(rw [hy653];with_reducible exact H)|(have H2_:=(Option.bind_some _ _).symm.trans H;rw [hy653];with_reducible exact H2_)|(have H2_:=(Option.bind_some _ _).symm.trans H;with_reducible exact H2_)|with_reducible exact H|(rw [hy653];exact H)|exact H
     have Ny653:=aM2 hy653;clear hy653;replace H:=bI2.mp H;obtain ⟨⟨t656,t657⟩,A90,H⟩:=H;(try dsimp only at H);have A9:=aM2 A90;clear A90
     by_cases c10:t657=true
     ·subst c10
      rw [if_pos rfl] at H;(try dsimp only at H)
      by_cases c11:t656 < (-1000000)
      ·rw [if_pos c11] at H
       have c11b0:decide (t656 < (-1000000))=true:=dT2 c11;clear c11;simp only [Option.some.injEq,Prod.mk.injEq] at H;obtain ⟨rfl,rfl⟩:=H;go_enter Try.func33,Try.ntmps33
       try go_wp2_with (first|((with_reducible refine gate_dst (N:=3) rfl ?_);refine box_event ?hg (N:=3) ?hd (cs:=#[.int .i64 a0_0,.int .i64 a0_1,.int .i64 a0_2,.slice A0_3 l0_3.length c0_3,.slice A0_4 l0_4.length c0_4,.slice A0_5 l0_5.length c0_5]) (t:=27) ?hr ?_;(case hd=>rfl);(case hg=>rfl);(case hr=>exact zyx2_11);intro gb644 hg w12 hbox hb;have n0_:=aM2 (bS2 (zyx2_0) hb);have n1_:=aM2 (hbox);have n2_:=aM2 ((zyx2_14:w.heap.size≤gb644));have n3_:=aM2 ((zyx2_14:w.heap.size≤gb644));clear HB;have HB:=n0_;have BK644:=n1_;have GW644:=n2_;have GE644:=n3_;clear n0_ n1_ n2_ n3_ hb hbox hg;obtain ⟨hcz13_0,hfz13_0,hcz13_1,hfz13_1,hcz13_2,hfz13_2,hcz13_3,hfz13_3,hcz13_4,hfz13_4,hcz13_5,hfz13_5⟩:=cf6 BK644.out)|((with_reducible refine gate_callee (f:=58) rfl ?_);refine goesL_ (some 17) rfl rfl Try.func58 (zyx2_1) rfl #[.agg #[.int .i64 a0_0,.int .i64 a0_1,.int .i64 a0_2],.int .i64 a2] rfl (zyx2_2) ?_;(with_reducible refine (impl_placeOf.calls a0_0 a0_1 a0_2 a2 t645 t646 t647 _ A4.out).mono ?_);rintro e w14 ⟨rfl,hb⟩;refine ⟨_,rfl,?_⟩;have n0_:=aM2 (blk_below (g:=gb644) (o:=.cells #[.int .i64 a0_0,.int .i64 a0_1,.int .i64 a0_2,.slice A0_3 l0_3.length c0_3,.slice A0_4 l0_4.length c0_4,.slice A0_5 l0_5.length c0_5] 27 (0,0)) (zyx2_3) hb);have n1_:=aM2 (bS2 (zyx2_4) hb);clear BK644 HB;have BK644:=n0_;have HB:=n1_;clear n0_ n1_;(try clear hb);(try clear hb2);(try clear hk);(try clear hi)))
       have n0_:=aM2 (blk_drew BK644.out);have n1_:=aM2 (below_drew1 HB.out);clear BK644 HB;have BK644:=n0_;have HB:=n1_;clear n0_ n1_;have p648:0≤(a2:Int):=oD2 (zyx2_5);have q648:a2 < (l0_3.length:Int):=oD2 (zyx2_5);obtain ⟨ad648,e648,hx648_0⟩:=Kd.at_int HR0_3.out a2 p648 q648;have hw648_0:=hx648_0
       cases e648
       replace hx648_0:=(HB.out.cell (bL2 w _ hx648_0)).trans hx648_0;replace p648:=eT2 p648;replace q648:=eT2 q648;have p649:0≤(a2:Int):=oD2 (zyx2_5);have q649:a2 < (l0_4.length:Int):=oD2 (zyx2_5);obtain ⟨ad649,e649,hx649_0⟩:=Kd.at_int HR0_4.out a2 p649 q649;have hw649_0:=hx649_0
       cases e649
       replace hx649_0:=(HB.out.cell (bL2 w _ hx649_0)).trans hx649_0;replace p649:=eT2 p649;replace q649:=eT2 q649;have p650:0≤(a2:Int):=oD2 (zyx2_5);have q650:a2 < (l0_5.length:Int):=oD2 (zyx2_5);obtain ⟨ad650,e650,hx650_0⟩:=Kd.at_int HR0_5.out a2 p650 q650;have hw650_0:=hx650_0
       cases e650
       replace hx650_0:=(HB.out.cell (bL2 w _ hx650_0)).trans hx650_0;replace p650:=eT2 p650;replace q650:=eT2 q650;have p651:0≤(a2:Int):=oD2 (zyx2_5);have q651:a2 < (l0_3.length:Int):=oD2 (zyx2_5);obtain ⟨ad651,e651,hx651_0⟩:=Kd.at_int HR0_3.out a2 p651 q651;have hw651_0:=hx651_0;obtain rfl:ad648=ad651:=(by injection e651);replace hx651_0:=(HB.out.cell (bL2 w _ hx651_0)).trans hx651_0;replace p651:=eT2 p651;replace q651:=eT2 q651;have p652:0≤(a2:Int):=oD2 (zyx2_5);have q652:a2 < (l0_4.length:Int):=oD2 (zyx2_5);obtain ⟨ad652,e652,hx652_0⟩:=Kd.at_int HR0_4.out a2 p652 q652;have hw652_0:=hx652_0;obtain rfl:ad649=ad652:=(by injection e652);replace hx652_0:=(HB.out.cell (bL2 w _ hx652_0)).trans hx652_0;replace p652:=eT2 p652;replace q652:=eT2 q652
       refine start_ (n:=38) (S:=fun w'=>w'.cell? ⟨gb644,0,none⟩=some (.int .i64 a0_0)∧w'.cell? ⟨gb644,1,none⟩=some (.int .i64 a0_1)∧w'.cell? ⟨gb644,2,none⟩=some (.int .i64 a0_2)∧w'.cell? ⟨gb644,3,none⟩=some (.slice (some ad648) l0_3.length c0_3)∧w'.cell? ⟨gb644,4,none⟩=some (.slice (some ad649) l0_4.length c0_4)∧w'.cell? ⟨gb644,5,none⟩=some (.slice (some ad650) l0_5.length c0_5)∧w'.cell? (ad648.add (a2).toNat)=some (.int .i64 (rd l0_3 a2))∧w'.cell? (ad649.add (a2).toNat)=some (.int .i64 (rd l0_4 a2))∧w'.cell? (ad650.add (a2).toNat)=some (.int .i64 (rd l0_5 a2))∧w'.cell? (ad648.add (a2).toNat)=some (.int .i64 (rd l0_3 a2))∧w'.cell? (ad649.add (a2).toNat)=some (.int .i64 (rd l0_4 a2))) (ds:=[]) #[false,false,false,false,false,false,false,false,false,false,false,false,false,false,false,false,false,false,false,false,false,false,false,false,false,false,false,false,false,false,false,false,false,false,false,false,false,false] (zyx2_1) rfl rfl ⟨(bC2 BK644.out 0).trans rfl,(bC2 BK644.out 1).trans rfl,(bC2 BK644.out 2).trans rfl,(bC2 BK644.out 3).trans rfl,(bC2 BK644.out 4).trans rfl,(bC2 BK644.out 5).trans rfl,((HB.out.cell (bL2 w _ hw648_0)).trans hw648_0),((HB.out.cell (bL2 w _ hw649_0)).trans hw649_0),((HB.out.cell (bL2 w _ hw650_0)).trans hw650_0),((HB.out.cell (bL2 w _ hw651_0)).trans hw651_0),((HB.out.cell (bL2 w _ hw652_0)).trans hw652_0)⟩ (fun hHeld=>?_);refine with_tabW impl_ruleValue.tab2 impl_ruleValue.bits2 (fun HT_ HW_=>?_);generalize w14.drew=w15 at BK644 HB hx648_0 hx649_0 hx650_0 hx651_0 hx652_0 hHeld ⊢;refine wp_in [(0,22,1,0),(1,23,3,0),(2,24,7,0),(3,25,15,0),(4,26,31,0),(6,28,95,0),(9,31,607,0),(11,33,2655,0),(14,36,19039,0),(16,38,84575,0),(19,41,608863,0),(20,42,1657439,0),(22,44,5851743,0),(25,47,39406175,0),(27,49,173623903,0),(5,27,173623935,1),(7,29,173624063,0),(8,30,173624319,1),(10,32,173625343,1),(12,34,173629439,0),(13,35,173637631,1),(15,37,173670399,1),(17,39,173801471,0),(18,40,174063615,1),(21,43,176160767,1),(23,45,184549375,0),(24,46,201326591,1),(26,48,268435455,1),(28,50,536870911,0),(29,51,1073741823,1),(30,52,2147483647,0)] 38 ?_
       iterate 31 (first|(refine pn_ (oi:=?_) (v:=?_) (a':=?_) HT_.out ?_ ?_ ?_ ?_ ?_ ?_ ?_ ?_;rotate_left 3;rfl;rfl;kernel_rfl;exact fun _ _ _ h=>h;rfl;intro w';go_simp;with_reducible rfl;simp only [Act.put,uA2,uB2,uC2,i64_w,i32_w];rfl)|(refine tn_ (oi:=?_) (v:=?_) (a':=?_) HT_.out HW_.out hHeld ?_ ?_ ?_ ?_ ?_ ?_ ?_ ?_;rotate_left 3;rfl;rfl;kernel_rfl;exact fun _ _ _ h=>h;rfl;rintro w' ⟨s0,s1,s2,s3,s4,s5,s6,s7,s8,s9,s10⟩;go_simp;with_reducible rfl;simp only [Act.put,uA2,uB2,uC2,i64_w,i32_w];rfl))
       refine wp_out ?_;refine one_ (i:=31) (N:=some 53) #[true,true,true,true,true,true,true,true,true,true,true,true,true,true,true,true,true,true,true,true,true,true,true,true,true,true,true,true,true,true,true,true,false,false,false,false,false,false] rfl rfl (one_of HT_.out (zyx2_1)) (by decide) (fun K hK=>?_)
       refine Kd.R_lit_step (Kd.int .i64) _ 3 ?hg (N:=53) ?hd (xs:=([rd l0_3 a2,rd l0_4 a2,rd l0_5 a2,t647,wrap64 ((rd l0_3 a2) * (rd l0_4 a2))]:List Int)) (inner:=[.int .i64 (rd l0_3 a2),.int .i64 (rd l0_4 a2),.int .i64 (rd l0_5 a2),.int .i64 t647,.int .i64 (wrap64 ((rd l0_3 a2) * (rd l0_4 a2)))]) (ok:=fun _=>True) (okp:=fun _=>True) ?hr ?hp (fun _ hk=>hk) trivial (Below.refl _ _) (Nat.le_refl _) (by simp) ?_;(case hd=>rfl);(case hg=>rfl);(case hr=>exact zyx2_11);(case hp=>exact (Reps.one (show Kd.M (Kd.int .i64) _ _ _ (rd l0_3 a2) [.int .i64 (rd l0_3 a2)] from rfl) (Reps.one (show Kd.M (Kd.int .i64) _ _ _ (rd l0_4 a2) [.int .i64 (rd l0_4 a2)] from rfl) (Reps.one (show Kd.M (Kd.int .i64) _ _ _ (rd l0_5 a2) [.int .i64 (rd l0_5 a2)] from rfl) (Reps.one (show Kd.M (Kd.int .i64) _ _ _ t647 [.int .i64 t647] from rfl) (Reps.one (show Kd.M (Kd.int .i64) _ _ _ (wrap64 ((rd l0_3 a2) * (rd l0_4 a2))) [.int .i64 (wrap64 ((rd l0_3 a2) * (rd l0_4 a2)))] from rfl) (Reps.none _ _)))))))
       intro v654 w16 ho17 hb hg_ hnew_;clear hg_ hnew_
       (first|rw [← Ny653.out] at ho17|(simp only [Int.reduceToNat] at ho17;rw [← Ny653.out] at ho17))
       have n0_:=aM2 (Kd.R_lower ho17 (below_size (zyx2_4)));have n1_:=aM2 (blk_below (g:=gb644) (o:=.cells #[.int .i64 a0_0,.int .i64 a0_1,.int .i64 a0_2,.slice (some ad648) l0_3.length c0_3,.slice (some ad649) l0_4.length c0_4,.slice (some ad650) l0_5.length c0_5] 27 (0,0)) (zyx2_3) hb);have n2_:=aM2 (bS2 (zyx2_4) hb);clear BK644 HB;have HO655:=n0_;have BK644:=n1_;have HB:=n2_;clear n0_ n1_ n2_ hb ho17;obtain ⟨Ao18,co18,eo18⟩:=Kd.R_slice HO655.out
       (first|subst eo18|(injection eo18 with f1_ f2_ f3_;have f4_:=f1_.symm;have f5_:=f3_.symm;clear f1_ f2_ f3_;subst f4_;subst f5_))
       refine hK.out _ _ ⟨(bC2 BK644.out 0).trans rfl,(bC2 BK644.out 1).trans rfl,(bC2 BK644.out 2).trans rfl,(bC2 BK644.out 3).trans rfl,(bC2 BK644.out 4).trans rfl,(bC2 BK644.out 5).trans rfl,((HB.out.cell (bL2 w _ hw648_0)).trans hw648_0),((HB.out.cell (bL2 w _ hw649_0)).trans hw649_0),((HB.out.cell (bL2 w _ hw650_0)).trans hw650_0),((HB.out.cell (bL2 w _ hw651_0)).trans hw651_0),((HB.out.cell (bL2 w _ hw652_0)).trans hw652_0)⟩ (fun hHeld=>?_);clear hK K;refine norm_ (a':=?_) ?_ ?_;rotate_left
       ·show Act.put _ (some 53) _=_
        simp only [Act.put,uA2,uB2,uC2,i64_w,i32_w]
        rfl
       refine one_ (i:=32) (N:=some 54) #[true,true,true,true,true,true,true,true,true,true,true,true,true,true,true,true,true,true,true,true,true,true,true,true,true,true,true,true,true,true,true,true,true,false,false,false,false,false] rfl rfl (one_of HT_.out (zyx2_1)) (by decide) (fun K hK=>?_);refine goes_ Try.func59 (zyx2_1) rfl #[.slice A1 l1.length c1,.int .i64 (wrap64 ((l1.length:Int) - 1)),.slice Ao18 y653.length co18] (by rfl) rfl rfl (zyx2_2) ?_
       with_reducible refine (impl_evalPart.calls k _ _ l1 (wrap64 ((l1.length:Int) - 1)) _ _ y653 t656 true _ ?side1 ?side2 ?side3 ?side4 A9.out).mono ?_
       (case side1=>exact zyx2_12)
       (case side2=>exact HC1.out)
       (case side3=>exact zyx2_13)
       (case side4=>exact (Kd.R_reads' HO655.out).2.1)
       rintro e w19 ⟨rfl,hb⟩;refine ⟨_,rfl,?_⟩;have n0_:=aM2 (Kd.R_below (zyx2_6) hb);have n1_:=aM2 (blk_below (g:=gb644) (o:=.cells #[.int .i64 a0_0,.int .i64 a0_1,.int .i64 a0_2,.slice (some ad648) l0_3.length c0_3,.slice (some ad649) l0_4.length c0_4,.slice (some ad650) l0_5.length c0_5] 27 (0,0)) (zyx2_3) hb);have n2_:=aM2 (bS2 (zyx2_4) hb);clear HO655 BK644 HB;have HO655:=n0_;have BK644:=n1_;have HB:=n2_;clear n0_ n1_ n2_;(try clear hb);(try clear hb2);(try clear hk);(try clear hi);refine hK.out _ _ ⟨(bC2 BK644.out 0).trans rfl,(bC2 BK644.out 1).trans rfl,(bC2 BK644.out 2).trans rfl,(bC2 BK644.out 3).trans rfl,(bC2 BK644.out 4).trans rfl,(bC2 BK644.out 5).trans rfl,((HB.out.cell (bL2 w _ hw648_0)).trans hw648_0),((HB.out.cell (bL2 w _ hw649_0)).trans hw649_0),((HB.out.cell (bL2 w _ hw650_0)).trans hw650_0),((HB.out.cell (bL2 w _ hw651_0)).trans hw651_0),((HB.out.cell (bL2 w _ hw652_0)).trans hw652_0)⟩ (fun hHeld=>?_);clear hK K;refine norm_ (a':=?_) ?_ ?_;rotate_left
       ·show Act.put _ (some 54) _=_
        simp only [Act.put,uA2,uB2,uC2,i64_w,i32_w]
        rfl
       refine wp_in [(33,21,17179869183,0),(34,55,34359738367,0),(35,56,68719476735,0),(36,11,137438953471,0),(37,12,274877906943,0)] 38 ?_
       iterate 5 ((refine pn_ (oi:=?_) (v:=?_) (a':=?_) HT_.out ?_ ?_ ?_ ?_ ?_ ?_ ?_ ?_;rotate_left 3;rfl;rfl;kernel_rfl;exact fun _ _ _ h=>h;rfl;intro w';go_simp;with_reducible rfl;simp only [Act.put,uA2,uB2,uC2,i64_w,i32_w];rfl))
       refine wp_out ?_;refine done_ (done_of HT_.out (zyx2_1)) ?_
       try go_wp2
       go_ret2
       exact ⟨zyx2_7,zyx2_4⟩
      ·rw [if_neg c11] at H
       have c11b0:decide (t656 < (-1000000))=false:=decide_eq_false c11;clear c11
       by_cases c20:t656 > 1000000
       ·rw [if_pos c20] at H
        have c20b0:decide (1000000 < t656)=true:=dT2 c20;clear c20;simp only [Option.some.injEq,Prod.mk.injEq] at H;obtain ⟨rfl,rfl⟩:=H;go_enter Try.func33,Try.ntmps33
        try go_wp2_with (first|((with_reducible refine gate_dst (N:=3) rfl ?_);refine box_event ?hg (N:=3) ?hd (cs:=#[.int .i64 a0_0,.int .i64 a0_1,.int .i64 a0_2,.slice A0_3 l0_3.length c0_3,.slice A0_4 l0_4.length c0_4,.slice A0_5 l0_5.length c0_5]) (t:=27) ?hr ?_;(case hd=>rfl);(case hg=>rfl);(case hr=>exact zyx2_11);intro gb644 hg w21 hbox hb;have n0_:=aM2 (bS2 (zyx2_0) hb);have n1_:=aM2 (hbox);have n2_:=aM2 ((zyx2_14:w.heap.size≤gb644));have n3_:=aM2 ((zyx2_14:w.heap.size≤gb644));clear HB;have HB:=n0_;have BK644:=n1_;have GW644:=n2_;have GE644:=n3_;clear n0_ n1_ n2_ n3_ hb hbox hg;obtain ⟨hcz22_0,hfz22_0,hcz22_1,hfz22_1,hcz22_2,hfz22_2,hcz22_3,hfz22_3,hcz22_4,hfz22_4,hcz22_5,hfz22_5⟩:=cf6 BK644.out)|((with_reducible refine gate_callee (f:=58) rfl ?_);refine goesL_ (some 17) rfl rfl Try.func58 (zyx2_1) rfl #[.agg #[.int .i64 a0_0,.int .i64 a0_1,.int .i64 a0_2],.int .i64 a2] rfl (zyx2_2) ?_;(with_reducible refine (impl_placeOf.calls a0_0 a0_1 a0_2 a2 t645 t646 t647 _ A4.out).mono ?_);rintro e w23 ⟨rfl,hb⟩;refine ⟨_,rfl,?_⟩;have n0_:=aM2 (blk_below (g:=gb644) (o:=.cells #[.int .i64 a0_0,.int .i64 a0_1,.int .i64 a0_2,.slice A0_3 l0_3.length c0_3,.slice A0_4 l0_4.length c0_4,.slice A0_5 l0_5.length c0_5] 27 (0,0)) (zyx2_3) hb);have n1_:=aM2 (bS2 (zyx2_4) hb);clear BK644 HB;have BK644:=n0_;have HB:=n1_;clear n0_ n1_;(try clear hb);(try clear hb2);(try clear hk);(try clear hi)))
        have n0_:=aM2 (blk_drew BK644.out);have n1_:=aM2 (below_drew1 HB.out);clear BK644 HB;have BK644:=n0_;have HB:=n1_;clear n0_ n1_;have p648:0≤(a2:Int):=oD2 (zyx2_5);have q648:a2 < (l0_3.length:Int):=oD2 (zyx2_5);obtain ⟨ad648,e648,hx648_0⟩:=Kd.at_int HR0_3.out a2 p648 q648;have hw648_0:=hx648_0
        cases e648
        replace hx648_0:=(HB.out.cell (bL2 w _ hx648_0)).trans hx648_0;replace p648:=eT2 p648;replace q648:=eT2 q648;have p649:0≤(a2:Int):=oD2 (zyx2_5);have q649:a2 < (l0_4.length:Int):=oD2 (zyx2_5);obtain ⟨ad649,e649,hx649_0⟩:=Kd.at_int HR0_4.out a2 p649 q649;have hw649_0:=hx649_0
        cases e649
        replace hx649_0:=(HB.out.cell (bL2 w _ hx649_0)).trans hx649_0;replace p649:=eT2 p649;replace q649:=eT2 q649;have p650:0≤(a2:Int):=oD2 (zyx2_5);have q650:a2 < (l0_5.length:Int):=oD2 (zyx2_5);obtain ⟨ad650,e650,hx650_0⟩:=Kd.at_int HR0_5.out a2 p650 q650;have hw650_0:=hx650_0
        cases e650
        replace hx650_0:=(HB.out.cell (bL2 w _ hx650_0)).trans hx650_0;replace p650:=eT2 p650;replace q650:=eT2 q650;have p651:0≤(a2:Int):=oD2 (zyx2_5);have q651:a2 < (l0_3.length:Int):=oD2 (zyx2_5);obtain ⟨ad651,e651,hx651_0⟩:=Kd.at_int HR0_3.out a2 p651 q651;have hw651_0:=hx651_0;obtain rfl:ad648=ad651:=(by injection e651);replace hx651_0:=(HB.out.cell (bL2 w _ hx651_0)).trans hx651_0;replace p651:=eT2 p651;replace q651:=eT2 q651;have p652:0≤(a2:Int):=oD2 (zyx2_5);have q652:a2 < (l0_4.length:Int):=oD2 (zyx2_5);obtain ⟨ad652,e652,hx652_0⟩:=Kd.at_int HR0_4.out a2 p652 q652;have hw652_0:=hx652_0;obtain rfl:ad649=ad652:=(by injection e652);replace hx652_0:=(HB.out.cell (bL2 w _ hx652_0)).trans hx652_0;replace p652:=eT2 p652;replace q652:=eT2 q652
        refine start_ (n:=38) (S:=fun w'=>w'.cell? ⟨gb644,0,none⟩=some (.int .i64 a0_0)∧w'.cell? ⟨gb644,1,none⟩=some (.int .i64 a0_1)∧w'.cell? ⟨gb644,2,none⟩=some (.int .i64 a0_2)∧w'.cell? ⟨gb644,3,none⟩=some (.slice (some ad648) l0_3.length c0_3)∧w'.cell? ⟨gb644,4,none⟩=some (.slice (some ad649) l0_4.length c0_4)∧w'.cell? ⟨gb644,5,none⟩=some (.slice (some ad650) l0_5.length c0_5)∧w'.cell? (ad648.add (a2).toNat)=some (.int .i64 (rd l0_3 a2))∧w'.cell? (ad649.add (a2).toNat)=some (.int .i64 (rd l0_4 a2))∧w'.cell? (ad650.add (a2).toNat)=some (.int .i64 (rd l0_5 a2))∧w'.cell? (ad648.add (a2).toNat)=some (.int .i64 (rd l0_3 a2))∧w'.cell? (ad649.add (a2).toNat)=some (.int .i64 (rd l0_4 a2))) (ds:=[]) #[false,false,false,false,false,false,false,false,false,false,false,false,false,false,false,false,false,false,false,false,false,false,false,false,false,false,false,false,false,false,false,false,false,false,false,false,false,false] (zyx2_1) rfl rfl ⟨(bC2 BK644.out 0).trans rfl,(bC2 BK644.out 1).trans rfl,(bC2 BK644.out 2).trans rfl,(bC2 BK644.out 3).trans rfl,(bC2 BK644.out 4).trans rfl,(bC2 BK644.out 5).trans rfl,((HB.out.cell (bL2 w _ hw648_0)).trans hw648_0),((HB.out.cell (bL2 w _ hw649_0)).trans hw649_0),((HB.out.cell (bL2 w _ hw650_0)).trans hw650_0),((HB.out.cell (bL2 w _ hw651_0)).trans hw651_0),((HB.out.cell (bL2 w _ hw652_0)).trans hw652_0)⟩ (fun hHeld=>?_);refine with_tabW impl_ruleValue.tab2 impl_ruleValue.bits2 (fun HT_ HW_=>?_);generalize w23.drew=w24 at BK644 HB hx648_0 hx649_0 hx650_0 hx651_0 hx652_0 hHeld ⊢;refine wp_in [(0,22,1,0),(1,23,3,0),(2,24,7,0),(3,25,15,0),(4,26,31,0),(6,28,95,0),(9,31,607,0),(11,33,2655,0),(14,36,19039,0),(16,38,84575,0),(19,41,608863,0),(20,42,1657439,0),(22,44,5851743,0),(25,47,39406175,0),(27,49,173623903,0),(5,27,173623935,1),(7,29,173624063,0),(8,30,173624319,1),(10,32,173625343,1),(12,34,173629439,0),(13,35,173637631,1),(15,37,173670399,1),(17,39,173801471,0),(18,40,174063615,1),(21,43,176160767,1),(23,45,184549375,0),(24,46,201326591,1),(26,48,268435455,1),(28,50,536870911,0),(29,51,1073741823,1),(30,52,2147483647,0)] 38 ?_
        iterate 31 (first|(refine pn_ (oi:=?_) (v:=?_) (a':=?_) HT_.out ?_ ?_ ?_ ?_ ?_ ?_ ?_ ?_;rotate_left 3;rfl;rfl;kernel_rfl;exact fun _ _ _ h=>h;rfl;intro w';go_simp;with_reducible rfl;simp only [Act.put,uA2,uB2,uC2,i64_w,i32_w];rfl)|(refine tn_ (oi:=?_) (v:=?_) (a':=?_) HT_.out HW_.out hHeld ?_ ?_ ?_ ?_ ?_ ?_ ?_ ?_;rotate_left 3;rfl;rfl;kernel_rfl;exact fun _ _ _ h=>h;rfl;rintro w' ⟨s0,s1,s2,s3,s4,s5,s6,s7,s8,s9,s10⟩;go_simp;with_reducible rfl;simp only [Act.put,uA2,uB2,uC2,i64_w,i32_w];rfl))
        refine wp_out ?_;refine one_ (i:=31) (N:=some 53) #[true,true,true,true,true,true,true,true,true,true,true,true,true,true,true,true,true,true,true,true,true,true,true,true,true,true,true,true,true,true,true,true,false,false,false,false,false,false] rfl rfl (one_of HT_.out (zyx2_1)) (by decide) (fun K hK=>?_)
        refine Kd.R_lit_step (Kd.int .i64) _ 3 ?hg (N:=53) ?hd (xs:=([rd l0_3 a2,rd l0_4 a2,rd l0_5 a2,t647,wrap64 ((rd l0_3 a2) * (rd l0_4 a2))]:List Int)) (inner:=[.int .i64 (rd l0_3 a2),.int .i64 (rd l0_4 a2),.int .i64 (rd l0_5 a2),.int .i64 t647,.int .i64 (wrap64 ((rd l0_3 a2) * (rd l0_4 a2)))]) (ok:=fun _=>True) (okp:=fun _=>True) ?hr ?hp (fun _ hk=>hk) trivial (Below.refl _ _) (Nat.le_refl _) (by simp) ?_;(case hd=>rfl);(case hg=>rfl);(case hr=>exact zyx2_11);(case hp=>exact (Reps.one (show Kd.M (Kd.int .i64) _ _ _ (rd l0_3 a2) [.int .i64 (rd l0_3 a2)] from rfl) (Reps.one (show Kd.M (Kd.int .i64) _ _ _ (rd l0_4 a2) [.int .i64 (rd l0_4 a2)] from rfl) (Reps.one (show Kd.M (Kd.int .i64) _ _ _ (rd l0_5 a2) [.int .i64 (rd l0_5 a2)] from rfl) (Reps.one (show Kd.M (Kd.int .i64) _ _ _ t647 [.int .i64 t647] from rfl) (Reps.one (show Kd.M (Kd.int .i64) _ _ _ (wrap64 ((rd l0_3 a2) * (rd l0_4 a2))) [.int .i64 (wrap64 ((rd l0_3 a2) * (rd l0_4 a2)))] from rfl) (Reps.none _ _)))))))
        intro v654 w25 ho26 hb hg_ hnew_;clear hg_ hnew_
        (first|rw [← Ny653.out] at ho26|(simp only [Int.reduceToNat] at ho26;rw [← Ny653.out] at ho26))
        have n0_:=aM2 (Kd.R_lower ho26 (below_size (zyx2_4)));have n1_:=aM2 (blk_below (g:=gb644) (o:=.cells #[.int .i64 a0_0,.int .i64 a0_1,.int .i64 a0_2,.slice (some ad648) l0_3.length c0_3,.slice (some ad649) l0_4.length c0_4,.slice (some ad650) l0_5.length c0_5] 27 (0,0)) (zyx2_3) hb);have n2_:=aM2 (bS2 (zyx2_4) hb);clear BK644 HB;have HO655:=n0_;have BK644:=n1_;have HB:=n2_;clear n0_ n1_ n2_ hb ho26;obtain ⟨Ao27,co27,eo27⟩:=Kd.R_slice HO655.out
        (first|subst eo27|(injection eo27 with f1_ f2_ f3_;have f4_:=f1_.symm;have f5_:=f3_.symm;clear f1_ f2_ f3_;subst f4_;subst f5_))
        refine hK.out _ _ ⟨(bC2 BK644.out 0).trans rfl,(bC2 BK644.out 1).trans rfl,(bC2 BK644.out 2).trans rfl,(bC2 BK644.out 3).trans rfl,(bC2 BK644.out 4).trans rfl,(bC2 BK644.out 5).trans rfl,((HB.out.cell (bL2 w _ hw648_0)).trans hw648_0),((HB.out.cell (bL2 w _ hw649_0)).trans hw649_0),((HB.out.cell (bL2 w _ hw650_0)).trans hw650_0),((HB.out.cell (bL2 w _ hw651_0)).trans hw651_0),((HB.out.cell (bL2 w _ hw652_0)).trans hw652_0)⟩ (fun hHeld=>?_);clear hK K;refine norm_ (a':=?_) ?_ ?_;rotate_left
        ·show Act.put _ (some 53) _=_
         simp only [Act.put,uA2,uB2,uC2,i64_w,i32_w]
         rfl
        refine one_ (i:=32) (N:=some 54) #[true,true,true,true,true,true,true,true,true,true,true,true,true,true,true,true,true,true,true,true,true,true,true,true,true,true,true,true,true,true,true,true,true,false,false,false,false,false] rfl rfl (one_of HT_.out (zyx2_1)) (by decide) (fun K hK=>?_);refine goes_ Try.func59 (zyx2_1) rfl #[.slice A1 l1.length c1,.int .i64 (wrap64 ((l1.length:Int) - 1)),.slice Ao27 y653.length co27] (by rfl) rfl rfl (zyx2_2) ?_
        with_reducible refine (impl_evalPart.calls k _ _ l1 (wrap64 ((l1.length:Int) - 1)) _ _ y653 t656 true _ ?side1 ?side2 ?side3 ?side4 A9.out).mono ?_
        (case side1=>exact zyx2_12)
        (case side2=>exact HC1.out)
        (case side3=>exact zyx2_13)
        (case side4=>exact (Kd.R_reads' HO655.out).2.1)
        rintro e w28 ⟨rfl,hb⟩;refine ⟨_,rfl,?_⟩;have n0_:=aM2 (Kd.R_below (zyx2_6) hb);have n1_:=aM2 (blk_below (g:=gb644) (o:=.cells #[.int .i64 a0_0,.int .i64 a0_1,.int .i64 a0_2,.slice (some ad648) l0_3.length c0_3,.slice (some ad649) l0_4.length c0_4,.slice (some ad650) l0_5.length c0_5] 27 (0,0)) (zyx2_3) hb);have n2_:=aM2 (bS2 (zyx2_4) hb);clear HO655 BK644 HB;have HO655:=n0_;have BK644:=n1_;have HB:=n2_;clear n0_ n1_ n2_;(try clear hb);(try clear hb2);(try clear hk);(try clear hi);refine hK.out _ _ ⟨(bC2 BK644.out 0).trans rfl,(bC2 BK644.out 1).trans rfl,(bC2 BK644.out 2).trans rfl,(bC2 BK644.out 3).trans rfl,(bC2 BK644.out 4).trans rfl,(bC2 BK644.out 5).trans rfl,((HB.out.cell (bL2 w _ hw648_0)).trans hw648_0),((HB.out.cell (bL2 w _ hw649_0)).trans hw649_0),((HB.out.cell (bL2 w _ hw650_0)).trans hw650_0),((HB.out.cell (bL2 w _ hw651_0)).trans hw651_0),((HB.out.cell (bL2 w _ hw652_0)).trans hw652_0)⟩ (fun hHeld=>?_);clear hK K;refine norm_ (a':=?_) ?_ ?_;rotate_left
        ·show Act.put _ (some 54) _=_
         simp only [Act.put,uA2,uB2,uC2,i64_w,i32_w]
         rfl
        refine wp_in [(33,21,17179869183,0),(34,55,34359738367,0),(35,56,68719476735,0),(36,11,137438953471,0),(37,12,274877906943,0)] 38 ?_
        iterate 5 ((refine pn_ (oi:=?_) (v:=?_) (a':=?_) HT_.out ?_ ?_ ?_ ?_ ?_ ?_ ?_ ?_;rotate_left 3;rfl;rfl;kernel_rfl;exact fun _ _ _ h=>h;rfl;intro w';go_simp;with_reducible rfl;simp only [Act.put,uA2,uB2,uC2,i64_w,i32_w];rfl))
        refine wp_out ?_;refine done_ (done_of HT_.out (zyx2_1)) ?_
        try go_wp2
        go_ret2
        exact ⟨zyx2_7,zyx2_4⟩
       ·rw [if_neg c20] at H
        have c20b0:decide (1000000 < t656)=false:=decide_eq_false c20;clear c20;simp only [Option.some.injEq,Prod.mk.injEq] at H;obtain ⟨rfl,rfl⟩:=H;go_enter Try.func33,Try.ntmps33
        try go_wp2_with (first|((with_reducible refine gate_dst (N:=3) rfl ?_);refine box_event ?hg (N:=3) ?hd (cs:=#[.int .i64 a0_0,.int .i64 a0_1,.int .i64 a0_2,.slice A0_3 l0_3.length c0_3,.slice A0_4 l0_4.length c0_4,.slice A0_5 l0_5.length c0_5]) (t:=27) ?hr ?_;(case hd=>rfl);(case hg=>rfl);(case hr=>exact zyx2_11);intro gb644 hg w29 hbox hb;have n0_:=aM2 (bS2 (zyx2_0) hb);have n1_:=aM2 (hbox);have n2_:=aM2 ((zyx2_14:w.heap.size≤gb644));have n3_:=aM2 ((zyx2_14:w.heap.size≤gb644));clear HB;have HB:=n0_;have BK644:=n1_;have GW644:=n2_;have GE644:=n3_;clear n0_ n1_ n2_ n3_ hb hbox hg;obtain ⟨hcz30_0,hfz30_0,hcz30_1,hfz30_1,hcz30_2,hfz30_2,hcz30_3,hfz30_3,hcz30_4,hfz30_4,hcz30_5,hfz30_5⟩:=cf6 BK644.out)|((with_reducible refine gate_callee (f:=58) rfl ?_);refine goesL_ (some 17) rfl rfl Try.func58 (zyx2_1) rfl #[.agg #[.int .i64 a0_0,.int .i64 a0_1,.int .i64 a0_2],.int .i64 a2] rfl (zyx2_2) ?_;(with_reducible refine (impl_placeOf.calls a0_0 a0_1 a0_2 a2 t645 t646 t647 _ A4.out).mono ?_);rintro e w31 ⟨rfl,hb⟩;refine ⟨_,rfl,?_⟩;have n0_:=aM2 (blk_below (g:=gb644) (o:=.cells #[.int .i64 a0_0,.int .i64 a0_1,.int .i64 a0_2,.slice A0_3 l0_3.length c0_3,.slice A0_4 l0_4.length c0_4,.slice A0_5 l0_5.length c0_5] 27 (0,0)) (zyx2_3) hb);have n1_:=aM2 (bS2 (zyx2_4) hb);clear BK644 HB;have BK644:=n0_;have HB:=n1_;clear n0_ n1_;(try clear hb);(try clear hb2);(try clear hk);(try clear hi)))
        have n0_:=aM2 (blk_drew BK644.out);have n1_:=aM2 (below_drew1 HB.out);clear BK644 HB;have BK644:=n0_;have HB:=n1_;clear n0_ n1_;have p648:0≤(a2:Int):=oD2 (zyx2_5);have q648:a2 < (l0_3.length:Int):=oD2 (zyx2_5);obtain ⟨ad648,e648,hx648_0⟩:=Kd.at_int HR0_3.out a2 p648 q648;have hw648_0:=hx648_0
        cases e648
        replace hx648_0:=(HB.out.cell (bL2 w _ hx648_0)).trans hx648_0;replace p648:=eT2 p648;replace q648:=eT2 q648;have p649:0≤(a2:Int):=oD2 (zyx2_5);have q649:a2 < (l0_4.length:Int):=oD2 (zyx2_5);obtain ⟨ad649,e649,hx649_0⟩:=Kd.at_int HR0_4.out a2 p649 q649;have hw649_0:=hx649_0
        cases e649
        replace hx649_0:=(HB.out.cell (bL2 w _ hx649_0)).trans hx649_0;replace p649:=eT2 p649;replace q649:=eT2 q649;have p650:0≤(a2:Int):=oD2 (zyx2_5);have q650:a2 < (l0_5.length:Int):=oD2 (zyx2_5);obtain ⟨ad650,e650,hx650_0⟩:=Kd.at_int HR0_5.out a2 p650 q650;have hw650_0:=hx650_0
        cases e650
        replace hx650_0:=(HB.out.cell (bL2 w _ hx650_0)).trans hx650_0;replace p650:=eT2 p650;replace q650:=eT2 q650;have p651:0≤(a2:Int):=oD2 (zyx2_5);have q651:a2 < (l0_3.length:Int):=oD2 (zyx2_5);obtain ⟨ad651,e651,hx651_0⟩:=Kd.at_int HR0_3.out a2 p651 q651;have hw651_0:=hx651_0;obtain rfl:ad648=ad651:=(by injection e651);replace hx651_0:=(HB.out.cell (bL2 w _ hx651_0)).trans hx651_0;replace p651:=eT2 p651;replace q651:=eT2 q651;have p652:0≤(a2:Int):=oD2 (zyx2_5);have q652:a2 < (l0_4.length:Int):=oD2 (zyx2_5);obtain ⟨ad652,e652,hx652_0⟩:=Kd.at_int HR0_4.out a2 p652 q652;have hw652_0:=hx652_0;obtain rfl:ad649=ad652:=(by injection e652);replace hx652_0:=(HB.out.cell (bL2 w _ hx652_0)).trans hx652_0;replace p652:=eT2 p652;replace q652:=eT2 q652
        refine start_ (n:=38) (S:=fun w'=>w'.cell? ⟨gb644,0,none⟩=some (.int .i64 a0_0)∧w'.cell? ⟨gb644,1,none⟩=some (.int .i64 a0_1)∧w'.cell? ⟨gb644,2,none⟩=some (.int .i64 a0_2)∧w'.cell? ⟨gb644,3,none⟩=some (.slice (some ad648) l0_3.length c0_3)∧w'.cell? ⟨gb644,4,none⟩=some (.slice (some ad649) l0_4.length c0_4)∧w'.cell? ⟨gb644,5,none⟩=some (.slice (some ad650) l0_5.length c0_5)∧w'.cell? (ad648.add (a2).toNat)=some (.int .i64 (rd l0_3 a2))∧w'.cell? (ad649.add (a2).toNat)=some (.int .i64 (rd l0_4 a2))∧w'.cell? (ad650.add (a2).toNat)=some (.int .i64 (rd l0_5 a2))∧w'.cell? (ad648.add (a2).toNat)=some (.int .i64 (rd l0_3 a2))∧w'.cell? (ad649.add (a2).toNat)=some (.int .i64 (rd l0_4 a2))) (ds:=[]) #[false,false,false,false,false,false,false,false,false,false,false,false,false,false,false,false,false,false,false,false,false,false,false,false,false,false,false,false,false,false,false,false,false,false,false,false,false,false] (zyx2_1) rfl rfl ⟨(bC2 BK644.out 0).trans rfl,(bC2 BK644.out 1).trans rfl,(bC2 BK644.out 2).trans rfl,(bC2 BK644.out 3).trans rfl,(bC2 BK644.out 4).trans rfl,(bC2 BK644.out 5).trans rfl,((HB.out.cell (bL2 w _ hw648_0)).trans hw648_0),((HB.out.cell (bL2 w _ hw649_0)).trans hw649_0),((HB.out.cell (bL2 w _ hw650_0)).trans hw650_0),((HB.out.cell (bL2 w _ hw651_0)).trans hw651_0),((HB.out.cell (bL2 w _ hw652_0)).trans hw652_0)⟩ (fun hHeld=>?_);refine with_tabW impl_ruleValue.tab2 impl_ruleValue.bits2 (fun HT_ HW_=>?_);generalize w31.drew=w32 at BK644 HB hx648_0 hx649_0 hx650_0 hx651_0 hx652_0 hHeld ⊢;refine wp_in [(0,22,1,0),(1,23,3,0),(2,24,7,0),(3,25,15,0),(4,26,31,0),(6,28,95,0),(9,31,607,0),(11,33,2655,0),(14,36,19039,0),(16,38,84575,0),(19,41,608863,0),(20,42,1657439,0),(22,44,5851743,0),(25,47,39406175,0),(27,49,173623903,0),(5,27,173623935,1),(7,29,173624063,0),(8,30,173624319,1),(10,32,173625343,1),(12,34,173629439,0),(13,35,173637631,1),(15,37,173670399,1),(17,39,173801471,0),(18,40,174063615,1),(21,43,176160767,1),(23,45,184549375,0),(24,46,201326591,1),(26,48,268435455,1),(28,50,536870911,0),(29,51,1073741823,1),(30,52,2147483647,0)] 38 ?_
        iterate 31 (first|(refine pn_ (oi:=?_) (v:=?_) (a':=?_) HT_.out ?_ ?_ ?_ ?_ ?_ ?_ ?_ ?_;rotate_left 3;rfl;rfl;kernel_rfl;exact fun _ _ _ h=>h;rfl;intro w';go_simp;with_reducible rfl;simp only [Act.put,uA2,uB2,uC2,i64_w,i32_w];rfl)|(refine tn_ (oi:=?_) (v:=?_) (a':=?_) HT_.out HW_.out hHeld ?_ ?_ ?_ ?_ ?_ ?_ ?_ ?_;rotate_left 3;rfl;rfl;kernel_rfl;exact fun _ _ _ h=>h;rfl;rintro w' ⟨s0,s1,s2,s3,s4,s5,s6,s7,s8,s9,s10⟩;go_simp;with_reducible rfl;simp only [Act.put,uA2,uB2,uC2,i64_w,i32_w];rfl))
        refine wp_out ?_;refine one_ (i:=31) (N:=some 53) #[true,true,true,true,true,true,true,true,true,true,true,true,true,true,true,true,true,true,true,true,true,true,true,true,true,true,true,true,true,true,true,true,false,false,false,false,false,false] rfl rfl (one_of HT_.out (zyx2_1)) (by decide) (fun K hK=>?_)
        refine Kd.R_lit_step (Kd.int .i64) _ 3 ?hg (N:=53) ?hd (xs:=([rd l0_3 a2,rd l0_4 a2,rd l0_5 a2,t647,wrap64 ((rd l0_3 a2) * (rd l0_4 a2))]:List Int)) (inner:=[.int .i64 (rd l0_3 a2),.int .i64 (rd l0_4 a2),.int .i64 (rd l0_5 a2),.int .i64 t647,.int .i64 (wrap64 ((rd l0_3 a2) * (rd l0_4 a2)))]) (ok:=fun _=>True) (okp:=fun _=>True) ?hr ?hp (fun _ hk=>hk) trivial (Below.refl _ _) (Nat.le_refl _) (by simp) ?_;(case hd=>rfl);(case hg=>rfl);(case hr=>exact zyx2_11);(case hp=>exact (Reps.one (show Kd.M (Kd.int .i64) _ _ _ (rd l0_3 a2) [.int .i64 (rd l0_3 a2)] from rfl) (Reps.one (show Kd.M (Kd.int .i64) _ _ _ (rd l0_4 a2) [.int .i64 (rd l0_4 a2)] from rfl) (Reps.one (show Kd.M (Kd.int .i64) _ _ _ (rd l0_5 a2) [.int .i64 (rd l0_5 a2)] from rfl) (Reps.one (show Kd.M (Kd.int .i64) _ _ _ t647 [.int .i64 t647] from rfl) (Reps.one (show Kd.M (Kd.int .i64) _ _ _ (wrap64 ((rd l0_3 a2) * (rd l0_4 a2))) [.int .i64 (wrap64 ((rd l0_3 a2) * (rd l0_4 a2)))] from rfl) (Reps.none _ _)))))))
        intro v654 w33 ho34 hb hg_ hnew_;clear hg_ hnew_
        (first|rw [← Ny653.out] at ho34|(simp only [Int.reduceToNat] at ho34;rw [← Ny653.out] at ho34))
        have n0_:=aM2 (Kd.R_lower ho34 (below_size (zyx2_4)));have n1_:=aM2 (blk_below (g:=gb644) (o:=.cells #[.int .i64 a0_0,.int .i64 a0_1,.int .i64 a0_2,.slice (some ad648) l0_3.length c0_3,.slice (some ad649) l0_4.length c0_4,.slice (some ad650) l0_5.length c0_5] 27 (0,0)) (zyx2_3) hb);have n2_:=aM2 (bS2 (zyx2_4) hb);clear BK644 HB;have HO655:=n0_;have BK644:=n1_;have HB:=n2_;clear n0_ n1_ n2_ hb ho34;obtain ⟨Ao35,co35,eo35⟩:=Kd.R_slice HO655.out
        (first|subst eo35|(injection eo35 with f1_ f2_ f3_;have f4_:=f1_.symm;have f5_:=f3_.symm;clear f1_ f2_ f3_;subst f4_;subst f5_))
        refine hK.out _ _ ⟨(bC2 BK644.out 0).trans rfl,(bC2 BK644.out 1).trans rfl,(bC2 BK644.out 2).trans rfl,(bC2 BK644.out 3).trans rfl,(bC2 BK644.out 4).trans rfl,(bC2 BK644.out 5).trans rfl,((HB.out.cell (bL2 w _ hw648_0)).trans hw648_0),((HB.out.cell (bL2 w _ hw649_0)).trans hw649_0),((HB.out.cell (bL2 w _ hw650_0)).trans hw650_0),((HB.out.cell (bL2 w _ hw651_0)).trans hw651_0),((HB.out.cell (bL2 w _ hw652_0)).trans hw652_0)⟩ (fun hHeld=>?_);clear hK K;refine norm_ (a':=?_) ?_ ?_;rotate_left
        ·show Act.put _ (some 53) _=_
         simp only [Act.put,uA2,uB2,uC2,i64_w,i32_w]
         rfl
        refine one_ (i:=32) (N:=some 54) #[true,true,true,true,true,true,true,true,true,true,true,true,true,true,true,true,true,true,true,true,true,true,true,true,true,true,true,true,true,true,true,true,true,false,false,false,false,false] rfl rfl (one_of HT_.out (zyx2_1)) (by decide) (fun K hK=>?_);refine goes_ Try.func59 (zyx2_1) rfl #[.slice A1 l1.length c1,.int .i64 (wrap64 ((l1.length:Int) - 1)),.slice Ao35 y653.length co35] (by rfl) rfl rfl (zyx2_2) ?_
        with_reducible refine (impl_evalPart.calls k _ _ l1 (wrap64 ((l1.length:Int) - 1)) _ _ y653 t656 true _ ?side1 ?side2 ?side3 ?side4 A9.out).mono ?_
        (case side1=>exact zyx2_12)
        (case side2=>exact HC1.out)
        (case side3=>exact zyx2_13)
        (case side4=>exact (Kd.R_reads' HO655.out).2.1)
        rintro e w36 ⟨rfl,hb⟩;refine ⟨_,rfl,?_⟩;have n0_:=aM2 (Kd.R_below (zyx2_6) hb);have n1_:=aM2 (blk_below (g:=gb644) (o:=.cells #[.int .i64 a0_0,.int .i64 a0_1,.int .i64 a0_2,.slice (some ad648) l0_3.length c0_3,.slice (some ad649) l0_4.length c0_4,.slice (some ad650) l0_5.length c0_5] 27 (0,0)) (zyx2_3) hb);have n2_:=aM2 (bS2 (zyx2_4) hb);clear HO655 BK644 HB;have HO655:=n0_;have BK644:=n1_;have HB:=n2_;clear n0_ n1_ n2_;(try clear hb);(try clear hb2);(try clear hk);(try clear hi);refine hK.out _ _ ⟨(bC2 BK644.out 0).trans rfl,(bC2 BK644.out 1).trans rfl,(bC2 BK644.out 2).trans rfl,(bC2 BK644.out 3).trans rfl,(bC2 BK644.out 4).trans rfl,(bC2 BK644.out 5).trans rfl,((HB.out.cell (bL2 w _ hw648_0)).trans hw648_0),((HB.out.cell (bL2 w _ hw649_0)).trans hw649_0),((HB.out.cell (bL2 w _ hw650_0)).trans hw650_0),((HB.out.cell (bL2 w _ hw651_0)).trans hw651_0),((HB.out.cell (bL2 w _ hw652_0)).trans hw652_0)⟩ (fun hHeld=>?_);clear hK K;refine norm_ (a':=?_) ?_ ?_;rotate_left
        ·show Act.put _ (some 54) _=_
         simp only [Act.put,uA2,uB2,uC2,i64_w,i32_w]
         rfl
        refine wp_in [(33,21,17179869183,0),(34,55,34359738367,0),(35,56,68719476735,0),(36,11,137438953471,0),(37,12,274877906943,0)] 38 ?_
        iterate 5 ((refine pn_ (oi:=?_) (v:=?_) (a':=?_) HT_.out ?_ ?_ ?_ ?_ ?_ ?_ ?_ ?_;rotate_left 3;rfl;rfl;kernel_rfl;exact fun _ _ _ h=>h;rfl;intro w';go_simp;with_reducible rfl;simp only [Act.put,uA2,uB2,uC2,i64_w,i32_w];rfl))
        refine wp_out ?_;refine done_ (done_of HT_.out (zyx2_1)) ?_
        try go_wp2
        go_ret2
        exact ⟨zyx2_7,zyx2_4⟩
     ·replace c10:=Bool.eq_false_iff.mpr c10
      subst c10;rw [if_neg (show ¬ (false=true) by decide)] at H;(try dsimp only at H);simp only [Option.some.injEq,Prod.mk.injEq] at H;obtain ⟨rfl,rfl⟩:=H;go_enter Try.func33,Try.ntmps33
      try go_wp2_with (first|((with_reducible refine gate_dst (N:=3) rfl ?_);refine box_event ?hg (N:=3) ?hd (cs:=#[.int .i64 a0_0,.int .i64 a0_1,.int .i64 a0_2,.slice A0_3 l0_3.length c0_3,.slice A0_4 l0_4.length c0_4,.slice A0_5 l0_5.length c0_5]) (t:=27) ?hr ?_;(case hd=>rfl);(case hg=>rfl);(case hr=>exact zyx2_11);intro gb644 hg w37 hbox hb;have n0_:=aM2 (bS2 (zyx2_0) hb);have n1_:=aM2 (hbox);have n2_:=aM2 ((zyx2_14:w.heap.size≤gb644));have n3_:=aM2 ((zyx2_14:w.heap.size≤gb644));clear HB;have HB:=n0_;have BK644:=n1_;have GW644:=n2_;have GE644:=n3_;clear n0_ n1_ n2_ n3_ hb hbox hg;obtain ⟨hcz38_0,hfz38_0,hcz38_1,hfz38_1,hcz38_2,hfz38_2,hcz38_3,hfz38_3,hcz38_4,hfz38_4,hcz38_5,hfz38_5⟩:=cf6 BK644.out)|((with_reducible refine gate_callee (f:=58) rfl ?_);refine goesL_ (some 17) rfl rfl Try.func58 (zyx2_1) rfl #[.agg #[.int .i64 a0_0,.int .i64 a0_1,.int .i64 a0_2],.int .i64 a2] rfl (zyx2_2) ?_;(with_reducible refine (impl_placeOf.calls a0_0 a0_1 a0_2 a2 t645 t646 t647 _ A4.out).mono ?_);rintro e w39 ⟨rfl,hb⟩;refine ⟨_,rfl,?_⟩;have n0_:=aM2 (blk_below (g:=gb644) (o:=.cells #[.int .i64 a0_0,.int .i64 a0_1,.int .i64 a0_2,.slice A0_3 l0_3.length c0_3,.slice A0_4 l0_4.length c0_4,.slice A0_5 l0_5.length c0_5] 27 (0,0)) (zyx2_3) hb);have n1_:=aM2 (bS2 (zyx2_4) hb);clear BK644 HB;have BK644:=n0_;have HB:=n1_;clear n0_ n1_;(try clear hb);(try clear hb2);(try clear hk);(try clear hi)))
      have n0_:=aM2 (blk_drew BK644.out);have n1_:=aM2 (below_drew1 HB.out);clear BK644 HB;have BK644:=n0_;have HB:=n1_;clear n0_ n1_;have p648:0≤(a2:Int):=oD2 (zyx2_5);have q648:a2 < (l0_3.length:Int):=oD2 (zyx2_5);obtain ⟨ad648,e648,hx648_0⟩:=Kd.at_int HR0_3.out a2 p648 q648;have hw648_0:=hx648_0
      cases e648
      replace hx648_0:=(HB.out.cell (bL2 w _ hx648_0)).trans hx648_0;replace p648:=eT2 p648;replace q648:=eT2 q648;have p649:0≤(a2:Int):=oD2 (zyx2_5);have q649:a2 < (l0_4.length:Int):=oD2 (zyx2_5);obtain ⟨ad649,e649,hx649_0⟩:=Kd.at_int HR0_4.out a2 p649 q649;have hw649_0:=hx649_0
      cases e649
      replace hx649_0:=(HB.out.cell (bL2 w _ hx649_0)).trans hx649_0;replace p649:=eT2 p649;replace q649:=eT2 q649;have p650:0≤(a2:Int):=oD2 (zyx2_5);have q650:a2 < (l0_5.length:Int):=oD2 (zyx2_5);obtain ⟨ad650,e650,hx650_0⟩:=Kd.at_int HR0_5.out a2 p650 q650;have hw650_0:=hx650_0
      cases e650
      replace hx650_0:=(HB.out.cell (bL2 w _ hx650_0)).trans hx650_0;replace p650:=eT2 p650;replace q650:=eT2 q650;have p651:0≤(a2:Int):=oD2 (zyx2_5);have q651:a2 < (l0_3.length:Int):=oD2 (zyx2_5);obtain ⟨ad651,e651,hx651_0⟩:=Kd.at_int HR0_3.out a2 p651 q651;have hw651_0:=hx651_0;obtain rfl:ad648=ad651:=(by injection e651);replace hx651_0:=(HB.out.cell (bL2 w _ hx651_0)).trans hx651_0;replace p651:=eT2 p651;replace q651:=eT2 q651;have p652:0≤(a2:Int):=oD2 (zyx2_5);have q652:a2 < (l0_4.length:Int):=oD2 (zyx2_5);obtain ⟨ad652,e652,hx652_0⟩:=Kd.at_int HR0_4.out a2 p652 q652;have hw652_0:=hx652_0;obtain rfl:ad649=ad652:=(by injection e652);replace hx652_0:=(HB.out.cell (bL2 w _ hx652_0)).trans hx652_0;replace p652:=eT2 p652;replace q652:=eT2 q652
      refine start_ (n:=38) (S:=fun w'=>w'.cell? ⟨gb644,0,none⟩=some (.int .i64 a0_0)∧w'.cell? ⟨gb644,1,none⟩=some (.int .i64 a0_1)∧w'.cell? ⟨gb644,2,none⟩=some (.int .i64 a0_2)∧w'.cell? ⟨gb644,3,none⟩=some (.slice (some ad648) l0_3.length c0_3)∧w'.cell? ⟨gb644,4,none⟩=some (.slice (some ad649) l0_4.length c0_4)∧w'.cell? ⟨gb644,5,none⟩=some (.slice (some ad650) l0_5.length c0_5)∧w'.cell? (ad648.add (a2).toNat)=some (.int .i64 (rd l0_3 a2))∧w'.cell? (ad649.add (a2).toNat)=some (.int .i64 (rd l0_4 a2))∧w'.cell? (ad650.add (a2).toNat)=some (.int .i64 (rd l0_5 a2))∧w'.cell? (ad648.add (a2).toNat)=some (.int .i64 (rd l0_3 a2))∧w'.cell? (ad649.add (a2).toNat)=some (.int .i64 (rd l0_4 a2))) (ds:=[]) #[false,false,false,false,false,false,false,false,false,false,false,false,false,false,false,false,false,false,false,false,false,false,false,false,false,false,false,false,false,false,false,false,false,false,false,false,false,false] (zyx2_1) rfl rfl ⟨(bC2 BK644.out 0).trans rfl,(bC2 BK644.out 1).trans rfl,(bC2 BK644.out 2).trans rfl,(bC2 BK644.out 3).trans rfl,(bC2 BK644.out 4).trans rfl,(bC2 BK644.out 5).trans rfl,((HB.out.cell (bL2 w _ hw648_0)).trans hw648_0),((HB.out.cell (bL2 w _ hw649_0)).trans hw649_0),((HB.out.cell (bL2 w _ hw650_0)).trans hw650_0),((HB.out.cell (bL2 w _ hw651_0)).trans hw651_0),((HB.out.cell (bL2 w _ hw652_0)).trans hw652_0)⟩ (fun hHeld=>?_);refine with_tabW impl_ruleValue.tab2 impl_ruleValue.bits2 (fun HT_ HW_=>?_);generalize w39.drew=w40 at BK644 HB hx648_0 hx649_0 hx650_0 hx651_0 hx652_0 hHeld ⊢;refine wp_in [(0,22,1,0),(1,23,3,0),(2,24,7,0),(3,25,15,0),(4,26,31,0),(6,28,95,0),(9,31,607,0),(11,33,2655,0),(14,36,19039,0),(16,38,84575,0),(19,41,608863,0),(20,42,1657439,0),(22,44,5851743,0),(25,47,39406175,0),(27,49,173623903,0),(5,27,173623935,1),(7,29,173624063,0),(8,30,173624319,1),(10,32,173625343,1),(12,34,173629439,0),(13,35,173637631,1),(15,37,173670399,1),(17,39,173801471,0),(18,40,174063615,1),(21,43,176160767,1),(23,45,184549375,0),(24,46,201326591,1),(26,48,268435455,1),(28,50,536870911,0),(29,51,1073741823,1),(30,52,2147483647,0)] 38 ?_
      iterate 31 (first|(refine pn_ (oi:=?_) (v:=?_) (a':=?_) HT_.out ?_ ?_ ?_ ?_ ?_ ?_ ?_ ?_;rotate_left 3;rfl;rfl;kernel_rfl;exact fun _ _ _ h=>h;rfl;intro w';go_simp;with_reducible rfl;simp only [Act.put,uA2,uB2,uC2,i64_w,i32_w];rfl)|(refine tn_ (oi:=?_) (v:=?_) (a':=?_) HT_.out HW_.out hHeld ?_ ?_ ?_ ?_ ?_ ?_ ?_ ?_;rotate_left 3;rfl;rfl;kernel_rfl;exact fun _ _ _ h=>h;rfl;rintro w' ⟨s0,s1,s2,s3,s4,s5,s6,s7,s8,s9,s10⟩;go_simp;with_reducible rfl;simp only [Act.put,uA2,uB2,uC2,i64_w,i32_w];rfl))
      refine wp_out ?_;refine one_ (i:=31) (N:=some 53) #[true,true,true,true,true,true,true,true,true,true,true,true,true,true,true,true,true,true,true,true,true,true,true,true,true,true,true,true,true,true,true,true,false,false,false,false,false,false] rfl rfl (one_of HT_.out (zyx2_1)) (by decide) (fun K hK=>?_)
      refine Kd.R_lit_step (Kd.int .i64) _ 3 ?hg (N:=53) ?hd (xs:=([rd l0_3 a2,rd l0_4 a2,rd l0_5 a2,t647,wrap64 ((rd l0_3 a2) * (rd l0_4 a2))]:List Int)) (inner:=[.int .i64 (rd l0_3 a2),.int .i64 (rd l0_4 a2),.int .i64 (rd l0_5 a2),.int .i64 t647,.int .i64 (wrap64 ((rd l0_3 a2) * (rd l0_4 a2)))]) (ok:=fun _=>True) (okp:=fun _=>True) ?hr ?hp (fun _ hk=>hk) trivial (Below.refl _ _) (Nat.le_refl _) (by simp) ?_;(case hd=>rfl);(case hg=>rfl);(case hr=>exact zyx2_11);(case hp=>exact (Reps.one (show Kd.M (Kd.int .i64) _ _ _ (rd l0_3 a2) [.int .i64 (rd l0_3 a2)] from rfl) (Reps.one (show Kd.M (Kd.int .i64) _ _ _ (rd l0_4 a2) [.int .i64 (rd l0_4 a2)] from rfl) (Reps.one (show Kd.M (Kd.int .i64) _ _ _ (rd l0_5 a2) [.int .i64 (rd l0_5 a2)] from rfl) (Reps.one (show Kd.M (Kd.int .i64) _ _ _ t647 [.int .i64 t647] from rfl) (Reps.one (show Kd.M (Kd.int .i64) _ _ _ (wrap64 ((rd l0_3 a2) * (rd l0_4 a2))) [.int .i64 (wrap64 ((rd l0_3 a2) * (rd l0_4 a2)))] from rfl) (Reps.none _ _)))))))
      intro v654 w41 ho42 hb hg_ hnew_;clear hg_ hnew_
      (first|rw [← Ny653.out] at ho42|(simp only [Int.reduceToNat] at ho42;rw [← Ny653.out] at ho42))
      have n0_:=aM2 (Kd.R_lower ho42 (below_size (zyx2_4)));have n1_:=aM2 (blk_below (g:=gb644) (o:=.cells #[.int .i64 a0_0,.int .i64 a0_1,.int .i64 a0_2,.slice (some ad648) l0_3.length c0_3,.slice (some ad649) l0_4.length c0_4,.slice (some ad650) l0_5.length c0_5] 27 (0,0)) (zyx2_3) hb);have n2_:=aM2 (bS2 (zyx2_4) hb);clear BK644 HB;have HO655:=n0_;have BK644:=n1_;have HB:=n2_;clear n0_ n1_ n2_ hb ho42;obtain ⟨Ao43,co43,eo43⟩:=Kd.R_slice HO655.out
      (first|subst eo43|(injection eo43 with f1_ f2_ f3_;have f4_:=f1_.symm;have f5_:=f3_.symm;clear f1_ f2_ f3_;subst f4_;subst f5_))
      refine hK.out _ _ ⟨(bC2 BK644.out 0).trans rfl,(bC2 BK644.out 1).trans rfl,(bC2 BK644.out 2).trans rfl,(bC2 BK644.out 3).trans rfl,(bC2 BK644.out 4).trans rfl,(bC2 BK644.out 5).trans rfl,((HB.out.cell (bL2 w _ hw648_0)).trans hw648_0),((HB.out.cell (bL2 w _ hw649_0)).trans hw649_0),((HB.out.cell (bL2 w _ hw650_0)).trans hw650_0),((HB.out.cell (bL2 w _ hw651_0)).trans hw651_0),((HB.out.cell (bL2 w _ hw652_0)).trans hw652_0)⟩ (fun hHeld=>?_);clear hK K;refine norm_ (a':=?_) ?_ ?_;rotate_left
      ·show Act.put _ (some 53) _=_
       simp only [Act.put,uA2,uB2,uC2,i64_w,i32_w]
       rfl
      refine one_ (i:=32) (N:=some 54) #[true,true,true,true,true,true,true,true,true,true,true,true,true,true,true,true,true,true,true,true,true,true,true,true,true,true,true,true,true,true,true,true,true,false,false,false,false,false] rfl rfl (one_of HT_.out (zyx2_1)) (by decide) (fun K hK=>?_);refine goes_ Try.func59 (zyx2_1) rfl #[.slice A1 l1.length c1,.int .i64 (wrap64 ((l1.length:Int) - 1)),.slice Ao43 y653.length co43] (by rfl) rfl rfl (zyx2_2) ?_
      with_reducible refine (impl_evalPart.calls k _ _ l1 (wrap64 ((l1.length:Int) - 1)) _ _ y653 t656 false _ ?side1 ?side2 ?side3 ?side4 A9.out).mono ?_
      (case side1=>exact zyx2_12)
      (case side2=>exact HC1.out)
      (case side3=>exact zyx2_13)
      (case side4=>exact (Kd.R_reads' HO655.out).2.1)
      rintro e w44 ⟨rfl,hb⟩;refine ⟨_,rfl,?_⟩;have n0_:=aM2 (Kd.R_below (zyx2_6) hb);have n1_:=aM2 (blk_below (g:=gb644) (o:=.cells #[.int .i64 a0_0,.int .i64 a0_1,.int .i64 a0_2,.slice (some ad648) l0_3.length c0_3,.slice (some ad649) l0_4.length c0_4,.slice (some ad650) l0_5.length c0_5] 27 (0,0)) (zyx2_3) hb);have n2_:=aM2 (bS2 (zyx2_4) hb);clear HO655 BK644 HB;have HO655:=n0_;have BK644:=n1_;have HB:=n2_;clear n0_ n1_ n2_;(try clear hb);(try clear hb2);(try clear hk);(try clear hi);refine hK.out _ _ ⟨(bC2 BK644.out 0).trans rfl,(bC2 BK644.out 1).trans rfl,(bC2 BK644.out 2).trans rfl,(bC2 BK644.out 3).trans rfl,(bC2 BK644.out 4).trans rfl,(bC2 BK644.out 5).trans rfl,((HB.out.cell (bL2 w _ hw648_0)).trans hw648_0),((HB.out.cell (bL2 w _ hw649_0)).trans hw649_0),((HB.out.cell (bL2 w _ hw650_0)).trans hw650_0),((HB.out.cell (bL2 w _ hw651_0)).trans hw651_0),((HB.out.cell (bL2 w _ hw652_0)).trans hw652_0)⟩ (fun hHeld=>?_);clear hK K;refine norm_ (a':=?_) ?_ ?_;rotate_left
      ·show Act.put _ (some 54) _=_
       simp only [Act.put,uA2,uB2,uC2,i64_w,i32_w]
       rfl
      refine wp_in [(33,21,17179869183,0),(34,55,34359738367,0),(35,56,68719476735,0),(36,11,137438953471,0),(37,12,274877906943,0)] 38 ?_
      iterate 5 ((refine pn_ (oi:=?_) (v:=?_) (a':=?_) HT_.out ?_ ?_ ?_ ?_ ?_ ?_ ?_ ?_;rotate_left 3;rfl;rfl;kernel_rfl;exact fun _ _ _ h=>h;rfl;intro w';go_simp;with_reducible rfl;simp only [Act.put,uA2,uB2,uC2,i64_w,i32_w];rfl))
      refine wp_out ?_;refine done_ (done_of HT_.out (zyx2_1)) ?_
      try go_wp2
      go_ret2
      exact ⟨zyx2_7,zyx2_4⟩
    ·rw [if_neg c8] at H
     exact absurd H (by simp)
   ·rw [if_neg c7] at H
    exact absurd H (by simp)
  ·rw [if_neg c6] at H
   exact absurd H (by simp)
 ·rw [if_neg c5] at H
  exact absurd H (by simp)
def spec_grCount.f (a0_0:Int) (a0_1:Int) (a0_2:Int):Option (Int):=some (wrap64 ((wrap64 (a0_0 * a0_1)) * a0_2))
set_option maxHeartbeats 8000000 in
set_option maxRecDepth 100000 in
theorem spec_grCount.calls (a0_0:Int) (a0_1:Int) (a0_2:Int) (r:Int) (w:World) (h:spec_grCount.f a0_0 a0_1 a0_2=some r) :
  Calls Try.prog 41 #[.agg #[.int .i64 a0_0,.int .i64 a0_1,.int .i64 a0_2]] w fun e w'=>e=.returned (.int .i64 r)∧Below w.heap.size w w':=by
 have hu24:=Try.underlying24;have HB:=aM2 (Below.refl w.heap.size w);have H:(some (wrap64 ((wrap64 (a0_0 * a0_1)) * a0_2)))=some r:=h;clear h;obtain rfl:=Option.some.inj H;go_enter Try.func41,Try.ntmps41
 go_wp2_with (first|((with_reducible refine gate_dst (N:=1) rfl ?_);refine box_event ?hg (N:=1) ?hd (cs:=#[.int .i64 a0_0,.int .i64 a0_1,.int .i64 a0_2]) (t:=24) ?hr ?_;(case hd=>rfl);(case hg=>rfl);(case hr=>exact zyx2_11);intro gb108 hg w2 hbox hb;have n0_:=aM2 (bS2 (zyx2_0) hb);have n1_:=aM2 (hbox);have n2_:=aM2 ((zyx2_14:w.heap.size≤gb108));have n3_:=aM2 ((zyx2_14:w.heap.size≤gb108));clear HB;have HB:=n0_;have BK108:=n1_;have GW108:=n2_;have GE108:=n3_;clear n0_ n1_ n2_ n3_ hb hbox hg;obtain ⟨hcz3_0,hfz3_0,hcz3_1,hfz3_1,hcz3_2,hfz3_2⟩:=cf3 BK108.out))
 go_ret
 exact ⟨zyx2_7,by repeat (first|(with_reducible first|exact HB.out|apply below_alloc|apply pw_below_drewN|apply below_drew1|refine below_set ?_ GE108.out)|exact HB.out)⟩
def spec_l1In.f (a0:Int) (a1:Int) (a2:Int):Option (Bool):=if a0 ≥ a1 then (some (decide (a0≤a2))) else (some false)
set_option maxHeartbeats 8000000 in
set_option maxRecDepth 100000 in
theorem spec_l1In.calls (a0:Int) (a1:Int) (a2:Int) (r:Bool) (w:World) (h:spec_l1In.f a0 a1 a2=some r) :
  Calls Try.prog 37 #[.int .i64 a0,.int .i64 a1,.int .i64 a2] w fun e w'=>e=.returned (.bool r)∧Drawn0 w w':=by
 have H:(if a0 ≥ a1 then (some (decide (a0≤a2))) else (some false))=some r:=h;clear h
 by_cases c4:a0 ≥ a1
 ·rw [if_pos c4] at H
  have c4b0:decide (a1≤a0)=true:=dT2 c4;clear c4;obtain rfl:=Option.some.inj H;go_enter Try.func37,Try.ntmps37
  go_wp2
  go_ret
  exact ⟨zyx2_8,zyx2_9⟩
 ·rw [if_neg c4] at H
  have c4b0:decide (a1≤a0)=false:=decide_eq_false c4;clear c4;obtain rfl:=Option.some.inj H;go_enter Try.func37,Try.ntmps37
  go_wp2
  go_ret
  exact ⟨zyx2_8,zyx2_9⟩
def spec_l1All.l0:Nat→Int→Int→List Int→Int→Int→Option (Bool)
 | 0,_,_,_,_,_=>none
 | k + 1,x1,x2,x9,x10,x11=>if x11 < x10 then (if 0≤x11 then (if x11 < (x9.length:Int) then ((spec_l1In.f (rd x9 x11) x1 x2).bind fun t376=>(if t376=true then (spec_l1All.l0 k x1 x2 x9 x10 (wrap64 (x11 + 1))) else (some false))) else (none)) else (none)) else (some true)
def spec_l1All.f (k:Nat) (l0:List Int) (a1:Int) (a2:Int):Option (Bool):=spec_l1All.l0 k a1 a2 l0 (l0.length:Int) 0
set_option maxHeartbeats 8000000 in
set_option maxRecDepth 100000 in
theorem spec_l1All.calls (k:Nat) (A0:Option Addr) (c0:Nat) (l0:List Int) (a1:Int) (a2:Int) (r:Bool) (w:World) (hr0:Kd.C (Kd.int .i64) w A0 l0.length l0) (hc0:l0.length≤c0) (h:spec_l1All.f k l0 a1 a2=some r) :
  Calls Try.prog 48 #[.slice A0 l0.length c0,.int .i64 a1,.int .i64 a2] w fun e w'=>e=.returned (.bool r)∧Drawn0 w w':=by
 have HR0:=aM2 hr0;have HC0:=aM2 hc0;clear hr0 hc0;have H:(spec_l1All.l0 k a1 a2 l0 (l0.length:Int) 0)=some r:=h;clear h;have H':=aM2 H;clear H;go_enter Try.func48,Try.ntmps48
 go_wp2
 go_loopg [11] k (fun kq v11 w'=>∃ (x11_1:Int),v11=.int .i64 x11_1∧Aside0 (spec_l1All.l0 kq a1 a2 l0 (l0.length:Int) x11_1=some r)∧Aside0 (kq≤k)∧Drawn0 w w')
 case atStart=>exact ⟨(0),(zyx2_8),H',⟨Nat.le_refl _⟩,zyx2_9⟩
 case round =>
  clear H';(try clear p2);obtain ⟨x11_1,rfl,HA,HK1,⟨m1,rfl⟩⟩:=hrel
  cases gk with
  | zero=>exact absurd HA.out (by simp [spec_l1All.l0])
  | succ k1 =>
   have H:=HA.out;clear HA;simp only [spec_l1All.l0] at H
   by_cases c4:x11_1 < (l0.length:Int)
   ·rw [if_pos c4] at H
    have c4b0:decide (x11_1 < (l0.length:Int))=true:=dT2 c4;clear c4
    by_cases c5:0≤x11_1
    ·rw [if_pos c5] at H
     have c5b0:decide (0≤x11_1)=true:=dT2 c5;clear c5
     by_cases c6:x11_1 < (l0.length:Int)
     ·rw [if_pos c6] at H
      have c6b0:decide (x11_1 < (l0.length:Int))=true:=dT2 c6;clear c6;replace H:=bI2.mp H;obtain ⟨t376,A70,H⟩:=H;(try dsimp only at H);have A7:=aM2 A70;clear A70
      by_cases c8:t376=true
      ·subst c8
       rw [if_pos rfl] at H;(try dsimp only at H);have H':=aM2 H;clear H;have p375:0≤(x11_1:Int):=oD2 (zyx2_5);have q375:x11_1 < (l0.length:Int):=oD2 (zyx2_5);obtain ⟨ad375,e375,hx375_0⟩:=Kd.at_int HR0.out x11_1 p375 q375
       cases e375
       replace p375:=eT2 p375;replace q375:=eT2 q375
       go_wp2_with (first|((with_reducible refine gate_callee (f:=37) rfl ?_);refine goesL_ (some 18) rfl rfl Try.func37 (zyx2_1) rfl #[.int .i64 (rd l0 x11_1),.int .i64 a1,.int .i64 a2] rfl (zyx2_2) ?_;(with_reducible refine (spec_l1In.calls (rd l0 x11_1) a1 a2 true _ A7.out).mono ?_);rintro e w' ⟨rfl,⟨nd,rfl⟩⟩;refine ⟨_,rfl,?_⟩))
       go_roundg k1
       case measure=>have:=HK1.out;omega
       case rel=>exact ⟨(wrap64 (x11_1 + 1)),(zyx2_8),H',⟨by have:=HK1.out;omega⟩,zyx2_9⟩
      ·replace c8:=Bool.eq_false_iff.mpr c8
       subst c8;rw [if_neg (show ¬ (false=true) by decide)] at H;(try dsimp only at H);obtain rfl:=Option.some.inj H;have p375:0≤(x11_1:Int):=oD2 (zyx2_5);have q375:x11_1 < (l0.length:Int):=oD2 (zyx2_5);obtain ⟨ad375,e375,hx375_0⟩:=Kd.at_int HR0.out x11_1 p375 q375
       cases e375
       replace p375:=eT2 p375;replace q375:=eT2 q375
       go_wp2_with (first|((with_reducible refine gate_callee (f:=37) rfl ?_);refine goesL_ (some 18) rfl rfl Try.func37 (zyx2_1) rfl #[.int .i64 (rd l0 x11_1),.int .i64 a1,.int .i64 a2] rfl (zyx2_2) ?_;(with_reducible refine (spec_l1In.calls (rd l0 x11_1) a1 a2 false _ A7.out).mono ?_);rintro e w' ⟨rfl,⟨nd,rfl⟩⟩;refine ⟨_,rfl,?_⟩))
       go_ret
       exact ⟨zyx2_8,zyx2_9⟩
     ·rw [if_neg c6] at H
      exact absurd H (by simp)
    ·rw [if_neg c5] at H
     exact absurd H (by simp)
   ·rw [if_neg c4] at H
    have c4b0:decide (x11_1 < (l0.length:Int))=false:=decide_eq_false c4;clear c4;obtain rfl:=Option.some.inj H
    go_wp2
    go_ret
    exact ⟨zyx2_8,zyx2_9⟩
def spec_grGood.f (a0_0:Int) (a0_1:Int) (a0_2:Int):Option (Bool):=(spec_l1In.f a0_0 1 8).bind fun t378=>(if t378=true then ((spec_l1In.f a0_1 1 6).bind fun t379=>(if t379=true then ((spec_l1In.f a0_2 1 5).bind fun t380=>(if t380=true then (some (decide ((wrap64 ((wrap64 (a0_0 * a0_1)) * a0_2))≤120))) else (some false))) else (some false))) else (some false))
set_option maxHeartbeats 8000000 in
set_option maxRecDepth 100000 in
theorem spec_grGood.calls (a0_0:Int) (a0_1:Int) (a0_2:Int) (r:Bool) (w:World) (h:spec_grGood.f a0_0 a0_1 a0_2=some r) :
  Calls Try.prog 52 #[.agg #[.int .i64 a0_0,.int .i64 a0_1,.int .i64 a0_2]] w fun e w'=>e=.returned (.bool r)∧Below w.heap.size w w':=by
 have hu24:=Try.underlying24;have HB:=aM2 (Below.refl w.heap.size w);have H:((spec_l1In.f a0_0 1 8).bind fun t378=>(if t378=true then ((spec_l1In.f a0_1 1 6).bind fun t379=>(if t379=true then ((spec_l1In.f a0_2 1 5).bind fun t380=>(if t380=true then (some (decide ((wrap64 ((wrap64 (a0_0 * a0_1)) * a0_2))≤120))) else (some false))) else (some false))) else (some false)))=some r:=h;clear h;replace H:=bI2.mp H;obtain ⟨t378,A20,H⟩:=H;(try dsimp only at H);have A2:=aM2 A20;clear A20
 by_cases c3:t378=true
 ·subst c3
  rw [if_pos rfl] at H;(try dsimp only at H);replace H:=bI2.mp H;obtain ⟨t379,A40,H⟩:=H;(try dsimp only at H);have A4:=aM2 A40;clear A40
  by_cases c5:t379=true
  ·subst c5
   rw [if_pos rfl] at H;(try dsimp only at H);replace H:=bI2.mp H;obtain ⟨t380,A60,H⟩:=H;(try dsimp only at H);have A6:=aM2 A60;clear A60
   by_cases c7:t380=true
   ·subst c7
    rw [if_pos rfl] at H;(try dsimp only at H);obtain rfl:=Option.some.inj H;go_enter Try.func52,Try.ntmps52
    go_wp2_with (first|((with_reducible refine gate_dst (N:=1) rfl ?_);refine box_event ?hg (N:=1) ?hd (cs:=#[.int .i64 a0_0,.int .i64 a0_1,.int .i64 a0_2]) (t:=24) ?hr ?_;(case hd=>rfl);(case hg=>rfl);(case hr=>exact zyx2_11);intro gb377 hg w8 hbox hb;have n0_:=aM2 (bS2 (zyx2_0) hb);have n1_:=aM2 (hbox);have n2_:=aM2 ((zyx2_14:w.heap.size≤gb377));have n3_:=aM2 ((zyx2_14:w.heap.size≤gb377));clear HB;have HB:=n0_;have BK377:=n1_;have GW377:=n2_;have GE377:=n3_;clear n0_ n1_ n2_ n3_ hb hbox hg;obtain ⟨hcz9_0,hfz9_0,hcz9_1,hfz9_1,hcz9_2,hfz9_2⟩:=cf3 BK377.out)|((with_reducible refine gate_callee (f:=37) rfl ?_);refine goesL_ (some 5) rfl rfl Try.func37 (zyx2_1) rfl #[.int .i64 a0_0,.int .i64 1,.int .i64 8] rfl (zyx2_2) ?_;(with_reducible refine (spec_l1In.calls a0_0 1 8 true _ A2.out).mono ?_);rintro e w' ⟨rfl,⟨nd,rfl⟩⟩;refine ⟨_,rfl,?_⟩)|(go_at_call 37;(with_reducible refine (spec_l1In.calls a0_1 1 6 true _ A4.out).mono ?_);rintro e w' ⟨rfl,⟨nd,rfl⟩⟩)|(go_at_call 37;(with_reducible refine (spec_l1In.calls a0_2 1 5 true _ A6.out).mono ?_);rintro e w' ⟨rfl,⟨nd,rfl⟩⟩))
    go_ret
    exact ⟨zyx2_7,zyx2_10⟩
   ·replace c7:=Bool.eq_false_iff.mpr c7
    subst c7;rw [if_neg (show ¬ (false=true) by decide)] at H;(try dsimp only at H);obtain rfl:=Option.some.inj H;go_enter Try.func52,Try.ntmps52
    go_wp2_with (first|((with_reducible refine gate_dst (N:=1) rfl ?_);refine box_event ?hg (N:=1) ?hd (cs:=#[.int .i64 a0_0,.int .i64 a0_1,.int .i64 a0_2]) (t:=24) ?hr ?_;(case hd=>rfl);(case hg=>rfl);(case hr=>exact zyx2_11);intro gb377 hg w10 hbox hb;have n0_:=aM2 (bS2 (zyx2_0) hb);have n1_:=aM2 (hbox);have n2_:=aM2 ((zyx2_14:w.heap.size≤gb377));have n3_:=aM2 ((zyx2_14:w.heap.size≤gb377));clear HB;have HB:=n0_;have BK377:=n1_;have GW377:=n2_;have GE377:=n3_;clear n0_ n1_ n2_ n3_ hb hbox hg;obtain ⟨hcz11_0,hfz11_0,hcz11_1,hfz11_1,hcz11_2,hfz11_2⟩:=cf3 BK377.out)|((with_reducible refine gate_callee (f:=37) rfl ?_);refine goesL_ (some 5) rfl rfl Try.func37 (zyx2_1) rfl #[.int .i64 a0_0,.int .i64 1,.int .i64 8] rfl (zyx2_2) ?_;(with_reducible refine (spec_l1In.calls a0_0 1 8 true _ A2.out).mono ?_);rintro e w' ⟨rfl,⟨nd,rfl⟩⟩;refine ⟨_,rfl,?_⟩)|(go_at_call 37;(with_reducible refine (spec_l1In.calls a0_1 1 6 true _ A4.out).mono ?_);rintro e w' ⟨rfl,⟨nd,rfl⟩⟩)|(go_at_call 37;(with_reducible refine (spec_l1In.calls a0_2 1 5 false _ A6.out).mono ?_);rintro e w' ⟨rfl,⟨nd,rfl⟩⟩))
    go_ret
    exact ⟨zyx2_7,zyx2_10⟩
  ·replace c5:=Bool.eq_false_iff.mpr c5
   subst c5;rw [if_neg (show ¬ (false=true) by decide)] at H;(try dsimp only at H);obtain rfl:=Option.some.inj H;go_enter Try.func52,Try.ntmps52
   go_wp2_with (first|((with_reducible refine gate_dst (N:=1) rfl ?_);refine box_event ?hg (N:=1) ?hd (cs:=#[.int .i64 a0_0,.int .i64 a0_1,.int .i64 a0_2]) (t:=24) ?hr ?_;(case hd=>rfl);(case hg=>rfl);(case hr=>exact zyx2_11);intro gb377 hg w12 hbox hb;have n0_:=aM2 (bS2 (zyx2_0) hb);have n1_:=aM2 (hbox);have n2_:=aM2 ((zyx2_14:w.heap.size≤gb377));have n3_:=aM2 ((zyx2_14:w.heap.size≤gb377));clear HB;have HB:=n0_;have BK377:=n1_;have GW377:=n2_;have GE377:=n3_;clear n0_ n1_ n2_ n3_ hb hbox hg;obtain ⟨hcz13_0,hfz13_0,hcz13_1,hfz13_1,hcz13_2,hfz13_2⟩:=cf3 BK377.out)|((with_reducible refine gate_callee (f:=37) rfl ?_);refine goesL_ (some 5) rfl rfl Try.func37 (zyx2_1) rfl #[.int .i64 a0_0,.int .i64 1,.int .i64 8] rfl (zyx2_2) ?_;(with_reducible refine (spec_l1In.calls a0_0 1 8 true _ A2.out).mono ?_);rintro e w' ⟨rfl,⟨nd,rfl⟩⟩;refine ⟨_,rfl,?_⟩)|(go_at_call 37;(with_reducible refine (spec_l1In.calls a0_1 1 6 false _ A4.out).mono ?_);rintro e w' ⟨rfl,⟨nd,rfl⟩⟩))
   go_ret
   exact ⟨zyx2_7,zyx2_10⟩
 ·replace c3:=Bool.eq_false_iff.mpr c3
  subst c3;rw [if_neg (show ¬ (false=true) by decide)] at H;(try dsimp only at H);obtain rfl:=Option.some.inj H;go_enter Try.func52,Try.ntmps52
  go_wp2_with (first|((with_reducible refine gate_dst (N:=1) rfl ?_);refine box_event ?hg (N:=1) ?hd (cs:=#[.int .i64 a0_0,.int .i64 a0_1,.int .i64 a0_2]) (t:=24) ?hr ?_;(case hd=>rfl);(case hg=>rfl);(case hr=>exact zyx2_11);intro gb377 hg w14 hbox hb;have n0_:=aM2 (bS2 (zyx2_0) hb);have n1_:=aM2 (hbox);have n2_:=aM2 ((zyx2_14:w.heap.size≤gb377));have n3_:=aM2 ((zyx2_14:w.heap.size≤gb377));clear HB;have HB:=n0_;have BK377:=n1_;have GW377:=n2_;have GE377:=n3_;clear n0_ n1_ n2_ n3_ hb hbox hg;obtain ⟨hcz15_0,hfz15_0,hcz15_1,hfz15_1,hcz15_2,hfz15_2⟩:=cf3 BK377.out)|((with_reducible refine gate_callee (f:=37) rfl ?_);refine goesL_ (some 5) rfl rfl Try.func37 (zyx2_1) rfl #[.int .i64 a0_0,.int .i64 1,.int .i64 8] rfl (zyx2_2) ?_;(with_reducible refine (spec_l1In.calls a0_0 1 8 false _ A2.out).mono ?_);rintro e w' ⟨rfl,⟨nd,rfl⟩⟩;refine ⟨_,rfl,?_⟩))
  go_ret
  exact ⟨zyx2_7,zyx2_10⟩
end Go.Proofs.Ytahhiedlkegkgaa.PFnMoney
end
