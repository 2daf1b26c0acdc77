/- Texts that print.sh has printed for the law FnOre,one function each,put together in one file: contracts of its functions. -/
import Derived.Test.YtomfjhpiemipkaaTMFnOrex0
section
namespace Go.Proofs.Ytomfjhpiemipkaa.PFnOre
open Go.RowKit Go.Proofs.YtomfjhpiemipkaaW.PrintWords Go.Proofs.YtomfjhpiemipkaaW.PrintLast Go.Proofs.YtomfjhpiemipkaaW.PrintMore
attribute [local go_sem] max2_int min2_int max_two min_two max_three min_three max_four min_four   -- for this text's walks alone
set_option linter.unusedVariables false
set_option linter.unusedSimpArgs false
mutual
def impl_StripRatio.j0:Nat→List Int→List Int→Bool→Int→Int→Int→List Int→List Int→List Int→Option (Int × Int × Bool)
 | 0,_,_,_,_,_,_,_,_,_=>none
 | k + 1,x1,x2,x37,x148000,x148001,x148002,x148003,x148004,x148005=>if x37=true then (some (0,0,false)) else (impl_StripRatio.l0 k x1 0 0 x2 (x2.length:Int) 0 x148000 x148001 x148002 x148003 x148004 x148005)
def impl_StripRatio.l0:Nat→List Int→Int→Int→List Int→Int→Int→Int→Int→Int→List Int→List Int→List Int→Option (Int × Int × Bool)
 | 0,_,_,_,_,_,_,_,_,_,_,_,_=>none
 | k + 1,x1,x9,x10,x38,x39,x40,x148000,x148001,x148002,x148003,x148004,x148005=>if x40 < x39 then (if 0≤x40 then (if x40 < (x38.length:Int) then (if 0≤(rd x38 x40) then (if (rd x38 x40) < (x1.length:Int) then (if (rd x1 (rd x38 x40)) > 0 then (if (rd x38 x40) < (x148003.length:Int) then (impl_StripRatio.l0 k x1 x9 (wrap64 (x10 + (rd x148003 (rd x38 x40)))) x38 x39 (wrap64 (x40 + 1)) x148000 x148001 x148002 x148003 x148004 x148005) else (none)) else (if (rd x38 x40) < (x148003.length:Int) then (impl_StripRatio.l0 k x1 (wrap64 (x9 + (rd x148003 (rd x38 x40)))) x10 x38 x39 (wrap64 (x40 + 1)) x148000 x148001 x148002 x148003 x148004 x148005) else (none))) else (none)) else (none)) else (none)) else (none)) else (if x10=0 then (some (0,0,false)) else ((impl_lowest.f k x9 x10).bind fun bt155=>(some (bt155.1,bt155.2,true))))
end
def impl_StripRatio.f (k:Nat) (a0_0:Int) (a0_1:Int) (a0_2:Int) (l0_3:List Int) (l0_4:List Int) (l0_5:List Int) (l1:List Int) (l2:List Int):Option (Int × Int × Bool):=(impl_IsModel.f k a0_0 a0_1 a0_2 l0_3 l0_4 l0_5).bind fun t148=>(if t148=true then ((impl_goodValues.f k l1).bind fun t149=>(if t149=true then (if (l1.length:Int)=(l0_3.length:Int) then ((impl_areBlocks.f k l2 (l1.length:Int)).bind fun t150=>(impl_StripRatio.j0 k l1 l2 (!t150) a0_0 a0_1 a0_2 l0_3 l0_4 l0_5)) else (impl_StripRatio.j0 k l1 l2 true a0_0 a0_1 a0_2 l0_3 l0_4 l0_5)) else (impl_StripRatio.j0 k l1 l2 true a0_0 a0_1 a0_2 l0_3 l0_4 l0_5))) else (impl_StripRatio.j0 k l1 l2 true a0_0 a0_1 a0_2 l0_3 l0_4 l0_5))
set_option maxHeartbeats 8000000 in
set_option maxRecDepth 100000 in
theorem impl_StripRatio.calls (k:Nat) (a0_0:Int) (a0_1:Int) (a0_2:Int) (A0_3:Option Addr) (c0_3:Nat) (l0_3:List Int) (A0_4:Option Addr) (c0_4:Nat) (l0_4:List Int) (A0_5:Option Addr) (c0_5:Nat) (l0_5:List Int) (A1:Option Addr) (c1:Nat) (l1:List Int) (A2:Option Addr) (c2:Nat) (l2:List Int) (r1:Int) (r2:Int) (r3:Bool) (w:World) (hr0_3:Kd.C (Kd.int .i64) w A0_3 l0_3.length l0_3) (hc0_3:l0_3.length≤c0_3) (hr0_4:Kd.C (Kd.int .i64) w A0_4 l0_4.length l0_4) (hc0_4:l0_4.length≤c0_4) (hr0_5:Kd.C (Kd.int .i64) w A0_5 l0_5.length l0_5) (hc0_5:l0_5.length≤c0_5) (hr1:Kd.C (Kd.int .i64) w A1 l1.length l1) (hc1:l1.length≤c1) (hr2:Kd.C (Kd.int .i64) w A2 l2.length l2) (hc2:l2.length≤c2) (h:impl_StripRatio.f k a0_0 a0_1 a0_2 l0_3 l0_4 l0_5 l1 l2=some (r1,r2,r3)) :
  Calls Try.prog 22 #[.agg #[.int .i64 a0_0,.int .i64 a0_1,.int .i64 a0_2,.slice A0_3 l0_3.length c0_3,.slice A0_4 l0_4.length c0_4,.slice A0_5 l0_5.length c0_5],.slice A1 l1.length c1,.slice A2 l2.length c2] w fun e w'=>e=.returned (.tuple #[.int .i64 r1,.int .i64 r2,.bool r3])∧Below w.heap.size w w':=by
 have hu34:=Try.underlying34
 have HR0_3:=Aside0.mk hr0_3
 have HC0_3:=Aside0.mk hc0_3
 clear hr0_3 hc0_3
 have HR0_4:=Aside0.mk hr0_4
 have HC0_4:=Aside0.mk hc0_4
 clear hr0_4 hc0_4
 have HR0_5:=Aside0.mk hr0_5
 have HC0_5:=Aside0.mk hc0_5
 clear hr0_5 hc0_5
 have HR1:=Aside0.mk hr1
 have HC1:=Aside0.mk hc1
 clear hr1 hc1
 have HR2:=Aside0.mk hr2
 have HC2:=Aside0.mk hc2
 clear hr2 hc2
 have HB:=Aside0.mk (Below.refl w.heap.size w)
 have H:((impl_IsModel.f k a0_0 a0_1 a0_2 l0_3 l0_4 l0_5).bind fun t148=>(if t148=true then ((impl_goodValues.f k l1).bind fun t149=>(if t149=true then (if (l1.length:Int)=(l0_3.length:Int) then ((impl_areBlocks.f k l2 (l1.length:Int)).bind fun t150=>(impl_StripRatio.j0 k l1 l2 (!t150) a0_0 a0_1 a0_2 l0_3 l0_4 l0_5)) else (impl_StripRatio.j0 k l1 l2 true a0_0 a0_1 a0_2 l0_3 l0_4 l0_5)) else (impl_StripRatio.j0 k l1 l2 true a0_0 a0_1 a0_2 l0_3 l0_4 l0_5))) else (impl_StripRatio.j0 k l1 l2 true a0_0 a0_1 a0_2 l0_3 l0_4 l0_5)))=some (r1,r2,r3):=h
 clear h
 have HC4:=Aside0.mk H
 clear H
 go_enter Try.func22,Try.ntmps22
 go_upto_region 1 with (first|((with_reducible refine gate_dst (N:=3) rfl ?_);(try (refine gate_guard (by rfl) ?_;dsimp only));refine box_event ?hg (N:=3) ?hd (cs:=#[.int .i64 a0_0,.int .i64 a0_1,.int .i64 a0_2,.slice A0_3 l0_3.length c0_3,.slice A0_4 l0_4.length c0_4,.slice A0_5 l0_5.length c0_5]) (t:=34) ?hr ?_;(case hd=>rfl);(case hg=>rfl);(case hr=>first|(go_simp;done)|(go_simp;rfl));intro gb147 hg w5 hbox hb;have n0_:=Aside0.mk (below_step (by repeat (first|(with_reducible first|exact HB.out|apply below_alloc|apply pw_below_drewN|apply below_drew1)|exact HB.out)) hb);have n1_:=Aside0.mk (hbox);have n2_:=Aside0.mk ((by rw [hg];exact (below_size (by repeat (first|(with_reducible first|exact HB.out|apply below_alloc|apply pw_below_drewN|apply below_drew1)|exact HB.out))):w.heap.size≤gb147));have n3_:=Aside0.mk ((by rw [hg];exact (below_size (by repeat (first|(with_reducible first|exact HB.out|apply below_alloc|apply pw_below_drewN|apply below_drew1)|exact HB.out))):w.heap.size≤gb147));clear HB;have HB:=n0_;have BK147:=n1_;have GW147:=n2_;have GE147:=n3_;clear n0_ n1_ n2_ n3_;clear hb hbox hg))
 (try simp only [Act.put,List.setIfInBounds_toArray,List.set_cons_zero,List.set_cons_succ])
 go_cut [37] (fun v37 wc=>∃ (kq:Nat) (x37_3:Bool),v37=.bool x37_3∧Aside0 (impl_StripRatio.j0 kq l1 l2 x37_3 a0_0 a0_1 a0_2 l0_3 l0_4 l0_5=some (r1,r2,r3))∧Aside0 (kq≤k)∧Aside0 (wc.heap[gb147]?=some (.cells #[.int .i64 a0_0,.int .i64 a0_1,.int .i64 a0_2,(.slice A0_3 l0_3.length c0_3),(.slice A0_4 l0_4.length c0_4),(.slice A0_5 l0_5.length c0_5)] 34 (0,0)))∧Aside0 (Below w.heap.size w wc))
 case first =>
  have H:=HC4.out
  clear HC4
  replace H:=Option.bind_eq_some_iff.mp H
  obtain ⟨t148,A60,H⟩:=H
  replace H:(if t148=true then ((impl_goodValues.f k l1).bind fun t149=>(if t149=true then (if (l1.length:Int)=(l0_3.length:Int) then ((impl_areBlocks.f k l2 (l1.length:Int)).bind fun t150=>(impl_StripRatio.j0 k l1 l2 (!t150) a0_0 a0_1 a0_2 l0_3 l0_4 l0_5)) else (impl_StripRatio.j0 k l1 l2 true a0_0 a0_1 a0_2 l0_3 l0_4 l0_5)) else (impl_StripRatio.j0 k l1 l2 true a0_0 a0_1 a0_2 l0_3 l0_4 l0_5))) else (impl_StripRatio.j0 k l1 l2 true a0_0 a0_1 a0_2 l0_3 l0_4 l0_5))=some (r1,r2,r3):=H
  have A6:=Aside0.mk A60
  clear A60
  by_cases c7:t148=true
  ·subst c7
   have H1:((impl_goodValues.f k l1).bind fun t149=>(if t149=true then (if (l1.length:Int)=(l0_3.length:Int) then ((impl_areBlocks.f k l2 (l1.length:Int)).bind fun t150=>(impl_StripRatio.j0 k l1 l2 (!t150) a0_0 a0_1 a0_2 l0_3 l0_4 l0_5)) else (impl_StripRatio.j0 k l1 l2 true a0_0 a0_1 a0_2 l0_3 l0_4 l0_5)) else (impl_StripRatio.j0 k l1 l2 true a0_0 a0_1 a0_2 l0_3 l0_4 l0_5)))=some (r1,r2,r3):=by rw [if_pos rfl] at H;exact H
   clear H
   have H:=H1
   clear H1
   replace H:=Option.bind_eq_some_iff.mp H
   obtain ⟨t149,A80,H⟩:=H
   replace H:(if t149=true then (if (l1.length:Int)=(l0_3.length:Int) then ((impl_areBlocks.f k l2 (l1.length:Int)).bind fun t150=>(impl_StripRatio.j0 k l1 l2 (!t150) a0_0 a0_1 a0_2 l0_3 l0_4 l0_5)) else (impl_StripRatio.j0 k l1 l2 true a0_0 a0_1 a0_2 l0_3 l0_4 l0_5)) else (impl_StripRatio.j0 k l1 l2 true a0_0 a0_1 a0_2 l0_3 l0_4 l0_5))=some (r1,r2,r3):=H
   have A8:=Aside0.mk A80
   clear A80
   by_cases c9:t149=true
   ·subst c9
    have H1:(if (l1.length:Int)=(l0_3.length:Int) then ((impl_areBlocks.f k l2 (l1.length:Int)).bind fun t150=>(impl_StripRatio.j0 k l1 l2 (!t150) a0_0 a0_1 a0_2 l0_3 l0_4 l0_5)) else (impl_StripRatio.j0 k l1 l2 true a0_0 a0_1 a0_2 l0_3 l0_4 l0_5))=some (r1,r2,r3):=by rw [if_pos rfl] at H;exact H
    clear H
    have H:=H1
    clear H1
    by_cases c10:(l1.length:Int)=(l0_3.length:Int)
    ·rw [if_pos c10] at H
     have c10b0:((l1.length:Int) == (l0_3.length:Int))=true:=beq_iff_eq.mpr c10
     have c10b1:((l1.length:Int) != (l0_3.length:Int))=false:=bne_eq_false_iff_eq.mpr c10
     have c10b2:(l1.length == l0_3.length)=true:=by first|simpa using c10|(simp at c10 ⊢;omega)
     clear c10
     (first|rw [c10b0]|(simp only [i64_w,i32_w];rw [c10b0])|skip)
     replace H:=Option.bind_eq_some_iff.mp H
     obtain ⟨t150,A110,H⟩:=H
     replace H:(impl_StripRatio.j0 k l1 l2 (!t150) a0_0 a0_1 a0_2 l0_3 l0_4 l0_5)=some (r1,r2,r3):=H
     have A11:=Aside0.mk A110
     clear A110
     have H':=Aside0.mk H
     clear H
     have hcz12_0:w5.cell? ⟨gb147,0,none⟩=some (.int .i64 a0_0):=(blk_cell BK147.out 0).trans rfl
     have hcz12_1:w5.cell? ⟨gb147,1,none⟩=some (.int .i64 a0_1):=(blk_cell BK147.out 1).trans rfl
     have hcz12_2:w5.cell? ⟨gb147,2,none⟩=some (.int .i64 a0_2):=(blk_cell BK147.out 2).trans rfl
     have hcz12_3:w5.cell? ⟨gb147,3,none⟩=some (.slice A0_3 l0_3.length c0_3):=(blk_cell BK147.out 3).trans rfl
     have hcz12_4:w5.cell? ⟨gb147,4,none⟩=some (.slice A0_4 l0_4.length c0_4):=(blk_cell BK147.out 4).trans rfl
     have hcz12_5:w5.cell? ⟨gb147,5,none⟩=some (.slice A0_5 l0_5.length c0_5):=(blk_cell BK147.out 5).trans rfl
     have hfz12_0:=blk_frozen BK147.out 0
     have hfz12_1:=blk_frozen BK147.out 1
     have hfz12_2:=blk_frozen BK147.out 2
     have hfz12_3:=blk_frozen BK147.out 3
     have hfz12_4:=blk_frozen BK147.out 4
     have hfz12_5:=blk_frozen BK147.out 5
     go_wp2_with (first|((with_reducible refine gate_callee (f:=96) rfl ?_);refine goesL_ (some 16) rfl rfl Try.func96 (by kernel_rfl) rfl #[.agg #[.int .i64 a0_0,.int .i64 a0_1,.int .i64 a0_2,.slice A0_3 l0_3.length c0_3,.slice A0_4 l0_4.length c0_4,.slice A0_5 l0_5.length c0_5]] rfl (by (try simp only [List.map_toArray,List.map_cons,List.map_nil]);first|done|rfl|(simp only [List.length_drop,List.length_take];rfl)) ?_;(with_reducible refine (impl_IsModel.calls k a0_0 a0_1 a0_2 _ _ l0_3 _ _ l0_4 _ _ l0_5 true _ ?side1 ?side2 ?side3 ?side4 ?side5 ?side6 A6.out).mono ?_);(case side1=>repeat (first|exact (Kd.C_below HR0_3.out HB.out)|(with_reducible refine Kd.C_alloc ?_ _)|(with_reducible refine Kd.C_drewN ?_ _)|(with_reducible refine Kd.C_drew ?_)));(case side2=>exact HC0_3.out);(case side3=>repeat (first|exact (Kd.C_below HR0_4.out HB.out)|(with_reducible refine Kd.C_alloc ?_ _)|(with_reducible refine Kd.C_drewN ?_ _)|(with_reducible refine Kd.C_drew ?_)));(case side4=>exact HC0_4.out);(case side5=>repeat (first|exact (Kd.C_below HR0_5.out HB.out)|(with_reducible refine Kd.C_alloc ?_ _)|(with_reducible refine Kd.C_drewN ?_ _)|(with_reducible refine Kd.C_drew ?_)));(case side6=>exact HC0_5.out);rintro e w13 ⟨rfl,hb⟩;refine ⟨_,rfl,?_⟩;have n0_:=Aside0.mk (blk_below (g:=gb147) (o:=.cells #[.int .i64 a0_0,.int .i64 a0_1,.int .i64 a0_2,.slice A0_3 l0_3.length c0_3,.slice A0_4 l0_4.length c0_4,.slice A0_5 l0_5.length c0_5] 34 (0,0)) (by (with_reducible repeat (first|refine blk_drewN ?_ _|refine blk_drew ?_|refine blk_alloc ?_ _));exact BK147.out) hb);have n1_:=Aside0.mk (below_step (by repeat (first|(with_reducible first|exact HB.out|apply below_alloc|apply pw_below_drewN|apply below_drew1|refine below_set ?_ GE147.out)|exact HB.out)) hb);clear BK147;clear HB;have BK147:=n0_;have HB:=n1_;clear n0_ n1_;(try clear hb);(try clear hb2);(try clear hk);(try clear hi))|(go_at_call 102;(with_reducible refine (impl_goodValues.calls k _ _ l1 true _ ?side1 ?side2 A8.out).mono ?_);(case side1=>repeat (first|exact (Kd.C_below HR1.out HB.out)|(with_reducible refine Kd.C_alloc ?_ _)|(with_reducible refine Kd.C_drewN ?_ _)|(with_reducible refine Kd.C_drew ?_)));(case side2=>exact HC1.out);rintro e w' ⟨rfl,⟨nd,rfl⟩⟩;have hcz14_0:w13.cell? ⟨gb147,0,none⟩=some (.int .i64 a0_0):=(blk_cell BK147.out 0).trans rfl;have hcz14_1:w13.cell? ⟨gb147,1,none⟩=some (.int .i64 a0_1):=(blk_cell BK147.out 1).trans rfl;have hcz14_2:w13.cell? ⟨gb147,2,none⟩=some (.int .i64 a0_2):=(blk_cell BK147.out 2).trans rfl;have hcz14_3:w13.cell? ⟨gb147,3,none⟩=some (.slice A0_3 l0_3.length c0_3):=(blk_cell BK147.out 3).trans rfl;have hcz14_4:w13.cell? ⟨gb147,4,none⟩=some (.slice A0_4 l0_4.length c0_4):=(blk_cell BK147.out 4).trans rfl;have hcz14_5:w13.cell? ⟨gb147,5,none⟩=some (.slice A0_5 l0_5.length c0_5):=(blk_cell BK147.out 5).trans rfl;have hfz14_0:=blk_frozen BK147.out 0;have hfz14_1:=blk_frozen BK147.out 1;have hfz14_2:=blk_frozen BK147.out 2;have hfz14_3:=blk_frozen BK147.out 3;have hfz14_4:=blk_frozen BK147.out 4;have hfz14_5:=blk_frozen BK147.out 5)|(go_at_call 103;(with_reducible refine (impl_areBlocks.calls k _ _ l2 (l1.length:Int) t150 _ ?side1 ?side2 A11.out).mono ?_);(case side1=>repeat (first|exact (Kd.C_below HR2.out (by repeat (first|(with_reducible first|exact HB.out|apply below_alloc|apply pw_below_drewN|apply below_drew1|refine below_set ?_ GE147.out)|exact HB.out)))|(with_reducible refine Kd.C_alloc ?_ _)|(with_reducible refine Kd.C_drewN ?_ _)|(with_reducible refine Kd.C_drew ?_)));(case side2=>exact HC2.out);rintro e w' ⟨rfl,⟨nd,rfl⟩⟩))
     go_meet
     case rel=>exact ⟨_,(!t150),(by first|rfl|(simp;done)|(simp [*];done)),H',⟨by first|omega|exact Nat.le_refl _⟩,⟨by (with_reducible repeat (first|refine blk_drewN ?_ _|refine blk_drew ?_|refine blk_alloc ?_ _));exact BK147.out⟩,⟨by repeat (first|(with_reducible first|exact HB.out|apply below_alloc|apply pw_below_drewN|apply below_drew1|refine below_set ?_ GE147.out)|exact HB.out)⟩⟩
    ·rw [if_neg c10] at H
     have c10b0:((l1.length:Int) == (l0_3.length:Int))=false:=beq_eq_false_iff_ne.mpr c10
     have c10b1:((l1.length:Int) != (l0_3.length:Int))=true:=bne_iff_ne.mpr c10
     have c10b2:(l1.length == l0_3.length)=false:=by first|simpa using c10|(simp at c10 ⊢;omega)
     (first|rw [c10b0]|(simp only [i64_w,i32_w];rw [c10b0])|skip)
     have H':=Aside0.mk H
     clear H
     have hcz15_0:w5.cell? ⟨gb147,0,none⟩=some (.int .i64 a0_0):=(blk_cell BK147.out 0).trans rfl
     have hcz15_1:w5.cell? ⟨gb147,1,none⟩=some (.int .i64 a0_1):=(blk_cell BK147.out 1).trans rfl
     have hcz15_2:w5.cell? ⟨gb147,2,none⟩=some (.int .i64 a0_2):=(blk_cell BK147.out 2).trans rfl
     have hcz15_3:w5.cell? ⟨gb147,3,none⟩=some (.slice A0_3 l0_3.length c0_3):=(blk_cell BK147.out 3).trans rfl
     have hcz15_4:w5.cell? ⟨gb147,4,none⟩=some (.slice A0_4 l0_4.length c0_4):=(blk_cell BK147.out 4).trans rfl
     have hcz15_5:w5.cell? ⟨gb147,5,none⟩=some (.slice A0_5 l0_5.length c0_5):=(blk_cell BK147.out 5).trans rfl
     have hfz15_0:=blk_frozen BK147.out 0
     have hfz15_1:=blk_frozen BK147.out 1
     have hfz15_2:=blk_frozen BK147.out 2
     have hfz15_3:=blk_frozen BK147.out 3
     have hfz15_4:=blk_frozen BK147.out 4
     have hfz15_5:=blk_frozen BK147.out 5
     go_wp2_with (first|((with_reducible refine gate_callee (f:=96) rfl ?_);refine goesL_ (some 16) rfl rfl Try.func96 (by kernel_rfl) rfl #[.agg #[.int .i64 a0_0,.int .i64 a0_1,.int .i64 a0_2,.slice A0_3 l0_3.length c0_3,.slice A0_4 l0_4.length c0_4,.slice A0_5 l0_5.length c0_5]] rfl (by (try simp only [List.map_toArray,List.map_cons,List.map_nil]);first|done|rfl|(simp only [List.length_drop,List.length_take];rfl)) ?_;(with_reducible refine (impl_IsModel.calls k a0_0 a0_1 a0_2 _ _ l0_3 _ _ l0_4 _ _ l0_5 true _ ?side1 ?side2 ?side3 ?side4 ?side5 ?side6 A6.out).mono ?_);(case side1=>repeat (first|exact (Kd.C_below HR0_3.out HB.out)|(with_reducible refine Kd.C_alloc ?_ _)|(with_reducible refine Kd.C_drewN ?_ _)|(with_reducible refine Kd.C_drew ?_)));(case side2=>exact HC0_3.out);(case side3=>repeat (first|exact (Kd.C_below HR0_4.out HB.out)|(with_reducible refine Kd.C_alloc ?_ _)|(with_reducible refine Kd.C_drewN ?_ _)|(with_reducible refine Kd.C_drew ?_)));(case side4=>exact HC0_4.out);(case side5=>repeat (first|exact (Kd.C_below HR0_5.out HB.out)|(with_reducible refine Kd.C_alloc ?_ _)|(with_reducible refine Kd.C_drewN ?_ _)|(with_reducible refine Kd.C_drew ?_)));(case side6=>exact HC0_5.out);rintro e w16 ⟨rfl,hb⟩;refine ⟨_,rfl,?_⟩;have n0_:=Aside0.mk (blk_below (g:=gb147) (o:=.cells #[.int .i64 a0_0,.int .i64 a0_1,.int .i64 a0_2,.slice A0_3 l0_3.length c0_3,.slice A0_4 l0_4.length c0_4,.slice A0_5 l0_5.length c0_5] 34 (0,0)) (by (with_reducible repeat (first|refine blk_drewN ?_ _|refine blk_drew ?_|refine blk_alloc ?_ _));exact BK147.out) hb);have n1_:=Aside0.mk (below_step (by repeat (first|(with_reducible first|exact HB.out|apply below_alloc|apply pw_below_drewN|apply below_drew1|refine below_set ?_ GE147.out)|exact HB.out)) hb);clear BK147;clear HB;have BK147:=n0_;have HB:=n1_;clear n0_ n1_;(try clear hb);(try clear hb2);(try clear hk);(try clear hi))|(go_at_call 102;(with_reducible refine (impl_goodValues.calls k _ _ l1 true _ ?side1 ?side2 A8.out).mono ?_);(case side1=>repeat (first|exact (Kd.C_below HR1.out HB.out)|(with_reducible refine Kd.C_alloc ?_ _)|(with_reducible refine Kd.C_drewN ?_ _)|(with_reducible refine Kd.C_drew ?_)));(case side2=>exact HC1.out);rintro e w' ⟨rfl,⟨nd,rfl⟩⟩;have hcz17_0:w16.cell? ⟨gb147,0,none⟩=some (.int .i64 a0_0):=(blk_cell BK147.out 0).trans rfl;have hcz17_1:w16.cell? ⟨gb147,1,none⟩=some (.int .i64 a0_1):=(blk_cell BK147.out 1).trans rfl;have hcz17_2:w16.cell? ⟨gb147,2,none⟩=some (.int .i64 a0_2):=(blk_cell BK147.out 2).trans rfl;have hcz17_3:w16.cell? ⟨gb147,3,none⟩=some (.slice A0_3 l0_3.length c0_3):=(blk_cell BK147.out 3).trans rfl;have hcz17_4:w16.cell? ⟨gb147,4,none⟩=some (.slice A0_4 l0_4.length c0_4):=(blk_cell BK147.out 4).trans rfl;have hcz17_5:w16.cell? ⟨gb147,5,none⟩=some (.slice A0_5 l0_5.length c0_5):=(blk_cell BK147.out 5).trans rfl;have hfz17_0:=blk_frozen BK147.out 0;have hfz17_1:=blk_frozen BK147.out 1;have hfz17_2:=blk_frozen BK147.out 2;have hfz17_3:=blk_frozen BK147.out 3;have hfz17_4:=blk_frozen BK147.out 4;have hfz17_5:=blk_frozen BK147.out 5))
     go_meet
     case rel=>exact ⟨_,(true),(by first|rfl|(simp;done)|(simp [*];done)),H',⟨by first|omega|exact Nat.le_refl _⟩,⟨by (with_reducible repeat (first|refine blk_drewN ?_ _|refine blk_drew ?_|refine blk_alloc ?_ _));exact BK147.out⟩,⟨by repeat (first|(with_reducible first|exact HB.out|apply below_alloc|apply pw_below_drewN|apply below_drew1|refine below_set ?_ GE147.out)|exact HB.out)⟩⟩
   ·replace c9:=Bool.eq_false_iff.mpr c9
    subst c9
    have H1:(impl_StripRatio.j0 k l1 l2 true a0_0 a0_1 a0_2 l0_3 l0_4 l0_5)=some (r1,r2,r3):=by rw [if_neg (show ¬ (false=true) by decide)] at H;exact H
    clear H
    have H:=H1
    clear H1
    have H':=Aside0.mk H
    clear H
    have hcz18_0:w5.cell? ⟨gb147,0,none⟩=some (.int .i64 a0_0):=(blk_cell BK147.out 0).trans rfl
    have hcz18_1:w5.cell? ⟨gb147,1,none⟩=some (.int .i64 a0_1):=(blk_cell BK147.out 1).trans rfl
    have hcz18_2:w5.cell? ⟨gb147,2,none⟩=some (.int .i64 a0_2):=(blk_cell BK147.out 2).trans rfl
    have hcz18_3:w5.cell? ⟨gb147,3,none⟩=some (.slice A0_3 l0_3.length c0_3):=(blk_cell BK147.out 3).trans rfl
    have hcz18_4:w5.cell? ⟨gb147,4,none⟩=some (.slice A0_4 l0_4.length c0_4):=(blk_cell BK147.out 4).trans rfl
    have hcz18_5:w5.cell? ⟨gb147,5,none⟩=some (.slice A0_5 l0_5.length c0_5):=(blk_cell BK147.out 5).trans rfl
    have hfz18_0:=blk_frozen BK147.out 0
    have hfz18_1:=blk_frozen BK147.out 1
    have hfz18_2:=blk_frozen BK147.out 2
    have hfz18_3:=blk_frozen BK147.out 3
    have hfz18_4:=blk_frozen BK147.out 4
    have hfz18_5:=blk_frozen BK147.out 5
    go_wp2_with (first|((with_reducible refine gate_callee (f:=96) rfl ?_);refine goesL_ (some 16) rfl rfl Try.func96 (by kernel_rfl) rfl #[.agg #[.int .i64 a0_0,.int .i64 a0_1,.int .i64 a0_2,.slice A0_3 l0_3.length c0_3,.slice A0_4 l0_4.length c0_4,.slice A0_5 l0_5.length c0_5]] rfl (by (try simp only [List.map_toArray,List.map_cons,List.map_nil]);first|done|rfl|(simp only [List.length_drop,List.length_take];rfl)) ?_;(with_reducible refine (impl_IsModel.calls k a0_0 a0_1 a0_2 _ _ l0_3 _ _ l0_4 _ _ l0_5 true _ ?side1 ?side2 ?side3 ?side4 ?side5 ?side6 A6.out).mono ?_);(case side1=>repeat (first|exact (Kd.C_below HR0_3.out HB.out)|(with_reducible refine Kd.C_alloc ?_ _)|(with_reducible refine Kd.C_drewN ?_ _)|(with_reducible refine Kd.C_drew ?_)));(case side2=>exact HC0_3.out);(case side3=>repeat (first|exact (Kd.C_below HR0_4.out HB.out)|(with_reducible refine Kd.C_alloc ?_ _)|(with_reducible refine Kd.C_drewN ?_ _)|(with_reducible refine Kd.C_drew ?_)));(case side4=>exact HC0_4.out);(case side5=>repeat (first|exact (Kd.C_below HR0_5.out HB.out)|(with_reducible refine Kd.C_alloc ?_ _)|(with_reducible refine Kd.C_drewN ?_ _)|(with_reducible refine Kd.C_drew ?_)));(case side6=>exact HC0_5.out);rintro e w19 ⟨rfl,hb⟩;refine ⟨_,rfl,?_⟩;have n0_:=Aside0.mk (blk_below (g:=gb147) (o:=.cells #[.int .i64 a0_0,.int .i64 a0_1,.int .i64 a0_2,.slice A0_3 l0_3.length c0_3,.slice A0_4 l0_4.length c0_4,.slice A0_5 l0_5.length c0_5] 34 (0,0)) (by (with_reducible repeat (first|refine blk_drewN ?_ _|refine blk_drew ?_|refine blk_alloc ?_ _));exact BK147.out) hb);have n1_:=Aside0.mk (below_step (by repeat (first|(with_reducible first|exact HB.out|apply below_alloc|apply pw_below_drewN|apply below_drew1|refine below_set ?_ GE147.out)|exact HB.out)) hb);clear BK147;clear HB;have BK147:=n0_;have HB:=n1_;clear n0_ n1_;(try clear hb);(try clear hb2);(try clear hk);(try clear hi))|(go_at_call 102;(with_reducible refine (impl_goodValues.calls k _ _ l1 false _ ?side1 ?side2 A8.out).mono ?_);(case side1=>repeat (first|exact (Kd.C_below HR1.out HB.out)|(with_reducible refine Kd.C_alloc ?_ _)|(with_reducible refine Kd.C_drewN ?_ _)|(with_reducible refine Kd.C_drew ?_)));(case side2=>exact HC1.out);rintro e w' ⟨rfl,⟨nd,rfl⟩⟩))
    go_meet
    case rel=>exact ⟨_,(true),(by first|rfl|(simp;done)|(simp [*];done)),H',⟨by first|omega|exact Nat.le_refl _⟩,⟨by (with_reducible repeat (first|refine blk_drewN ?_ _|refine blk_drew ?_|refine blk_alloc ?_ _));exact BK147.out⟩,⟨by repeat (first|(with_reducible first|exact HB.out|apply below_alloc|apply pw_below_drewN|apply below_drew1|refine below_set ?_ GE147.out)|exact HB.out)⟩⟩
  ·replace c7:=Bool.eq_false_iff.mpr c7
   subst c7
   have H1:(impl_StripRatio.j0 k l1 l2 true a0_0 a0_1 a0_2 l0_3 l0_4 l0_5)=some (r1,r2,r3):=by rw [if_neg (show ¬ (false=true) by decide)] at H;exact H
   clear H
   have H:=H1
   clear H1
   have H':=Aside0.mk H
   clear H
   have hcz20_0:w5.cell? ⟨gb147,0,none⟩=some (.int .i64 a0_0):=(blk_cell BK147.out 0).trans rfl
   have hcz20_1:w5.cell? ⟨gb147,1,none⟩=some (.int .i64 a0_1):=(blk_cell BK147.out 1).trans rfl
   have hcz20_2:w5.cell? ⟨gb147,2,none⟩=some (.int .i64 a0_2):=(blk_cell BK147.out 2).trans rfl
   have hcz20_3:w5.cell? ⟨gb147,3,none⟩=some (.slice A0_3 l0_3.length c0_3):=(blk_cell BK147.out 3).trans rfl
   have hcz20_4:w5.cell? ⟨gb147,4,none⟩=some (.slice A0_4 l0_4.length c0_4):=(blk_cell BK147.out 4).trans rfl
   have hcz20_5:w5.cell? ⟨gb147,5,none⟩=some (.slice A0_5 l0_5.length c0_5):=(blk_cell BK147.out 5).trans rfl
   have hfz20_0:=blk_frozen BK147.out 0
   have hfz20_1:=blk_frozen BK147.out 1
   have hfz20_2:=blk_frozen BK147.out 2
   have hfz20_3:=blk_frozen BK147.out 3
   have hfz20_4:=blk_frozen BK147.out 4
   have hfz20_5:=blk_frozen BK147.out 5
   go_wp2_with (first|((with_reducible refine gate_callee (f:=96) rfl ?_);refine goesL_ (some 16) rfl rfl Try.func96 (by kernel_rfl) rfl #[.agg #[.int .i64 a0_0,.int .i64 a0_1,.int .i64 a0_2,.slice A0_3 l0_3.length c0_3,.slice A0_4 l0_4.length c0_4,.slice A0_5 l0_5.length c0_5]] rfl (by (try simp only [List.map_toArray,List.map_cons,List.map_nil]);first|done|rfl|(simp only [List.length_drop,List.length_take];rfl)) ?_;(with_reducible refine (impl_IsModel.calls k a0_0 a0_1 a0_2 _ _ l0_3 _ _ l0_4 _ _ l0_5 false _ ?side1 ?side2 ?side3 ?side4 ?side5 ?side6 A6.out).mono ?_);(case side1=>repeat (first|exact (Kd.C_below HR0_3.out HB.out)|(with_reducible refine Kd.C_alloc ?_ _)|(with_reducible refine Kd.C_drewN ?_ _)|(with_reducible refine Kd.C_drew ?_)));(case side2=>exact HC0_3.out);(case side3=>repeat (first|exact (Kd.C_below HR0_4.out HB.out)|(with_reducible refine Kd.C_alloc ?_ _)|(with_reducible refine Kd.C_drewN ?_ _)|(with_reducible refine Kd.C_drew ?_)));(case side4=>exact HC0_4.out);(case side5=>repeat (first|exact (Kd.C_below HR0_5.out HB.out)|(with_reducible refine Kd.C_alloc ?_ _)|(with_reducible refine Kd.C_drewN ?_ _)|(with_reducible refine Kd.C_drew ?_)));(case side6=>exact HC0_5.out);rintro e w21 ⟨rfl,hb⟩;refine ⟨_,rfl,?_⟩;have n0_:=Aside0.mk (blk_below (g:=gb147) (o:=.cells #[.int .i64 a0_0,.int .i64 a0_1,.int .i64 a0_2,.slice A0_3 l0_3.length c0_3,.slice A0_4 l0_4.length c0_4,.slice A0_5 l0_5.length c0_5] 34 (0,0)) (by (with_reducible repeat (first|refine blk_drewN ?_ _|refine blk_drew ?_|refine blk_alloc ?_ _));exact BK147.out) hb);have n1_:=Aside0.mk (below_step (by repeat (first|(with_reducible first|exact HB.out|apply below_alloc|apply pw_below_drewN|apply below_drew1|refine below_set ?_ GE147.out)|exact HB.out)) hb);clear BK147;clear HB;have BK147:=n0_;have HB:=n1_;clear n0_ n1_;(try clear hb);(try clear hb2);(try clear hk);(try clear hi)))
   go_meet
   case rel=>exact ⟨_,(true),(by first|rfl|(simp;done)|(simp [*];done)),H',⟨by first|omega|exact Nat.le_refl _⟩,⟨by (with_reducible repeat (first|refine blk_drewN ?_ _|refine blk_drew ?_|refine blk_alloc ?_ _));exact BK147.out⟩,⟨by repeat (first|(with_reducible first|exact HB.out|apply below_alloc|apply pw_below_drewN|apply below_drew1|refine below_set ?_ GE147.out)|exact HB.out)⟩⟩
 case rest =>
  clear HC4
  try clear c1
  try clear c2
  try clear p2
  try clear c7
  try clear c9
  try clear c10
  try clear c10b0
  try clear c10b1
  try clear c10b2
  try clear hcz12_0
  try clear hcz12_1
  try clear hcz12_2
  try clear hcz12_3
  try clear hcz12_4
  try clear hcz12_5
  try clear hcz14_0
  try clear hcz14_1
  try clear hcz14_2
  try clear hcz14_3
  try clear hcz14_4
  try clear hcz14_5
  try clear hcz15_0
  try clear hcz15_1
  try clear hcz15_2
  try clear hcz15_3
  try clear hcz15_4
  try clear hcz15_5
  try clear hcz17_0
  try clear hcz17_1
  try clear hcz17_2
  try clear hcz17_3
  try clear hcz17_4
  try clear hcz17_5
  try clear hcz18_0
  try clear hcz18_1
  try clear hcz18_2
  try clear hcz18_3
  try clear hcz18_4
  try clear hcz18_5
  try clear hcz20_0
  try clear hcz20_1
  try clear hcz20_2
  try clear hcz20_3
  try clear hcz20_4
  try clear hcz20_5
  try clear hfz12_0
  try clear hfz12_1
  try clear hfz12_2
  try clear hfz12_3
  try clear hfz12_4
  try clear hfz12_5
  try clear hfz14_0
  try clear hfz14_1
  try clear hfz14_2
  try clear hfz14_3
  try clear hfz14_4
  try clear hfz14_5
  try clear hfz15_0
  try clear hfz15_1
  try clear hfz15_2
  try clear hfz15_3
  try clear hfz15_4
  try clear hfz15_5
  try clear hfz17_0
  try clear hfz17_1
  try clear hfz17_2
  try clear hfz17_3
  try clear hfz17_4
  try clear hfz17_5
  try clear hfz18_0
  try clear hfz18_1
  try clear hfz18_2
  try clear hfz18_3
  try clear hfz18_4
  try clear hfz18_5
  try clear hfz20_0
  try clear hfz20_1
  try clear hfz20_2
  try clear hfz20_3
  try clear hfz20_4
  try clear hfz20_5
  obtain ⟨kq,x37_3,rfl,HA,HJ3,BK147,HB⟩:=hcut
  cases kq with
  | zero=>exact absurd HA.out (by simp [impl_StripRatio.j0])
  | succ kj3 =>
   have H:=HA.out
   clear HA
   simp only [impl_StripRatio.j0] at H
   by_cases c22:x37_3=true
   ·subst c22
    have H1:(some (0,0,false))=some (r1,r2,r3):=by rw [if_pos rfl] at H;exact H
    clear H
    have H:=H1
    clear H1
    simp only [Option.some.injEq,Prod.mk.injEq] at H
    obtain ⟨rfl,rfl,rfl⟩:=H
    go_wp2
    go_ret3
    exact ⟨by first|rfl|(simp [errW_none,errW_some] <;> rfl)|(simp [*,errW_none,errW_some] <;> rfl),by repeat (first|(with_reducible first|exact HB.out|apply below_alloc|apply pw_below_drewN|apply below_drew1|refine below_set ?_ GE147.out)|exact HB.out)⟩
   ·replace c22:=Bool.eq_false_iff.mpr c22
    subst c22
    have H1:(impl_StripRatio.l0 kj3 l1 0 0 l2 (l2.length:Int) 0 a0_0 a0_1 a0_2 l0_3 l0_4 l0_5)=some (r1,r2,r3):=by rw [if_neg (show ¬ (false=true) by decide)] at H;exact H
    clear H
    have H:=H1
    clear H1
    have H':=Aside0.mk H
    clear H
    go_wp2
    go_loopg [9,10,40] kj3 (fun kq v9 v10 v40 w'=>∃ (x9_2:Int) (x10_2:Int) (x40_2:Int),v9=.int .i64 x9_2∧v10=.int .i64 x10_2∧v40=.int .i64 x40_2∧Aside0 (impl_StripRatio.l0 kq l1 x9_2 x10_2 l2 (l2.length:Int) x40_2 a0_0 a0_1 a0_2 l0_3 l0_4 l0_5=some (r1,r2,r3))∧Aside0 (kq≤kj3)∧Aside0 (w'.heap[gb147]?=some (.cells #[.int .i64 a0_0,.int .i64 a0_1,.int .i64 a0_2,(.slice A0_3 l0_3.length c0_3),(.slice A0_4 l0_4.length c0_4),(.slice A0_5 l0_5.length c0_5)] 34 (0,0)))∧Aside0 (Below w.heap.size w w'))
    case atStart=>exact ⟨(0),(0),(0),(by first|rfl|(simp;done)|(simp [*];done)),(by first|rfl|(simp;done)|(simp [*];done)),(by first|rfl|(simp;done)|(simp [*];done)),H',⟨Nat.le_refl _⟩,⟨by (with_reducible repeat (first|refine blk_drewN ?_ _|refine blk_drew ?_|refine blk_alloc ?_ _));exact BK147.out⟩,⟨by repeat (first|(with_reducible first|exact HB.out|apply below_alloc|apply pw_below_drewN|apply below_drew1|refine below_set ?_ GE147.out)|exact HB.out)⟩⟩
    case round =>
     clear H'
     try clear c1
     try clear c2
     try clear p2
     try clear c7
     try clear c9
     try clear c10
     try clear c10b0
     try clear c10b1
     try clear c10b2
     try clear c22
     try clear hcz12_0
     try clear hcz12_1
     try clear hcz12_2
     try clear hcz12_3
     try clear hcz12_4
     try clear hcz12_5
     try clear hcz14_0
     try clear hcz14_1
     try clear hcz14_2
     try clear hcz14_3
     try clear hcz14_4
     try clear hcz14_5
     try clear hcz15_0
     try clear hcz15_1
     try clear hcz15_2
     try clear hcz15_3
     try clear hcz15_4
     try clear hcz15_5
     try clear hcz17_0
     try clear hcz17_1
     try clear hcz17_2
     try clear hcz17_3
     try clear hcz17_4
     try clear hcz17_5
     try clear hcz18_0
     try clear hcz18_1
     try clear hcz18_2
     try clear hcz18_3
     try clear hcz18_4
     try clear hcz18_5
     try clear hcz20_0
     try clear hcz20_1
     try clear hcz20_2
     try clear hcz20_3
     try clear hcz20_4
     try clear hcz20_5
     try clear hfz12_0
     try clear hfz12_1
     try clear hfz12_2
     try clear hfz12_3
     try clear hfz12_4
     try clear hfz12_5
     try clear hfz14_0
     try clear hfz14_1
     try clear hfz14_2
     try clear hfz14_3
     try clear hfz14_4
     try clear hfz14_5
     try clear hfz15_0
     try clear hfz15_1
     try clear hfz15_2
     try clear hfz15_3
     try clear hfz15_4
     try clear hfz15_5
     try clear hfz17_0
     try clear hfz17_1
     try clear hfz17_2
     try clear hfz17_3
     try clear hfz17_4
     try clear hfz17_5
     try clear hfz18_0
     try clear hfz18_1
     try clear hfz18_2
     try clear hfz18_3
     try clear hfz18_4
     try clear hfz18_5
     try clear hfz20_0
     try clear hfz20_1
     try clear hfz20_2
     try clear hfz20_3
     try clear hfz20_4
     try clear hfz20_5
     try clear p2
     obtain ⟨x9_2,x10_2,x40_2,rfl,rfl,rfl,HA,HK2,BK147,HB⟩:=hrel
     cases gk with
     | zero=>exact absurd HA.out (by simp [impl_StripRatio.l0])
     | succ k2 =>
      have H:=HA.out
      clear HA
      simp only [impl_StripRatio.l0] at H
      by_cases c23:x40_2 < (l2.length:Int)
      ·rw [if_pos c23] at H
       have c23b0:decide (x40_2 < (l2.length:Int))=true:=decide_eq_true c23
       clear c23
       by_cases c24:0≤x40_2
       ·rw [if_pos c24] at H
        have c24b0:decide (0≤x40_2)=true:=decide_eq_true c24
        clear c24
        by_cases c25:x40_2 < (l2.length:Int)
        ·rw [if_pos c25] at H
         have c25b0:decide (x40_2 < (l2.length:Int))=true:=decide_eq_true c25
         clear c25
         by_cases c26:0≤(rd l2 x40_2)
         ·rw [if_pos c26] at H
          have c26b0:decide (0≤(rd l2 x40_2))=true:=decide_eq_true c26
          clear c26
          by_cases c27:(rd l2 x40_2) < (l1.length:Int)
          ·rw [if_pos c27] at H
           have c27b0:decide ((rd l2 x40_2) < (l1.length:Int))=true:=decide_eq_true c27
           clear c27
           by_cases c28:(rd l1 (rd l2 x40_2)) > 0
           ·rw [if_pos c28] at H
            have c28b0:decide (0 < (rd l1 (rd l2 x40_2)))=true:=decide_eq_true c28
            clear c28
            by_cases c29:(rd l2 x40_2) < (l0_3.length:Int)
            ·rw [if_pos c29] at H
             have c29b0:decide ((rd l2 x40_2) < (l0_3.length:Int))=true:=decide_eq_true c29
             clear c29
             have H':=Aside0.mk H
             clear H
             have p151:0≤(x40_2:Int):=of_decide_eq_true (by first|(with_reducible assumption)|assumption)
             have q151:x40_2 < (l2.length:Int):=of_decide_eq_true (by first|(with_reducible assumption)|assumption)
             obtain ⟨ad151,e151,hx151_0⟩:=Kd.at_int HR2.out x40_2 p151 q151
             cases e151
             replace hx151_0:=(HB.out.cell (World.block_lt_of_cell? w _ hx151_0)).trans hx151_0
             replace p151:=eq_true p151
             replace q151:=eq_true q151
             have p152:0≤((rd l2 x40_2):Int):=of_decide_eq_true (by first|(with_reducible assumption)|assumption)
             have q152:(rd l2 x40_2) < (l1.length:Int):=of_decide_eq_true (by first|(with_reducible assumption)|assumption)
             obtain ⟨ad152,e152,hx152_0⟩:=Kd.at_int HR1.out (rd l2 x40_2) p152 q152
             cases e152
             replace hx152_0:=(HB.out.cell (World.block_lt_of_cell? w _ hx152_0)).trans hx152_0
             replace p152:=eq_true p152
             replace q152:=eq_true q152
             have hcz30_0:wr.cell? ⟨gb147,0,none⟩=some (.int .i64 a0_0):=(blk_cell BK147.out 0).trans rfl
             have hcz30_1:wr.cell? ⟨gb147,1,none⟩=some (.int .i64 a0_1):=(blk_cell BK147.out 1).trans rfl
             have hcz30_2:wr.cell? ⟨gb147,2,none⟩=some (.int .i64 a0_2):=(blk_cell BK147.out 2).trans rfl
             have hcz30_3:wr.cell? ⟨gb147,3,none⟩=some (.slice A0_3 l0_3.length c0_3):=(blk_cell BK147.out 3).trans rfl
             have hcz30_4:wr.cell? ⟨gb147,4,none⟩=some (.slice A0_4 l0_4.length c0_4):=(blk_cell BK147.out 4).trans rfl
             have hcz30_5:wr.cell? ⟨gb147,5,none⟩=some (.slice A0_5 l0_5.length c0_5):=(blk_cell BK147.out 5).trans rfl
             have hfz30_0:=blk_frozen BK147.out 0
             have hfz30_1:=blk_frozen BK147.out 1
             have hfz30_2:=blk_frozen BK147.out 2
             have hfz30_3:=blk_frozen BK147.out 3
             have hfz30_4:=blk_frozen BK147.out 4
             have hfz30_5:=blk_frozen BK147.out 5
             have p153:0≤((rd l2 x40_2):Int):=of_decide_eq_true (by first|(with_reducible assumption)|assumption)
             have q153:(rd l2 x40_2) < (l0_3.length:Int):=of_decide_eq_true (by first|(with_reducible assumption)|assumption)
             obtain ⟨ad153,e153,hx153_0⟩:=Kd.at_int HR0_3.out (rd l2 x40_2) p153 q153
             cases e153
             replace hx153_0:=(HB.out.cell (World.block_lt_of_cell? w _ hx153_0)).trans hx153_0
             replace p153:=eq_true p153
             replace q153:=eq_true q153
             go_wp2
             go_roundg k2
             case measure=>have:=HJ3.out;have:=HK2.out;omega
             case rel=>exact ⟨(x9_2),(wrap64 (x10_2 + (rd l0_3 (rd l2 x40_2)))),(wrap64 (x40_2 + 1)),(by first|rfl|(simp;done)|(simp [*];done)),(by first|rfl|(simp;done)|(simp [*];done)),(by first|rfl|(simp;done)|(simp [*];done)),H',⟨by have:=HJ3.out;have:=HK2.out;omega⟩,⟨by (with_reducible repeat (first|refine blk_drewN ?_ _|refine blk_drew ?_|refine blk_alloc ?_ _));exact BK147.out⟩,⟨by repeat (first|(with_reducible first|exact HB.out|apply below_alloc|apply pw_below_drewN|apply below_drew1|refine below_set ?_ GE147.out)|exact HB.out)⟩⟩
            ·rw [if_neg c29] at H
             exact absurd H (by simp)
           ·rw [if_neg c28] at H
            have c28b0:decide (0 < (rd l1 (rd l2 x40_2)))=false:=decide_eq_false c28
            clear c28
            by_cases c31:(rd l2 x40_2) < (l0_3.length:Int)
            ·rw [if_pos c31] at H
             have c31b0:decide ((rd l2 x40_2) < (l0_3.length:Int))=true:=decide_eq_true c31
             clear c31
             have H':=Aside0.mk H
             clear H
             have p151:0≤(x40_2:Int):=of_decide_eq_true (by first|(with_reducible assumption)|assumption)
             have q151:x40_2 < (l2.length:Int):=of_decide_eq_true (by first|(with_reducible assumption)|assumption)
             obtain ⟨ad151,e151,hx151_0⟩:=Kd.at_int HR2.out x40_2 p151 q151
             cases e151
             replace hx151_0:=(HB.out.cell (World.block_lt_of_cell? w _ hx151_0)).trans hx151_0
             replace p151:=eq_true p151
             replace q151:=eq_true q151
             have p152:0≤((rd l2 x40_2):Int):=of_decide_eq_true (by first|(with_reducible assumption)|assumption)
             have q152:(rd l2 x40_2) < (l1.length:Int):=of_decide_eq_true (by first|(with_reducible assumption)|assumption)
             obtain ⟨ad152,e152,hx152_0⟩:=Kd.at_int HR1.out (rd l2 x40_2) p152 q152
             cases e152
             replace hx152_0:=(HB.out.cell (World.block_lt_of_cell? w _ hx152_0)).trans hx152_0
             replace p152:=eq_true p152
             replace q152:=eq_true q152
             have hcz32_0:wr.cell? ⟨gb147,0,none⟩=some (.int .i64 a0_0):=(blk_cell BK147.out 0).trans rfl
             have hcz32_1:wr.cell? ⟨gb147,1,none⟩=some (.int .i64 a0_1):=(blk_cell BK147.out 1).trans rfl
             have hcz32_2:wr.cell? ⟨gb147,2,none⟩=some (.int .i64 a0_2):=(blk_cell BK147.out 2).trans rfl
             have hcz32_3:wr.cell? ⟨gb147,3,none⟩=some (.slice A0_3 l0_3.length c0_3):=(blk_cell BK147.out 3).trans rfl
             have hcz32_4:wr.cell? ⟨gb147,4,none⟩=some (.slice A0_4 l0_4.length c0_4):=(blk_cell BK147.out 4).trans rfl
             have hcz32_5:wr.cell? ⟨gb147,5,none⟩=some (.slice A0_5 l0_5.length c0_5):=(blk_cell BK147.out 5).trans rfl
             have hfz32_0:=blk_frozen BK147.out 0
             have hfz32_1:=blk_frozen BK147.out 1
             have hfz32_2:=blk_frozen BK147.out 2
             have hfz32_3:=blk_frozen BK147.out 3
             have hfz32_4:=blk_frozen BK147.out 4
             have hfz32_5:=blk_frozen BK147.out 5
             have p154:0≤((rd l2 x40_2):Int):=of_decide_eq_true (by first|(with_reducible assumption)|assumption)
             have q154:(rd l2 x40_2) < (l0_3.length:Int):=of_decide_eq_true (by first|(with_reducible assumption)|assumption)
             obtain ⟨ad154,e154,hx154_0⟩:=Kd.at_int HR0_3.out (rd l2 x40_2) p154 q154
             cases e154
             replace hx154_0:=(HB.out.cell (World.block_lt_of_cell? w _ hx154_0)).trans hx154_0
             replace p154:=eq_true p154
             replace q154:=eq_true q154
             go_wp2
             go_roundg k2
             case measure=>have:=HJ3.out;have:=HK2.out;omega
             case rel=>exact ⟨(wrap64 (x9_2 + (rd l0_3 (rd l2 x40_2)))),(x10_2),(wrap64 (x40_2 + 1)),(by first|rfl|(simp;done)|(simp [*];done)),(by first|rfl|(simp;done)|(simp [*];done)),(by first|rfl|(simp;done)|(simp [*];done)),H',⟨by have:=HJ3.out;have:=HK2.out;omega⟩,⟨by (with_reducible repeat (first|refine blk_drewN ?_ _|refine blk_drew ?_|refine blk_alloc ?_ _));exact BK147.out⟩,⟨by repeat (first|(with_reducible first|exact HB.out|apply below_alloc|apply pw_below_drewN|apply below_drew1|refine below_set ?_ GE147.out)|exact HB.out)⟩⟩
            ·rw [if_neg c31] at H
             exact absurd H (by simp)
          ·rw [if_neg c27] at H
           exact absurd H (by simp)
         ·rw [if_neg c26] at H
          exact absurd H (by simp)
        ·rw [if_neg c25] at H
         exact absurd H (by simp)
       ·rw [if_neg c24] at H
        exact absurd H (by simp)
      ·rw [if_neg c23] at H
       have c23b0:decide (x40_2 < (l2.length:Int))=false:=decide_eq_false c23
       clear c23
       by_cases c33:x10_2=0
       ·rw [if_pos c33] at H
        have c33b0:(x10_2 == 0)=true:=beq_iff_eq.mpr c33
        have c33b1:(x10_2 != 0)=false:=bne_eq_false_iff_eq.mpr c33
        clear c33
        simp only [Option.some.injEq,Prod.mk.injEq] at H
        obtain ⟨rfl,rfl,rfl⟩:=H
        go_wp2
        go_ret3
        exact ⟨by first|rfl|(simp [errW_none,errW_some] <;> rfl)|(simp [*,errW_none,errW_some] <;> rfl),by repeat (first|(with_reducible first|exact HB.out|apply below_alloc|apply pw_below_drewN|apply below_drew1|refine below_set ?_ GE147.out)|exact HB.out)⟩
       ·rw [if_neg c33] at H
        have c33b0:(x10_2 == 0)=false:=beq_eq_false_iff_ne.mpr c33
        have c33b1:(x10_2 != 0)=true:=bne_iff_ne.mpr c33
        replace H:=Option.bind_eq_some_iff.mp H
        obtain ⟨⟨t155,t156⟩,A340,H⟩:=H
        replace H:(some (t155,t156,true))=some (r1,r2,r3):=H
        have A34:=Aside0.mk A340
        clear A340
        simp only [Option.some.injEq,Prod.mk.injEq] at H
        obtain ⟨rfl,rfl,rfl⟩:=H
        go_wp2_with (first|((with_reducible refine gate_callee (f:=104) rfl ?_);refine goesL_ (some 69) rfl rfl Try.func104 (by kernel_rfl) rfl #[.int .i64 x9_2,.int .i64 x10_2] rfl (by (try simp only [List.map_toArray,List.map_cons,List.map_nil]);first|done|rfl|(simp only [List.length_drop,List.length_take];rfl)) ?_;(with_reducible refine (impl_lowest.calls k2 x9_2 x10_2 t155 t156 _ A34.out).mono ?_);rintro e w35 ⟨rfl,hb⟩;refine ⟨_,rfl,?_⟩;have n0_:=Aside0.mk (blk_below (g:=gb147) (o:=.cells #[.int .i64 a0_0,.int .i64 a0_1,.int .i64 a0_2,.slice A0_3 l0_3.length c0_3,.slice A0_4 l0_4.length c0_4,.slice A0_5 l0_5.length c0_5] 34 (0,0)) (by (with_reducible repeat (first|refine blk_drewN ?_ _|refine blk_drew ?_|refine blk_alloc ?_ _));exact BK147.out) hb);have n1_:=Aside0.mk (below_step (by repeat (first|(with_reducible first|exact HB.out|apply below_alloc|apply pw_below_drewN|apply below_drew1|refine below_set ?_ GE147.out)|exact HB.out)) hb);clear BK147;clear HB;have BK147:=n0_;have HB:=n1_;clear n0_ n1_;(try clear hb);(try clear hb2);(try clear hk);(try clear hi)))
        go_ret3
        exact ⟨by first|rfl|(simp [errW_none,errW_some] <;> rfl)|(simp [*,errW_none,errW_some] <;> rfl),by repeat (first|(with_reducible first|exact HB.out|apply below_alloc|apply pw_below_drewN|apply below_drew1|refine below_set ?_ GE147.out)|exact HB.out)⟩
end Go.Proofs.Ytomfjhpiemipkaa.PFnOre
end
section
namespace Go.Proofs.Ytomfjhpiemipkaa.PFnOre
open Go.RowKit Go.Proofs.YtomfjhpiemipkaaW.PrintWords Go.Proofs.YtomfjhpiemipkaaW.PrintLast Go.Proofs.YtomfjhpiemipkaaW.PrintMore
attribute [local go_sem] max2_int min2_int max_two min_two max_three min_three max_four min_four   -- for this text's walks alone
set_option linter.unusedVariables false
set_option linter.unusedSimpArgs false
def spec_grCount.f (a0_0:Int) (a0_1:Int) (a0_2:Int):Option (Int):=some (wrap64 ((wrap64 (a0_0 * a0_1)) * a0_2))
set_option maxHeartbeats 8000000 in
set_option maxRecDepth 100000 in
theorem spec_grCount.calls (a0_0:Int) (a0_1:Int) (a0_2:Int) (r:Int) (w:World) (h:spec_grCount.f a0_0 a0_1 a0_2=some r) :
  Calls Try.prog 160 #[.agg #[.int .i64 a0_0,.int .i64 a0_1,.int .i64 a0_2]] w fun e w'=>e=.returned (.int .i64 r)∧Below w.heap.size w w':=by
 have hu32:=Try.underlying32
 have HB:=Aside0.mk (Below.refl w.heap.size w)
 have H:(some (wrap64 ((wrap64 (a0_0 * a0_1)) * a0_2)))=some r:=h
 clear h
 obtain rfl:=Option.some.inj H
 go_enter Try.func160,Try.ntmps160
 go_wp2_with (first|((with_reducible refine gate_dst (N:=1) rfl ?_);refine box_event ?hg (N:=1) ?hd (cs:=#[.int .i64 a0_0,.int .i64 a0_1,.int .i64 a0_2]) (t:=32) ?hr ?_;(case hd=>rfl);(case hg=>rfl);(case hr=>first|(go_simp;done)|(go_simp;rfl));intro gb105 hg w2 hbox hb;have n0_:=Aside0.mk (below_step (by repeat (first|(with_reducible first|exact HB.out|apply below_alloc|apply pw_below_drewN|apply below_drew1)|exact HB.out)) hb);have n1_:=Aside0.mk (hbox);have n2_:=Aside0.mk ((by rw [hg];exact (below_size (by repeat (first|(with_reducible first|exact HB.out|apply below_alloc|apply pw_below_drewN|apply below_drew1)|exact HB.out))):w.heap.size≤gb105));have n3_:=Aside0.mk ((by rw [hg];exact (below_size (by repeat (first|(with_reducible first|exact HB.out|apply below_alloc|apply pw_below_drewN|apply below_drew1)|exact HB.out))):w.heap.size≤gb105));clear HB;have HB:=n0_;have BK105:=n1_;have GW105:=n2_;have GE105:=n3_;clear n0_ n1_ n2_ n3_;clear hb hbox hg;have hcz3_0:w2.cell? ⟨gb105,0,none⟩=some (.int .i64 a0_0):=(blk_cell BK105.out 0).trans rfl;have hcz3_1:w2.cell? ⟨gb105,1,none⟩=some (.int .i64 a0_1):=(blk_cell BK105.out 1).trans rfl;have hcz3_2:w2.cell? ⟨gb105,2,none⟩=some (.int .i64 a0_2):=(blk_cell BK105.out 2).trans rfl;have hfz3_0:=blk_frozen BK105.out 0;have hfz3_1:=blk_frozen BK105.out 1;have hfz3_2:=blk_frozen BK105.out 2))
 go_ret
 exact ⟨by first|rfl|(simp [errW_none,errW_some] <;> rfl)|(simp [*,errW_none,errW_some] <;> rfl),by repeat (first|(with_reducible first|exact HB.out|apply below_alloc|apply pw_below_drewN|apply below_drew1|refine below_set ?_ GE105.out)|exact HB.out)⟩
end Go.Proofs.Ytomfjhpiemipkaa.PFnOre
end
section
namespace Go.Proofs.Ytomfjhpiemipkaa.PFnOre
open Go.RowKit Go.Proofs.YtomfjhpiemipkaaW.PrintWords Go.Proofs.YtomfjhpiemipkaaW.PrintLast Go.Proofs.YtomfjhpiemipkaaW.PrintMore
attribute [local go_sem] max2_int min2_int max_two min_two max_three min_three max_four min_four   -- for this text's walks alone
set_option linter.unusedVariables false
set_option linter.unusedSimpArgs false
def spec_grGood.f (a0_0:Int) (a0_1:Int) (a0_2:Int):Option (Bool):=(spec_l1In.f a0_0 1 8).bind fun t102=>(if t102=true then ((spec_l1In.f a0_1 1 6).bind fun t103=>(if t103=true then ((spec_l1In.f a0_2 1 5).bind fun t104=>(if t104=true then (some (decide ((wrap64 ((wrap64 (a0_0 * a0_1)) * a0_2))≤120))) else (some false))) else (some false))) else (some false))
set_option maxHeartbeats 8000000 in
set_option maxRecDepth 100000 in
theorem spec_grGood.calls (a0_0:Int) (a0_1:Int) (a0_2:Int) (r:Bool) (w:World) (h:spec_grGood.f a0_0 a0_1 a0_2=some r) :
  Calls Try.prog 107 #[.agg #[.int .i64 a0_0,.int .i64 a0_1,.int .i64 a0_2]] w fun e w'=>e=.returned (.bool r)∧Below w.heap.size w w':=by
 have hu32:=Try.underlying32
 have HB:=Aside0.mk (Below.refl w.heap.size w)
 have H:((spec_l1In.f a0_0 1 8).bind fun t102=>(if t102=true then ((spec_l1In.f a0_1 1 6).bind fun t103=>(if t103=true then ((spec_l1In.f a0_2 1 5).bind fun t104=>(if t104=true then (some (decide ((wrap64 ((wrap64 (a0_0 * a0_1)) * a0_2))≤120))) else (some false))) else (some false))) else (some false)))=some r:=h
 clear h
 replace H:=Option.bind_eq_some_iff.mp H
 obtain ⟨t102,A20,H⟩:=H
 replace H:(if t102=true then ((spec_l1In.f a0_1 1 6).bind fun t103=>(if t103=true then ((spec_l1In.f a0_2 1 5).bind fun t104=>(if t104=true then (some (decide ((wrap64 ((wrap64 (a0_0 * a0_1)) * a0_2))≤120))) else (some false))) else (some false))) else (some false))=some r:=H
 have A2:=Aside0.mk A20
 clear A20
 by_cases c3:t102=true
 ·subst c3
  have H1:((spec_l1In.f a0_1 1 6).bind fun t103=>(if t103=true then ((spec_l1In.f a0_2 1 5).bind fun t104=>(if t104=true then (some (decide ((wrap64 ((wrap64 (a0_0 * a0_1)) * a0_2))≤120))) else (some false))) else (some false)))=some r:=by rw [if_pos rfl] at H;exact H
  clear H
  have H:=H1
  clear H1
  replace H:=Option.bind_eq_some_iff.mp H
  obtain ⟨t103,A40,H⟩:=H
  replace H:(if t103=true then ((spec_l1In.f a0_2 1 5).bind fun t104=>(if t104=true then (some (decide ((wrap64 ((wrap64 (a0_0 * a0_1)) * a0_2))≤120))) else (some false))) else (some false))=some r:=H
  have A4:=Aside0.mk A40
  clear A40
  by_cases c5:t103=true
  ·subst c5
   have H1:((spec_l1In.f a0_2 1 5).bind fun t104=>(if t104=true then (some (decide ((wrap64 ((wrap64 (a0_0 * a0_1)) * a0_2))≤120))) else (some false)))=some r:=by rw [if_pos rfl] at H;exact H
   clear H
   have H:=H1
   clear H1
   replace H:=Option.bind_eq_some_iff.mp H
   obtain ⟨t104,A60,H⟩:=H
   replace H:(if t104=true then (some (decide ((wrap64 ((wrap64 (a0_0 * a0_1)) * a0_2))≤120))) else (some false))=some r:=H
   have A6:=Aside0.mk A60
   clear A60
   by_cases c7:t104=true
   ·subst c7
    have H1:(some (decide ((wrap64 ((wrap64 (a0_0 * a0_1)) * a0_2))≤120)))=some r:=by rw [if_pos rfl] at H;exact H
    clear H
    have H:=H1
    clear H1
    obtain rfl:=Option.some.inj H
    go_enter Try.func107,Try.ntmps107
    go_wp2_with (first|((with_reducible refine gate_dst (N:=1) rfl ?_);refine box_event ?hg (N:=1) ?hd (cs:=#[.int .i64 a0_0,.int .i64 a0_1,.int .i64 a0_2]) (t:=32) ?hr ?_;(case hd=>rfl);(case hg=>rfl);(case hr=>first|(go_simp;done)|(go_simp;rfl));intro gb101 hg w8 hbox hb;have n0_:=Aside0.mk (below_step (by repeat (first|(with_reducible first|exact HB.out|apply below_alloc|apply pw_below_drewN|apply below_drew1)|exact HB.out)) hb);have n1_:=Aside0.mk (hbox);have n2_:=Aside0.mk ((by rw [hg];exact (below_size (by repeat (first|(with_reducible first|exact HB.out|apply below_alloc|apply pw_below_drewN|apply below_drew1)|exact HB.out))):w.heap.size≤gb101));have n3_:=Aside0.mk ((by rw [hg];exact (below_size (by repeat (first|(with_reducible first|exact HB.out|apply below_alloc|apply pw_below_drewN|apply below_drew1)|exact HB.out))):w.heap.size≤gb101));clear HB;have HB:=n0_;have BK101:=n1_;have GW101:=n2_;have GE101:=n3_;clear n0_ n1_ n2_ n3_;clear hb hbox hg;have hcz9_0:w8.cell? ⟨gb101,0,none⟩=some (.int .i64 a0_0):=(blk_cell BK101.out 0).trans rfl;have hcz9_1:w8.cell? ⟨gb101,1,none⟩=some (.int .i64 a0_1):=(blk_cell BK101.out 1).trans rfl;have hcz9_2:w8.cell? ⟨gb101,2,none⟩=some (.int .i64 a0_2):=(blk_cell BK101.out 2).trans rfl;have hfz9_0:=blk_frozen BK101.out 0;have hfz9_1:=blk_frozen BK101.out 1;have hfz9_2:=blk_frozen BK101.out 2)|((with_reducible refine gate_callee (f:=108) rfl ?_);refine goesL_ (some 5) rfl rfl Try.func108 (by kernel_rfl) rfl #[.int .i64 a0_0,.int .i64 1,.int .i64 8] rfl (by (try simp only [List.map_toArray,List.map_cons,List.map_nil]);first|done|rfl|(simp only [List.length_drop,List.length_take];rfl)) ?_;(with_reducible refine (spec_l1In.calls a0_0 1 8 true _ A2.out).mono ?_);rintro e w' ⟨rfl,⟨nd,rfl⟩⟩;refine ⟨_,rfl,?_⟩)|(go_at_call 108;(with_reducible refine (spec_l1In.calls a0_1 1 6 true _ A4.out).mono ?_);rintro e w' ⟨rfl,⟨nd,rfl⟩⟩)|(go_at_call 108;(with_reducible refine (spec_l1In.calls a0_2 1 5 true _ A6.out).mono ?_);rintro e w' ⟨rfl,⟨nd,rfl⟩⟩))
    go_ret
    exact ⟨by first|rfl|(simp [errW_none,errW_some] <;> rfl)|(simp [*,errW_none,errW_some] <;> rfl),by repeat (first|(with_reducible first|exact HB.out|apply below_alloc|apply pw_below_drewN|apply below_drew1|refine below_set ?_ GE101.out)|exact HB.out)⟩
   ·replace c7:=Bool.eq_false_iff.mpr c7
    subst c7
    have H1:(some false)=some r:=by rw [if_neg (show ¬ (false=true) by decide)] at H;exact H
    clear H
    have H:=H1
    clear H1
    obtain rfl:=Option.some.inj H
    go_enter Try.func107,Try.ntmps107
    go_wp2_with (first|((with_reducible refine gate_dst (N:=1) rfl ?_);refine box_event ?hg (N:=1) ?hd (cs:=#[.int .i64 a0_0,.int .i64 a0_1,.int .i64 a0_2]) (t:=32) ?hr ?_;(case hd=>rfl);(case hg=>rfl);(case hr=>first|(go_simp;done)|(go_simp;rfl));intro gb101 hg w10 hbox hb;have n0_:=Aside0.mk (below_step (by repeat (first|(with_reducible first|exact HB.out|apply below_alloc|apply pw_below_drewN|apply below_drew1)|exact HB.out)) hb);have n1_:=Aside0.mk (hbox);have n2_:=Aside0.mk ((by rw [hg];exact (below_size (by repeat (first|(with_reducible first|exact HB.out|apply below_alloc|apply pw_below_drewN|apply below_drew1)|exact HB.out))):w.heap.size≤gb101));have n3_:=Aside0.mk ((by rw [hg];exact (below_size (by repeat (first|(with_reducible first|exact HB.out|apply below_alloc|apply pw_below_drewN|apply below_drew1)|exact HB.out))):w.heap.size≤gb101));clear HB;have HB:=n0_;have BK101:=n1_;have GW101:=n2_;have GE101:=n3_;clear n0_ n1_ n2_ n3_;clear hb hbox hg;have hcz11_0:w10.cell? ⟨gb101,0,none⟩=some (.int .i64 a0_0):=(blk_cell BK101.out 0).trans rfl;have hcz11_1:w10.cell? ⟨gb101,1,none⟩=some (.int .i64 a0_1):=(blk_cell BK101.out 1).trans rfl;have hcz11_2:w10.cell? ⟨gb101,2,none⟩=some (.int .i64 a0_2):=(blk_cell BK101.out 2).trans rfl;have hfz11_0:=blk_frozen BK101.out 0;have hfz11_1:=blk_frozen BK101.out 1;have hfz11_2:=blk_frozen BK101.out 2)|((with_reducible refine gate_callee (f:=108) rfl ?_);refine goesL_ (some 5) rfl rfl Try.func108 (by kernel_rfl) rfl #[.int .i64 a0_0,.int .i64 1,.int .i64 8] rfl (by (try simp only [List.map_toArray,List.map_cons,List.map_nil]);first|done|rfl|(simp only [List.length_drop,List.length_take];rfl)) ?_;(with_reducible refine (spec_l1In.calls a0_0 1 8 true _ A2.out).mono ?_);rintro e w' ⟨rfl,⟨nd,rfl⟩⟩;refine ⟨_,rfl,?_⟩)|(go_at_call 108;(with_reducible refine (spec_l1In.calls a0_1 1 6 true _ A4.out).mono ?_);rintro e w' ⟨rfl,⟨nd,rfl⟩⟩)|(go_at_call 108;(with_reducible refine (spec_l1In.calls a0_2 1 5 false _ A6.out).mono ?_);rintro e w' ⟨rfl,⟨nd,rfl⟩⟩))
    go_ret
    exact ⟨by first|rfl|(simp [errW_none,errW_some] <;> rfl)|(simp [*,errW_none,errW_some] <;> rfl),by repeat (first|(with_reducible first|exact HB.out|apply below_alloc|apply pw_below_drewN|apply below_drew1|refine below_set ?_ GE101.out)|exact HB.out)⟩
  ·replace c5:=Bool.eq_false_iff.mpr c5
   subst c5
   have H1:(some false)=some r:=by rw [if_neg (show ¬ (false=true) by decide)] at H;exact H
   clear H
   have H:=H1
   clear H1
   obtain rfl:=Option.some.inj H
   go_enter Try.func107,Try.ntmps107
   go_wp2_with (first|((with_reducible refine gate_dst (N:=1) rfl ?_);refine box_event ?hg (N:=1) ?hd (cs:=#[.int .i64 a0_0,.int .i64 a0_1,.int .i64 a0_2]) (t:=32) ?hr ?_;(case hd=>rfl);(case hg=>rfl);(case hr=>first|(go_simp;done)|(go_simp;rfl));intro gb101 hg w12 hbox hb;have n0_:=Aside0.mk (below_step (by repeat (first|(with_reducible first|exact HB.out|apply below_alloc|apply pw_below_drewN|apply below_drew1)|exact HB.out)) hb);have n1_:=Aside0.mk (hbox);have n2_:=Aside0.mk ((by rw [hg];exact (below_size (by repeat (first|(with_reducible first|exact HB.out|apply below_alloc|apply pw_below_drewN|apply below_drew1)|exact HB.out))):w.heap.size≤gb101));have n3_:=Aside0.mk ((by rw [hg];exact (below_size (by repeat (first|(with_reducible first|exact HB.out|apply below_alloc|apply pw_below_drewN|apply below_drew1)|exact HB.out))):w.heap.size≤gb101));clear HB;have HB:=n0_;have BK101:=n1_;have GW101:=n2_;have GE101:=n3_;clear n0_ n1_ n2_ n3_;clear hb hbox hg;have hcz13_0:w12.cell? ⟨gb101,0,none⟩=some (.int .i64 a0_0):=(blk_cell BK101.out 0).trans rfl;have hcz13_1:w12.cell? ⟨gb101,1,none⟩=some (.int .i64 a0_1):=(blk_cell BK101.out 1).trans rfl;have hcz13_2:w12.cell? ⟨gb101,2,none⟩=some (.int .i64 a0_2):=(blk_cell BK101.out 2).trans rfl;have hfz13_0:=blk_frozen BK101.out 0;have hfz13_1:=blk_frozen BK101.out 1;have hfz13_2:=blk_frozen BK101.out 2)|((with_reducible refine gate_callee (f:=108) rfl ?_);refine goesL_ (some 5) rfl rfl Try.func108 (by kernel_rfl) rfl #[.int .i64 a0_0,.int .i64 1,.int .i64 8] rfl (by (try simp only [List.map_toArray,List.map_cons,List.map_nil]);first|done|rfl|(simp only [List.length_drop,List.length_take];rfl)) ?_;(with_reducible refine (spec_l1In.calls a0_0 1 8 true _ A2.out).mono ?_);rintro e w' ⟨rfl,⟨nd,rfl⟩⟩;refine ⟨_,rfl,?_⟩)|(go_at_call 108;(with_reducible refine (spec_l1In.calls a0_1 1 6 false _ A4.out).mono ?_);rintro e w' ⟨rfl,⟨nd,rfl⟩⟩))
   go_ret
   exact ⟨by first|rfl|(simp [errW_none,errW_some] <;> rfl)|(simp [*,errW_none,errW_some] <;> rfl),by repeat (first|(with_reducible first|exact HB.out|apply below_alloc|apply pw_below_drewN|apply below_drew1|refine below_set ?_ GE101.out)|exact HB.out)⟩
 ·replace c3:=Bool.eq_false_iff.mpr c3
  subst c3
  have H1:(some false)=some r:=by rw [if_neg (show ¬ (false=true) by decide)] at H;exact H
  clear H
  have H:=H1
  clear H1
  obtain rfl:=Option.some.inj H
  go_enter Try.func107,Try.ntmps107
  go_wp2_with (first|((with_reducible refine gate_dst (N:=1) rfl ?_);refine box_event ?hg (N:=1) ?hd (cs:=#[.int .i64 a0_0,.int .i64 a0_1,.int .i64 a0_2]) (t:=32) ?hr ?_;(case hd=>rfl);(case hg=>rfl);(case hr=>first|(go_simp;done)|(go_simp;rfl));intro gb101 hg w14 hbox hb;have n0_:=Aside0.mk (below_step (by repeat (first|(with_reducible first|exact HB.out|apply below_alloc|apply pw_below_drewN|apply below_drew1)|exact HB.out)) hb);have n1_:=Aside0.mk (hbox);have n2_:=Aside0.mk ((by rw [hg];exact (below_size (by repeat (first|(with_reducible first|exact HB.out|apply below_alloc|apply pw_below_drewN|apply below_drew1)|exact HB.out))):w.heap.size≤gb101));have n3_:=Aside0.mk ((by rw [hg];exact (below_size (by repeat (first|(with_reducible first|exact HB.out|apply below_alloc|apply pw_below_drewN|apply below_drew1)|exact HB.out))):w.heap.size≤gb101));clear HB;have HB:=n0_;have BK101:=n1_;have GW101:=n2_;have GE101:=n3_;clear n0_ n1_ n2_ n3_;clear hb hbox hg;have hcz15_0:w14.cell? ⟨gb101,0,none⟩=some (.int .i64 a0_0):=(blk_cell BK101.out 0).trans rfl;have hcz15_1:w14.cell? ⟨gb101,1,none⟩=some (.int .i64 a0_1):=(blk_cell BK101.out 1).trans rfl;have hcz15_2:w14.cell? ⟨gb101,2,none⟩=some (.int .i64 a0_2):=(blk_cell BK101.out 2).trans rfl;have hfz15_0:=blk_frozen BK101.out 0;have hfz15_1:=blk_frozen BK101.out 1;have hfz15_2:=blk_frozen BK101.out 2)|((with_reducible refine gate_callee (f:=108) rfl ?_);refine goesL_ (some 5) rfl rfl Try.func108 (by kernel_rfl) rfl #[.int .i64 a0_0,.int .i64 1,.int .i64 8] rfl (by (try simp only [List.map_toArray,List.map_cons,List.map_nil]);first|done|rfl|(simp only [List.length_drop,List.length_take];rfl)) ?_;(with_reducible refine (spec_l1In.calls a0_0 1 8 false _ A2.out).mono ?_);rintro e w' ⟨rfl,⟨nd,rfl⟩⟩;refine ⟨_,rfl,?_⟩))
  go_ret
  exact ⟨by first|rfl|(simp [errW_none,errW_some] <;> rfl)|(simp [*,errW_none,errW_some] <;> rfl),by repeat (first|(with_reducible first|exact HB.out|apply below_alloc|apply pw_below_drewN|apply below_drew1|refine below_set ?_ GE101.out)|exact HB.out)⟩
end Go.Proofs.Ytomfjhpiemipkaa.PFnOre
end
section
namespace Go.Proofs.Ytomfjhpiemipkaa.PFnOre
open Go.RowKit Go.Proofs.YtomfjhpiemipkaaW.PrintWords Go.Proofs.YtomfjhpiemipkaaW.PrintLast Go.Proofs.YtomfjhpiemipkaaW.PrintMore
attribute [local go_sem] max2_int min2_int max_two min_two max_three min_three max_four min_four   -- for this text's walks alone
set_option linter.unusedVariables false
set_option linter.unusedSimpArgs false
def spec_moGood.f (k:Nat) (a0_0:Int) (a0_1:Int) (a0_2:Int) (l0_3:List Int) (l0_4:List Int) (l0_5:List Int):Option (Bool):=(spec_grGood.f a0_0 a0_1 a0_2).bind fun t109=>(if t109=true then ((spec_grCount.f a0_0 a0_1 a0_2).bind fun t110=>(if (l0_3.length:Int)=t110 then (if (l0_4.length:Int)=t110 then (if (l0_5.length:Int)=t110 then ((spec_l1All.f k l0_3 0 10000).bind fun t111=>(if t111=true then ((spec_l1All.f k l0_4 0 1000).bind fun t112=>(if t112=true then ((spec_l1All.f k l0_5 0 4).bind fun t113=>(some t113)) else (some false))) else (some false))) else (some false)) else (some false)) else (some false))) else (some false))
set_option maxHeartbeats 8000000 in
set_option maxRecDepth 100000 in
theorem spec_moGood.calls (k:Nat) (a0_0:Int) (a0_1:Int) (a0_2:Int) (A0_3:Option Addr) (c0_3:Nat) (l0_3:List Int) (A0_4:Option Addr) (c0_4:Nat) (l0_4:List Int) (A0_5:Option Addr) (c0_5:Nat) (l0_5:List Int) (r:Bool) (w:World) (hr0_3:Kd.C (Kd.int .i64) w A0_3 l0_3.length l0_3) (hc0_3:l0_3.length≤c0_3) (hr0_4:Kd.C (Kd.int .i64) w A0_4 l0_4.length l0_4) (hc0_4:l0_4.length≤c0_4) (hr0_5:Kd.C (Kd.int .i64) w A0_5 l0_5.length l0_5) (hc0_5:l0_5.length≤c0_5) (h:spec_moGood.f k a0_0 a0_1 a0_2 l0_3 l0_4 l0_5=some r) :
  Calls Try.prog 105 #[.agg #[.int .i64 a0_0,.int .i64 a0_1,.int .i64 a0_2,.slice A0_3 l0_3.length c0_3,.slice A0_4 l0_4.length c0_4,.slice A0_5 l0_5.length c0_5]] w fun e w'=>e=.returned (.bool r)∧Below w.heap.size w w':=by
 have hu34:=Try.underlying34
 have hu32:=Try.underlying32
 have HR0_3:=Aside0.mk hr0_3
 have HC0_3:=Aside0.mk hc0_3
 clear hr0_3 hc0_3
 have HR0_4:=Aside0.mk hr0_4
 have HC0_4:=Aside0.mk hc0_4
 clear hr0_4 hc0_4
 have HR0_5:=Aside0.mk hr0_5
 have HC0_5:=Aside0.mk hc0_5
 clear hr0_5 hc0_5
 have HB:=Aside0.mk (Below.refl w.heap.size w)
 have H:((spec_grGood.f a0_0 a0_1 a0_2).bind fun t109=>(if t109=true then ((spec_grCount.f a0_0 a0_1 a0_2).bind fun t110=>(if (l0_3.length:Int)=t110 then (if (l0_4.length:Int)=t110 then (if (l0_5.length:Int)=t110 then ((spec_l1All.f k l0_3 0 10000).bind fun t111=>(if t111=true then ((spec_l1All.f k l0_4 0 1000).bind fun t112=>(if t112=true then ((spec_l1All.f k l0_5 0 4).bind fun t113=>(some t113)) else (some false))) else (some false))) else (some false)) else (some false)) else (some false))) else (some false)))=some r:=h
 clear h
 replace H:=Option.bind_eq_some_iff.mp H
 obtain ⟨t109,A20,H⟩:=H
 replace H:(if t109=true then ((spec_grCount.f a0_0 a0_1 a0_2).bind fun t110=>(if (l0_3.length:Int)=t110 then (if (l0_4.length:Int)=t110 then (if (l0_5.length:Int)=t110 then ((spec_l1All.f k l0_3 0 10000).bind fun t111=>(if t111=true then ((spec_l1All.f k l0_4 0 1000).bind fun t112=>(if t112=true then ((spec_l1All.f k l0_5 0 4).bind fun t113=>(some t113)) else (some false))) else (some false))) else (some false)) else (some false)) else (some false))) else (some false))=some r:=H
 have A2:=Aside0.mk A20
 clear A20
 by_cases c3:t109=true
 ·subst c3
  have H1:((spec_grCount.f a0_0 a0_1 a0_2).bind fun t110=>(if (l0_3.length:Int)=t110 then (if (l0_4.length:Int)=t110 then (if (l0_5.length:Int)=t110 then ((spec_l1All.f k l0_3 0 10000).bind fun t111=>(if t111=true then ((spec_l1All.f k l0_4 0 1000).bind fun t112=>(if t112=true then ((spec_l1All.f k l0_5 0 4).bind fun t113=>(some t113)) else (some false))) else (some false))) else (some false)) else (some false)) else (some false)))=some r:=by rw [if_pos rfl] at H;exact H
  clear H
  have H:=H1
  clear H1
  replace H:=Option.bind_eq_some_iff.mp H
  obtain ⟨t110,A40,H⟩:=H
  replace H:(if (l0_3.length:Int)=t110 then (if (l0_4.length:Int)=t110 then (if (l0_5.length:Int)=t110 then ((spec_l1All.f k l0_3 0 10000).bind fun t111=>(if t111=true then ((spec_l1All.f k l0_4 0 1000).bind fun t112=>(if t112=true then ((spec_l1All.f k l0_5 0 4).bind fun t113=>(some t113)) else (some false))) else (some false))) else (some false)) else (some false)) else (some false))=some r:=H
  have A4:=Aside0.mk A40
  clear A40
  by_cases c5:(l0_3.length:Int)=t110
  ·rw [if_pos c5] at H
   have c5b0:((l0_3.length:Int) == t110)=true:=beq_iff_eq.mpr c5
   have c5b1:((l0_3.length:Int) != t110)=false:=bne_eq_false_iff_eq.mpr c5
   clear c5
   by_cases c6:(l0_4.length:Int)=t110
   ·rw [if_pos c6] at H
    have c6b0:((l0_4.length:Int) == t110)=true:=beq_iff_eq.mpr c6
    have c6b1:((l0_4.length:Int) != t110)=false:=bne_eq_false_iff_eq.mpr c6
    clear c6
    by_cases c7:(l0_5.length:Int)=t110
    ·rw [if_pos c7] at H
     have c7b0:((l0_5.length:Int) == t110)=true:=beq_iff_eq.mpr c7
     have c7b1:((l0_5.length:Int) != t110)=false:=bne_eq_false_iff_eq.mpr c7
     clear c7
     replace H:=Option.bind_eq_some_iff.mp H
     obtain ⟨t111,A80,H⟩:=H
     replace H:(if t111=true then ((spec_l1All.f k l0_4 0 1000).bind fun t112=>(if t112=true then ((spec_l1All.f k l0_5 0 4).bind fun t113=>(some t113)) else (some false))) else (some false))=some r:=H
     have A8:=Aside0.mk A80
     clear A80
     by_cases c9:t111=true
     ·subst c9
      have H1:((spec_l1All.f k l0_4 0 1000).bind fun t112=>(if t112=true then ((spec_l1All.f k l0_5 0 4).bind fun t113=>(some t113)) else (some false)))=some r:=by rw [if_pos rfl] at H;exact H
      clear H
      have H:=H1
      clear H1
      replace H:=Option.bind_eq_some_iff.mp H
      obtain ⟨t112,A100,H⟩:=H
      replace H:(if t112=true then ((spec_l1All.f k l0_5 0 4).bind fun t113=>(some t113)) else (some false))=some r:=H
      have A10:=Aside0.mk A100
      clear A100
      by_cases c11:t112=true
      ·subst c11
       have H1:((spec_l1All.f k l0_5 0 4).bind fun t113=>(some t113))=some r:=by rw [if_pos rfl] at H;exact H
       clear H
       have H:=H1
       clear H1
       replace H:=Option.bind_eq_some_iff.mp H
       obtain ⟨t113,A120,H⟩:=H
       replace H:(some t113)=some r:=H
       have A12:=Aside0.mk A120
       clear A120
       obtain rfl:=Option.some.inj H
       go_enter Try.func105,Try.ntmps105
       go_wp2_with (first|((with_reducible refine gate_dst (N:=1) rfl ?_);(try (refine gate_guard (by rfl) ?_;dsimp only));refine box_event ?hg (N:=1) ?hd (cs:=#[.int .i64 a0_0,.int .i64 a0_1,.int .i64 a0_2,.slice A0_3 l0_3.length c0_3,.slice A0_4 l0_4.length c0_4,.slice A0_5 l0_5.length c0_5]) (t:=34) ?hr ?_;(case hd=>rfl);(case hg=>rfl);(case hr=>first|(go_simp;done)|(go_simp;rfl));intro gb108 hg w13 hbox hb;have n0_:=Aside0.mk (below_step (by repeat (first|(with_reducible first|exact HB.out|apply below_alloc|apply pw_below_drewN|apply below_drew1)|exact HB.out)) hb);have n1_:=Aside0.mk (hbox);have n2_:=Aside0.mk ((by rw [hg];exact (below_size (by repeat (first|(with_reducible first|exact HB.out|apply below_alloc|apply pw_below_drewN|apply below_drew1)|exact HB.out))):w.heap.size≤gb108));have n3_:=Aside0.mk ((by rw [hg];exact (below_size (by repeat (first|(with_reducible first|exact HB.out|apply below_alloc|apply pw_below_drewN|apply below_drew1)|exact HB.out))):w.heap.size≤gb108));clear HB;have HB:=n0_;have BK108:=n1_;have GW108:=n2_;have GE108:=n3_;clear n0_ n1_ n2_ n3_;clear hb hbox hg;have hcz14_0:w13.cell? ⟨gb108,0,none⟩=some (.int .i64 a0_0):=(blk_cell BK108.out 0).trans rfl;have hcz14_1:w13.cell? ⟨gb108,1,none⟩=some (.int .i64 a0_1):=(blk_cell BK108.out 1).trans rfl;have hcz14_2:w13.cell? ⟨gb108,2,none⟩=some (.int .i64 a0_2):=(blk_cell BK108.out 2).trans rfl;have hcz14_3:w13.cell? ⟨gb108,3,none⟩=some (.slice A0_3 l0_3.length c0_3):=(blk_cell BK108.out 3).trans rfl;have hcz14_4:w13.cell? ⟨gb108,4,none⟩=some (.slice A0_4 l0_4.length c0_4):=(blk_cell BK108.out 4).trans rfl;have hcz14_5:w13.cell? ⟨gb108,5,none⟩=some (.slice A0_5 l0_5.length c0_5):=(blk_cell BK108.out 5).trans rfl;have hfz14_0:=blk_frozen BK108.out 0;have hfz14_1:=blk_frozen BK108.out 1;have hfz14_2:=blk_frozen BK108.out 2;have hfz14_3:=blk_frozen BK108.out 3;have hfz14_4:=blk_frozen BK108.out 4;have hfz14_5:=blk_frozen BK108.out 5)|((with_reducible refine gate_callee (f:=107) rfl ?_);refine goesL_ (some 6) rfl rfl Try.func107 (by kernel_rfl) rfl #[.agg #[.int .i64 a0_0,.int .i64 a0_1,.int .i64 a0_2]] rfl (by (try simp only [List.map_toArray,List.map_cons,List.map_nil]);first|done|rfl|(simp only [List.length_drop,List.length_take];rfl)) ?_;(with_reducible refine (spec_grGood.calls a0_0 a0_1 a0_2 true _ A2.out).mono ?_);rintro e w15 ⟨rfl,hb⟩;refine ⟨_,rfl,?_⟩;have n0_:=Aside0.mk (blk_below (g:=gb108) (o:=.cells #[.int .i64 a0_0,.int .i64 a0_1,.int .i64 a0_2,.slice A0_3 l0_3.length c0_3,.slice A0_4 l0_4.length c0_4,.slice A0_5 l0_5.length c0_5] 34 (0,0)) (by (with_reducible repeat (first|refine blk_drewN ?_ _|refine blk_drew ?_|refine blk_alloc ?_ _));exact BK108.out) hb);have n1_:=Aside0.mk (below_step (by repeat (first|(with_reducible first|exact HB.out|apply below_alloc|apply pw_below_drewN|apply below_drew1|refine below_set ?_ GE108.out)|exact HB.out)) hb);clear BK108;clear HB;have BK108:=n0_;have HB:=n1_;clear n0_ n1_;(try clear hb);(try clear hb2);(try clear hk);(try clear hi);have hcz16_0:w15.cell? ⟨gb108,0,none⟩=some (.int .i64 a0_0):=(blk_cell BK108.out 0).trans rfl;have hcz16_1:w15.cell? ⟨gb108,1,none⟩=some (.int .i64 a0_1):=(blk_cell BK108.out 1).trans rfl;have hcz16_2:w15.cell? ⟨gb108,2,none⟩=some (.int .i64 a0_2):=(blk_cell BK108.out 2).trans rfl;have hcz16_3:w15.cell? ⟨gb108,3,none⟩=some (.slice A0_3 l0_3.length c0_3):=(blk_cell BK108.out 3).trans rfl;have hcz16_4:w15.cell? ⟨gb108,4,none⟩=some (.slice A0_4 l0_4.length c0_4):=(blk_cell BK108.out 4).trans rfl;have hcz16_5:w15.cell? ⟨gb108,5,none⟩=some (.slice A0_5 l0_5.length c0_5):=(blk_cell BK108.out 5).trans rfl;have hfz16_0:=blk_frozen BK108.out 0;have hfz16_1:=blk_frozen BK108.out 1;have hfz16_2:=blk_frozen BK108.out 2;have hfz16_3:=blk_frozen BK108.out 3;have hfz16_4:=blk_frozen BK108.out 4;have hfz16_5:=blk_frozen BK108.out 5)|((with_reducible refine gate_callee (f:=160) rfl ?_);refine goesL_ (some 10) rfl rfl Try.func160 (by kernel_rfl) rfl #[.agg #[.int .i64 a0_0,.int .i64 a0_1,.int .i64 a0_2]] rfl (by (try simp only [List.map_toArray,List.map_cons,List.map_nil]);first|done|rfl|(simp only [List.length_drop,List.length_take];rfl)) ?_;(with_reducible refine (spec_grCount.calls a0_0 a0_1 a0_2 t110 _ A4.out).mono ?_);rintro e w17 ⟨rfl,hb⟩;refine ⟨_,rfl,?_⟩;have n0_:=Aside0.mk (blk_below (g:=gb108) (o:=.cells #[.int .i64 a0_0,.int .i64 a0_1,.int .i64 a0_2,.slice A0_3 l0_3.length c0_3,.slice A0_4 l0_4.length c0_4,.slice A0_5 l0_5.length c0_5] 34 (0,0)) (by (with_reducible repeat (first|refine blk_drewN ?_ _|refine blk_drew ?_|refine blk_alloc ?_ _));exact BK108.out) hb);have n1_:=Aside0.mk (below_step (by repeat (first|(with_reducible first|exact HB.out|apply below_alloc|apply pw_below_drewN|apply below_drew1|refine below_set ?_ GE108.out)|exact HB.out)) hb);clear BK108;clear HB;have BK108:=n0_;have HB:=n1_;clear n0_ n1_;(try clear hb);(try clear hb2);(try clear hk);(try clear hi);have hcz18_0:w17.cell? ⟨gb108,0,none⟩=some (.int .i64 a0_0):=(blk_cell BK108.out 0).trans rfl;have hcz18_1:w17.cell? ⟨gb108,1,none⟩=some (.int .i64 a0_1):=(blk_cell BK108.out 1).trans rfl;have hcz18_2:w17.cell? ⟨gb108,2,none⟩=some (.int .i64 a0_2):=(blk_cell BK108.out 2).trans rfl;have hcz18_3:w17.cell? ⟨gb108,3,none⟩=some (.slice A0_3 l0_3.length c0_3):=(blk_cell BK108.out 3).trans rfl;have hcz18_4:w17.cell? ⟨gb108,4,none⟩=some (.slice A0_4 l0_4.length c0_4):=(blk_cell BK108.out 4).trans rfl;have hcz18_5:w17.cell? ⟨gb108,5,none⟩=some (.slice A0_5 l0_5.length c0_5):=(blk_cell BK108.out 5).trans rfl;have hfz18_0:=blk_frozen BK108.out 0;have hfz18_1:=blk_frozen BK108.out 1;have hfz18_2:=blk_frozen BK108.out 2;have hfz18_3:=blk_frozen BK108.out 3;have hfz18_4:=blk_frozen BK108.out 4;have hfz18_5:=blk_frozen BK108.out 5)|(go_at_call 161;(with_reducible refine (spec_l1All.calls k _ _ l0_3 0 10000 true _ ?side1 ?side2 A8.out).mono ?_);(case side1=>repeat (first|exact (Kd.C_below HR0_3.out HB.out)|(with_reducible refine Kd.C_alloc ?_ _)|(with_reducible refine Kd.C_drewN ?_ _)|(with_reducible refine Kd.C_drew ?_)));(case side2=>exact HC0_3.out);rintro e w' ⟨rfl,⟨nd,rfl⟩⟩)|(go_at_call 161;(with_reducible refine (spec_l1All.calls k _ _ l0_4 0 1000 true _ ?side1 ?side2 A10.out).mono ?_);(case side1=>repeat (first|exact (Kd.C_below HR0_4.out (by repeat (first|(with_reducible first|exact HB.out|apply below_alloc|apply pw_below_drewN|apply below_drew1|refine below_set ?_ GE108.out)|exact HB.out)))|(with_reducible refine Kd.C_alloc ?_ _)|(with_reducible refine Kd.C_drewN ?_ _)|(with_reducible refine Kd.C_drew ?_)));(case side2=>exact HC0_4.out);rintro e w' ⟨rfl,⟨nd,rfl⟩⟩)|(go_at_call 161;(with_reducible refine (spec_l1All.calls k _ _ l0_5 0 4 t113 _ ?side1 ?side2 A12.out).mono ?_);(case side1=>repeat (first|exact (Kd.C_below HR0_5.out (by repeat (first|(with_reducible first|exact HB.out|apply below_alloc|apply pw_below_drewN|apply below_drew1|refine below_set ?_ GE108.out)|exact HB.out)))|(with_reducible refine Kd.C_alloc ?_ _)|(with_reducible refine Kd.C_drewN ?_ _)|(with_reducible refine Kd.C_drew ?_)));(case side2=>exact HC0_5.out);rintro e w' ⟨rfl,⟨nd,rfl⟩⟩))
       go_ret
       exact ⟨by first|rfl|(simp [errW_none,errW_some] <;> rfl)|(simp [*,errW_none,errW_some] <;> rfl),by repeat (first|(with_reducible first|exact HB.out|apply below_alloc|apply pw_below_drewN|apply below_drew1|refine below_set ?_ GE108.out)|exact HB.out)⟩
      ·replace c11:=Bool.eq_false_iff.mpr c11
       subst c11
       have H1:(some false)=some r:=by rw [if_neg (show ¬ (false=true) by decide)] at H;exact H
       clear H
       have H:=H1
       clear H1
       obtain rfl:=Option.some.inj H
       go_enter Try.func105,Try.ntmps105
       go_wp2_with (first|((with_reducible refine gate_dst (N:=1) rfl ?_);(try (refine gate_guard (by rfl) ?_;dsimp only));refine box_event ?hg (N:=1) ?hd (cs:=#[.int .i64 a0_0,.int .i64 a0_1,.int .i64 a0_2,.slice A0_3 l0_3.length c0_3,.slice A0_4 l0_4.length c0_4,.slice A0_5 l0_5.length c0_5]) (t:=34) ?hr ?_;(case hd=>rfl);(case hg=>rfl);(case hr=>first|(go_simp;done)|(go_simp;rfl));intro gb108 hg w19 hbox hb;have n0_:=Aside0.mk (below_step (by repeat (first|(with_reducible first|exact HB.out|apply below_alloc|apply pw_below_drewN|apply below_drew1)|exact HB.out)) hb);have n1_:=Aside0.mk (hbox);have n2_:=Aside0.mk ((by rw [hg];exact (below_size (by repeat (first|(with_reducible first|exact HB.out|apply below_alloc|apply pw_below_drewN|apply below_drew1)|exact HB.out))):w.heap.size≤gb108));have n3_:=Aside0.mk ((by rw [hg];exact (below_size (by repeat (first|(with_reducible first|exact HB.out|apply below_alloc|apply pw_below_drewN|apply below_drew1)|exact HB.out))):w.heap.size≤gb108));clear HB;have HB:=n0_;have BK108:=n1_;have GW108:=n2_;have GE108:=n3_;clear n0_ n1_ n2_ n3_;clear hb hbox hg;have hcz20_0:w19.cell? ⟨gb108,0,none⟩=some (.int .i64 a0_0):=(blk_cell BK108.out 0).trans rfl;have hcz20_1:w19.cell? ⟨gb108,1,none⟩=some (.int .i64 a0_1):=(blk_cell BK108.out 1).trans rfl;have hcz20_2:w19.cell? ⟨gb108,2,none⟩=some (.int .i64 a0_2):=(blk_cell BK108.out 2).trans rfl;have hcz20_3:w19.cell? ⟨gb108,3,none⟩=some (.slice A0_3 l0_3.length c0_3):=(blk_cell BK108.out 3).trans rfl;have hcz20_4:w19.cell? ⟨gb108,4,none⟩=some (.slice A0_4 l0_4.length c0_4):=(blk_cell BK108.out 4).trans rfl;have hcz20_5:w19.cell? ⟨gb108,5,none⟩=some (.slice A0_5 l0_5.length c0_5):=(blk_cell BK108.out 5).trans rfl;have hfz20_0:=blk_frozen BK108.out 0;have hfz20_1:=blk_frozen BK108.out 1;have hfz20_2:=blk_frozen BK108.out 2;have hfz20_3:=blk_frozen BK108.out 3;have hfz20_4:=blk_frozen BK108.out 4;have hfz20_5:=blk_frozen BK108.out 5)|((with_reducible refine gate_callee (f:=107) rfl ?_);refine goesL_ (some 6) rfl rfl Try.func107 (by kernel_rfl) rfl #[.agg #[.int .i64 a0_0,.int .i64 a0_1,.int .i64 a0_2]] rfl (by (try simp only [List.map_toArray,List.map_cons,List.map_nil]);first|done|rfl|(simp only [List.length_drop,List.length_take];rfl)) ?_;(with_reducible refine (spec_grGood.calls a0_0 a0_1 a0_2 true _ A2.out).mono ?_);rintro e w21 ⟨rfl,hb⟩;refine ⟨_,rfl,?_⟩;have n0_:=Aside0.mk (blk_below (g:=gb108) (o:=.cells #[.int .i64 a0_0,.int .i64 a0_1,.int .i64 a0_2,.slice A0_3 l0_3.length c0_3,.slice A0_4 l0_4.length c0_4,.slice A0_5 l0_5.length c0_5] 34 (0,0)) (by (with_reducible repeat (first|refine blk_drewN ?_ _|refine blk_drew ?_|refine blk_alloc ?_ _));exact BK108.out) hb);have n1_:=Aside0.mk (below_step (by repeat (first|(with_reducible first|exact HB.out|apply below_alloc|apply pw_below_drewN|apply below_drew1|refine below_set ?_ GE108.out)|exact HB.out)) hb);clear BK108;clear HB;have BK108:=n0_;have HB:=n1_;clear n0_ n1_;(try clear hb);(try clear hb2);(try clear hk);(try clear hi);have hcz22_0:w21.cell? ⟨gb108,0,none⟩=some (.int .i64 a0_0):=(blk_cell BK108.out 0).trans rfl;have hcz22_1:w21.cell? ⟨gb108,1,none⟩=some (.int .i64 a0_1):=(blk_cell BK108.out 1).trans rfl;have hcz22_2:w21.cell? ⟨gb108,2,none⟩=some (.int .i64 a0_2):=(blk_cell BK108.out 2).trans rfl;have hcz22_3:w21.cell? ⟨gb108,3,none⟩=some (.slice A0_3 l0_3.length c0_3):=(blk_cell BK108.out 3).trans rfl;have hcz22_4:w21.cell? ⟨gb108,4,none⟩=some (.slice A0_4 l0_4.length c0_4):=(blk_cell BK108.out 4).trans rfl;have hcz22_5:w21.cell? ⟨gb108,5,none⟩=some (.slice A0_5 l0_5.length c0_5):=(blk_cell BK108.out 5).trans rfl;have hfz22_0:=blk_frozen BK108.out 0;have hfz22_1:=blk_frozen BK108.out 1;have hfz22_2:=blk_frozen BK108.out 2;have hfz22_3:=blk_frozen BK108.out 3;have hfz22_4:=blk_frozen BK108.out 4;have hfz22_5:=blk_frozen BK108.out 5)|((with_reducible refine gate_callee (f:=160) rfl ?_);refine goesL_ (some 10) rfl rfl Try.func160 (by kernel_rfl) rfl #[.agg #[.int .i64 a0_0,.int .i64 a0_1,.int .i64 a0_2]] rfl (by (try simp only [List.map_toArray,List.map_cons,List.map_nil]);first|done|rfl|(simp only [List.length_drop,List.length_take];rfl)) ?_;(with_reducible refine (spec_grCount.calls a0_0 a0_1 a0_2 t110 _ A4.out).mono ?_);rintro e w23 ⟨rfl,hb⟩;refine ⟨_,rfl,?_⟩;have n0_:=Aside0.mk (blk_below (g:=gb108) (o:=.cells #[.int .i64 a0_0,.int .i64 a0_1,.int .i64 a0_2,.slice A0_3 l0_3.length c0_3,.slice A0_4 l0_4.length c0_4,.slice A0_5 l0_5.length c0_5] 34 (0,0)) (by (with_reducible repeat (first|refine blk_drewN ?_ _|refine blk_drew ?_|refine blk_alloc ?_ _));exact BK108.out) hb);have n1_:=Aside0.mk (below_step (by repeat (first|(with_reducible first|exact HB.out|apply below_alloc|apply pw_below_drewN|apply below_drew1|refine below_set ?_ GE108.out)|exact HB.out)) hb);clear BK108;clear HB;have BK108:=n0_;have HB:=n1_;clear n0_ n1_;(try clear hb);(try clear hb2);(try clear hk);(try clear hi);have hcz24_0:w23.cell? ⟨gb108,0,none⟩=some (.int .i64 a0_0):=(blk_cell BK108.out 0).trans rfl;have hcz24_1:w23.cell? ⟨gb108,1,none⟩=some (.int .i64 a0_1):=(blk_cell BK108.out 1).trans rfl;have hcz24_2:w23.cell? ⟨gb108,2,none⟩=some (.int .i64 a0_2):=(blk_cell BK108.out 2).trans rfl;have hcz24_3:w23.cell? ⟨gb108,3,none⟩=some (.slice A0_3 l0_3.length c0_3):=(blk_cell BK108.out 3).trans rfl;have hcz24_4:w23.cell? ⟨gb108,4,none⟩=some (.slice A0_4 l0_4.length c0_4):=(blk_cell BK108.out 4).trans rfl;have hcz24_5:w23.cell? ⟨gb108,5,none⟩=some (.slice A0_5 l0_5.length c0_5):=(blk_cell BK108.out 5).trans rfl;have hfz24_0:=blk_frozen BK108.out 0;have hfz24_1:=blk_frozen BK108.out 1;have hfz24_2:=blk_frozen BK108.out 2;have hfz24_3:=blk_frozen BK108.out 3;have hfz24_4:=blk_frozen BK108.out 4;have hfz24_5:=blk_frozen BK108.out 5)|(go_at_call 161;(with_reducible refine (spec_l1All.calls k _ _ l0_3 0 10000 true _ ?side1 ?side2 A8.out).mono ?_);(case side1=>repeat (first|exact (Kd.C_below HR0_3.out HB.out)|(with_reducible refine Kd.C_alloc ?_ _)|(with_reducible refine Kd.C_drewN ?_ _)|(with_reducible refine Kd.C_drew ?_)));(case side2=>exact HC0_3.out);rintro e w' ⟨rfl,⟨nd,rfl⟩⟩)|(go_at_call 161;(with_reducible refine (spec_l1All.calls k _ _ l0_4 0 1000 false _ ?side1 ?side2 A10.out).mono ?_);(case side1=>repeat (first|exact (Kd.C_below HR0_4.out (by repeat (first|(with_reducible first|exact HB.out|apply below_alloc|apply pw_below_drewN|apply below_drew1|refine below_set ?_ GE108.out)|exact HB.out)))|(with_reducible refine Kd.C_alloc ?_ _)|(with_reducible refine Kd.C_drewN ?_ _)|(with_reducible refine Kd.C_drew ?_)));(case side2=>exact HC0_4.out);rintro e w' ⟨rfl,⟨nd,rfl⟩⟩))
       go_ret
       exact ⟨by first|rfl|(simp [errW_none,errW_some] <;> rfl)|(simp [*,errW_none,errW_some] <;> rfl),by repeat (first|(with_reducible first|exact HB.out|apply below_alloc|apply pw_below_drewN|apply below_drew1|refine below_set ?_ GE108.out)|exact HB.out)⟩
     ·replace c9:=Bool.eq_false_iff.mpr c9
      subst c9
      have H1:(some false)=some r:=by rw [if_neg (show ¬ (false=true) by decide)] at H;exact H
      clear H
      have H:=H1
      clear H1
      obtain rfl:=Option.some.inj H
      go_enter Try.func105,Try.ntmps105
      go_wp2_with (first|((with_reducible refine gate_dst (N:=1) rfl ?_);(try (refine gate_guard (by rfl) ?_;dsimp only));refine box_event ?hg (N:=1) ?hd (cs:=#[.int .i64 a0_0,.int .i64 a0_1,.int .i64 a0_2,.slice A0_3 l0_3.length c0_3,.slice A0_4 l0_4.length c0_4,.slice A0_5 l0_5.length c0_5]) (t:=34) ?hr ?_;(case hd=>rfl);(case hg=>rfl);(case hr=>first|(go_simp;done)|(go_simp;rfl));intro gb108 hg w25 hbox hb;have n0_:=Aside0.mk (below_step (by repeat (first|(with_reducible first|exact HB.out|apply below_alloc|apply pw_below_drewN|apply below_drew1)|exact HB.out)) hb);have n1_:=Aside0.mk (hbox);have n2_:=Aside0.mk ((by rw [hg];exact (below_size (by repeat (first|(with_reducible first|exact HB.out|apply below_alloc|apply pw_below_drewN|apply below_drew1)|exact HB.out))):w.heap.size≤gb108));have n3_:=Aside0.mk ((by rw [hg];exact (below_size (by repeat (first|(with_reducible first|exact HB.out|apply below_alloc|apply pw_below_drewN|apply below_drew1)|exact HB.out))):w.heap.size≤gb108));clear HB;have HB:=n0_;have BK108:=n1_;have GW108:=n2_;have GE108:=n3_;clear n0_ n1_ n2_ n3_;clear hb hbox hg;have hcz26_0:w25.cell? ⟨gb108,0,none⟩=some (.int .i64 a0_0):=(blk_cell BK108.out 0).trans rfl;have hcz26_1:w25.cell? ⟨gb108,1,none⟩=some (.int .i64 a0_1):=(blk_cell BK108.out 1).trans rfl;have hcz26_2:w25.cell? ⟨gb108,2,none⟩=some (.int .i64 a0_2):=(blk_cell BK108.out 2).trans rfl;have hcz26_3:w25.cell? ⟨gb108,3,none⟩=some (.slice A0_3 l0_3.length c0_3):=(blk_cell BK108.out 3).trans rfl;have hcz26_4:w25.cell? ⟨gb108,4,none⟩=some (.slice A0_4 l0_4.length c0_4):=(blk_cell BK108.out 4).trans rfl;have hcz26_5:w25.cell? ⟨gb108,5,none⟩=some (.slice A0_5 l0_5.length c0_5):=(blk_cell BK108.out 5).trans rfl;have hfz26_0:=blk_frozen BK108.out 0;have hfz26_1:=blk_frozen BK108.out 1;have hfz26_2:=blk_frozen BK108.out 2;have hfz26_3:=blk_frozen BK108.out 3;have hfz26_4:=blk_frozen BK108.out 4;have hfz26_5:=blk_frozen BK108.out 5)|((with_reducible refine gate_callee (f:=107) rfl ?_);refine goesL_ (some 6) rfl rfl Try.func107 (by kernel_rfl) rfl #[.agg #[.int .i64 a0_0,.int .i64 a0_1,.int .i64 a0_2]] rfl (by (try simp only [List.map_toArray,List.map_cons,List.map_nil]);first|done|rfl|(simp only [List.length_drop,List.length_take];rfl)) ?_;(with_reducible refine (spec_grGood.calls a0_0 a0_1 a0_2 true _ A2.out).mono ?_);rintro e w27 ⟨rfl,hb⟩;refine ⟨_,rfl,?_⟩;have n0_:=Aside0.mk (blk_below (g:=gb108) (o:=.cells #[.int .i64 a0_0,.int .i64 a0_1,.int .i64 a0_2,.slice A0_3 l0_3.length c0_3,.slice A0_4 l0_4.length c0_4,.slice A0_5 l0_5.length c0_5] 34 (0,0)) (by (with_reducible repeat (first|refine blk_drewN ?_ _|refine blk_drew ?_|refine blk_alloc ?_ _));exact BK108.out) hb);have n1_:=Aside0.mk (below_step (by repeat (first|(with_reducible first|exact HB.out|apply below_alloc|apply pw_below_drewN|apply below_drew1|refine below_set ?_ GE108.out)|exact HB.out)) hb);clear BK108;clear HB;have BK108:=n0_;have HB:=n1_;clear n0_ n1_;(try clear hb);(try clear hb2);(try clear hk);(try clear hi);have hcz28_0:w27.cell? ⟨gb108,0,none⟩=some (.int .i64 a0_0):=(blk_cell BK108.out 0).trans rfl;have hcz28_1:w27.cell? ⟨gb108,1,none⟩=some (.int .i64 a0_1):=(blk_cell BK108.out 1).trans rfl;have hcz28_2:w27.cell? ⟨gb108,2,none⟩=some (.int .i64 a0_2):=(blk_cell BK108.out 2).trans rfl;have hcz28_3:w27.cell? ⟨gb108,3,none⟩=some (.slice A0_3 l0_3.length c0_3):=(blk_cell BK108.out 3).trans rfl;have hcz28_4:w27.cell? ⟨gb108,4,none⟩=some (.slice A0_4 l0_4.length c0_4):=(blk_cell BK108.out 4).trans rfl;have hcz28_5:w27.cell? ⟨gb108,5,none⟩=some (.slice A0_5 l0_5.length c0_5):=(blk_cell BK108.out 5).trans rfl;have hfz28_0:=blk_frozen BK108.out 0;have hfz28_1:=blk_frozen BK108.out 1;have hfz28_2:=blk_frozen BK108.out 2;have hfz28_3:=blk_frozen BK108.out 3;have hfz28_4:=blk_frozen BK108.out 4;have hfz28_5:=blk_frozen BK108.out 5)|((with_reducible refine gate_callee (f:=160) rfl ?_);refine goesL_ (some 10) rfl rfl Try.func160 (by kernel_rfl) rfl #[.agg #[.int .i64 a0_0,.int .i64 a0_1,.int .i64 a0_2]] rfl (by (try simp only [List.map_toArray,List.map_cons,List.map_nil]);first|done|rfl|(simp only [List.length_drop,List.length_take];rfl)) ?_;(with_reducible refine (spec_grCount.calls a0_0 a0_1 a0_2 t110 _ A4.out).mono ?_);rintro e w29 ⟨rfl,hb⟩;refine ⟨_,rfl,?_⟩;have n0_:=Aside0.mk (blk_below (g:=gb108) (o:=.cells #[.int .i64 a0_0,.int .i64 a0_1,.int .i64 a0_2,.slice A0_3 l0_3.length c0_3,.slice A0_4 l0_4.length c0_4,.slice A0_5 l0_5.length c0_5] 34 (0,0)) (by (with_reducible repeat (first|refine blk_drewN ?_ _|refine blk_drew ?_|refine blk_alloc ?_ _));exact BK108.out) hb);have n1_:=Aside0.mk (below_step (by repeat (first|(with_reducible first|exact HB.out|apply below_alloc|apply pw_below_drewN|apply below_drew1|refine below_set ?_ GE108.out)|exact HB.out)) hb);clear BK108;clear HB;have BK108:=n0_;have HB:=n1_;clear n0_ n1_;(try clear hb);(try clear hb2);(try clear hk);(try clear hi);have hcz30_0:w29.cell? ⟨gb108,0,none⟩=some (.int .i64 a0_0):=(blk_cell BK108.out 0).trans rfl;have hcz30_1:w29.cell? ⟨gb108,1,none⟩=some (.int .i64 a0_1):=(blk_cell BK108.out 1).trans rfl;have hcz30_2:w29.cell? ⟨gb108,2,none⟩=some (.int .i64 a0_2):=(blk_cell BK108.out 2).trans rfl;have hcz30_3:w29.cell? ⟨gb108,3,none⟩=some (.slice A0_3 l0_3.length c0_3):=(blk_cell BK108.out 3).trans rfl;have hcz30_4:w29.cell? ⟨gb108,4,none⟩=some (.slice A0_4 l0_4.length c0_4):=(blk_cell BK108.out 4).trans rfl;have hcz30_5:w29.cell? ⟨gb108,5,none⟩=some (.slice A0_5 l0_5.length c0_5):=(blk_cell BK108.out 5).trans rfl;have hfz30_0:=blk_frozen BK108.out 0;have hfz30_1:=blk_frozen BK108.out 1;have hfz30_2:=blk_frozen BK108.out 2;have hfz30_3:=blk_frozen BK108.out 3;have hfz30_4:=blk_frozen BK108.out 4;have hfz30_5:=blk_frozen BK108.out 5)|(go_at_call 161;(with_reducible refine (spec_l1All.calls k _ _ l0_3 0 10000 false _ ?side1 ?side2 A8.out).mono ?_);(case side1=>repeat (first|exact (Kd.C_below HR0_3.out HB.out)|(with_reducible refine Kd.C_alloc ?_ _)|(with_reducible refine Kd.C_drewN ?_ _)|(with_reducible refine Kd.C_drew ?_)));(case side2=>exact HC0_3.out);rintro e w' ⟨rfl,⟨nd,rfl⟩⟩))
      go_ret
      exact ⟨by first|rfl|(simp [errW_none,errW_some] <;> rfl)|(simp [*,errW_none,errW_some] <;> rfl),by repeat (first|(with_reducible first|exact HB.out|apply below_alloc|apply pw_below_drewN|apply below_drew1|refine below_set ?_ GE108.out)|exact HB.out)⟩
    ·rw [if_neg c7] at H
     have c7b0:((l0_5.length:Int) == t110)=false:=beq_eq_false_iff_ne.mpr c7
     have c7b1:((l0_5.length:Int) != t110)=true:=bne_iff_ne.mpr c7
     obtain rfl:=Option.some.inj H
     go_enter Try.func105,Try.ntmps105
     go_wp2_with (first|((with_reducible refine gate_dst (N:=1) rfl ?_);(try (refine gate_guard (by rfl) ?_;dsimp only));refine box_event ?hg (N:=1) ?hd (cs:=#[.int .i64 a0_0,.int .i64 a0_1,.int .i64 a0_2,.slice A0_3 l0_3.length c0_3,.slice A0_4 l0_4.length c0_4,.slice A0_5 l0_5.length c0_5]) (t:=34) ?hr ?_;(case hd=>rfl);(case hg=>rfl);(case hr=>first|(go_simp;done)|(go_simp;rfl));intro gb108 hg w31 hbox hb;have n0_:=Aside0.mk (below_step (by repeat (first|(with_reducible first|exact HB.out|apply below_alloc|apply pw_below_drewN|apply below_drew1)|exact HB.out)) hb);have n1_:=Aside0.mk (hbox);have n2_:=Aside0.mk ((by rw [hg];exact (below_size (by repeat (first|(with_reducible first|exact HB.out|apply below_alloc|apply pw_below_drewN|apply below_drew1)|exact HB.out))):w.heap.size≤gb108));have n3_:=Aside0.mk ((by rw [hg];exact (below_size (by repeat (first|(with_reducible first|exact HB.out|apply below_alloc|apply pw_below_drewN|apply below_drew1)|exact HB.out))):w.heap.size≤gb108));clear HB;have HB:=n0_;have BK108:=n1_;have GW108:=n2_;have GE108:=n3_;clear n0_ n1_ n2_ n3_;clear hb hbox hg;have hcz32_0:w31.cell? ⟨gb108,0,none⟩=some (.int .i64 a0_0):=(blk_cell BK108.out 0).trans rfl;have hcz32_1:w31.cell? ⟨gb108,1,none⟩=some (.int .i64 a0_1):=(blk_cell BK108.out 1).trans rfl;have hcz32_2:w31.cell? ⟨gb108,2,none⟩=some (.int .i64 a0_2):=(blk_cell BK108.out 2).trans rfl;have hcz32_3:w31.cell? ⟨gb108,3,none⟩=some (.slice A0_3 l0_3.length c0_3):=(blk_cell BK108.out 3).trans rfl;have hcz32_4:w31.cell? ⟨gb108,4,none⟩=some (.slice A0_4 l0_4.length c0_4):=(blk_cell BK108.out 4).trans rfl;have hcz32_5:w31.cell? ⟨gb108,5,none⟩=some (.slice A0_5 l0_5.length c0_5):=(blk_cell BK108.out 5).trans rfl;have hfz32_0:=blk_frozen BK108.out 0;have hfz32_1:=blk_frozen BK108.out 1;have hfz32_2:=blk_frozen BK108.out 2;have hfz32_3:=blk_frozen BK108.out 3;have hfz32_4:=blk_frozen BK108.out 4;have hfz32_5:=blk_frozen BK108.out 5)|((with_reducible refine gate_callee (f:=107) rfl ?_);refine goesL_ (some 6) rfl rfl Try.func107 (by kernel_rfl) rfl #[.agg #[.int .i64 a0_0,.int .i64 a0_1,.int .i64 a0_2]] rfl (by (try simp only [List.map_toArray,List.map_cons,List.map_nil]);first|done|rfl|(simp only [List.length_drop,List.length_take];rfl)) ?_;(with_reducible refine (spec_grGood.calls a0_0 a0_1 a0_2 true _ A2.out).mono ?_);rintro e w33 ⟨rfl,hb⟩;refine ⟨_,rfl,?_⟩;have n0_:=Aside0.mk (blk_below (g:=gb108) (o:=.cells #[.int .i64 a0_0,.int .i64 a0_1,.int .i64 a0_2,.slice A0_3 l0_3.length c0_3,.slice A0_4 l0_4.length c0_4,.slice A0_5 l0_5.length c0_5] 34 (0,0)) (by (with_reducible repeat (first|refine blk_drewN ?_ _|refine blk_drew ?_|refine blk_alloc ?_ _));exact BK108.out) hb);have n1_:=Aside0.mk (below_step (by repeat (first|(with_reducible first|exact HB.out|apply below_alloc|apply pw_below_drewN|apply below_drew1|refine below_set ?_ GE108.out)|exact HB.out)) hb);clear BK108;clear HB;have BK108:=n0_;have HB:=n1_;clear n0_ n1_;(try clear hb);(try clear hb2);(try clear hk);(try clear hi);have hcz34_0:w33.cell? ⟨gb108,0,none⟩=some (.int .i64 a0_0):=(blk_cell BK108.out 0).trans rfl;have hcz34_1:w33.cell? ⟨gb108,1,none⟩=some (.int .i64 a0_1):=(blk_cell BK108.out 1).trans rfl;have hcz34_2:w33.cell? ⟨gb108,2,none⟩=some (.int .i64 a0_2):=(blk_cell BK108.out 2).trans rfl;have hcz34_3:w33.cell? ⟨gb108,3,none⟩=some (.slice A0_3 l0_3.length c0_3):=(blk_cell BK108.out 3).trans rfl;have hcz34_4:w33.cell? ⟨gb108,4,none⟩=some (.slice A0_4 l0_4.length c0_4):=(blk_cell BK108.out 4).trans rfl;have hcz34_5:w33.cell? ⟨gb108,5,none⟩=some (.slice A0_5 l0_5.length c0_5):=(blk_cell BK108.out 5).trans rfl;have hfz34_0:=blk_frozen BK108.out 0;have hfz34_1:=blk_frozen BK108.out 1;have hfz34_2:=blk_frozen BK108.out 2;have hfz34_3:=blk_frozen BK108.out 3;have hfz34_4:=blk_frozen BK108.out 4;have hfz34_5:=blk_frozen BK108.out 5)|((with_reducible refine gate_callee (f:=160) rfl ?_);refine goesL_ (some 10) rfl rfl Try.func160 (by kernel_rfl) rfl #[.agg #[.int .i64 a0_0,.int .i64 a0_1,.int .i64 a0_2]] rfl (by (try simp only [List.map_toArray,List.map_cons,List.map_nil]);first|done|rfl|(simp only [List.length_drop,List.length_take];rfl)) ?_;(with_reducible refine (spec_grCount.calls a0_0 a0_1 a0_2 t110 _ A4.out).mono ?_);rintro e w35 ⟨rfl,hb⟩;refine ⟨_,rfl,?_⟩;have n0_:=Aside0.mk (blk_below (g:=gb108) (o:=.cells #[.int .i64 a0_0,.int .i64 a0_1,.int .i64 a0_2,.slice A0_3 l0_3.length c0_3,.slice A0_4 l0_4.length c0_4,.slice A0_5 l0_5.length c0_5] 34 (0,0)) (by (with_reducible repeat (first|refine blk_drewN ?_ _|refine blk_drew ?_|refine blk_alloc ?_ _));exact BK108.out) hb);have n1_:=Aside0.mk (below_step (by repeat (first|(with_reducible first|exact HB.out|apply below_alloc|apply pw_below_drewN|apply below_drew1|refine below_set ?_ GE108.out)|exact HB.out)) hb);clear BK108;clear HB;have BK108:=n0_;have HB:=n1_;clear n0_ n1_;(try clear hb);(try clear hb2);(try clear hk);(try clear hi);have hcz36_0:w35.cell? ⟨gb108,0,none⟩=some (.int .i64 a0_0):=(blk_cell BK108.out 0).trans rfl;have hcz36_1:w35.cell? ⟨gb108,1,none⟩=some (.int .i64 a0_1):=(blk_cell BK108.out 1).trans rfl;have hcz36_2:w35.cell? ⟨gb108,2,none⟩=some (.int .i64 a0_2):=(blk_cell BK108.out 2).trans rfl;have hcz36_3:w35.cell? ⟨gb108,3,none⟩=some (.slice A0_3 l0_3.length c0_3):=(blk_cell BK108.out 3).trans rfl;have hcz36_4:w35.cell? ⟨gb108,4,none⟩=some (.slice A0_4 l0_4.length c0_4):=(blk_cell BK108.out 4).trans rfl;have hcz36_5:w35.cell? ⟨gb108,5,none⟩=some (.slice A0_5 l0_5.length c0_5):=(blk_cell BK108.out 5).trans rfl;have hfz36_0:=blk_frozen BK108.out 0;have hfz36_1:=blk_frozen BK108.out 1;have hfz36_2:=blk_frozen BK108.out 2;have hfz36_3:=blk_frozen BK108.out 3;have hfz36_4:=blk_frozen BK108.out 4;have hfz36_5:=blk_frozen BK108.out 5))
     go_ret
     exact ⟨by first|rfl|(simp [errW_none,errW_some] <;> rfl)|(simp [*,errW_none,errW_some] <;> rfl),by repeat (first|(with_reducible first|exact HB.out|apply below_alloc|apply pw_below_drewN|apply below_drew1|refine below_set ?_ GE108.out)|exact HB.out)⟩
   ·rw [if_neg c6] at H
    have c6b0:((l0_4.length:Int) == t110)=false:=beq_eq_false_iff_ne.mpr c6
    have c6b1:((l0_4.length:Int) != t110)=true:=bne_iff_ne.mpr c6
    obtain rfl:=Option.some.inj H
    go_enter Try.func105,Try.ntmps105
    go_wp2_with (first|((with_reducible refine gate_dst (N:=1) rfl ?_);(try (refine gate_guard (by rfl) ?_;dsimp only));refine box_event ?hg (N:=1) ?hd (cs:=#[.int .i64 a0_0,.int .i64 a0_1,.int .i64 a0_2,.slice A0_3 l0_3.length c0_3,.slice A0_4 l0_4.length c0_4,.slice A0_5 l0_5.length c0_5]) (t:=34) ?hr ?_;(case hd=>rfl);(case hg=>rfl);(case hr=>first|(go_simp;done)|(go_simp;rfl));intro gb108 hg w37 hbox hb;have n0_:=Aside0.mk (below_step (by repeat (first|(with_reducible first|exact HB.out|apply below_alloc|apply pw_below_drewN|apply below_drew1)|exact HB.out)) hb);have n1_:=Aside0.mk (hbox);have n2_:=Aside0.mk ((by rw [hg];exact (below_size (by repeat (first|(with_reducible first|exact HB.out|apply below_alloc|apply pw_below_drewN|apply below_drew1)|exact HB.out))):w.heap.size≤gb108));have n3_:=Aside0.mk ((by rw [hg];exact (below_size (by repeat (first|(with_reducible first|exact HB.out|apply below_alloc|apply pw_below_drewN|apply below_drew1)|exact HB.out))):w.heap.size≤gb108));clear HB;have HB:=n0_;have BK108:=n1_;have GW108:=n2_;have GE108:=n3_;clear n0_ n1_ n2_ n3_;clear hb hbox hg;have hcz38_0:w37.cell? ⟨gb108,0,none⟩=some (.int .i64 a0_0):=(blk_cell BK108.out 0).trans rfl;have hcz38_1:w37.cell? ⟨gb108,1,none⟩=some (.int .i64 a0_1):=(blk_cell BK108.out 1).trans rfl;have hcz38_2:w37.cell? ⟨gb108,2,none⟩=some (.int .i64 a0_2):=(blk_cell BK108.out 2).trans rfl;have hcz38_3:w37.cell? ⟨gb108,3,none⟩=some (.slice A0_3 l0_3.length c0_3):=(blk_cell BK108.out 3).trans rfl;have hcz38_4:w37.cell? ⟨gb108,4,none⟩=some (.slice A0_4 l0_4.length c0_4):=(blk_cell BK108.out 4).trans rfl;have hcz38_5:w37.cell? ⟨gb108,5,none⟩=some (.slice A0_5 l0_5.length c0_5):=(blk_cell BK108.out 5).trans rfl;have hfz38_0:=blk_frozen BK108.out 0;have hfz38_1:=blk_frozen BK108.out 1;have hfz38_2:=blk_frozen BK108.out 2;have hfz38_3:=blk_frozen BK108.out 3;have hfz38_4:=blk_frozen BK108.out 4;have hfz38_5:=blk_frozen BK108.out 5)|((with_reducible refine gate_callee (f:=107) rfl ?_);refine goesL_ (some 6) rfl rfl Try.func107 (by kernel_rfl) rfl #[.agg #[.int .i64 a0_0,.int .i64 a0_1,.int .i64 a0_2]] rfl (by (try simp only [List.map_toArray,List.map_cons,List.map_nil]);first|done|rfl|(simp only [List.length_drop,List.length_take];rfl)) ?_;(with_reducible refine (spec_grGood.calls a0_0 a0_1 a0_2 true _ A2.out).mono ?_);rintro e w39 ⟨rfl,hb⟩;refine ⟨_,rfl,?_⟩;have n0_:=Aside0.mk (blk_below (g:=gb108) (o:=.cells #[.int .i64 a0_0,.int .i64 a0_1,.int .i64 a0_2,.slice A0_3 l0_3.length c0_3,.slice A0_4 l0_4.length c0_4,.slice A0_5 l0_5.length c0_5] 34 (0,0)) (by (with_reducible repeat (first|refine blk_drewN ?_ _|refine blk_drew ?_|refine blk_alloc ?_ _));exact BK108.out) hb);have n1_:=Aside0.mk (below_step (by repeat (first|(with_reducible first|exact HB.out|apply below_alloc|apply pw_below_drewN|apply below_drew1|refine below_set ?_ GE108.out)|exact HB.out)) hb);clear BK108;clear HB;have BK108:=n0_;have HB:=n1_;clear n0_ n1_;(try clear hb);(try clear hb2);(try clear hk);(try clear hi);have hcz40_0:w39.cell? ⟨gb108,0,none⟩=some (.int .i64 a0_0):=(blk_cell BK108.out 0).trans rfl;have hcz40_1:w39.cell? ⟨gb108,1,none⟩=some (.int .i64 a0_1):=(blk_cell BK108.out 1).trans rfl;have hcz40_2:w39.cell? ⟨gb108,2,none⟩=some (.int .i64 a0_2):=(blk_cell BK108.out 2).trans rfl;have hcz40_3:w39.cell? ⟨gb108,3,none⟩=some (.slice A0_3 l0_3.length c0_3):=(blk_cell BK108.out 3).trans rfl;have hcz40_4:w39.cell? ⟨gb108,4,none⟩=some (.slice A0_4 l0_4.length c0_4):=(blk_cell BK108.out 4).trans rfl;have hcz40_5:w39.cell? ⟨gb108,5,none⟩=some (.slice A0_5 l0_5.length c0_5):=(blk_cell BK108.out 5).trans rfl;have hfz40_0:=blk_frozen BK108.out 0;have hfz40_1:=blk_frozen BK108.out 1;have hfz40_2:=blk_frozen BK108.out 2;have hfz40_3:=blk_frozen BK108.out 3;have hfz40_4:=blk_frozen BK108.out 4;have hfz40_5:=blk_frozen BK108.out 5)|((with_reducible refine gate_callee (f:=160) rfl ?_);refine goesL_ (some 10) rfl rfl Try.func160 (by kernel_rfl) rfl #[.agg #[.int .i64 a0_0,.int .i64 a0_1,.int .i64 a0_2]] rfl (by (try simp only [List.map_toArray,List.map_cons,List.map_nil]);first|done|rfl|(simp only [List.length_drop,List.length_take];rfl)) ?_;(with_reducible refine (spec_grCount.calls a0_0 a0_1 a0_2 t110 _ A4.out).mono ?_);rintro e w41 ⟨rfl,hb⟩;refine ⟨_,rfl,?_⟩;have n0_:=Aside0.mk (blk_below (g:=gb108) (o:=.cells #[.int .i64 a0_0,.int .i64 a0_1,.int .i64 a0_2,.slice A0_3 l0_3.length c0_3,.slice A0_4 l0_4.length c0_4,.slice A0_5 l0_5.length c0_5] 34 (0,0)) (by (with_reducible repeat (first|refine blk_drewN ?_ _|refine blk_drew ?_|refine blk_alloc ?_ _));exact BK108.out) hb);have n1_:=Aside0.mk (below_step (by repeat (first|(with_reducible first|exact HB.out|apply below_alloc|apply pw_below_drewN|apply below_drew1|refine below_set ?_ GE108.out)|exact HB.out)) hb);clear BK108;clear HB;have BK108:=n0_;have HB:=n1_;clear n0_ n1_;(try clear hb);(try clear hb2);(try clear hk);(try clear hi);have hcz42_0:w41.cell? ⟨gb108,0,none⟩=some (.int .i64 a0_0):=(blk_cell BK108.out 0).trans rfl;have hcz42_1:w41.cell? ⟨gb108,1,none⟩=some (.int .i64 a0_1):=(blk_cell BK108.out 1).trans rfl;have hcz42_2:w41.cell? ⟨gb108,2,none⟩=some (.int .i64 a0_2):=(blk_cell BK108.out 2).trans rfl;have hcz42_3:w41.cell? ⟨gb108,3,none⟩=some (.slice A0_3 l0_3.length c0_3):=(blk_cell BK108.out 3).trans rfl;have hcz42_4:w41.cell? ⟨gb108,4,none⟩=some (.slice A0_4 l0_4.length c0_4):=(blk_cell BK108.out 4).trans rfl;have hcz42_5:w41.cell? ⟨gb108,5,none⟩=some (.slice A0_5 l0_5.length c0_5):=(blk_cell BK108.out 5).trans rfl;have hfz42_0:=blk_frozen BK108.out 0;have hfz42_1:=blk_frozen BK108.out 1;have hfz42_2:=blk_frozen BK108.out 2;have hfz42_3:=blk_frozen BK108.out 3;have hfz42_4:=blk_frozen BK108.out 4;have hfz42_5:=blk_frozen BK108.out 5))
    go_ret
    exact ⟨by first|rfl|(simp [errW_none,errW_some] <;> rfl)|(simp [*,errW_none,errW_some] <;> rfl),by repeat (first|(with_reducible first|exact HB.out|apply below_alloc|apply pw_below_drewN|apply below_drew1|refine below_set ?_ GE108.out)|exact HB.out)⟩
  ·rw [if_neg c5] at H
   have c5b0:((l0_3.length:Int) == t110)=false:=beq_eq_false_iff_ne.mpr c5
   have c5b1:((l0_3.length:Int) != t110)=true:=bne_iff_ne.mpr c5
   obtain rfl:=Option.some.inj H
   go_enter Try.func105,Try.ntmps105
   go_wp2_with (first|((with_reducible refine gate_dst (N:=1) rfl ?_);(try (refine gate_guard (by rfl) ?_;dsimp only));refine box_event ?hg (N:=1) ?hd (cs:=#[.int .i64 a0_0,.int .i64 a0_1,.int .i64 a0_2,.slice A0_3 l0_3.length c0_3,.slice A0_4 l0_4.length c0_4,.slice A0_5 l0_5.length c0_5]) (t:=34) ?hr ?_;(case hd=>rfl);(case hg=>rfl);(case hr=>first|(go_simp;done)|(go_simp;rfl));intro gb108 hg w43 hbox hb;have n0_:=Aside0.mk (below_step (by repeat (first|(with_reducible first|exact HB.out|apply below_alloc|apply pw_below_drewN|apply below_drew1)|exact HB.out)) hb);have n1_:=Aside0.mk (hbox);have n2_:=Aside0.mk ((by rw [hg];exact (below_size (by repeat (first|(with_reducible first|exact HB.out|apply below_alloc|apply pw_below_drewN|apply below_drew1)|exact HB.out))):w.heap.size≤gb108));have n3_:=Aside0.mk ((by rw [hg];exact (below_size (by repeat (first|(with_reducible first|exact HB.out|apply below_alloc|apply pw_below_drewN|apply below_drew1)|exact HB.out))):w.heap.size≤gb108));clear HB;have HB:=n0_;have BK108:=n1_;have GW108:=n2_;have GE108:=n3_;clear n0_ n1_ n2_ n3_;clear hb hbox hg;have hcz44_0:w43.cell? ⟨gb108,0,none⟩=some (.int .i64 a0_0):=(blk_cell BK108.out 0).trans rfl;have hcz44_1:w43.cell? ⟨gb108,1,none⟩=some (.int .i64 a0_1):=(blk_cell BK108.out 1).trans rfl;have hcz44_2:w43.cell? ⟨gb108,2,none⟩=some (.int .i64 a0_2):=(blk_cell BK108.out 2).trans rfl;have hcz44_3:w43.cell? ⟨gb108,3,none⟩=some (.slice A0_3 l0_3.length c0_3):=(blk_cell BK108.out 3).trans rfl;have hcz44_4:w43.cell? ⟨gb108,4,none⟩=some (.slice A0_4 l0_4.length c0_4):=(blk_cell BK108.out 4).trans rfl;have hcz44_5:w43.cell? ⟨gb108,5,none⟩=some (.slice A0_5 l0_5.length c0_5):=(blk_cell BK108.out 5).trans rfl;have hfz44_0:=blk_frozen BK108.out 0;have hfz44_1:=blk_frozen BK108.out 1;have hfz44_2:=blk_frozen BK108.out 2;have hfz44_3:=blk_frozen BK108.out 3;have hfz44_4:=blk_frozen BK108.out 4;have hfz44_5:=blk_frozen BK108.out 5)|((with_reducible refine gate_callee (f:=107) rfl ?_);refine goesL_ (some 6) rfl rfl Try.func107 (by kernel_rfl) rfl #[.agg #[.int .i64 a0_0,.int .i64 a0_1,.int .i64 a0_2]] rfl (by (try simp only [List.map_toArray,List.map_cons,List.map_nil]);first|done|rfl|(simp only [List.length_drop,List.length_take];rfl)) ?_;(with_reducible refine (spec_grGood.calls a0_0 a0_1 a0_2 true _ A2.out).mono ?_);rintro e w45 ⟨rfl,hb⟩;refine ⟨_,rfl,?_⟩;have n0_:=Aside0.mk (blk_below (g:=gb108) (o:=.cells #[.int .i64 a0_0,.int .i64 a0_1,.int .i64 a0_2,.slice A0_3 l0_3.length c0_3,.slice A0_4 l0_4.length c0_4,.slice A0_5 l0_5.length c0_5] 34 (0,0)) (by (with_reducible repeat (first|refine blk_drewN ?_ _|refine blk_drew ?_|refine blk_alloc ?_ _));exact BK108.out) hb);have n1_:=Aside0.mk (below_step (by repeat (first|(with_reducible first|exact HB.out|apply below_alloc|apply pw_below_drewN|apply below_drew1|refine below_set ?_ GE108.out)|exact HB.out)) hb);clear BK108;clear HB;have BK108:=n0_;have HB:=n1_;clear n0_ n1_;(try clear hb);(try clear hb2);(try clear hk);(try clear hi);have hcz46_0:w45.cell? ⟨gb108,0,none⟩=some (.int .i64 a0_0):=(blk_cell BK108.out 0).trans rfl;have hcz46_1:w45.cell? ⟨gb108,1,none⟩=some (.int .i64 a0_1):=(blk_cell BK108.out 1).trans rfl;have hcz46_2:w45.cell? ⟨gb108,2,none⟩=some (.int .i64 a0_2):=(blk_cell BK108.out 2).trans rfl;have hcz46_3:w45.cell? ⟨gb108,3,none⟩=some (.slice A0_3 l0_3.length c0_3):=(blk_cell BK108.out 3).trans rfl;have hcz46_4:w45.cell? ⟨gb108,4,none⟩=some (.slice A0_4 l0_4.length c0_4):=(blk_cell BK108.out 4).trans rfl;have hcz46_5:w45.cell? ⟨gb108,5,none⟩=some (.slice A0_5 l0_5.length c0_5):=(blk_cell BK108.out 5).trans rfl;have hfz46_0:=blk_frozen BK108.out 0;have hfz46_1:=blk_frozen BK108.out 1;have hfz46_2:=blk_frozen BK108.out 2;have hfz46_3:=blk_frozen BK108.out 3;have hfz46_4:=blk_frozen BK108.out 4;have hfz46_5:=blk_frozen BK108.out 5)|((with_reducible refine gate_callee (f:=160) rfl ?_);refine goesL_ (some 10) rfl rfl Try.func160 (by kernel_rfl) rfl #[.agg #[.int .i64 a0_0,.int .i64 a0_1,.int .i64 a0_2]] rfl (by (try simp only [List.map_toArray,List.map_cons,List.map_nil]);first|done|rfl|(simp only [List.length_drop,List.length_take];rfl)) ?_;(with_reducible refine (spec_grCount.calls a0_0 a0_1 a0_2 t110 _ A4.out).mono ?_);rintro e w47 ⟨rfl,hb⟩;refine ⟨_,rfl,?_⟩;have n0_:=Aside0.mk (blk_below (g:=gb108) (o:=.cells #[.int .i64 a0_0,.int .i64 a0_1,.int .i64 a0_2,.slice A0_3 l0_3.length c0_3,.slice A0_4 l0_4.length c0_4,.slice A0_5 l0_5.length c0_5] 34 (0,0)) (by (with_reducible repeat (first|refine blk_drewN ?_ _|refine blk_drew ?_|refine blk_alloc ?_ _));exact BK108.out) hb);have n1_:=Aside0.mk (below_step (by repeat (first|(with_reducible first|exact HB.out|apply below_alloc|apply pw_below_drewN|apply below_drew1|refine below_set ?_ GE108.out)|exact HB.out)) hb);clear BK108;clear HB;have BK108:=n0_;have HB:=n1_;clear n0_ n1_;(try clear hb);(try clear hb2);(try clear hk);(try clear hi);have hcz48_0:w47.cell? ⟨gb108,0,none⟩=some (.int .i64 a0_0):=(blk_cell BK108.out 0).trans rfl;have hcz48_1:w47.cell? ⟨gb108,1,none⟩=some (.int .i64 a0_1):=(blk_cell BK108.out 1).trans rfl;have hcz48_2:w47.cell? ⟨gb108,2,none⟩=some (.int .i64 a0_2):=(blk_cell BK108.out 2).trans rfl;have hcz48_3:w47.cell? ⟨gb108,3,none⟩=some (.slice A0_3 l0_3.length c0_3):=(blk_cell BK108.out 3).trans rfl;have hcz48_4:w47.cell? ⟨gb108,4,none⟩=some (.slice A0_4 l0_4.length c0_4):=(blk_cell BK108.out 4).trans rfl;have hcz48_5:w47.cell? ⟨gb108,5,none⟩=some (.slice A0_5 l0_5.length c0_5):=(blk_cell BK108.out 5).trans rfl;have hfz48_0:=blk_frozen BK108.out 0;have hfz48_1:=blk_frozen BK108.out 1;have hfz48_2:=blk_frozen BK108.out 2;have hfz48_3:=blk_frozen BK108.out 3;have hfz48_4:=blk_frozen BK108.out 4;have hfz48_5:=blk_frozen BK108.out 5))
   go_ret
   exact ⟨by first|rfl|(simp [errW_none,errW_some] <;> rfl)|(simp [*,errW_none,errW_some] <;> rfl),by repeat (first|(with_reducible first|exact HB.out|apply below_alloc|apply pw_below_drewN|apply below_drew1|refine below_set ?_ GE108.out)|exact HB.out)⟩
 ·replace c3:=Bool.eq_false_iff.mpr c3
  subst c3
  have H1:(some false)=some r:=by rw [if_neg (show ¬ (false=true) by decide)] at H;exact H
  clear H
  have H:=H1
  clear H1
  obtain rfl:=Option.some.inj H
  go_enter Try.func105,Try.ntmps105
  go_wp2_with (first|((with_reducible refine gate_dst (N:=1) rfl ?_);(try (refine gate_guard (by rfl) ?_;dsimp only));refine box_event ?hg (N:=1) ?hd (cs:=#[.int .i64 a0_0,.int .i64 a0_1,.int .i64 a0_2,.slice A0_3 l0_3.length c0_3,.slice A0_4 l0_4.length c0_4,.slice A0_5 l0_5.length c0_5]) (t:=34) ?hr ?_;(case hd=>rfl);(case hg=>rfl);(case hr=>first|(go_simp;done)|(go_simp;rfl));intro gb108 hg w49 hbox hb;have n0_:=Aside0.mk (below_step (by repeat (first|(with_reducible first|exact HB.out|apply below_alloc|apply pw_below_drewN|apply below_drew1)|exact HB.out)) hb);have n1_:=Aside0.mk (hbox);have n2_:=Aside0.mk ((by rw [hg];exact (below_size (by repeat (first|(with_reducible first|exact HB.out|apply below_alloc|apply pw_below_drewN|apply below_drew1)|exact HB.out))):w.heap.size≤gb108));have n3_:=Aside0.mk ((by rw [hg];exact (below_size (by repeat (first|(with_reducible first|exact HB.out|apply below_alloc|apply pw_below_drewN|apply below_drew1)|exact HB.out))):w.heap.size≤gb108));clear HB;have HB:=n0_;have BK108:=n1_;have GW108:=n2_;have GE108:=n3_;clear n0_ n1_ n2_ n3_;clear hb hbox hg;have hcz50_0:w49.cell? ⟨gb108,0,none⟩=some (.int .i64 a0_0):=(blk_cell BK108.out 0).trans rfl;have hcz50_1:w49.cell? ⟨gb108,1,none⟩=some (.int .i64 a0_1):=(blk_cell BK108.out 1).trans rfl;have hcz50_2:w49.cell? ⟨gb108,2,none⟩=some (.int .i64 a0_2):=(blk_cell BK108.out 2).trans rfl;have hcz50_3:w49.cell? ⟨gb108,3,none⟩=some (.slice A0_3 l0_3.length c0_3):=(blk_cell BK108.out 3).trans rfl;have hcz50_4:w49.cell? ⟨gb108,4,none⟩=some (.slice A0_4 l0_4.length c0_4):=(blk_cell BK108.out 4).trans rfl;have hcz50_5:w49.cell? ⟨gb108,5,none⟩=some (.slice A0_5 l0_5.length c0_5):=(blk_cell BK108.out 5).trans rfl;have hfz50_0:=blk_frozen BK108.out 0;have hfz50_1:=blk_frozen BK108.out 1;have hfz50_2:=blk_frozen BK108.out 2;have hfz50_3:=blk_frozen BK108.out 3;have hfz50_4:=blk_frozen BK108.out 4;have hfz50_5:=blk_frozen BK108.out 5)|((with_reducible refine gate_callee (f:=107) rfl ?_);refine goesL_ (some 6) rfl rfl Try.func107 (by kernel_rfl) rfl #[.agg #[.int .i64 a0_0,.int .i64 a0_1,.int .i64 a0_2]] rfl (by (try simp only [List.map_toArray,List.map_cons,List.map_nil]);first|done|rfl|(simp only [List.length_drop,List.length_take];rfl)) ?_;(with_reducible refine (spec_grGood.calls a0_0 a0_1 a0_2 false _ A2.out).mono ?_);rintro e w51 ⟨rfl,hb⟩;refine ⟨_,rfl,?_⟩;have n0_:=Aside0.mk (blk_below (g:=gb108) (o:=.cells #[.int .i64 a0_0,.int .i64 a0_1,.int .i64 a0_2,.slice A0_3 l0_3.length c0_3,.slice A0_4 l0_4.length c0_4,.slice A0_5 l0_5.length c0_5] 34 (0,0)) (by (with_reducible repeat (first|refine blk_drewN ?_ _|refine blk_drew ?_|refine blk_alloc ?_ _));exact BK108.out) hb);have n1_:=Aside0.mk (below_step (by repeat (first|(with_reducible first|exact HB.out|apply below_alloc|apply pw_below_drewN|apply below_drew1|refine below_set ?_ GE108.out)|exact HB.out)) hb);clear BK108;clear HB;have BK108:=n0_;have HB:=n1_;clear n0_ n1_;(try clear hb);(try clear hb2);(try clear hk);(try clear hi)))
  go_ret
  exact ⟨by first|rfl|(simp [errW_none,errW_some] <;> rfl)|(simp [*,errW_none,errW_some] <;> rfl),by repeat (first|(with_reducible first|exact HB.out|apply below_alloc|apply pw_below_drewN|apply below_drew1|refine below_set ?_ GE108.out)|exact HB.out)⟩
end Go.Proofs.Ytomfjhpiemipkaa.PFnOre
end
section
namespace Go.Proofs.Ytomfjhpiemipkaa.PFnOre
open Go.RowKit Go.Proofs.YtomfjhpiemipkaaW.PrintWords Go.Proofs.YtomfjhpiemipkaaW.PrintLast Go.Proofs.YtomfjhpiemipkaaW.PrintMore
attribute [local go_sem] max2_int min2_int max_two min_two max_three min_three max_four min_four   -- for this text's walks alone
set_option linter.unusedVariables false
set_option linter.unusedSimpArgs false
def spec_moList.f (k:Nat) (a0_0:Int) (a0_1:Int) (a0_2:Int) (l0_3:List Int) (l0_4:List Int) (l0_5:List Int) (l1:List Int):Option (Bool):=(spec_moGood.f k a0_0 a0_1 a0_2 l0_3 l0_4 l0_5).bind fun t118=>(if t118=true then ((spec_grCount.f a0_0 a0_1 a0_2).bind fun t119=>((spec_l1Rising.f k l1 0 (wrap64 (t119 - 1))).bind fun t120=>(some t120))) else (some false))
set_option maxHeartbeats 8000000 in
set_option maxRecDepth 100000 in
theorem spec_moList.calls (k:Nat) (a0_0:Int) (a0_1:Int) (a0_2:Int) (A0_3:Option Addr) (c0_3:Nat) (l0_3:List Int) (A0_4:Option Addr) (c0_4:Nat) (l0_4:List Int) (A0_5:Option Addr) (c0_5:Nat) (l0_5:List Int) (A1:Option Addr) (c1:Nat) (l1:List Int) (r:Bool) (w:World) (hr0_3:Kd.C (Kd.int .i64) w A0_3 l0_3.length l0_3) (hc0_3:l0_3.length≤c0_3) (hr0_4:Kd.C (Kd.int .i64) w A0_4 l0_4.length l0_4) (hc0_4:l0_4.length≤c0_4) (hr0_5:Kd.C (Kd.int .i64) w A0_5 l0_5.length l0_5) (hc0_5:l0_5.length≤c0_5) (hr1:Kd.C (Kd.int .i64) w A1 l1.length l1) (hc1:l1.length≤c1) (h:spec_moList.f k a0_0 a0_1 a0_2 l0_3 l0_4 l0_5 l1=some r) :
  Calls Try.prog 99 #[.agg #[.int .i64 a0_0,.int .i64 a0_1,.int .i64 a0_2,.slice A0_3 l0_3.length c0_3,.slice A0_4 l0_4.length c0_4,.slice A0_5 l0_5.length c0_5],.slice A1 l1.length c1] w fun e w'=>e=.returned (.bool r)∧Below w.heap.size w w':=by
 have hu34:=Try.underlying34
 have hu32:=Try.underlying32
 have HR0_3:=Aside0.mk hr0_3
 have HC0_3:=Aside0.mk hc0_3
 clear hr0_3 hc0_3
 have HR0_4:=Aside0.mk hr0_4
 have HC0_4:=Aside0.mk hc0_4
 clear hr0_4 hc0_4
 have HR0_5:=Aside0.mk hr0_5
 have HC0_5:=Aside0.mk hc0_5
 clear hr0_5 hc0_5
 have HR1:=Aside0.mk hr1
 have HC1:=Aside0.mk hc1
 clear hr1 hc1
 have HB:=Aside0.mk (Below.refl w.heap.size w)
 have H:((spec_moGood.f k a0_0 a0_1 a0_2 l0_3 l0_4 l0_5).bind fun t118=>(if t118=true then ((spec_grCount.f a0_0 a0_1 a0_2).bind fun t119=>((spec_l1Rising.f k l1 0 (wrap64 (t119 - 1))).bind fun t120=>(some t120))) else (some false)))=some r:=h
 clear h
 replace H:=Option.bind_eq_some_iff.mp H
 obtain ⟨t118,A30,H⟩:=H
 replace H:(if t118=true then ((spec_grCount.f a0_0 a0_1 a0_2).bind fun t119=>((spec_l1Rising.f k l1 0 (wrap64 (t119 - 1))).bind fun t120=>(some t120))) else (some false))=some r:=H
 have A3:=Aside0.mk A30
 clear A30
 by_cases c4:t118=true
 ·subst c4
  have H1:((spec_grCount.f a0_0 a0_1 a0_2).bind fun t119=>((spec_l1Rising.f k l1 0 (wrap64 (t119 - 1))).bind fun t120=>(some t120)))=some r:=by rw [if_pos rfl] at H;exact H
  clear H
  have H:=H1
  clear H1
  replace H:=Option.bind_eq_some_iff.mp H
  obtain ⟨t119,A50,H⟩:=H
  replace H:((spec_l1Rising.f k l1 0 (wrap64 (t119 - 1))).bind fun t120=>(some t120))=some r:=H
  have A5:=Aside0.mk A50
  clear A50
  replace H:=Option.bind_eq_some_iff.mp H
  obtain ⟨t120,A60,H⟩:=H
  replace H:(some t120)=some r:=H
  have A6:=Aside0.mk A60
  clear A60
  obtain rfl:=Option.some.inj H
  go_enter Try.func99,Try.ntmps99
  go_wp2_with (first|((with_reducible refine gate_dst (N:=2) rfl ?_);refine box_event ?hg (N:=2) ?hd (cs:=#[.int .i64 a0_0,.int .i64 a0_1,.int .i64 a0_2,.slice A0_3 l0_3.length c0_3,.slice A0_4 l0_4.length c0_4,.slice A0_5 l0_5.length c0_5]) (t:=34) ?hr ?_;(case hd=>rfl);(case hg=>rfl);(case hr=>first|(go_simp;done)|(go_simp;rfl));intro gb117 hg w7 hbox hb;have n0_:=Aside0.mk (below_step (by repeat (first|(with_reducible first|exact HB.out|apply below_alloc|apply pw_below_drewN|apply below_drew1)|exact HB.out)) hb);have n1_:=Aside0.mk (hbox);have n2_:=Aside0.mk ((by rw [hg];exact (below_size (by repeat (first|(with_reducible first|exact HB.out|apply below_alloc|apply pw_below_drewN|apply below_drew1)|exact HB.out))):w.heap.size≤gb117));have n3_:=Aside0.mk ((by rw [hg];exact (below_size (by repeat (first|(with_reducible first|exact HB.out|apply below_alloc|apply pw_below_drewN|apply below_drew1)|exact HB.out))):w.heap.size≤gb117));clear HB;have HB:=n0_;have BK117:=n1_;have GW117:=n2_;have GE117:=n3_;clear n0_ n1_ n2_ n3_;clear hb hbox hg;have hcz8_0:w7.cell? ⟨gb117,0,none⟩=some (.int .i64 a0_0):=(blk_cell BK117.out 0).trans rfl;have hcz8_1:w7.cell? ⟨gb117,1,none⟩=some (.int .i64 a0_1):=(blk_cell BK117.out 1).trans rfl;have hcz8_2:w7.cell? ⟨gb117,2,none⟩=some (.int .i64 a0_2):=(blk_cell BK117.out 2).trans rfl;have hcz8_3:w7.cell? ⟨gb117,3,none⟩=some (.slice A0_3 l0_3.length c0_3):=(blk_cell BK117.out 3).trans rfl;have hcz8_4:w7.cell? ⟨gb117,4,none⟩=some (.slice A0_4 l0_4.length c0_4):=(blk_cell BK117.out 4).trans rfl;have hcz8_5:w7.cell? ⟨gb117,5,none⟩=some (.slice A0_5 l0_5.length c0_5):=(blk_cell BK117.out 5).trans rfl;have hfz8_0:=blk_frozen BK117.out 0;have hfz8_1:=blk_frozen BK117.out 1;have hfz8_2:=blk_frozen BK117.out 2;have hfz8_3:=blk_frozen BK117.out 3;have hfz8_4:=blk_frozen BK117.out 4;have hfz8_5:=blk_frozen BK117.out 5)|((with_reducible refine gate_callee (f:=105) rfl ?_);refine goesL_ (some 6) rfl rfl Try.func105 (by kernel_rfl) rfl #[.agg #[.int .i64 a0_0,.int .i64 a0_1,.int .i64 a0_2,.slice A0_3 l0_3.length c0_3,.slice A0_4 l0_4.length c0_4,.slice A0_5 l0_5.length c0_5]] rfl (by (try simp only [List.map_toArray,List.map_cons,List.map_nil]);first|done|rfl|(simp only [List.length_drop,List.length_take];rfl)) ?_;(with_reducible refine (spec_moGood.calls k a0_0 a0_1 a0_2 _ _ l0_3 _ _ l0_4 _ _ l0_5 true _ ?side1 ?side2 ?side3 ?side4 ?side5 ?side6 A3.out).mono ?_);(case side1=>repeat (first|exact (Kd.C_below HR0_3.out HB.out)|(with_reducible refine Kd.C_alloc ?_ _)|(with_reducible refine Kd.C_drewN ?_ _)|(with_reducible refine Kd.C_drew ?_)));(case side2=>exact HC0_3.out);(case side3=>repeat (first|exact (Kd.C_below HR0_4.out HB.out)|(with_reducible refine Kd.C_alloc ?_ _)|(with_reducible refine Kd.C_drewN ?_ _)|(with_reducible refine Kd.C_drew ?_)));(case side4=>exact HC0_4.out);(case side5=>repeat (first|exact (Kd.C_below HR0_5.out HB.out)|(with_reducible refine Kd.C_alloc ?_ _)|(with_reducible refine Kd.C_drewN ?_ _)|(with_reducible refine Kd.C_drew ?_)));(case side6=>exact HC0_5.out);rintro e w9 ⟨rfl,hb⟩;refine ⟨_,rfl,?_⟩;have n0_:=Aside0.mk (blk_below (g:=gb117) (o:=.cells #[.int .i64 a0_0,.int .i64 a0_1,.int .i64 a0_2,.slice A0_3 l0_3.length c0_3,.slice A0_4 l0_4.length c0_4,.slice A0_5 l0_5.length c0_5] 34 (0,0)) (by (with_reducible repeat (first|refine blk_drewN ?_ _|refine blk_drew ?_|refine blk_alloc ?_ _));exact BK117.out) hb);have n1_:=Aside0.mk (below_step (by repeat (first|(with_reducible first|exact HB.out|apply below_alloc|apply pw_below_drewN|apply below_drew1|refine below_set ?_ GE117.out)|exact HB.out)) hb);clear BK117;clear HB;have BK117:=n0_;have HB:=n1_;clear n0_ n1_;(try clear hb);(try clear hb2);(try clear hk);(try clear hi);have hcz10_0:w9.cell? ⟨gb117,0,none⟩=some (.int .i64 a0_0):=(blk_cell BK117.out 0).trans rfl;have hcz10_1:w9.cell? ⟨gb117,1,none⟩=some (.int .i64 a0_1):=(blk_cell BK117.out 1).trans rfl;have hcz10_2:w9.cell? ⟨gb117,2,none⟩=some (.int .i64 a0_2):=(blk_cell BK117.out 2).trans rfl;have hcz10_3:w9.cell? ⟨gb117,3,none⟩=some (.slice A0_3 l0_3.length c0_3):=(blk_cell BK117.out 3).trans rfl;have hcz10_4:w9.cell? ⟨gb117,4,none⟩=some (.slice A0_4 l0_4.length c0_4):=(blk_cell BK117.out 4).trans rfl;have hcz10_5:w9.cell? ⟨gb117,5,none⟩=some (.slice A0_5 l0_5.length c0_5):=(blk_cell BK117.out 5).trans rfl;have hfz10_0:=blk_frozen BK117.out 0;have hfz10_1:=blk_frozen BK117.out 1;have hfz10_2:=blk_frozen BK117.out 2;have hfz10_3:=blk_frozen BK117.out 3;have hfz10_4:=blk_frozen BK117.out 4;have hfz10_5:=blk_frozen BK117.out 5)|(go_at_call 160;(with_reducible refine (spec_grCount.calls a0_0 a0_1 a0_2 t119 _ A5.out).mono ?_);rintro e w11 ⟨rfl,hb⟩;have n0_:=Aside0.mk (blk_below (g:=gb117) (o:=.cells #[.int .i64 a0_0,.int .i64 a0_1,.int .i64 a0_2,.slice A0_3 l0_3.length c0_3,.slice A0_4 l0_4.length c0_4,.slice A0_5 l0_5.length c0_5] 34 (0,0)) (by (with_reducible repeat (first|refine blk_drewN ?_ _|refine blk_drew ?_|refine blk_alloc ?_ _));exact BK117.out) hb);have n1_:=Aside0.mk (below_step (by repeat (first|(with_reducible first|exact HB.out|apply below_alloc|apply pw_below_drewN|apply below_drew1|refine below_set ?_ GE117.out)|exact HB.out)) hb);clear BK117;clear HB;have BK117:=n0_;have HB:=n1_;clear n0_ n1_;(try clear hb);(try clear hb2);(try clear hk);(try clear hi))|(go_at_call 131;(with_reducible refine (spec_l1Rising.calls k _ _ l1 0 (wrap64 (t119 - 1)) t120 _ ?side1 ?side2 A6.out).mono ?_);(case side1=>repeat (first|exact (Kd.C_below HR1.out HB.out)|(with_reducible refine Kd.C_alloc ?_ _)|(with_reducible refine Kd.C_drewN ?_ _)|(with_reducible refine Kd.C_drew ?_)));(case side2=>exact HC1.out);rintro e w' ⟨rfl,⟨nd,rfl⟩⟩))
  go_ret
  exact ⟨by first|rfl|(simp [errW_none,errW_some] <;> rfl)|(simp [*,errW_none,errW_some] <;> rfl),by repeat (first|(with_reducible first|exact HB.out|apply below_alloc|apply pw_below_drewN|apply below_drew1|refine below_set ?_ GE117.out)|exact HB.out)⟩
 ·replace c4:=Bool.eq_false_iff.mpr c4
  subst c4
  have H1:(some false)=some r:=by rw [if_neg (show ¬ (false=true) by decide)] at H;exact H
  clear H
  have H:=H1
  clear H1
  obtain rfl:=Option.some.inj H
  go_enter Try.func99,Try.ntmps99
  go_wp2_with (first|((with_reducible refine gate_dst (N:=2) rfl ?_);refine box_event ?hg (N:=2) ?hd (cs:=#[.int .i64 a0_0,.int .i64 a0_1,.int .i64 a0_2,.slice A0_3 l0_3.length c0_3,.slice A0_4 l0_4.length c0_4,.slice A0_5 l0_5.length c0_5]) (t:=34) ?hr ?_;(case hd=>rfl);(case hg=>rfl);(case hr=>first|(go_simp;done)|(go_simp;rfl));intro gb117 hg w12 hbox hb;have n0_:=Aside0.mk (below_step (by repeat (first|(with_reducible first|exact HB.out|apply below_alloc|apply pw_below_drewN|apply below_drew1)|exact HB.out)) hb);have n1_:=Aside0.mk (hbox);have n2_:=Aside0.mk ((by rw [hg];exact (below_size (by repeat (first|(with_reducible first|exact HB.out|apply below_alloc|apply pw_below_drewN|apply below_drew1)|exact HB.out))):w.heap.size≤gb117));have n3_:=Aside0.mk ((by rw [hg];exact (below_size (by repeat (first|(with_reducible first|exact HB.out|apply below_alloc|apply pw_below_drewN|apply below_drew1)|exact HB.out))):w.heap.size≤gb117));clear HB;have HB:=n0_;have BK117:=n1_;have GW117:=n2_;have GE117:=n3_;clear n0_ n1_ n2_ n3_;clear hb hbox hg;have hcz13_0:w12.cell? ⟨gb117,0,none⟩=some (.int .i64 a0_0):=(blk_cell BK117.out 0).trans rfl;have hcz13_1:w12.cell? ⟨gb117,1,none⟩=some (.int .i64 a0_1):=(blk_cell BK117.out 1).trans rfl;have hcz13_2:w12.cell? ⟨gb117,2,none⟩=some (.int .i64 a0_2):=(blk_cell BK117.out 2).trans rfl;have hcz13_3:w12.cell? ⟨gb117,3,none⟩=some (.slice A0_3 l0_3.length c0_3):=(blk_cell BK117.out 3).trans rfl;have hcz13_4:w12.cell? ⟨gb117,4,none⟩=some (.slice A0_4 l0_4.length c0_4):=(blk_cell BK117.out 4).trans rfl;have hcz13_5:w12.cell? ⟨gb117,5,none⟩=some (.slice A0_5 l0_5.length c0_5):=(blk_cell BK117.out 5).trans rfl;have hfz13_0:=blk_frozen BK117.out 0;have hfz13_1:=blk_frozen BK117.out 1;have hfz13_2:=blk_frozen BK117.out 2;have hfz13_3:=blk_frozen BK117.out 3;have hfz13_4:=blk_frozen BK117.out 4;have hfz13_5:=blk_frozen BK117.out 5)|((with_reducible refine gate_callee (f:=105) rfl ?_);refine goesL_ (some 6) rfl rfl Try.func105 (by kernel_rfl) rfl #[.agg #[.int .i64 a0_0,.int .i64 a0_1,.int .i64 a0_2,.slice A0_3 l0_3.length c0_3,.slice A0_4 l0_4.length c0_4,.slice A0_5 l0_5.length c0_5]] rfl (by (try simp only [List.map_toArray,List.map_cons,List.map_nil]);first|done|rfl|(simp only [List.length_drop,List.length_take];rfl)) ?_;(with_reducible refine (spec_moGood.calls k a0_0 a0_1 a0_2 _ _ l0_3 _ _ l0_4 _ _ l0_5 false _ ?side1 ?side2 ?side3 ?side4 ?side5 ?side6 A3.out).mono ?_);(case side1=>repeat (first|exact (Kd.C_below HR0_3.out HB.out)|(with_reducible refine Kd.C_alloc ?_ _)|(with_reducible refine Kd.C_drewN ?_ _)|(with_reducible refine Kd.C_drew ?_)));(case side2=>exact HC0_3.out);(case side3=>repeat (first|exact (Kd.C_below HR0_4.out HB.out)|(with_reducible refine Kd.C_alloc ?_ _)|(with_reducible refine Kd.C_drewN ?_ _)|(with_reducible refine Kd.C_drew ?_)));(case side4=>exact HC0_4.out);(case side5=>repeat (first|exact (Kd.C_below HR0_5.out HB.out)|(with_reducible refine Kd.C_alloc ?_ _)|(with_reducible refine Kd.C_drewN ?_ _)|(with_reducible refine Kd.C_drew ?_)));(case side6=>exact HC0_5.out);rintro e w14 ⟨rfl,hb⟩;refine ⟨_,rfl,?_⟩;have n0_:=Aside0.mk (blk_below (g:=gb117) (o:=.cells #[.int .i64 a0_0,.int .i64 a0_1,.int .i64 a0_2,.slice A0_3 l0_3.length c0_3,.slice A0_4 l0_4.length c0_4,.slice A0_5 l0_5.length c0_5] 34 (0,0)) (by (with_reducible repeat (first|refine blk_drewN ?_ _|refine blk_drew ?_|refine blk_alloc ?_ _));exact BK117.out) hb);have n1_:=Aside0.mk (below_step (by repeat (first|(with_reducible first|exact HB.out|apply below_alloc|apply pw_below_drewN|apply below_drew1|refine below_set ?_ GE117.out)|exact HB.out)) hb);clear BK117;clear HB;have BK117:=n0_;have HB:=n1_;clear n0_ n1_;(try clear hb);(try clear hb2);(try clear hk);(try clear hi)))
  go_ret
  exact ⟨by first|rfl|(simp [errW_none,errW_some] <;> rfl)|(simp [*,errW_none,errW_some] <;> rfl),by repeat (first|(with_reducible first|exact HB.out|apply below_alloc|apply pw_below_drewN|apply below_drew1|refine below_set ?_ GE117.out)|exact HB.out)⟩
end Go.Proofs.Ytomfjhpiemipkaa.PFnOre
end
section
namespace Go.Proofs.Ytomfjhpiemipkaa.PFnOre
open Go.RowKit Go.Proofs.YtomfjhpiemipkaaW.PrintWords Go.Proofs.YtomfjhpiemipkaaW.PrintLast Go.Proofs.YtomfjhpiemipkaaW.PrintMore
attribute [local go_sem] max2_int min2_int max_two min_two max_three min_three max_four min_four   -- for this text's walks alone
set_option linter.unusedVariables false
set_option linter.unusedSimpArgs false
def spec_moPart.l0:Nat→Int→Int→Int→Int→Option (Int × Int)
 | 0,_,_,_,_=>none
 | k + 1,x0,x1,x6,x7=>if x7 > 0 then (if x7=0 then (none) else (spec_moPart.l0 k x0 x1 x7 (Int.tmod x6 x7))) else (if x6=0 then (none) else (some (wrap64 (Int.tdiv x0 x6),wrap64 (Int.tdiv x1 x6))))
def spec_moPart.f (k:Nat) (a0:Int) (a1:Int):Option (Int × Int):=spec_moPart.l0 k a0 a1 a0 a1
set_option maxHeartbeats 8000000 in
set_option maxRecDepth 100000 in
theorem spec_moPart.calls (k:Nat) (a0:Int) (a1:Int) (r1:Int) (r2:Int) (w:World) (h:spec_moPart.f k a0 a1=some (r1,r2)) :
  Calls Try.prog 101 #[.int .i64 a0,.int .i64 a1] w fun e w'=>e=.returned (.tuple #[.int .i64 r1,.int .i64 r2])∧Drawn0 w w':=by
 have H:(spec_moPart.l0 k a0 a1 a0 a1)=some (r1,r2):=h
 clear h
 have H':=Aside0.mk H
 clear H
 go_enter Try.func101,Try.ntmps101
 go_wp2
 repeat (go_quiet (fail);try go_wp2)
 go_loopg [6,7] k (fun kq v6 v7 w'=>∃ (x6_1:Int) (x7_1:Int),v6=.int .i64 x6_1∧v7=.int .i64 x7_1∧Aside0 (spec_moPart.l0 kq a0 a1 x6_1 x7_1=some (r1,r2))∧Aside0 (kq≤k)∧Drawn0 w w')
 case atStart=>exact ⟨(a0),(a1),(by first|rfl|(simp;done)|(simp [*];done)),(by first|rfl|(simp;done)|(simp [*];done)),H',⟨Nat.le_refl _⟩,by repeat (first|exact Drawn0.refl _|apply Drawn0.step)⟩
 case round =>
  clear H'
  try clear c1
  try clear p2
  obtain ⟨x6_1,x7_1,rfl,rfl,HA,HK1,⟨m1,rfl⟩⟩:=hrel
  cases gk with
  | zero=>exact absurd HA.out (by simp [spec_moPart.l0])
  | succ k1 =>
   have H:=HA.out
   clear HA
   simp only [spec_moPart.l0] at H
   by_cases c3:x7_1 > 0
   ·rw [if_pos c3] at H
    have c3b0:decide (0 < x7_1)=true:=decide_eq_true c3
    clear c3
    by_cases c4:x7_1=0
    ·rw [if_pos c4] at H
     exact absurd H (by simp)
    ·rw [if_neg c4] at H
     have c4b0:(x7_1 == 0)=false:=beq_eq_false_iff_ne.mpr c4
     have c4b1:(x7_1 != 0)=true:=bne_iff_ne.mpr c4
     have H':=Aside0.mk H
     clear H
     go_wp2
     repeat (go_quiet (fail);try go_wp2)
     go_roundg k1
     case measure=>have:=HK1.out;omega
     case rel=>exact ⟨(x7_1),(Int.tmod x6_1 x7_1),(by first|rfl|(simp;done)|(simp [*];done)),(by first|rfl|(simp;done)|(simp [*];done)),H',⟨by have:=HK1.out;omega⟩,by repeat (first|exact Drawn0.refl _|apply Drawn0.step)⟩
   ·rw [if_neg c3] at H
    have c3b0:decide (0 < x7_1)=false:=decide_eq_false c3
    clear c3
    by_cases c5:x6_1=0
    ·rw [if_pos c5] at H
     exact absurd H (by simp)
    ·rw [if_neg c5] at H
     have c5b0:(x6_1 == 0)=false:=beq_eq_false_iff_ne.mpr c5
     have c5b1:(x6_1 != 0)=true:=bne_iff_ne.mpr c5
     simp only [Option.some.injEq,Prod.mk.injEq] at H
     obtain ⟨rfl,rfl⟩:=H
     go_wp2
     repeat (go_quiet (fail);try go_wp2)
     go_ret2
     exact ⟨by first|rfl|(simp;done)|(simp [*];done),by repeat (first|exact Drawn0.refl _|apply Drawn0.step)⟩
end Go.Proofs.Ytomfjhpiemipkaa.PFnOre
end
section
namespace Go.Proofs.Ytomfjhpiemipkaa.PFnOre
open Go.RowKit Go.Proofs.YtomfjhpiemipkaaW.PrintWords Go.Proofs.YtomfjhpiemipkaaW.PrintLast Go.Proofs.YtomfjhpiemipkaaW.PrintMore
attribute [local go_sem] max2_int min2_int max_two min_two max_three min_three max_four min_four   -- for this text's walks alone
set_option linter.unusedVariables false
set_option linter.unusedSimpArgs false
mutual
def spec_StripRatio.j0:Nat→List Int→List Int→Bool→Int→Int→Int→List Int→List Int→List Int→Option (Int × Int × Bool)
 | 0,_,_,_,_,_,_,_,_,_=>none
 | k + 1,x1,x2,x26,x124000,x124001,x124002,x124003,x124004,x124005=>if x26=true then (some (0,0,false)) else (spec_StripRatio.l0 k x1 0 0 x2 (x2.length:Int) 0 x124000 x124001 x124002 x124003 x124004 x124005)
def spec_StripRatio.l0:Nat→List Int→Int→Int→List Int→Int→Int→Int→Int→Int→List Int→List Int→List Int→Option (Int × Int × Bool)
 | 0,_,_,_,_,_,_,_,_,_,_,_,_=>none
 | k + 1,x1,x9,x10,x27,x28,x29,x124000,x124001,x124002,x124003,x124004,x124005=>if x29 < x28 then (if 0≤x29 then (if x29 < (x27.length:Int) then (if 0≤(rd x27 x29) then (if (rd x27 x29) < (x1.length:Int) then (if (rd x1 (rd x27 x29)) > 0 then (if (rd x27 x29) < (x124003.length:Int) then (spec_StripRatio.l0 k x1 x9 (wrap64 (x10 + (rd x124003 (rd x27 x29)))) x27 x28 (wrap64 (x29 + 1)) x124000 x124001 x124002 x124003 x124004 x124005) else (none)) else (if (rd x27 x29) < (x124003.length:Int) then (spec_StripRatio.l0 k x1 (wrap64 (x9 + (rd x124003 (rd x27 x29)))) x10 x27 x28 (wrap64 (x29 + 1)) x124000 x124001 x124002 x124003 x124004 x124005) else (none))) else (none)) else (none)) else (none)) else (none)) else (if x10=0 then (some (0,0,false)) else ((spec_moPart.f k x9 x10).bind fun bt130=>(some (bt130.1,bt130.2,true))))
end
def spec_StripRatio.f (k:Nat) (a0_0:Int) (a0_1:Int) (a0_2:Int) (l0_3:List Int) (l0_4:List Int) (l0_5:List Int) (l1:List Int) (l2:List Int):Option (Int × Int × Bool):=(spec_moList.f k a0_0 a0_1 a0_2 l0_3 l0_4 l0_5 l2).bind fun t124=>(if t124=true then ((spec_vaGood.f k l1 (l0_3.length:Int)).bind fun t125=>(spec_StripRatio.j0 k l1 l2 (!t125) a0_0 a0_1 a0_2 l0_3 l0_4 l0_5)) else (spec_StripRatio.j0 k l1 l2 true a0_0 a0_1 a0_2 l0_3 l0_4 l0_5))
set_option maxHeartbeats 8000000 in
set_option maxRecDepth 100000 in
theorem spec_StripRatio.calls (k:Nat) (a0_0:Int) (a0_1:Int) (a0_2:Int) (A0_3:Option Addr) (c0_3:Nat) (l0_3:List Int) (A0_4:Option Addr) (c0_4:Nat) (l0_4:List Int) (A0_5:Option Addr) (c0_5:Nat) (l0_5:List Int) (A1:Option Addr) (c1:Nat) (l1:List Int) (A2:Option Addr) (c2:Nat) (l2:List Int) (r1:Int) (r2:Int) (r3:Bool) (w:World) (hr0_3:Kd.C (Kd.int .i64) w A0_3 l0_3.length l0_3) (hc0_3:l0_3.length≤c0_3) (hr0_4:Kd.C (Kd.int .i64) w A0_4 l0_4.length l0_4) (hc0_4:l0_4.length≤c0_4) (hr0_5:Kd.C (Kd.int .i64) w A0_5 l0_5.length l0_5) (hc0_5:l0_5.length≤c0_5) (hr1:Kd.C (Kd.int .i64) w A1 l1.length l1) (hc1:l1.length≤c1) (hr2:Kd.C (Kd.int .i64) w A2 l2.length l2) (hc2:l2.length≤c2) (h:spec_StripRatio.f k a0_0 a0_1 a0_2 l0_3 l0_4 l0_5 l1 l2=some (r1,r2,r3)) :
  Calls Try.prog 20 #[.agg #[.int .i64 a0_0,.int .i64 a0_1,.int .i64 a0_2,.slice A0_3 l0_3.length c0_3,.slice A0_4 l0_4.length c0_4,.slice A0_5 l0_5.length c0_5],.slice A1 l1.length c1,.slice A2 l2.length c2] w fun e w'=>e=.returned (.tuple #[.int .i64 r1,.int .i64 r2,.bool r3])∧Below w.heap.size w w':=by
 have hu34:=Try.underlying34
 have HR0_3:=Aside0.mk hr0_3
 have HC0_3:=Aside0.mk hc0_3
 clear hr0_3 hc0_3
 have HR0_4:=Aside0.mk hr0_4
 have HC0_4:=Aside0.mk hc0_4
 clear hr0_4 hc0_4
 have HR0_5:=Aside0.mk hr0_5
 have HC0_5:=Aside0.mk hc0_5
 clear hr0_5 hc0_5
 have HR1:=Aside0.mk hr1
 have HC1:=Aside0.mk hc1
 clear hr1 hc1
 have HR2:=Aside0.mk hr2
 have HC2:=Aside0.mk hc2
 clear hr2 hc2
 have HB:=Aside0.mk (Below.refl w.heap.size w)
 have H:((spec_moList.f k a0_0 a0_1 a0_2 l0_3 l0_4 l0_5 l2).bind fun t124=>(if t124=true then ((spec_vaGood.f k l1 (l0_3.length:Int)).bind fun t125=>(spec_StripRatio.j0 k l1 l2 (!t125) a0_0 a0_1 a0_2 l0_3 l0_4 l0_5)) else (spec_StripRatio.j0 k l1 l2 true a0_0 a0_1 a0_2 l0_3 l0_4 l0_5)))=some (r1,r2,r3):=h
 clear h
 have HC4:=Aside0.mk H
 clear H
 go_enter Try.func20,Try.ntmps20
 go_upto_region 1 with (first|((with_reducible refine gate_dst (N:=3) rfl ?_);(try (refine gate_guard (by rfl) ?_;dsimp only));refine box_event ?hg (N:=3) ?hd (cs:=#[.int .i64 a0_0,.int .i64 a0_1,.int .i64 a0_2,.slice A0_3 l0_3.length c0_3,.slice A0_4 l0_4.length c0_4,.slice A0_5 l0_5.length c0_5]) (t:=34) ?hr ?_;(case hd=>rfl);(case hg=>rfl);(case hr=>first|(go_simp;done)|(go_simp;rfl));intro gb123 hg w5 hbox hb;have n0_:=Aside0.mk (below_step (by repeat (first|(with_reducible first|exact HB.out|apply below_alloc|apply pw_below_drewN|apply below_drew1)|exact HB.out)) hb);have n1_:=Aside0.mk (hbox);have n2_:=Aside0.mk ((by rw [hg];exact (below_size (by repeat (first|(with_reducible first|exact HB.out|apply below_alloc|apply pw_below_drewN|apply below_drew1)|exact HB.out))):w.heap.size≤gb123));have n3_:=Aside0.mk ((by rw [hg];exact (below_size (by repeat (first|(with_reducible first|exact HB.out|apply below_alloc|apply pw_below_drewN|apply below_drew1)|exact HB.out))):w.heap.size≤gb123));clear HB;have HB:=n0_;have BK123:=n1_;have GW123:=n2_;have GE123:=n3_;clear n0_ n1_ n2_ n3_;clear hb hbox hg))
 (try simp only [Act.put,List.setIfInBounds_toArray,List.set_cons_zero,List.set_cons_succ])
 go_cut [26] (fun v26 wc=>∃ (kq:Nat) (x26_3:Bool),v26=.bool x26_3∧Aside0 (spec_StripRatio.j0 kq l1 l2 x26_3 a0_0 a0_1 a0_2 l0_3 l0_4 l0_5=some (r1,r2,r3))∧Aside0 (kq≤k)∧Aside0 (wc.heap[gb123]?=some (.cells #[.int .i64 a0_0,.int .i64 a0_1,.int .i64 a0_2,(.slice A0_3 l0_3.length c0_3),(.slice A0_4 l0_4.length c0_4),(.slice A0_5 l0_5.length c0_5)] 34 (0,0)))∧Aside0 (Below w.heap.size w wc))
 case first =>
  have H:=HC4.out
  clear HC4
  replace H:=Option.bind_eq_some_iff.mp H
  obtain ⟨t124,A60,H⟩:=H
  replace H:(if t124=true then ((spec_vaGood.f k l1 (l0_3.length:Int)).bind fun t125=>(spec_StripRatio.j0 k l1 l2 (!t125) a0_0 a0_1 a0_2 l0_3 l0_4 l0_5)) else (spec_StripRatio.j0 k l1 l2 true a0_0 a0_1 a0_2 l0_3 l0_4 l0_5))=some (r1,r2,r3):=H
  have A6:=Aside0.mk A60
  clear A60
  by_cases c7:t124=true
  ·subst c7
   have H1:((spec_vaGood.f k l1 (l0_3.length:Int)).bind fun t125=>(spec_StripRatio.j0 k l1 l2 (!t125) a0_0 a0_1 a0_2 l0_3 l0_4 l0_5))=some (r1,r2,r3):=by rw [if_pos rfl] at H;exact H
   clear H
   have H:=H1
   clear H1
   replace H:=Option.bind_eq_some_iff.mp H
   obtain ⟨t125,A80,H⟩:=H
   replace H:(spec_StripRatio.j0 k l1 l2 (!t125) a0_0 a0_1 a0_2 l0_3 l0_4 l0_5)=some (r1,r2,r3):=H
   have A8:=Aside0.mk A80
   clear A80
   have H':=Aside0.mk H
   clear H
   have hcz9_0:w5.cell? ⟨gb123,0,none⟩=some (.int .i64 a0_0):=(blk_cell BK123.out 0).trans rfl
   have hcz9_1:w5.cell? ⟨gb123,1,none⟩=some (.int .i64 a0_1):=(blk_cell BK123.out 1).trans rfl
   have hcz9_2:w5.cell? ⟨gb123,2,none⟩=some (.int .i64 a0_2):=(blk_cell BK123.out 2).trans rfl
   have hcz9_3:w5.cell? ⟨gb123,3,none⟩=some (.slice A0_3 l0_3.length c0_3):=(blk_cell BK123.out 3).trans rfl
   have hcz9_4:w5.cell? ⟨gb123,4,none⟩=some (.slice A0_4 l0_4.length c0_4):=(blk_cell BK123.out 4).trans rfl
   have hcz9_5:w5.cell? ⟨gb123,5,none⟩=some (.slice A0_5 l0_5.length c0_5):=(blk_cell BK123.out 5).trans rfl
   have hfz9_0:=blk_frozen BK123.out 0
   have hfz9_1:=blk_frozen BK123.out 1
   have hfz9_2:=blk_frozen BK123.out 2
   have hfz9_3:=blk_frozen BK123.out 3
   have hfz9_4:=blk_frozen BK123.out 4
   have hfz9_5:=blk_frozen BK123.out 5
   go_wp2_with (first|((with_reducible refine gate_callee (f:=99) rfl ?_);refine goesL_ (some 17) rfl rfl Try.func99 (by kernel_rfl) rfl #[.agg #[.int .i64 a0_0,.int .i64 a0_1,.int .i64 a0_2,.slice A0_3 l0_3.length c0_3,.slice A0_4 l0_4.length c0_4,.slice A0_5 l0_5.length c0_5],.slice A2 l2.length c2] rfl (by (try simp only [List.map_toArray,List.map_cons,List.map_nil]);first|done|rfl|(simp only [List.length_drop,List.length_take];rfl)) ?_;(with_reducible refine (spec_moList.calls k a0_0 a0_1 a0_2 _ _ l0_3 _ _ l0_4 _ _ l0_5 _ _ l2 true _ ?side1 ?side2 ?side3 ?side4 ?side5 ?side6 ?side7 ?side8 A6.out).mono ?_);(case side1=>repeat (first|exact (Kd.C_below HR0_3.out HB.out)|(with_reducible refine Kd.C_alloc ?_ _)|(with_reducible refine Kd.C_drewN ?_ _)|(with_reducible refine Kd.C_drew ?_)));(case side2=>exact HC0_3.out);(case side3=>repeat (first|exact (Kd.C_below HR0_4.out HB.out)|(with_reducible refine Kd.C_alloc ?_ _)|(with_reducible refine Kd.C_drewN ?_ _)|(with_reducible refine Kd.C_drew ?_)));(case side4=>exact HC0_4.out);(case side5=>repeat (first|exact (Kd.C_below HR0_5.out HB.out)|(with_reducible refine Kd.C_alloc ?_ _)|(with_reducible refine Kd.C_drewN ?_ _)|(with_reducible refine Kd.C_drew ?_)));(case side6=>exact HC0_5.out);(case side7=>repeat (first|exact (Kd.C_below HR2.out HB.out)|(with_reducible refine Kd.C_alloc ?_ _)|(with_reducible refine Kd.C_drewN ?_ _)|(with_reducible refine Kd.C_drew ?_)));(case side8=>exact HC2.out);rintro e w10 ⟨rfl,hb⟩;refine ⟨_,rfl,?_⟩;have n0_:=Aside0.mk (blk_below (g:=gb123) (o:=.cells #[.int .i64 a0_0,.int .i64 a0_1,.int .i64 a0_2,.slice A0_3 l0_3.length c0_3,.slice A0_4 l0_4.length c0_4,.slice A0_5 l0_5.length c0_5] 34 (0,0)) (by (with_reducible repeat (first|refine blk_drewN ?_ _|refine blk_drew ?_|refine blk_alloc ?_ _));exact BK123.out) hb);have n1_:=Aside0.mk (below_step (by repeat (first|(with_reducible first|exact HB.out|apply below_alloc|apply pw_below_drewN|apply below_drew1|refine below_set ?_ GE123.out)|exact HB.out)) hb);clear BK123;clear HB;have BK123:=n0_;have HB:=n1_;clear n0_ n1_;(try clear hb);(try clear hb2);(try clear hk);(try clear hi);have hcz11_0:w10.cell? ⟨gb123,0,none⟩=some (.int .i64 a0_0):=(blk_cell BK123.out 0).trans rfl;have hcz11_1:w10.cell? ⟨gb123,1,none⟩=some (.int .i64 a0_1):=(blk_cell BK123.out 1).trans rfl;have hcz11_2:w10.cell? ⟨gb123,2,none⟩=some (.int .i64 a0_2):=(blk_cell BK123.out 2).trans rfl;have hcz11_3:w10.cell? ⟨gb123,3,none⟩=some (.slice A0_3 l0_3.length c0_3):=(blk_cell BK123.out 3).trans rfl;have hcz11_4:w10.cell? ⟨gb123,4,none⟩=some (.slice A0_4 l0_4.length c0_4):=(blk_cell BK123.out 4).trans rfl;have hcz11_5:w10.cell? ⟨gb123,5,none⟩=some (.slice A0_5 l0_5.length c0_5):=(blk_cell BK123.out 5).trans rfl;have hfz11_0:=blk_frozen BK123.out 0;have hfz11_1:=blk_frozen BK123.out 1;have hfz11_2:=blk_frozen BK123.out 2;have hfz11_3:=blk_frozen BK123.out 3;have hfz11_4:=blk_frozen BK123.out 4;have hfz11_5:=blk_frozen BK123.out 5)|(go_at_call 100;(with_reducible refine (spec_vaGood.calls k _ _ l1 (l0_3.length:Int) t125 _ ?side1 ?side2 A8.out).mono ?_);(case side1=>repeat (first|exact (Kd.C_below HR1.out HB.out)|(with_reducible refine Kd.C_alloc ?_ _)|(with_reducible refine Kd.C_drewN ?_ _)|(with_reducible refine Kd.C_drew ?_)));(case side2=>exact HC1.out);rintro e w' ⟨rfl,⟨nd,rfl⟩⟩))
   go_meet
   case rel=>exact ⟨_,(!t125),(by first|rfl|(simp;done)|(simp [*];done)),H',⟨by first|omega|exact Nat.le_refl _⟩,⟨by (with_reducible repeat (first|refine blk_drewN ?_ _|refine blk_drew ?_|refine blk_alloc ?_ _));exact BK123.out⟩,⟨by repeat (first|(with_reducible first|exact HB.out|apply below_alloc|apply pw_below_drewN|apply below_drew1|refine below_set ?_ GE123.out)|exact HB.out)⟩⟩
  ·replace c7:=Bool.eq_false_iff.mpr c7
   subst c7
   have H1:(spec_StripRatio.j0 k l1 l2 true a0_0 a0_1 a0_2 l0_3 l0_4 l0_5)=some (r1,r2,r3):=by rw [if_neg (show ¬ (false=true) by decide)] at H;exact H
   clear H
   have H:=H1
   clear H1
   have H':=Aside0.mk H
   clear H
   have hcz12_0:w5.cell? ⟨gb123,0,none⟩=some (.int .i64 a0_0):=(blk_cell BK123.out 0).trans rfl
   have hcz12_1:w5.cell? ⟨gb123,1,none⟩=some (.int .i64 a0_1):=(blk_cell BK123.out 1).trans rfl
   have hcz12_2:w5.cell? ⟨gb123,2,none⟩=some (.int .i64 a0_2):=(blk_cell BK123.out 2).trans rfl
   have hcz12_3:w5.cell? ⟨gb123,3,none⟩=some (.slice A0_3 l0_3.length c0_3):=(blk_cell BK123.out 3).trans rfl
   have hcz12_4:w5.cell? ⟨gb123,4,none⟩=some (.slice A0_4 l0_4.length c0_4):=(blk_cell BK123.out 4).trans rfl
   have hcz12_5:w5.cell? ⟨gb123,5,none⟩=some (.slice A0_5 l0_5.length c0_5):=(blk_cell BK123.out 5).trans rfl
   have hfz12_0:=blk_frozen BK123.out 0
   have hfz12_1:=blk_frozen BK123.out 1
   have hfz12_2:=blk_frozen BK123.out 2
   have hfz12_3:=blk_frozen BK123.out 3
   have hfz12_4:=blk_frozen BK123.out 4
   have hfz12_5:=blk_frozen BK123.out 5
   go_wp2_with (first|((with_reducible refine gate_callee (f:=99) rfl ?_);refine goesL_ (some 17) rfl rfl Try.func99 (by kernel_rfl) rfl #[.agg #[.int .i64 a0_0,.int .i64 a0_1,.int .i64 a0_2,.slice A0_3 l0_3.length c0_3,.slice A0_4 l0_4.length c0_4,.slice A0_5 l0_5.length c0_5],.slice A2 l2.length c2] rfl (by (try simp only [List.map_toArray,List.map_cons,List.map_nil]);first|done|rfl|(simp only [List.length_drop,List.length_take];rfl)) ?_;(with_reducible refine (spec_moList.calls k a0_0 a0_1 a0_2 _ _ l0_3 _ _ l0_4 _ _ l0_5 _ _ l2 false _ ?side1 ?side2 ?side3 ?side4 ?side5 ?side6 ?side7 ?side8 A6.out).mono ?_);(case side1=>repeat (first|exact (Kd.C_below HR0_3.out HB.out)|(with_reducible refine Kd.C_alloc ?_ _)|(with_reducible refine Kd.C_drewN ?_ _)|(with_reducible refine Kd.C_drew ?_)));(case side2=>exact HC0_3.out);(case side3=>repeat (first|exact (Kd.C_below HR0_4.out HB.out)|(with_reducible refine Kd.C_alloc ?_ _)|(with_reducible refine Kd.C_drewN ?_ _)|(with_reducible refine Kd.C_drew ?_)));(case side4=>exact HC0_4.out);(case side5=>repeat (first|exact (Kd.C_below HR0_5.out HB.out)|(with_reducible refine Kd.C_alloc ?_ _)|(with_reducible refine Kd.C_drewN ?_ _)|(with_reducible refine Kd.C_drew ?_)));(case side6=>exact HC0_5.out);(case side7=>repeat (first|exact (Kd.C_below HR2.out HB.out)|(with_reducible refine Kd.C_alloc ?_ _)|(with_reducible refine Kd.C_drewN ?_ _)|(with_reducible refine Kd.C_drew ?_)));(case side8=>exact HC2.out);rintro e w13 ⟨rfl,hb⟩;refine ⟨_,rfl,?_⟩;have n0_:=Aside0.mk (blk_below (g:=gb123) (o:=.cells #[.int .i64 a0_0,.int .i64 a0_1,.int .i64 a0_2,.slice A0_3 l0_3.length c0_3,.slice A0_4 l0_4.length c0_4,.slice A0_5 l0_5.length c0_5] 34 (0,0)) (by (with_reducible repeat (first|refine blk_drewN ?_ _|refine blk_drew ?_|refine blk_alloc ?_ _));exact BK123.out) hb);have n1_:=Aside0.mk (below_step (by repeat (first|(with_reducible first|exact HB.out|apply below_alloc|apply pw_below_drewN|apply below_drew1|refine below_set ?_ GE123.out)|exact HB.out)) hb);clear BK123;clear HB;have BK123:=n0_;have HB:=n1_;clear n0_ n1_;(try clear hb);(try clear hb2);(try clear hk);(try clear hi)))
   go_meet
   case rel=>exact ⟨_,(true),(by first|rfl|(simp;done)|(simp [*];done)),H',⟨by first|omega|exact Nat.le_refl _⟩,⟨by (with_reducible repeat (first|refine blk_drewN ?_ _|refine blk_drew ?_|refine blk_alloc ?_ _));exact BK123.out⟩,⟨by repeat (first|(with_reducible first|exact HB.out|apply below_alloc|apply pw_below_drewN|apply below_drew1|refine below_set ?_ GE123.out)|exact HB.out)⟩⟩
 case rest =>
  clear HC4
  try clear c1
  try clear c2
  try clear p2
  try clear c7
  try clear c9
  try clear hcz11_0
  try clear hcz11_1
  try clear hcz11_2
  try clear hcz11_3
  try clear hcz11_4
  try clear hcz11_5
  try clear hcz12_0
  try clear hcz12_1
  try clear hcz12_2
  try clear hcz12_3
  try clear hcz12_4
  try clear hcz12_5
  try clear hcz9_0
  try clear hcz9_1
  try clear hcz9_2
  try clear hcz9_3
  try clear hcz9_4
  try clear hcz9_5
  try clear hfz11_0
  try clear hfz11_1
  try clear hfz11_2
  try clear hfz11_3
  try clear hfz11_4
  try clear hfz11_5
  try clear hfz12_0
  try clear hfz12_1
  try clear hfz12_2
  try clear hfz12_3
  try clear hfz12_4
  try clear hfz12_5
  try clear hfz9_0
  try clear hfz9_1
  try clear hfz9_2
  try clear hfz9_3
  try clear hfz9_4
  try clear hfz9_5
  obtain ⟨kq,x26_3,rfl,HA,HJ3,BK123,HB⟩:=hcut
  cases kq with
  | zero=>exact absurd HA.out (by simp [spec_StripRatio.j0])
  | succ kj3 =>
   have H:=HA.out
   clear HA
   simp only [spec_StripRatio.j0] at H
   by_cases c14:x26_3=true
   ·subst c14
    have H1:(some (0,0,false))=some (r1,r2,r3):=by rw [if_pos rfl] at H;exact H
    clear H
    have H:=H1
    clear H1
    simp only [Option.some.injEq,Prod.mk.injEq] at H
    obtain ⟨rfl,rfl,rfl⟩:=H
    go_wp2
    go_ret3
    exact ⟨by first|rfl|(simp [errW_none,errW_some] <;> rfl)|(simp [*,errW_none,errW_some] <;> rfl),by repeat (first|(with_reducible first|exact HB.out|apply below_alloc|apply pw_below_drewN|apply below_drew1|refine below_set ?_ GE123.out)|exact HB.out)⟩
   ·replace c14:=Bool.eq_false_iff.mpr c14
    subst c14
    have H1:(spec_StripRatio.l0 kj3 l1 0 0 l2 (l2.length:Int) 0 a0_0 a0_1 a0_2 l0_3 l0_4 l0_5)=some (r1,r2,r3):=by rw [if_neg (show ¬ (false=true) by decide)] at H;exact H
    clear H
    have H:=H1
    clear H1
    have H':=Aside0.mk H
    clear H
    go_wp2
    go_loopg [9,10,29] kj3 (fun kq v9 v10 v29 w'=>∃ (x9_2:Int) (x10_2:Int) (x29_2:Int),v9=.int .i64 x9_2∧v10=.int .i64 x10_2∧v29=.int .i64 x29_2∧Aside0 (spec_StripRatio.l0 kq l1 x9_2 x10_2 l2 (l2.length:Int) x29_2 a0_0 a0_1 a0_2 l0_3 l0_4 l0_5=some (r1,r2,r3))∧Aside0 (kq≤kj3)∧Aside0 (w'.heap[gb123]?=some (.cells #[.int .i64 a0_0,.int .i64 a0_1,.int .i64 a0_2,(.slice A0_3 l0_3.length c0_3),(.slice A0_4 l0_4.length c0_4),(.slice A0_5 l0_5.length c0_5)] 34 (0,0)))∧Aside0 (Below w.heap.size w w'))
    case atStart=>exact ⟨(0),(0),(0),(by first|rfl|(simp;done)|(simp [*];done)),(by first|rfl|(simp;done)|(simp [*];done)),(by first|rfl|(simp;done)|(simp [*];done)),H',⟨Nat.le_refl _⟩,⟨by (with_reducible repeat (first|refine blk_drewN ?_ _|refine blk_drew ?_|refine blk_alloc ?_ _));exact BK123.out⟩,⟨by repeat (first|(with_reducible first|exact HB.out|apply below_alloc|apply pw_below_drewN|apply below_drew1|refine below_set ?_ GE123.out)|exact HB.out)⟩⟩
    case round =>
     clear H'
     try clear c1
     try clear c2
     try clear p2
     try clear c7
     try clear c9
     try clear c14
     try clear hcz11_0
     try clear hcz11_1
     try clear hcz11_2
     try clear hcz11_3
     try clear hcz11_4
     try clear hcz11_5
     try clear hcz12_0
     try clear hcz12_1
     try clear hcz12_2
     try clear hcz12_3
     try clear hcz12_4
     try clear hcz12_5
     try clear hcz9_0
     try clear hcz9_1
     try clear hcz9_2
     try clear hcz9_3
     try clear hcz9_4
     try clear hcz9_5
     try clear hfz11_0
     try clear hfz11_1
     try clear hfz11_2
     try clear hfz11_3
     try clear hfz11_4
     try clear hfz11_5
     try clear hfz12_0
     try clear hfz12_1
     try clear hfz12_2
     try clear hfz12_3
     try clear hfz12_4
     try clear hfz12_5
     try clear hfz9_0
     try clear hfz9_1
     try clear hfz9_2
     try clear hfz9_3
     try clear hfz9_4
     try clear hfz9_5
     try clear p2
     obtain ⟨x9_2,x10_2,x29_2,rfl,rfl,rfl,HA,HK2,BK123,HB⟩:=hrel
     cases gk with
     | zero=>exact absurd HA.out (by simp [spec_StripRatio.l0])
     | succ k2 =>
      have H:=HA.out
      clear HA
      simp only [spec_StripRatio.l0] at H
      by_cases c15:x29_2 < (l2.length:Int)
      ·rw [if_pos c15] at H
       have c15b0:decide (x29_2 < (l2.length:Int))=true:=decide_eq_true c15
       clear c15
       by_cases c16:0≤x29_2
       ·rw [if_pos c16] at H
        have c16b0:decide (0≤x29_2)=true:=decide_eq_true c16
        clear c16
        by_cases c17:x29_2 < (l2.length:Int)
        ·rw [if_pos c17] at H
         have c17b0:decide (x29_2 < (l2.length:Int))=true:=decide_eq_true c17
         clear c17
         by_cases c18:0≤(rd l2 x29_2)
         ·rw [if_pos c18] at H
          have c18b0:decide (0≤(rd l2 x29_2))=true:=decide_eq_true c18
          clear c18
          by_cases c19:(rd l2 x29_2) < (l1.length:Int)
          ·rw [if_pos c19] at H
           have c19b0:decide ((rd l2 x29_2) < (l1.length:Int))=true:=decide_eq_true c19
           clear c19
           by_cases c20:(rd l1 (rd l2 x29_2)) > 0
           ·rw [if_pos c20] at H
            have c20b0:decide (0 < (rd l1 (rd l2 x29_2)))=true:=decide_eq_true c20
            clear c20
            by_cases c21:(rd l2 x29_2) < (l0_3.length:Int)
            ·rw [if_pos c21] at H
             have c21b0:decide ((rd l2 x29_2) < (l0_3.length:Int))=true:=decide_eq_true c21
             clear c21
             have H':=Aside0.mk H
             clear H
             have p126:0≤(x29_2:Int):=of_decide_eq_true (by first|(with_reducible assumption)|assumption)
             have q126:x29_2 < (l2.length:Int):=of_decide_eq_true (by first|(with_reducible assumption)|assumption)
             obtain ⟨ad126,e126,hx126_0⟩:=Kd.at_int HR2.out x29_2 p126 q126
             cases e126
             replace hx126_0:=(HB.out.cell (World.block_lt_of_cell? w _ hx126_0)).trans hx126_0
             replace p126:=eq_true p126
             replace q126:=eq_true q126
             have p127:0≤((rd l2 x29_2):Int):=of_decide_eq_true (by first|(with_reducible assumption)|assumption)
             have q127:(rd l2 x29_2) < (l1.length:Int):=of_decide_eq_true (by first|(with_reducible assumption)|assumption)
             obtain ⟨ad127,e127,hx127_0⟩:=Kd.at_int HR1.out (rd l2 x29_2) p127 q127
             cases e127
             replace hx127_0:=(HB.out.cell (World.block_lt_of_cell? w _ hx127_0)).trans hx127_0
             replace p127:=eq_true p127
             replace q127:=eq_true q127
             have hcz22_0:wr.cell? ⟨gb123,0,none⟩=some (.int .i64 a0_0):=(blk_cell BK123.out 0).trans rfl
             have hcz22_1:wr.cell? ⟨gb123,1,none⟩=some (.int .i64 a0_1):=(blk_cell BK123.out 1).trans rfl
             have hcz22_2:wr.cell? ⟨gb123,2,none⟩=some (.int .i64 a0_2):=(blk_cell BK123.out 2).trans rfl
             have hcz22_3:wr.cell? ⟨gb123,3,none⟩=some (.slice A0_3 l0_3.length c0_3):=(blk_cell BK123.out 3).trans rfl
             have hcz22_4:wr.cell? ⟨gb123,4,none⟩=some (.slice A0_4 l0_4.length c0_4):=(blk_cell BK123.out 4).trans rfl
             have hcz22_5:wr.cell? ⟨gb123,5,none⟩=some (.slice A0_5 l0_5.length c0_5):=(blk_cell BK123.out 5).trans rfl
             have hfz22_0:=blk_frozen BK123.out 0
             have hfz22_1:=blk_frozen BK123.out 1
             have hfz22_2:=blk_frozen BK123.out 2
             have hfz22_3:=blk_frozen BK123.out 3
             have hfz22_4:=blk_frozen BK123.out 4
             have hfz22_5:=blk_frozen BK123.out 5
             have p128:0≤((rd l2 x29_2):Int):=of_decide_eq_true (by first|(with_reducible assumption)|assumption)
             have q128:(rd l2 x29_2) < (l0_3.length:Int):=of_decide_eq_true (by first|(with_reducible assumption)|assumption)
             obtain ⟨ad128,e128,hx128_0⟩:=Kd.at_int HR0_3.out (rd l2 x29_2) p128 q128
             cases e128
             replace hx128_0:=(HB.out.cell (World.block_lt_of_cell? w _ hx128_0)).trans hx128_0
             replace p128:=eq_true p128
             replace q128:=eq_true q128
             go_wp2
             go_roundg k2
             case measure=>have:=HJ3.out;have:=HK2.out;omega
             case rel=>exact ⟨(x9_2),(wrap64 (x10_2 + (rd l0_3 (rd l2 x29_2)))),(wrap64 (x29_2 + 1)),(by first|rfl|(simp;done)|(simp [*];done)),(by first|rfl|(simp;done)|(simp [*];done)),(by first|rfl|(simp;done)|(simp [*];done)),H',⟨by have:=HJ3.out;have:=HK2.out;omega⟩,⟨by (with_reducible repeat (first|refine blk_drewN ?_ _|refine blk_drew ?_|refine blk_alloc ?_ _));exact BK123.out⟩,⟨by repeat (first|(with_reducible first|exact HB.out|apply below_alloc|apply pw_below_drewN|apply below_drew1|refine below_set ?_ GE123.out)|exact HB.out)⟩⟩
            ·rw [if_neg c21] at H
             exact absurd H (by simp)
           ·rw [if_neg c20] at H
            have c20b0:decide (0 < (rd l1 (rd l2 x29_2)))=false:=decide_eq_false c20
            clear c20
            by_cases c23:(rd l2 x29_2) < (l0_3.length:Int)
            ·rw [if_pos c23] at H
             have c23b0:decide ((rd l2 x29_2) < (l0_3.length:Int))=true:=decide_eq_true c23
             clear c23
             have H':=Aside0.mk H
             clear H
             have p126:0≤(x29_2:Int):=of_decide_eq_true (by first|(with_reducible assumption)|assumption)
             have q126:x29_2 < (l2.length:Int):=of_decide_eq_true (by first|(with_reducible assumption)|assumption)
             obtain ⟨ad126,e126,hx126_0⟩:=Kd.at_int HR2.out x29_2 p126 q126
             cases e126
             replace hx126_0:=(HB.out.cell (World.block_lt_of_cell? w _ hx126_0)).trans hx126_0
             replace p126:=eq_true p126
             replace q126:=eq_true q126
             have p127:0≤((rd l2 x29_2):Int):=of_decide_eq_true (by first|(with_reducible assumption)|assumption)
             have q127:(rd l2 x29_2) < (l1.length:Int):=of_decide_eq_true (by first|(with_reducible assumption)|assumption)
             obtain ⟨ad127,e127,hx127_0⟩:=Kd.at_int HR1.out (rd l2 x29_2) p127 q127
             cases e127
             replace hx127_0:=(HB.out.cell (World.block_lt_of_cell? w _ hx127_0)).trans hx127_0
             replace p127:=eq_true p127
             replace q127:=eq_true q127
             have hcz24_0:wr.cell? ⟨gb123,0,none⟩=some (.int .i64 a0_0):=(blk_cell BK123.out 0).trans rfl
             have hcz24_1:wr.cell? ⟨gb123,1,none⟩=some (.int .i64 a0_1):=(blk_cell BK123.out 1).trans rfl
             have hcz24_2:wr.cell? ⟨gb123,2,none⟩=some (.int .i64 a0_2):=(blk_cell BK123.out 2).trans rfl
             have hcz24_3:wr.cell? ⟨gb123,3,none⟩=some (.slice A0_3 l0_3.length c0_3):=(blk_cell BK123.out 3).trans rfl
             have hcz24_4:wr.cell? ⟨gb123,4,none⟩=some (.slice A0_4 l0_4.length c0_4):=(blk_cell BK123.out 4).trans rfl
             have hcz24_5:wr.cell? ⟨gb123,5,none⟩=some (.slice A0_5 l0_5.length c0_5):=(blk_cell BK123.out 5).trans rfl
             have hfz24_0:=blk_frozen BK123.out 0
             have hfz24_1:=blk_frozen BK123.out 1
             have hfz24_2:=blk_frozen BK123.out 2
             have hfz24_3:=blk_frozen BK123.out 3
             have hfz24_4:=blk_frozen BK123.out 4
             have hfz24_5:=blk_frozen BK123.out 5
             have p129:0≤((rd l2 x29_2):Int):=of_decide_eq_true (by first|(with_reducible assumption)|assumption)
             have q129:(rd l2 x29_2) < (l0_3.length:Int):=of_decide_eq_true (by first|(with_reducible assumption)|assumption)
             obtain ⟨ad129,e129,hx129_0⟩:=Kd.at_int HR0_3.out (rd l2 x29_2) p129 q129
             cases e129
             replace hx129_0:=(HB.out.cell (World.block_lt_of_cell? w _ hx129_0)).trans hx129_0
             replace p129:=eq_true p129
             replace q129:=eq_true q129
             go_wp2
             go_roundg k2
             case measure=>have:=HJ3.out;have:=HK2.out;omega
             case rel=>exact ⟨(wrap64 (x9_2 + (rd l0_3 (rd l2 x29_2)))),(x10_2),(wrap64 (x29_2 + 1)),(by first|rfl|(simp;done)|(simp [*];done)),(by first|rfl|(simp;done)|(simp [*];done)),(by first|rfl|(simp;done)|(simp [*];done)),H',⟨by have:=HJ3.out;have:=HK2.out;omega⟩,⟨by (with_reducible repeat (first|refine blk_drewN ?_ _|refine blk_drew ?_|refine blk_alloc ?_ _));exact BK123.out⟩,⟨by repeat (first|(with_reducible first|exact HB.out|apply below_alloc|apply pw_below_drewN|apply below_drew1|refine below_set ?_ GE123.out)|exact HB.out)⟩⟩
            ·rw [if_neg c23] at H
             exact absurd H (by simp)
          ·rw [if_neg c19] at H
           exact absurd H (by simp)
         ·rw [if_neg c18] at H
          exact absurd H (by simp)
        ·rw [if_neg c17] at H
         exact absurd H (by simp)
       ·rw [if_neg c16] at H
        exact absurd H (by simp)
      ·rw [if_neg c15] at H
       have c15b0:decide (x29_2 < (l2.length:Int))=false:=decide_eq_false c15
       clear c15
       by_cases c25:x10_2=0
       ·rw [if_pos c25] at H
        have c25b0:(x10_2 == 0)=true:=beq_iff_eq.mpr c25
        have c25b1:(x10_2 != 0)=false:=bne_eq_false_iff_eq.mpr c25
        clear c25
        simp only [Option.some.injEq,Prod.mk.injEq] at H
        obtain ⟨rfl,rfl,rfl⟩:=H
        go_wp2
        go_ret3
        exact ⟨by first|rfl|(simp [errW_none,errW_some] <;> rfl)|(simp [*,errW_none,errW_some] <;> rfl),by repeat (first|(with_reducible first|exact HB.out|apply below_alloc|apply pw_below_drewN|apply below_drew1|refine below_set ?_ GE123.out)|exact HB.out)⟩
       ·rw [if_neg c25] at H
        have c25b0:(x10_2 == 0)=false:=beq_eq_false_iff_ne.mpr c25
        have c25b1:(x10_2 != 0)=true:=bne_iff_ne.mpr c25
        replace H:=Option.bind_eq_some_iff.mp H
        obtain ⟨⟨t130,t131⟩,A260,H⟩:=H
        replace H:(some (t130,t131,true))=some (r1,r2,r3):=H
        have A26:=Aside0.mk A260
        clear A260
        simp only [Option.some.injEq,Prod.mk.injEq] at H
        obtain ⟨rfl,rfl,rfl⟩:=H
        go_wp2_with (first|((with_reducible refine gate_callee (f:=101) rfl ?_);refine goesL_ (some 58) rfl rfl Try.func101 (by kernel_rfl) rfl #[.int .i64 x9_2,.int .i64 x10_2] rfl (by (try simp only [List.map_toArray,List.map_cons,List.map_nil]);first|done|rfl|(simp only [List.length_drop,List.length_take];rfl)) ?_;(with_reducible refine (spec_moPart.calls k2 x9_2 x10_2 t130 t131 _ A26.out).mono ?_);rintro e w' ⟨rfl,⟨nd,rfl⟩⟩;refine ⟨_,rfl,?_⟩))
        go_ret3
        exact ⟨by first|rfl|(simp [errW_none,errW_some] <;> rfl)|(simp [*,errW_none,errW_some] <;> rfl),by repeat (first|(with_reducible first|exact HB.out|apply below_alloc|apply pw_below_drewN|apply below_drew1|refine below_set ?_ GE123.out)|exact HB.out)⟩
end Go.Proofs.Ytomfjhpiemipkaa.PFnOre
end
section
namespace Go.Proofs.Ytomfjhpiemipkaa.PFnOre
open Go.RowKit Go.Proofs.YtomfjhpiemipkaaW.PrintWords Go.Proofs.YtomfjhpiemipkaaW.PrintLast Go.Proofs.YtomfjhpiemipkaaW.PrintMore
attribute [local go_sem] max2_int min2_int max_two min_two max_three min_three max_four min_four   -- for this text's walks alone
set_option linter.unusedVariables false
set_option linter.unusedSimpArgs false
def impl_AreValues.f (k:Nat) (l0:List Int) (a1:Int):Option (Bool):=if (l0.length:Int)=a1 then ((impl_goodValues.f k l0).bind fun t457=>(some t457)) else (some false)
set_option maxHeartbeats 8000000 in
set_option maxRecDepth 100000 in
theorem impl_AreValues.calls (k:Nat) (A0:Option Addr) (c0:Nat) (l0:List Int) (a1:Int) (r:Bool) (w:World) (hr0:Kd.C (Kd.int .i64) w A0 l0.length l0) (hc0:l0.length≤c0) (h:impl_AreValues.f k l0 a1=some r) :
  Calls Try.prog 56 #[.slice A0 l0.length c0,.int .i64 a1] w fun e w'=>e=.returned (.bool r)∧Drawn0 w w':=by
 have HR0:=Aside0.mk hr0
 have HC0:=Aside0.mk hc0
 clear hr0 hc0
 have H:(if (l0.length:Int)=a1 then ((impl_goodValues.f k l0).bind fun t457=>(some t457)) else (some false))=some r:=h
 clear h
 by_cases c3:(l0.length:Int)=a1
 ·rw [if_pos c3] at H
  have c3b0:((l0.length:Int) == a1)=true:=beq_iff_eq.mpr c3
  have c3b1:((l0.length:Int) != a1)=false:=bne_eq_false_iff_eq.mpr c3
  clear c3
  replace H:=Option.bind_eq_some_iff.mp H
  obtain ⟨t457,A40,H⟩:=H
  replace H:(some t457)=some r:=H
  have A4:=Aside0.mk A40
  clear A40
  obtain rfl:=Option.some.inj H
  go_enter Try.func56,Try.ntmps56
  go_wp2_with (first|(go_at_call 102;(with_reducible refine (impl_goodValues.calls k _ _ l0 t457 _ ?side1 ?side2 A4.out).mono ?_);(case side1=>repeat (first|exact HR0.out|(with_reducible refine Kd.C_alloc ?_ _)|(with_reducible refine Kd.C_drewN ?_ _)|(with_reducible refine Kd.C_drew ?_)));(case side2=>exact HC0.out);rintro e w' ⟨rfl,⟨nd,rfl⟩⟩))
  go_ret
  exact ⟨by first|rfl|(simp;done)|(simp [*];done),by repeat (first|exact Drawn0.refl _|apply Drawn0.step)⟩
 ·rw [if_neg c3] at H
  have c3b0:((l0.length:Int) == a1)=false:=beq_eq_false_iff_ne.mpr c3
  have c3b1:((l0.length:Int) != a1)=true:=bne_iff_ne.mpr c3
  obtain rfl:=Option.some.inj H
  go_enter Try.func56,Try.ntmps56
  go_wp2
  go_ret
  exact ⟨by first|rfl|(simp;done)|(simp [*];done),by repeat (first|exact Drawn0.refl _|apply Drawn0.step)⟩
end Go.Proofs.Ytomfjhpiemipkaa.PFnOre
end
section
namespace Go.Proofs.Ytomfjhpiemipkaa.PFnOre
open Go.RowKit Go.Proofs.YtomfjhpiemipkaaW.PrintWords Go.Proofs.YtomfjhpiemipkaaW.PrintLast Go.Proofs.YtomfjhpiemipkaaW.PrintMore
attribute [local go_sem] max2_int min2_int max_two min_two max_three min_three max_four min_four   -- for this text's walks alone
set_option linter.unusedVariables false
set_option linter.unusedSimpArgs false
def spec_AreValues.f (k:Nat) (l0:List Int) (a1:Int):Option (Bool):=(spec_vaGood.f k l0 a1).bind fun t458=>(some t458)
set_option maxHeartbeats 8000000 in
set_option maxRecDepth 100000 in
theorem spec_AreValues.calls (k:Nat) (A0:Option Addr) (c0:Nat) (l0:List Int) (a1:Int) (r:Bool) (w:World) (hr0:Kd.C (Kd.int .i64) w A0 l0.length l0) (hc0:l0.length≤c0) (h:spec_AreValues.f k l0 a1=some r) :
  Calls Try.prog 57 #[.slice A0 l0.length c0,.int .i64 a1] w fun e w'=>e=.returned (.bool r)∧Drawn0 w w':=by
 have HR0:=Aside0.mk hr0
 have HC0:=Aside0.mk hc0
 clear hr0 hc0
 have H:((spec_vaGood.f k l0 a1).bind fun t458=>(some t458))=some r:=h
 clear h
 replace H:=Option.bind_eq_some_iff.mp H
 obtain ⟨t458,A30,H⟩:=H
 replace H:(some t458)=some r:=H
 have A3:=Aside0.mk A30
 clear A30
 obtain rfl:=Option.some.inj H
 go_enter Try.func57,Try.ntmps57
 go_wp2_with (first|((with_reducible refine gate_callee (f:=100) rfl ?_);refine goesL_ (some 7) rfl rfl Try.func100 (by kernel_rfl) rfl #[.slice A0 l0.length c0,.int .i64 a1] rfl (by (try simp only [List.map_toArray,List.map_cons,List.map_nil]);first|done|rfl|(simp only [List.length_drop,List.length_take];rfl)) ?_;(with_reducible refine (spec_vaGood.calls k _ _ l0 a1 t458 _ ?side1 ?side2 A3.out).mono ?_);(case side1=>repeat (first|exact HR0.out|(with_reducible refine Kd.C_alloc ?_ _)|(with_reducible refine Kd.C_drewN ?_ _)|(with_reducible refine Kd.C_drew ?_)));(case side2=>exact HC0.out);rintro e w' ⟨rfl,⟨nd,rfl⟩⟩;refine ⟨_,rfl,?_⟩))
 go_ret
 exact ⟨by first|rfl|(simp;done)|(simp [*];done),by repeat (first|exact Drawn0.refl _|apply Drawn0.step)⟩
end Go.Proofs.Ytomfjhpiemipkaa.PFnOre
end
section
namespace Go.Proofs.Ytomfjhpiemipkaa.PFnOre
open Go.RowKit Go.Proofs.YtomfjhpiemipkaaW.PrintWords Go.Proofs.YtomfjhpiemipkaaW.PrintLast Go.Proofs.YtomfjhpiemipkaaW.PrintMore
attribute [local go_sem] max2_int min2_int max_two min_two max_three min_three max_four min_four   -- for this text's walks alone
set_option linter.unusedVariables false
set_option linter.unusedSimpArgs false
/-- A state of type 146 at block g of W;what its slices lead to came in by w0. -/
def IsS146 (w0 W:World) (g:Nat) (f0:List Int) (f1:Int) (f2:Int):Prop:=∃ A0 c0,W.heap[g]?=some (.cells #[.slice A0 f0.length c0,.int .i64 f1,.int .u64 f2] 146 (0,0))∧w0.heap.size≤g∧Kd.C (Kd.int .u8) w0 A0 f0.length f0
theorem IsS146.grown {w0 W:World} {g:Nat} {f0:List Int} {f1:Int} {f2:Int} {W1:World} {row:Option Nat} (h:IsS146 w0 W g f0 f1 f2) (hw:W.grownBy W1 row) (hne:some g≠row):IsS146 w0 W1 g f0 f1 f2:=by
 obtain ⟨A0,c0,hb,hg,hr0⟩:=h
 exact ⟨A0,c0,blk_grown hb hw hne,hg,hr0⟩
theorem IsS146.kept {w0 W:World} {g:Nat} {f0:List Int} {f1:Int} {f2:Int} {W1:World} {S:Nat→Prop} (h:IsS146 w0 W g f0 f1 f2) (hk:Kept W W1 S) (hne:¬ S g):IsS146 w0 W1 g f0 f1 f2:=by
 obtain ⟨A0,c0,hb,hg,hr0⟩:=h
 exact ⟨A0,c0,blk_kept hb hk hne,hg,hr0⟩
theorem IsS146.below {w0 W:World} {g:Nat} {f0:List Int} {f1:Int} {f2:Int} {W1:World} (h:IsS146 w0 W g f0 f1 f2) (hw:Below W.heap.size W W1):IsS146 w0 W1 g f0 f1 f2:=h.grown (grown_of_below hw none) (by simp)
theorem IsS146.alloc {w0 W:World} {g:Nat} {f0:List Int} {f1:Int} {f2:Int} (h:IsS146 w0 W g f0 f1 f2) (o:Obj):IsS146 w0 (W.alloc o) g f0 f1 f2:=h.below (below_alloc (Below.refl _ _) o)
theorem IsS146.drewN {w0 W:World} {g:Nat} {f0:List Int} {f1:Int} {f2:Int} (h:IsS146 w0 W g f0 f1 f2) (m:Nat):IsS146 w0 (W.drewN m) g f0 f1 f2:=h
theorem IsS146.drew {w0 W:World} {g:Nat} {f0:List Int} {f1:Int} {f2:Int} (h:IsS146 w0 W g f0 f1 f2):IsS146 w0 W.drew g f0 f1 f2:=h
theorem IsS146.at_ {w0 W:World} {g:Nat} {f0:List Int} {f1:Int} {f2:Int} {w':World} {m:Nat} (hq:W.drewN m=w') (h:IsS146 w0 W g f0 f1 f2):IsS146 w0 w' g f0 f1 f2:=by subst hq;exact IsS146.drewN h m
theorem IsS146.apart {w0 W:World} {g:Nat} {f0:List Int} {f1:Int} {f2:Int} {α:Type} {d:Kd α} {e:Nat} {base:Nat} {ok:Nat→Prop} {v:Value} {xs:List α} (h:IsS146 w0 W g f0 f1 f2) (ho:d.R e W base ok v xs) (ht:∀ q,q ∈ e :: d.E→q≠146):d.R e W base (fun k=>ok k∧k≠g) v xs:=by
 obtain ⟨A0,c0,hb,hg,hr0⟩:=h
 exact Kd.R_types ho hb ht
theorem IsS146.own_ne {w0 W:World} {g:Nat} {f0:List Int} {f1:Int} {f2:Int} {α:Type} {d:Kd α} {e:Nat} {base:Nat} {ok:Nat→Prop} {v:Value} {xs:List α} (h:IsS146 w0 W g f0 f1 f2) (ho:d.R e W base ok v xs) (ht:e≠146):some g≠v.ownBlock:=by
 obtain ⟨A0,c0,hb,hg,hr0⟩:=h
 exact Kd.R_ne ho hb ht
theorem IsS146.lt {w0 W:World} {g:Nat} {f0:List Int} {f1:Int} {f2:Int} (h:IsS146 w0 W g f0 f1 f2):g < W.heap.size:=by
 obtain ⟨A0,c0,hb,hg,hr0⟩:=h
 exact blk_lt hb
theorem IsS146.ge {w0 W:World} {g:Nat} {f0:List Int} {f1:Int} {f2:Int} (h:IsS146 w0 W g f0 f1 f2):w0.heap.size≤g:=by
 obtain ⟨A0,c0,hb,hg,hr0⟩:=h
 exact hg
theorem IsS146.far {w0 W:World} {g:Nat} {f0:List Int} {f1:Int} {f2:Int} {p:Addr} (h:IsS146 w0 W g f0 f1 f2) (hne:g≠p.block) (u:Value):IsS146 w0 (W.setCell p u) g f0 f1 f2:=by
 obtain ⟨A0,c0,hb,hg,hr0⟩:=h
 exact ⟨A0,c0,blk_far hb hne u,hg,hr0⟩
theorem cellS146_0 {W:World} {g:Nat} {A0:Option Addr} {c0:Nat} {f0:List Int} {f1:Int} {f2:Int} (h:W.heap[g]?=some (.cells #[.slice A0 f0.length c0,.int .i64 f1,.int .u64 f2] 146 (0,0))):W.cell? ⟨g,0,none⟩=some (.slice A0 f0.length c0):=(blk_cell h 0).trans rfl
theorem cellS146_1 {W:World} {g:Nat} {A0:Option Addr} {c0:Nat} {f0:List Int} {f1:Int} {f2:Int} (h:W.heap[g]?=some (.cells #[.slice A0 f0.length c0,.int .i64 f1,.int .u64 f2] 146 (0,0))):W.cell? ⟨g,1,none⟩=some (.int .i64 f1):=(blk_cell h 1).trans rfl
theorem IsS146.set_1 {w0 W:World} {g:Nat} {f0:List Int} {f1:Int} {f2:Int} (h:IsS146 w0 W g f0 f1 f2) (x:Int):IsS146 w0 (W.setCell ⟨g,1,none⟩ (.int .i64 x)) g f0 x f2:=by
 obtain ⟨A0,c0,hb,hg,hr0⟩:=h
 exact ⟨A0,c0,by simpa using blk_set hb 1 (.int .i64 x),hg,hr0⟩
theorem cellS146_2 {W:World} {g:Nat} {A0:Option Addr} {c0:Nat} {f0:List Int} {f1:Int} {f2:Int} (h:W.heap[g]?=some (.cells #[.slice A0 f0.length c0,.int .i64 f1,.int .u64 f2] 146 (0,0))):W.cell? ⟨g,2,none⟩=some (.int .u64 f2):=(blk_cell h 2).trans rfl
theorem IsS146.set_2 {w0 W:World} {g:Nat} {f0:List Int} {f1:Int} {f2:Int} (h:IsS146 w0 W g f0 f1 f2) (x:Int):IsS146 w0 (W.setCell ⟨g,2,none⟩ (.int .u64 x)) g f0 f1 x:=by
 obtain ⟨A0,c0,hb,hg,hr0⟩:=h
 exact ⟨A0,c0,by simpa using blk_set hb 2 (.int .u64 x),hg,hr0⟩
def spec_l1Cur_next.f (s0_0:List Int) (s0_1:Int) (s0_2:Int):Option (Int × Int × Int):=if s0_1 < (s0_0.length:Int) then (if 0≤s0_1 then (if (wrap64 (s0_1 + 1))≤(s0_0.length:Int) then (some (wrap64 (rd s0_0 s0_1),wrap64 (s0_1 + 1),IntKind.u64.wrap ((IntKind.u64.wrap ((IntKind.u64.wrap (s0_2 * 6364136223846793005)) + (IntKind.u64.wrap (wrap64 (rd s0_0 s0_1))))) + 1442695040888963407))) else (some (wrap64 (Go.bits .and .u64 ((IntKind.u64.wrap ((IntKind.u64.wrap ((IntKind.u64.wrap (s0_2 * 6364136223846793005)) + (IntKind.u64.wrap (wrap64 (rd s0_0 s0_1))))) + 1442695040888963407)) / 1099511627776) 255),wrap64 (s0_1 + 1),IntKind.u64.wrap ((IntKind.u64.wrap ((IntKind.u64.wrap (s0_2 * 6364136223846793005)) + (IntKind.u64.wrap (wrap64 (rd s0_0 s0_1))))) + 1442695040888963407)))) else (none)) else (if (wrap64 (s0_1 + 1))≤(s0_0.length:Int) then (some (0,wrap64 (s0_1 + 1),IntKind.u64.wrap ((IntKind.u64.wrap ((IntKind.u64.wrap (s0_2 * 6364136223846793005)) + 0)) + 1442695040888963407))) else (some (wrap64 (Go.bits .and .u64 ((IntKind.u64.wrap ((IntKind.u64.wrap ((IntKind.u64.wrap (s0_2 * 6364136223846793005)) + 0)) + 1442695040888963407)) / 1099511627776) 255),wrap64 (s0_1 + 1),IntKind.u64.wrap ((IntKind.u64.wrap ((IntKind.u64.wrap (s0_2 * 6364136223846793005)) + 0)) + 1442695040888963407))))
set_option maxHeartbeats 8000000 in
set_option maxRecDepth 100000 in
theorem spec_l1Cur_next.calls (g:Nat) (s0_0:List Int) (s0_1:Int) (s0_2:Int) (r1:Int) (r2:Int) (r3:Int) (w0 w:World) (hI:IsS146 w0 w g s0_0 s0_1 s0_2) (hB:Below w0.heap.size w0 w) (h:spec_l1Cur_next.f s0_0 s0_1 s0_2=some (r1,r2,r3)) :
  Calls Try.prog 185 #[.pointer (some ⟨g,0,none⟩)] w fun e w'=>e=.returned (.int .i64 r1)∧IsS146 w0 w' g s0_0 r2 r3∧Below w0.heap.size w0 w'∧KeepBut w w' g none:=by
 have HI0:=Aside0.mk hI
 have HK:=Aside0.mk (KeepBut.refl w g none)
 have HL:=Aside0.mk hB.size
 clear hI
 have HW0:=Aside0.mk hB.size
 have HB:=Aside0.mk hB
 clear hB
 have H:(if s0_1 < (s0_0.length:Int) then (if 0≤s0_1 then (if (wrap64 (s0_1 + 1))≤(s0_0.length:Int) then (some (wrap64 (rd s0_0 s0_1),wrap64 (s0_1 + 1),IntKind.u64.wrap ((IntKind.u64.wrap ((IntKind.u64.wrap (s0_2 * 6364136223846793005)) + (IntKind.u64.wrap (wrap64 (rd s0_0 s0_1))))) + 1442695040888963407))) else (some (wrap64 (Go.bits .and .u64 ((IntKind.u64.wrap ((IntKind.u64.wrap ((IntKind.u64.wrap (s0_2 * 6364136223846793005)) + (IntKind.u64.wrap (wrap64 (rd s0_0 s0_1))))) + 1442695040888963407)) / 1099511627776) 255),wrap64 (s0_1 + 1),IntKind.u64.wrap ((IntKind.u64.wrap ((IntKind.u64.wrap (s0_2 * 6364136223846793005)) + (IntKind.u64.wrap (wrap64 (rd s0_0 s0_1))))) + 1442695040888963407)))) else (none)) else (if (wrap64 (s0_1 + 1))≤(s0_0.length:Int) then (some (0,wrap64 (s0_1 + 1),IntKind.u64.wrap ((IntKind.u64.wrap ((IntKind.u64.wrap (s0_2 * 6364136223846793005)) + 0)) + 1442695040888963407))) else (some (wrap64 (Go.bits .and .u64 ((IntKind.u64.wrap ((IntKind.u64.wrap ((IntKind.u64.wrap (s0_2 * 6364136223846793005)) + 0)) + 1442695040888963407)) / 1099511627776) 255),wrap64 (s0_1 + 1),IntKind.u64.wrap ((IntKind.u64.wrap ((IntKind.u64.wrap (s0_2 * 6364136223846793005)) + 0)) + 1442695040888963407)))))=some (r1,r2,r3):=h
 clear h
 by_cases c2:s0_1 < (s0_0.length:Int)
 ·rw [if_pos c2] at H
  have c2b0:decide (s0_1 < (s0_0.length:Int))=true:=decide_eq_true c2
  clear c2
  by_cases c3:0≤s0_1
  ·rw [if_pos c3] at H
   have c3b0:decide (0≤s0_1)=true:=decide_eq_true c3
   clear c3
   by_cases c4:(wrap64 (s0_1 + 1))≤(s0_0.length:Int)
   ·rw [if_pos c4] at H
    have c4b0:decide ((wrap64 (s0_1 + 1))≤(s0_0.length:Int))=true:=decide_eq_true c4
    clear c4
    simp only [Option.some.injEq,Prod.mk.injEq] at H
    obtain ⟨rfl,rfl,rfl⟩:=H
    obtain ⟨ASz5_0,cSz5_0,HGz5,hgz5,HSz5_0⟩:=HI0.out
    have hcz5_0:=cellS146_0 HGz5
    have hcz5_1:=cellS146_1 HGz5
    have hcz5_2:=cellS146_2 HGz5
    have hfz5_1:=blk_frozen HGz5 1
    have hfz5_2:=blk_frozen HGz5 2
    clear HGz5 hgz5
    have p157:0≤(s0_1:Int):=of_decide_eq_true (by first|(with_reducible assumption)|assumption)
    have q157:s0_1 < (s0_0.length:Int):=of_decide_eq_true (by first|(with_reducible assumption)|assumption)
    obtain ⟨ad157,e157,hx157_0⟩:=Kd.at_int HSz5_0 s0_1 p157 q157
    cases e157
    replace hx157_0:=pw_cell_below HB.out hx157_0
    replace p157:=eq_true p157
    replace q157:=eq_true q157
    go_enter Try.func185,Try.ntmps185
    go_wp2
    repeat (go_quiet (fail);try go_wp2)
    go_ret
    exact ⟨by first|rfl|(simp [errW_none,errW_some] <;> rfl)|(simp [*,errW_none,errW_some] <;> rfl),by first|exact IsS146.drewN (IsS146.set_2 (IsS146.set_1 (IsS146.drewN HI0.out _) _) _) _|exact IsS146.set_2 (IsS146.set_1 (IsS146.drewN HI0.out _) _) _|exact IsS146.drewN (IsS146.set_2 (IsS146.set_1 HI0.out _) _) _|exact IsS146.set_2 (IsS146.set_1 HI0.out _) _|(rw [Int.add_zero];first|exact IsS146.drewN (IsS146.set_2 (IsS146.set_1 (IsS146.drewN HI0.out _) _) _) _|exact IsS146.set_2 (IsS146.set_1 (IsS146.drewN HI0.out _) _) _|exact IsS146.drewN (IsS146.set_2 (IsS146.set_1 HI0.out _) _) _|exact IsS146.set_2 (IsS146.set_1 HI0.out _) _),by repeat (first|(with_reducible first|exact HB.out|apply below_alloc|apply pw_below_drewN|apply below_drew1|refine below_set ?_ (IsS146.ge HI0.out))|exact HB.out),by repeat (first|(with_reducible first|exact HK.out|apply KeepBut.set_|apply keep_drewN|apply keep_drew|apply keep_alloc)|exact HK.out)⟩
   ·rw [if_neg c4] at H
    have c4b0:decide ((wrap64 (s0_1 + 1))≤(s0_0.length:Int))=false:=decide_eq_false c4
    clear c4
    simp only [Option.some.injEq,Prod.mk.injEq] at H
    obtain ⟨rfl,rfl,rfl⟩:=H
    obtain ⟨ASz6_0,cSz6_0,HGz6,hgz6,HSz6_0⟩:=HI0.out
    have hcz6_0:=cellS146_0 HGz6
    have hcz6_1:=cellS146_1 HGz6
    have hcz6_2:=cellS146_2 HGz6
    have hfz6_1:=blk_frozen HGz6 1
    have hfz6_2:=blk_frozen HGz6 2
    clear HGz6 hgz6
    have p157:0≤(s0_1:Int):=of_decide_eq_true (by first|(with_reducible assumption)|assumption)
    have q157:s0_1 < (s0_0.length:Int):=of_decide_eq_true (by first|(with_reducible assumption)|assumption)
    obtain ⟨ad157,e157,hx157_0⟩:=Kd.at_int HSz6_0 s0_1 p157 q157
    cases e157
    replace hx157_0:=pw_cell_below HB.out hx157_0
    replace p157:=eq_true p157
    replace q157:=eq_true q157
    go_enter Try.func185,Try.ntmps185
    go_wp2
    repeat (go_quiet (fail);try go_wp2)
    go_ret
    exact ⟨by first|rfl|(simp [errW_none,errW_some] <;> rfl)|(simp [*,errW_none,errW_some] <;> rfl),by first|exact IsS146.drewN (IsS146.set_2 (IsS146.set_1 (IsS146.drewN HI0.out _) _) _) _|exact IsS146.set_2 (IsS146.set_1 (IsS146.drewN HI0.out _) _) _|exact IsS146.drewN (IsS146.set_2 (IsS146.set_1 HI0.out _) _) _|exact IsS146.set_2 (IsS146.set_1 HI0.out _) _|(rw [Int.add_zero];first|exact IsS146.drewN (IsS146.set_2 (IsS146.set_1 (IsS146.drewN HI0.out _) _) _) _|exact IsS146.set_2 (IsS146.set_1 (IsS146.drewN HI0.out _) _) _|exact IsS146.drewN (IsS146.set_2 (IsS146.set_1 HI0.out _) _) _|exact IsS146.set_2 (IsS146.set_1 HI0.out _) _),by repeat (first|(with_reducible first|exact HB.out|apply below_alloc|apply pw_below_drewN|apply below_drew1|refine below_set ?_ (IsS146.ge HI0.out))|exact HB.out),by repeat (first|(with_reducible first|exact HK.out|apply KeepBut.set_|apply keep_drewN|apply keep_drew|apply keep_alloc)|exact HK.out)⟩
  ·rw [if_neg c3] at H
   exact absurd H (by simp)
 ·rw [if_neg c2] at H
  have c2b0:decide (s0_1 < (s0_0.length:Int))=false:=decide_eq_false c2
  clear c2
  by_cases c7:(wrap64 (s0_1 + 1))≤(s0_0.length:Int)
  ·rw [if_pos c7] at H
   have c7b0:decide ((wrap64 (s0_1 + 1))≤(s0_0.length:Int))=true:=decide_eq_true c7
   clear c7
   simp only [Option.some.injEq,Prod.mk.injEq] at H
   obtain ⟨rfl,rfl,rfl⟩:=H
   obtain ⟨ASz8_0,cSz8_0,HGz8,hgz8,HSz8_0⟩:=HI0.out
   have hcz8_0:=cellS146_0 HGz8
   have hcz8_1:=cellS146_1 HGz8
   have hcz8_2:=cellS146_2 HGz8
   have hfz8_1:=blk_frozen HGz8 1
   have hfz8_2:=blk_frozen HGz8 2
   clear HGz8 hgz8
   go_enter Try.func185,Try.ntmps185
   go_wp2
   repeat (go_quiet (fail);try go_wp2)
   go_ret
   exact ⟨by first|rfl|(simp [errW_none,errW_some] <;> rfl)|(simp [*,errW_none,errW_some] <;> rfl),by first|exact IsS146.drewN (IsS146.set_2 (IsS146.set_1 (IsS146.drewN HI0.out _) _) _) _|exact IsS146.set_2 (IsS146.set_1 (IsS146.drewN HI0.out _) _) _|exact IsS146.drewN (IsS146.set_2 (IsS146.set_1 HI0.out _) _) _|exact IsS146.set_2 (IsS146.set_1 HI0.out _) _|(rw [Int.add_zero];first|exact IsS146.drewN (IsS146.set_2 (IsS146.set_1 (IsS146.drewN HI0.out _) _) _) _|exact IsS146.set_2 (IsS146.set_1 (IsS146.drewN HI0.out _) _) _|exact IsS146.drewN (IsS146.set_2 (IsS146.set_1 HI0.out _) _) _|exact IsS146.set_2 (IsS146.set_1 HI0.out _) _),by repeat (first|(with_reducible first|exact HB.out|apply below_alloc|apply pw_below_drewN|apply below_drew1|refine below_set ?_ (IsS146.ge HI0.out))|exact HB.out),by repeat (first|(with_reducible first|exact HK.out|apply KeepBut.set_|apply keep_drewN|apply keep_drew|apply keep_alloc)|exact HK.out)⟩
  ·rw [if_neg c7] at H
   have c7b0:decide ((wrap64 (s0_1 + 1))≤(s0_0.length:Int))=false:=decide_eq_false c7
   clear c7
   simp only [Option.some.injEq,Prod.mk.injEq] at H
   obtain ⟨rfl,rfl,rfl⟩:=H
   obtain ⟨ASz9_0,cSz9_0,HGz9,hgz9,HSz9_0⟩:=HI0.out
   have hcz9_0:=cellS146_0 HGz9
   have hcz9_1:=cellS146_1 HGz9
   have hcz9_2:=cellS146_2 HGz9
   have hfz9_1:=blk_frozen HGz9 1
   have hfz9_2:=blk_frozen HGz9 2
   clear HGz9 hgz9
   go_enter Try.func185,Try.ntmps185
   go_wp2
   repeat (go_quiet (fail);try go_wp2)
   go_ret
   exact ⟨by first|rfl|(simp [errW_none,errW_some] <;> rfl)|(simp [*,errW_none,errW_some] <;> rfl),by first|exact IsS146.drewN (IsS146.set_2 (IsS146.set_1 (IsS146.drewN HI0.out _) _) _) _|exact IsS146.set_2 (IsS146.set_1 (IsS146.drewN HI0.out _) _) _|exact IsS146.drewN (IsS146.set_2 (IsS146.set_1 HI0.out _) _) _|exact IsS146.set_2 (IsS146.set_1 HI0.out _) _|(rw [Int.add_zero];first|exact IsS146.drewN (IsS146.set_2 (IsS146.set_1 (IsS146.drewN HI0.out _) _) _) _|exact IsS146.set_2 (IsS146.set_1 (IsS146.drewN HI0.out _) _) _|exact IsS146.drewN (IsS146.set_2 (IsS146.set_1 HI0.out _) _) _|exact IsS146.set_2 (IsS146.set_1 HI0.out _) _),by repeat (first|(with_reducible first|exact HB.out|apply below_alloc|apply pw_below_drewN|apply below_drew1|refine below_set ?_ (IsS146.ge HI0.out))|exact HB.out),by repeat (first|(with_reducible first|exact HK.out|apply KeepBut.set_|apply keep_drewN|apply keep_drew|apply keep_alloc)|exact HK.out)⟩
end Go.Proofs.Ytomfjhpiemipkaa.PFnOre
end
section
namespace Go.Proofs.Ytomfjhpiemipkaa.PFnOre
open Go.RowKit Go.Proofs.YtomfjhpiemipkaaW.PrintWords Go.Proofs.YtomfjhpiemipkaaW.PrintLast Go.Proofs.YtomfjhpiemipkaaW.PrintMore
attribute [local go_sem] max2_int min2_int max_two min_two max_three min_three max_four min_four   -- for this text's walks alone
set_option linter.unusedVariables false
set_option linter.unusedSimpArgs false
def spec_l1Cur_pick.f (s0_0:List Int) (s0_1:Int) (s0_2:Int) (a1:Int):Option (Int × Int × Int):=if a1≤1 then (some (0,s0_1,s0_2)) else ((spec_l1Cur_next.f s0_0 s0_1 s0_2).bind fun bt158=>(if a1 > 200 then ((spec_l1Cur_next.f s0_0 bt158.2.1 bt158.2.2).bind fun bt161=>(if a1=0 then (none) else (some (Int.tmod (wrap64 ((wrap64 (bt158.1 * 256)) + bt161.1)) a1,bt161.2.1,bt161.2.2)))) else (if a1=0 then (none) else (some (Int.tmod bt158.1 a1,bt158.2.1,bt158.2.2)))))
set_option maxHeartbeats 8000000 in
set_option maxRecDepth 100000 in
theorem spec_l1Cur_pick.calls (g:Nat) (s0_0:List Int) (s0_1:Int) (s0_2:Int) (a1:Int) (r1:Int) (r2:Int) (r3:Int) (w0 w:World) (hI:IsS146 w0 w g s0_0 s0_1 s0_2) (hB:Below w0.heap.size w0 w) (h:spec_l1Cur_pick.f s0_0 s0_1 s0_2 a1=some (r1,r2,r3)) :
  Calls Try.prog 135 #[.pointer (some ⟨g,0,none⟩),.int .i64 a1] w fun e w'=>e=.returned (.int .i64 r1)∧IsS146 w0 w' g s0_0 r2 r3∧Below w0.heap.size w0 w'∧KeepBut w w' g none:=by
 have HI0:=Aside0.mk hI
 have HK:=Aside0.mk (KeepBut.refl w g none)
 have HL:=Aside0.mk hB.size
 clear hI
 have HW0:=Aside0.mk hB.size
 have HB:=Aside0.mk hB
 clear hB
 have H:(if a1≤1 then (some (0,s0_1,s0_2)) else ((spec_l1Cur_next.f s0_0 s0_1 s0_2).bind fun bt158=>(if a1 > 200 then ((spec_l1Cur_next.f s0_0 bt158.2.1 bt158.2.2).bind fun bt161=>(if a1=0 then (none) else (some (Int.tmod (wrap64 ((wrap64 (bt158.1 * 256)) + bt161.1)) a1,bt161.2.1,bt161.2.2)))) else (if a1=0 then (none) else (some (Int.tmod bt158.1 a1,bt158.2.1,bt158.2.2))))))=some (r1,r2,r3):=h
 clear h
 by_cases c3:a1≤1
 ·rw [if_pos c3] at H
  have c3b0:decide (a1≤1)=true:=decide_eq_true c3
  clear c3
  simp only [Option.some.injEq,Prod.mk.injEq] at H
  obtain ⟨rfl,rfl,rfl⟩:=H
  go_enter Try.func135,Try.ntmps135
  go_wp2
  go_ret
  exact ⟨by first|rfl|(simp [errW_none,errW_some] <;> rfl)|(simp [*,errW_none,errW_some] <;> rfl),by repeat (first|(with_reducible first|exact HI0.out|apply IsS146.alloc|apply IsS146.drewN|apply IsS146.drew|apply IsS146.set_1|apply IsS146.set_2)|exact HI0.out),by repeat (first|(with_reducible first|exact HB.out|apply below_alloc|apply pw_below_drewN|apply below_drew1|refine below_set ?_ (IsS146.ge HI0.out))|exact HB.out),by repeat (first|(with_reducible first|exact HK.out|apply KeepBut.set_|apply keep_drewN|apply keep_drew|apply keep_alloc)|exact HK.out)⟩
 ·rw [if_neg c3] at H
  have c3b0:decide (a1≤1)=false:=decide_eq_false c3
  clear c3
  replace H:=Option.bind_eq_some_iff.mp H
  obtain ⟨⟨t158,t159,t160⟩,A40,H⟩:=H
  replace H:(if a1 > 200 then ((spec_l1Cur_next.f s0_0 t159 t160).bind fun bt161=>(if a1=0 then (none) else (some (Int.tmod (wrap64 ((wrap64 (t158 * 256)) + bt161.1)) a1,bt161.2.1,bt161.2.2)))) else (if a1=0 then (none) else (some (Int.tmod t158 a1,t159,t160))))=some (r1,r2,r3):=H
  have A4:=Aside0.mk A40
  clear A40
  by_cases c5:a1 > 200
  ·rw [if_pos c5] at H
   have c5b0:decide (200 < a1)=true:=decide_eq_true c5
   clear c5
   replace H:=Option.bind_eq_some_iff.mp H
   obtain ⟨⟨t161,t162,t163⟩,A60,H⟩:=H
   replace H:(if a1=0 then (none) else (some (Int.tmod (wrap64 ((wrap64 (t158 * 256)) + t161)) a1,t162,t163)))=some (r1,r2,r3):=H
   have A6:=Aside0.mk A60
   clear A60
   by_cases c7:a1=0
   ·rw [if_pos c7] at H
    exact absurd H (by simp)
   ·rw [if_neg c7] at H
    have c7b0:(a1 == 0)=false:=beq_eq_false_iff_ne.mpr c7
    have c7b1:(a1 != 0)=true:=bne_iff_ne.mpr c7
    simp only [Option.some.injEq,Prod.mk.injEq] at H
    obtain ⟨rfl,rfl,rfl⟩:=H
    go_enter Try.func135,Try.ntmps135
    go_wp2_with (first|((with_reducible refine gate_callee (f:=185) rfl ?_);refine goesL_ (some 9) rfl rfl Try.func185 (by kernel_rfl) rfl #[.pointer (some ⟨g,0,none⟩)] rfl (by (try simp only [List.map_toArray,List.map_cons,List.map_nil]);first|done|rfl|(simp only [List.length_drop,List.length_take];rfl)) ?_;(with_reducible refine (spec_l1Cur_next.calls g s0_0 s0_1 s0_2 t158 t159 t160 w0 _ ?side1 ?side2 A4.out).mono ?_);(case side1=>repeat (first|(with_reducible first|exact HI0.out|apply IsS146.alloc|apply IsS146.drewN|apply IsS146.drew|apply IsS146.set_1|apply IsS146.set_2)|exact HI0.out));(case side2=>repeat (first|(with_reducible first|exact HB.out|apply below_alloc|apply pw_below_drewN|apply below_drew1|refine below_set ?_ (IsS146.ge HI0.out))|exact HB.out));rintro e w8 ⟨rfl,hi,hb,hk⟩;refine ⟨_,rfl,?_⟩;have n0_:=Aside0.mk (KeepBut.trans (by repeat (first|(with_reducible first|exact HK.out|apply KeepBut.set_|apply keep_drewN|apply keep_drew|apply keep_alloc)|exact HK.out)) hk (.inl rfl));have n1_:=Aside0.mk (hb);have n2_:=Aside0.mk (hi);clear HK;clear HB;clear HI0;have HK:=n0_;have HB:=n1_;have HI0:=n2_;clear n0_ n1_ n2_;(try clear hb);(try clear hb2);(try clear hk);(try clear hi))|((with_reducible refine gate_callee (f:=185) rfl ?_);refine goesL_ (some 15) rfl rfl Try.func185 (by kernel_rfl) rfl #[.pointer (some ⟨g,0,none⟩)] rfl (by (try simp only [List.map_toArray,List.map_cons,List.map_nil]);first|done|rfl|(simp only [List.length_drop,List.length_take];rfl)) ?_;(with_reducible refine (spec_l1Cur_next.calls g s0_0 t159 t160 t161 t162 t163 w0 _ ?side1 ?side2 A6.out).mono ?_);(case side1=>repeat (first|(with_reducible first|exact HI0.out|apply IsS146.alloc|apply IsS146.drewN|apply IsS146.drew|apply IsS146.set_1|apply IsS146.set_2)|exact HI0.out));(case side2=>repeat (first|(with_reducible first|exact HB.out|apply below_alloc|apply pw_below_drewN|apply below_drew1|refine below_set ?_ (IsS146.ge HI0.out))|exact HB.out));rintro e w9 ⟨rfl,hi,hb,hk⟩;refine ⟨_,rfl,?_⟩;have n0_:=Aside0.mk (KeepBut.trans (by repeat (first|(with_reducible first|exact HK.out|apply KeepBut.set_|apply keep_drewN|apply keep_drew|apply keep_alloc)|exact HK.out)) hk (.inl rfl));have n1_:=Aside0.mk (hb);have n2_:=Aside0.mk (hi);clear HK;clear HB;clear HI0;have HK:=n0_;have HB:=n1_;have HI0:=n2_;clear n0_ n1_ n2_;(try clear hb);(try clear hb2);(try clear hk);(try clear hi)))
    go_ret
    exact ⟨by first|rfl|(simp [errW_none,errW_some] <;> rfl)|(simp [*,errW_none,errW_some] <;> rfl),by repeat (first|(with_reducible first|exact HI0.out|apply IsS146.alloc|apply IsS146.drewN|apply IsS146.drew|apply IsS146.set_1|apply IsS146.set_2)|exact HI0.out),by repeat (first|(with_reducible first|exact HB.out|apply below_alloc|apply pw_below_drewN|apply below_drew1|refine below_set ?_ (IsS146.ge HI0.out))|exact HB.out),by repeat (first|(with_reducible first|exact HK.out|apply KeepBut.set_|apply keep_drewN|apply keep_drew|apply keep_alloc)|exact HK.out)⟩
  ·rw [if_neg c5] at H
   have c5b0:decide (200 < a1)=false:=decide_eq_false c5
   clear c5
   by_cases c10:a1=0
   ·rw [if_pos c10] at H
    exact absurd H (by simp)
   ·rw [if_neg c10] at H
    have c10b0:(a1 == 0)=false:=beq_eq_false_iff_ne.mpr c10
    have c10b1:(a1 != 0)=true:=bne_iff_ne.mpr c10
    simp only [Option.some.injEq,Prod.mk.injEq] at H
    obtain ⟨rfl,rfl,rfl⟩:=H
    go_enter Try.func135,Try.ntmps135
    go_wp2_with (first|((with_reducible refine gate_callee (f:=185) rfl ?_);refine goesL_ (some 9) rfl rfl Try.func185 (by kernel_rfl) rfl #[.pointer (some ⟨g,0,none⟩)] rfl (by (try simp only [List.map_toArray,List.map_cons,List.map_nil]);first|done|rfl|(simp only [List.length_drop,List.length_take];rfl)) ?_;(with_reducible refine (spec_l1Cur_next.calls g s0_0 s0_1 s0_2 t158 t159 t160 w0 _ ?side1 ?side2 A4.out).mono ?_);(case side1=>repeat (first|(with_reducible first|exact HI0.out|apply IsS146.alloc|apply IsS146.drewN|apply IsS146.drew|apply IsS146.set_1|apply IsS146.set_2)|exact HI0.out));(case side2=>repeat (first|(with_reducible first|exact HB.out|apply below_alloc|apply pw_below_drewN|apply below_drew1|refine below_set ?_ (IsS146.ge HI0.out))|exact HB.out));rintro e w11 ⟨rfl,hi,hb,hk⟩;refine ⟨_,rfl,?_⟩;have n0_:=Aside0.mk (KeepBut.trans (by repeat (first|(with_reducible first|exact HK.out|apply KeepBut.set_|apply keep_drewN|apply keep_drew|apply keep_alloc)|exact HK.out)) hk (.inl rfl));have n1_:=Aside0.mk (hb);have n2_:=Aside0.mk (hi);clear HK;clear HB;clear HI0;have HK:=n0_;have HB:=n1_;have HI0:=n2_;clear n0_ n1_ n2_;(try clear hb);(try clear hb2);(try clear hk);(try clear hi)))
    go_ret
    exact ⟨by first|rfl|(simp [errW_none,errW_some] <;> rfl)|(simp [*,errW_none,errW_some] <;> rfl),by repeat (first|(with_reducible first|exact HI0.out|apply IsS146.alloc|apply IsS146.drewN|apply IsS146.drew|apply IsS146.set_1|apply IsS146.set_2)|exact HI0.out),by repeat (first|(with_reducible first|exact HB.out|apply below_alloc|apply pw_below_drewN|apply below_drew1|refine below_set ?_ (IsS146.ge HI0.out))|exact HB.out),by repeat (first|(with_reducible first|exact HK.out|apply KeepBut.set_|apply keep_drewN|apply keep_drew|apply keep_alloc)|exact HK.out)⟩
end Go.Proofs.Ytomfjhpiemipkaa.PFnOre
end
section
namespace Go.Proofs.Ytomfjhpiemipkaa.PFnOre
open Go.RowKit Go.Proofs.YtomfjhpiemipkaaW.PrintWords Go.Proofs.YtomfjhpiemipkaaW.PrintLast Go.Proofs.YtomfjhpiemipkaaW.PrintMore
attribute [local go_sem] max2_int min2_int max_two min_two max_three min_three max_four min_four   -- for this text's walks alone
set_option linter.unusedVariables false
set_option linter.unusedSimpArgs false
def spec_l1Cur_among.f (s0_0:List Int) (s0_1:Int) (s0_2:Int) (l1:List Int):Option (Int × Int × Int):=(spec_l1Cur_pick.f s0_0 s0_1 s0_2 (l1.length:Int)).bind fun bt164=>(if 0≤bt164.1 then (if bt164.1 < (l1.length:Int) then (some (rd l1 bt164.1,bt164.2.1,bt164.2.2)) else (none)) else (none))
set_option maxHeartbeats 8000000 in
set_option maxRecDepth 100000 in
theorem spec_l1Cur_among.calls (g:Nat) (s0_0:List Int) (s0_1:Int) (s0_2:Int) (A1:Option Addr) (c1:Nat) (l1:List Int) (r1:Int) (r2:Int) (r3:Int) (w0 w:World) (hI:IsS146 w0 w g s0_0 s0_1 s0_2) (hB:Below w0.heap.size w0 w) (hr1:Kd.C (Kd.int .i64) w A1 l1.length l1) (hc1:l1.length≤c1) (hf1:∀ ad,A1=some ad→0 < l1.length→ad.block≠g) (h:spec_l1Cur_among.f s0_0 s0_1 s0_2 l1=some (r1,r2,r3)) :
  Calls Try.prog 128 #[.pointer (some ⟨g,0,none⟩),.slice A1 l1.length c1] w fun e w'=>e=.returned (.int .i64 r1)∧IsS146 w0 w' g s0_0 r2 r3∧Below w0.heap.size w0 w'∧KeepBut w w' g none:=by
 have HR1:=Aside0.mk hr1
 have HC1:=Aside0.mk hc1
 clear hr1 hc1
 have HI0:=Aside0.mk hI
 have HK:=Aside0.mk (KeepBut.refl w g none)
 have HL:=Aside0.mk hB.size
 clear hI
 have HW0:=Aside0.mk hB.size
 have HB:=Aside0.mk hB
 clear hB
 have H:((spec_l1Cur_pick.f s0_0 s0_1 s0_2 (l1.length:Int)).bind fun bt164=>(if 0≤bt164.1 then (if bt164.1 < (l1.length:Int) then (some (rd l1 bt164.1,bt164.2.1,bt164.2.2)) else (none)) else (none)))=some (r1,r2,r3):=h
 clear h
 replace H:=Option.bind_eq_some_iff.mp H
 obtain ⟨⟨t164,t165,t166⟩,A30,H⟩:=H
 replace H:(if 0≤t164 then (if t164 < (l1.length:Int) then (some (rd l1 t164,t165,t166)) else (none)) else (none))=some (r1,r2,r3):=H
 have A3:=Aside0.mk A30
 clear A30
 by_cases c4:0≤t164
 ·rw [if_pos c4] at H
  have c4b0:decide (0≤t164)=true:=decide_eq_true c4
  clear c4
  by_cases c5:t164 < (l1.length:Int)
  ·rw [if_pos c5] at H
   have c5b0:decide (t164 < (l1.length:Int))=true:=decide_eq_true c5
   clear c5
   simp only [Option.some.injEq,Prod.mk.injEq] at H
   obtain ⟨rfl,rfl,rfl⟩:=H
   go_enter Try.func128,Try.ntmps128
   go_wp2_with (first|((with_reducible refine gate_callee (f:=135) rfl ?_);refine goesL_ (some 9) rfl rfl Try.func135 (by kernel_rfl) rfl #[.pointer (some ⟨g,0,none⟩),.int .i64 (l1.length:Int)] rfl (by (try simp only [List.map_toArray,List.map_cons,List.map_nil]);first|done|rfl|(simp only [List.length_drop,List.length_take];rfl)) ?_;(with_reducible refine (spec_l1Cur_pick.calls g s0_0 s0_1 s0_2 (l1.length:Int) t164 t165 t166 w0 _ ?side1 ?side2 A3.out).mono ?_);(case side1=>repeat (first|(with_reducible first|exact HI0.out|apply IsS146.alloc|apply IsS146.drewN|apply IsS146.drew|apply IsS146.set_1|apply IsS146.set_2)|exact HI0.out));(case side2=>repeat (first|(with_reducible first|exact HB.out|apply below_alloc|apply pw_below_drewN|apply below_drew1|refine below_set ?_ (IsS146.ge HI0.out))|exact HB.out));rintro e w6 ⟨rfl,hi,hb,hk⟩;refine ⟨_,rfl,?_⟩;have n0_:=Aside0.mk (KeepBut.trans (by repeat (first|(with_reducible first|exact HK.out|apply KeepBut.set_|apply keep_drewN|apply keep_drew|apply keep_alloc)|exact HK.out)) hk (.inl rfl));have n1_:=Aside0.mk (hb);have n2_:=Aside0.mk (hi);clear HK;clear HB;clear HI0;have HK:=n0_;have HB:=n1_;have HI0:=n2_;clear n0_ n1_ n2_;(try clear hb);(try clear hb2);(try clear hk);(try clear hi);have p167:0≤(t164:Int):=of_decide_eq_true (by first|(with_reducible assumption)|assumption);have q167:t164 < (l1.length:Int):=of_decide_eq_true (by first|(with_reducible assumption)|assumption);obtain ⟨ad167,e167,hx167_0⟩:=Kd.at_int HR1.out t164 p167 q167;cases e167;replace hx167_0:=keep_cell HK.out hx167_0 (by first|(rw [add_block];exact hf1 _ rfl (by omega))|exact hf1 _ rfl (by omega)|exact hf1 ad167 rfl (by omega));replace p167:=eq_true p167;replace q167:=eq_true q167))
   go_ret
   exact ⟨by first|rfl|(simp [errW_none,errW_some] <;> rfl)|(simp [*,errW_none,errW_some] <;> rfl),by repeat (first|(with_reducible first|exact HI0.out|apply IsS146.alloc|apply IsS146.drewN|apply IsS146.drew|apply IsS146.set_1|apply IsS146.set_2)|exact HI0.out),by repeat (first|(with_reducible first|exact HB.out|apply below_alloc|apply pw_below_drewN|apply below_drew1|refine below_set ?_ (IsS146.ge HI0.out))|exact HB.out),by repeat (first|(with_reducible first|exact HK.out|apply KeepBut.set_|apply keep_drewN|apply keep_drew|apply keep_alloc)|exact HK.out)⟩
  ·rw [if_neg c5] at H
   exact absurd H (by simp)
 ·rw [if_neg c4] at H
  exact absurd H (by simp)
end Go.Proofs.Ytomfjhpiemipkaa.PFnOre
end
