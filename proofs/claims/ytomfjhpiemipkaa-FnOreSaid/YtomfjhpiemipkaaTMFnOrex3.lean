/- Texts that print.sh has printed for the law FnOre,one function each,put together in one file: contracts of its functions. -/
import Derived.Test.YtomfjhpiemipkaaTMFnOrex0
import Derived.Test.YtomfjhpiemipkaaTMFnOrex1
import Derived.Test.YtomfjhpiemipkaaTMFnOrex2
section
namespace Go.Proofs.Ytomfjhpiemipkaa.PFnOre
open Go.RowKit Go.Proofs.YtomfjhpiemipkaaW.PrintWords Go.Proofs.YtomfjhpiemipkaaW.PrintLast Go.Proofs.YtomfjhpiemipkaaW.PrintMore
attribute [local go_sem] max2_int min2_int max_two min_two max_three min_three max_four min_four   -- for this text's walks alone
set_option linter.unusedVariables false
set_option linter.unusedSimpArgs false
def spec_l1Cur_model.l0:Nat→Int→List Int→Int→Int→Int→Int→Int→List Int→List Int→List Int→Option (Int × Int × Int × List Int × List Int × List Int × Int × Int)
 | 0,_,_,_,_,_,_,_,_,_,_=>none
 | k + 1,x4,x1000,x1001,x1002,x305000,x305001,x305002,x305003,x305004,x305005=>if x4 > 0 then ((spec_l1Cur_pick.f x1000 x1001 x1002 10001).bind fun bt306=>((spec_l1Cur_among.f x1000 bt306.2.1 bt306.2.2 (([0,100,100,200,500,1000,bt306.1]:List Int))).bind fun bt312=>(if x305003.length < 17592186044416 then ((spec_l1Cur_pick.f x1000 bt312.2.1 bt312.2.2 1001).bind fun bt318=>((spec_l1Cur_among.f x1000 bt318.2.1 bt318.2.2 (([0,0,5,10,20,50,bt318.1]:List Int))).bind fun bt324=>(if x305004.length < 17592186044416 then ((spec_l1Cur_pick.f x1000 bt324.2.1 bt324.2.2 5).bind fun bt330=>(if x305005.length < 17592186044416 then (spec_l1Cur_model.l0 k (wrap64 (x4 - 1)) x1000 bt330.2.1 bt330.2.2 x305000 x305001 x305002 (x305003 ++ [bt312.1]) (x305004 ++ [bt324.1]) (x305005 ++ [bt330.1])) else (none))) else (none)))) else (none)))) else (some (x305000,x305001,x305002,x305003,x305004,x305005,x1001,x1002))
def spec_l1Cur_model.f (k:Nat) (s0_0:List Int) (s0_1:Int) (s0_2:Int):Option (Int × Int × Int × List Int × List Int × List Int × Int × Int):=(spec_l1Cur_grid.f s0_0 s0_1 s0_2).bind fun bt299=>((spec_grCount.f bt299.1 bt299.2.1 bt299.2.2.1).bind fun t305=>(spec_l1Cur_model.l0 k t305 s0_0 bt299.2.2.2.1 bt299.2.2.2.2 bt299.1 bt299.2.1 bt299.2.2.1 ([]:List Int) ([]:List Int) ([]:List Int)))
def spec_l1Cur_model.T5:Bool × List (List Nat × List Nat):=(true,[([],[]),([0],[0]),([],[]),([],[]),([3],[3]),([4],[4]),([2,5,4],[2,5]),([6],[6]),([1,7,6],[1,7]),([0,1,2,3,4,5,6,7,8],[]),([9,8,8,0,1,2,3,4,5,6,7,8],[8,9])])
def spec_l1Cur_model.B5:List Nat:=[0,1,0,0,8,24,60,124,255,511,1023]
theorem spec_l1Cur_model.tab5:rtab .any (opsOf Try.f183 5)=spec_l1Cur_model.T5:=by kernel_rfl
theorem spec_l1Cur_model.bits5:waitsOk spec_l1Cur_model.T5.2 spec_l1Cur_model.B5=true:=by kernel_rfl
def spec_l1Cur_model.T6:Bool × List (List Nat × List Nat):=(true,[([],[]),([0],[0]),([],[]),([],[]),([3],[3]),([4],[4]),([2,5,4],[2,5]),([6],[6]),([1,7,6],[1,7]),([0,1,2,3,4,5,6,7,8],[]),([9,8,8,0,1,2,3,4,5,6,7,8],[8,9])])
def spec_l1Cur_model.B6:List Nat:=[0,1,0,0,8,24,60,124,255,511,1023]
theorem spec_l1Cur_model.tab6:rtab .any (opsOf Try.f183 6)=spec_l1Cur_model.T6:=by kernel_rfl
theorem spec_l1Cur_model.bits6:waitsOk spec_l1Cur_model.T6.2 spec_l1Cur_model.B6=true:=by kernel_rfl
def spec_l1Cur_model.T7:Bool × List (List Nat × List Nat):=(true,[([],[]),([0],[0]),([],[]),([2],[2]),([3],[3]),([1,4,3],[1,4]),([0,1,2,3,4,5],[]),([6,5,5,0,1,2,3,4,5],[5,6])])
def spec_l1Cur_model.B7:List Nat:=[0,1,0,4,12,31,63,127]
theorem spec_l1Cur_model.tab7:rtab .any (opsOf Try.f183 7)=spec_l1Cur_model.T7:=by kernel_rfl
theorem spec_l1Cur_model.bits7:waitsOk spec_l1Cur_model.T7.2 spec_l1Cur_model.B7=true:=by kernel_rfl
set_option maxHeartbeats 8000000 in
set_option maxRecDepth 100000 in
theorem spec_l1Cur_model.calls (k:Nat) (g:Nat) (s0_0:List Int) (s0_1:Int) (s0_2:Int) (r1:Int) (r2:Int) (r3:Int) (r4:List Int) (r5:List Int) (r6:List Int) (r7:Int) (r8:Int) (w0 w:World) (hI:IsS146 w0 w g s0_0 s0_1 s0_2) (hB:Below w0.heap.size w0 w) (h:spec_l1Cur_model.f k s0_0 s0_1 s0_2=some (r1,r2,r3,r4,r5,r6,r7,r8)) :
  Calls Try.prog 183 #[.pointer (some ⟨g,0,none⟩)] w fun e w'=>∃ v3_ v4_ v5_:Value,e=.returned (.agg #[.int .i64 r1,.int .i64 r2,.int .i64 r3,v3_,v4_,v5_])∧Kd.R (Kd.int .i64) 3 w' w.heap.size (fun k_=>some k_≠(v4_:Value).ownBlock∧some k_≠(v5_:Value).ownBlock) v3_ r4∧Kd.R (Kd.int .i64) 3 w' w.heap.size (fun k_=>some k_≠(v3_:Value).ownBlock∧some k_≠(v5_:Value).ownBlock) v4_ r5∧Kd.R (Kd.int .i64) 3 w' w.heap.size (fun k_=>some k_≠(v3_:Value).ownBlock∧some k_≠(v4_:Value).ownBlock) v5_ r6∧IsS146 w0 w' g s0_0 r7 r8∧Below w0.heap.size w0 w'∧KeepBut w w' g none:=by
 have hu34:=Try.underlying34
 have hu32:=Try.underlying32
 have HI0:=Aside0.mk hI
 have HK:=Aside0.mk (KeepBut.refl w g none)
 have HL:=Aside0.mk hB.size
 clear hI
 have HW0:=Aside0.mk hB.size
 have HB:=Aside0.mk hB
 clear hB
 have H:((spec_l1Cur_grid.f s0_0 s0_1 s0_2).bind fun bt299=>((spec_grCount.f bt299.1 bt299.2.1 bt299.2.2.1).bind fun t305=>(spec_l1Cur_model.l0 k t305 s0_0 bt299.2.2.2.1 bt299.2.2.2.2 bt299.1 bt299.2.1 bt299.2.2.1 ([]:List Int) ([]:List Int) ([]:List Int))))=some (r1,r2,r3,r4,r5,r6,r7,r8):=h
 clear h
 replace H:=Option.bind_eq_some_iff.mp H
 obtain ⟨⟨t299,t300,t301,t302,t303⟩,A20,H⟩:=H
 replace H:((spec_grCount.f t299 t300 t301).bind fun t305=>(spec_l1Cur_model.l0 k t305 s0_0 t302 t303 t299 t300 t301 ([]:List Int) ([]:List Int) ([]:List Int)))=some (r1,r2,r3,r4,r5,r6,r7,r8):=H
 have A2:=Aside0.mk A20
 clear A20
 replace H:=Option.bind_eq_some_iff.mp H
 obtain ⟨t305,A30,H⟩:=H
 replace H:(spec_l1Cur_model.l0 k t305 s0_0 t302 t303 t299 t300 t301 ([]:List Int) ([]:List Int) ([]:List Int))=some (r1,r2,r3,r4,r5,r6,r7,r8):=H
 have A3:=Aside0.mk A30
 clear A30
 have H':=Aside0.mk H
 clear H
 go_enter Try.func183,Try.ntmps183
 go_wp2_with (first|((with_reducible refine gate_dst (N:=2) rfl ?_);refine box_event ?hg (N:=2) ?hd (cs:=#[.int .i64 0,.int .i64 0,.int .i64 0,.slice none 0 0,.slice none 0 0,.slice none 0 0]) (t:=34) ?hr ?_;(case hd=>rfl);(case hg=>rfl);(case hr=>first|(go_simp;done)|(go_simp;rfl));intro gb298 hg w4 hbox hb;have n0_:=Aside0.mk (IsS146.below (by repeat (first|(with_reducible first|exact HI0.out|apply IsS146.alloc|apply IsS146.drewN|apply IsS146.drew|apply IsS146.set_1|apply IsS146.set_2)|exact HI0.out)) hb);have n1_:=Aside0.mk (KeepBut.trans (by repeat (first|(with_reducible first|exact HK.out|apply KeepBut.set_|apply keep_drewN|apply keep_drew|apply keep_alloc)|exact HK.out)) (KeepBut.of_below hb g none) (.inl rfl));have n2_:=Aside0.mk (below_step (by repeat (first|(with_reducible first|exact HB.out|apply below_alloc|apply pw_below_drewN|apply below_drew1|refine below_set ?_ (IsS146.ge HI0.out))|exact HB.out)) hb);have n3_:=Aside0.mk (hbox);have n4_:=Aside0.mk ((by rw [hg];exact (keep_size (w:=w) (g:=g) (row:=none) (by repeat (first|(with_reducible first|exact HK.out|apply KeepBut.set_|apply keep_drewN|apply keep_drew|apply keep_alloc)|exact HK.out))):w.heap.size≤gb298));have n5_:=Aside0.mk ((Nat.le_trans HW0.out (by rw [hg];exact (keep_size (w:=w) (g:=g) (row:=none) (by repeat (first|(with_reducible first|exact HK.out|apply KeepBut.set_|apply keep_drewN|apply keep_drew|apply keep_alloc)|exact HK.out))):w.heap.size≤gb298):w0.heap.size≤gb298));have n6_:=Aside0.mk ((by rw [hg];exact Nat.ne_of_lt (IsS146.lt (show IsS146 w0 _ g s0_0 s0_1 s0_2 from by repeat (first|(with_reducible first|exact HI0.out|apply IsS146.alloc|apply IsS146.drewN|apply IsS146.drew|apply IsS146.set_1|apply IsS146.set_2)|exact HI0.out))):g≠gb298));have n7_:=Aside0.mk ((by rw [hg];exact Nat.ne_of_gt (IsS146.lt (show IsS146 w0 _ g s0_0 s0_1 s0_2 from by repeat (first|(with_reducible first|exact HI0.out|apply IsS146.alloc|apply IsS146.drewN|apply IsS146.drew|apply IsS146.set_1|apply IsS146.set_2)|exact HI0.out))):gb298≠g));clear HI0;clear HK;clear HB;have HI0:=n0_;have HK:=n1_;have HB:=n2_;have BK298:=n3_;have GW298:=n4_;have GE298:=n5_;have NB0_298:=n6_;have NB298_0:=n7_;clear n0_ n1_ n2_ n3_ n4_ n5_ n6_ n7_;clear hb hbox hg)|((with_reducible refine gate_callee (f:=205) rfl ?_);refine goesL_ (some 6) rfl rfl Try.func205 (by kernel_rfl) rfl #[.pointer (some ⟨g,0,none⟩)] rfl (by (try simp only [List.map_toArray,List.map_cons,List.map_nil]);first|done|rfl|(simp only [List.length_drop,List.length_take];rfl)) ?_;(with_reducible refine (spec_l1Cur_grid.calls g s0_0 s0_1 s0_2 t299 t300 t301 t302 t303 w0 _ ?side1 ?side2 A2.out).mono ?_);(case side1=>repeat (first|(with_reducible first|exact HI0.out|apply IsS146.alloc|apply IsS146.drewN|apply IsS146.drew|apply IsS146.set_1|apply IsS146.set_2|refine IsS146.far ?_ NB0_298.out _)|exact HI0.out));(case side2=>repeat (first|(with_reducible first|exact HB.out|apply below_alloc|apply pw_below_drewN|apply below_drew1|refine below_set ?_ (IsS146.ge HI0.out)|refine below_set ?_ GE298.out)|exact HB.out));rintro e w5 ⟨rfl,hi,hb,hk⟩;refine ⟨_,rfl,?_⟩;have n0_:=Aside0.mk (KeepBut.blk hk (g':=gb298) (o:=.cells #[.int .i64 0,.int .i64 0,.int .i64 0,.slice none 0 0,.slice none 0 0,.slice none 0 0] 34 (0,0)) (by (with_reducible repeat (first|refine blk_drewN ?_ _|refine blk_drew ?_|refine blk_alloc ?_ _));exact BK298.out) NB298_0.out (by simp));have n1_:=Aside0.mk (KeepBut.trans (by repeat (first|(with_reducible first|exact HK.out|apply KeepBut.set_|apply keep_drewN|apply keep_drew|apply keep_alloc|refine keep_far ?_ GW298.out _)|exact HK.out)) hk (.inl rfl));have n2_:=Aside0.mk (hb);have n3_:=Aside0.mk (hi);clear BK298;clear HK;clear HB;clear HI0;have BK298:=n0_;have HK:=n1_;have HB:=n2_;have HI0:=n3_;clear n0_ n1_ n2_ n3_;(try clear hb);(try clear hb2);(try clear hk);(try clear hi))|((with_reducible refine gate_dst (N:=3) rfl ?_);refine box_event ?hg (N:=3) ?hd (cs:=#[.int .i64 0,.int .i64 0,.int .i64 0,.slice none 0 0,.slice none 0 0,.slice none 0 0]) (t:=34) ?hr ?_;(case hd=>rfl);(case hg=>rfl);(case hr=>first|(go_simp;done)|(go_simp;rfl));intro gb304 hg w6 hbox hb;have n0_:=Aside0.mk (IsS146.below (by repeat (first|(with_reducible first|exact HI0.out|apply IsS146.alloc|apply IsS146.drewN|apply IsS146.drew|apply IsS146.set_1|apply IsS146.set_2|refine IsS146.far ?_ NB0_298.out _)|exact HI0.out)) hb);have n1_:=Aside0.mk (blk_below (g:=gb298) (o:=.cells #[.int .i64 0,.int .i64 0,.int .i64 0,.slice none 0 0,.slice none 0 0,.slice none 0 0] 34 (0,0)) (by (with_reducible repeat (first|refine blk_drewN ?_ _|refine blk_drew ?_|refine blk_alloc ?_ _));exact BK298.out) hb);have n2_:=Aside0.mk (KeepBut.trans (by repeat (first|(with_reducible first|exact HK.out|apply KeepBut.set_|apply keep_drewN|apply keep_drew|apply keep_alloc|refine keep_far ?_ GW298.out _)|exact HK.out)) (KeepBut.of_below hb g none) (.inl rfl));have n3_:=Aside0.mk (below_step (by repeat (first|(with_reducible first|exact HB.out|apply below_alloc|apply pw_below_drewN|apply below_drew1|refine below_set ?_ (IsS146.ge HI0.out)|refine below_set ?_ GE298.out)|exact HB.out)) hb);have n4_:=Aside0.mk (hbox);have n5_:=Aside0.mk ((by rw [hg];exact (keep_size (w:=w) (g:=g) (row:=none) (by repeat (first|(with_reducible first|exact HK.out|apply KeepBut.set_|apply keep_drewN|apply keep_drew|apply keep_alloc|refine keep_far ?_ GW298.out _)|exact HK.out))):w.heap.size≤gb304));have n6_:=Aside0.mk ((Nat.le_trans HW0.out (by rw [hg];exact (keep_size (w:=w) (g:=g) (row:=none) (by repeat (first|(with_reducible first|exact HK.out|apply KeepBut.set_|apply keep_drewN|apply keep_drew|apply keep_alloc|refine keep_far ?_ GW298.out _)|exact HK.out))):w.heap.size≤gb304):w0.heap.size≤gb304));have n7_:=Aside0.mk ((by rw [hg];exact Nat.ne_of_lt (blk_lt (g:=gb298) (o:=.cells #[.int .i64 0,.int .i64 0,.int .i64 0,.slice none 0 0,.slice none 0 0,.slice none 0 0] 34 (0,0)) (by (with_reducible repeat (first|refine blk_drewN ?_ _|refine blk_drew ?_|refine blk_alloc ?_ _));exact BK298.out)):gb298≠gb304));have n8_:=Aside0.mk ((by rw [hg];exact Nat.ne_of_gt (blk_lt (g:=gb298) (o:=.cells #[.int .i64 0,.int .i64 0,.int .i64 0,.slice none 0 0,.slice none 0 0,.slice none 0 0] 34 (0,0)) (by (with_reducible repeat (first|refine blk_drewN ?_ _|refine blk_drew ?_|refine blk_alloc ?_ _));exact BK298.out)):gb304≠gb298));have n9_:=Aside0.mk ((by rw [hg];exact Nat.ne_of_lt (IsS146.lt (show IsS146 w0 _ g s0_0 t302 t303 from by repeat (first|(with_reducible first|exact HI0.out|apply IsS146.alloc|apply IsS146.drewN|apply IsS146.drew|apply IsS146.set_1|apply IsS146.set_2|refine IsS146.far ?_ NB0_298.out _)|exact HI0.out))):g≠gb304));have n10_:=Aside0.mk ((by rw [hg];exact Nat.ne_of_gt (IsS146.lt (show IsS146 w0 _ g s0_0 t302 t303 from by repeat (first|(with_reducible first|exact HI0.out|apply IsS146.alloc|apply IsS146.drewN|apply IsS146.drew|apply IsS146.set_1|apply IsS146.set_2|refine IsS146.far ?_ NB0_298.out _)|exact HI0.out))):gb304≠g));clear HI0;clear BK298;clear HK;clear HB;have HI0:=n0_;have BK298:=n1_;have HK:=n2_;have HB:=n3_;have BK304:=n4_;have GW304:=n5_;have GE304:=n6_;have NB298_304:=n7_;have NB304_298:=n8_;have NB0_304:=n9_;have NB304_0:=n10_;clear n0_ n1_ n2_ n3_ n4_ n5_ n6_ n7_ n8_ n9_ n10_;clear hb hbox hg;have hnb7:=NB304_298.out;have hnc7:=NB298_304.out;have hnb8:=NB304_0.out;have hnc8:=NB0_304.out;have hcz9_0:w6.cell? ⟨gb304,0,none⟩=some (.int .i64 0):=(blk_cell BK304.out 0).trans rfl;have hcz9_1:w6.cell? ⟨gb304,1,none⟩=some (.int .i64 0):=(blk_cell BK304.out 1).trans rfl;have hcz9_2:w6.cell? ⟨gb304,2,none⟩=some (.int .i64 0):=(blk_cell BK304.out 2).trans rfl;have hcz9_3:w6.cell? ⟨gb304,3,none⟩=some (.slice none 0 0):=(blk_cell BK304.out 3).trans rfl;have hcz9_4:w6.cell? ⟨gb304,4,none⟩=some (.slice none 0 0):=(blk_cell BK304.out 4).trans rfl;have hcz9_5:w6.cell? ⟨gb304,5,none⟩=some (.slice none 0 0):=(blk_cell BK304.out 5).trans rfl;have hfz9_0:=blk_frozen BK304.out 0;have hfz9_1:=blk_frozen BK304.out 1;have hfz9_2:=blk_frozen BK304.out 2;have hfz9_3:=blk_frozen BK304.out 3;have hfz9_4:=blk_frozen BK304.out 4;have hfz9_5:=blk_frozen BK304.out 5)|((with_reducible refine gate_callee (f:=160) rfl ?_);refine goesL_ (some 10) rfl rfl Try.func160 (by kernel_rfl) rfl #[.agg #[.int .i64 t299,.int .i64 t300,.int .i64 t301]] rfl (by (try simp only [List.map_toArray,List.map_cons,List.map_nil]);first|done|rfl|(simp only [List.length_drop,List.length_take];rfl)) ?_;(with_reducible refine (spec_grCount.calls t299 t300 t301 t305 _ A3.out).mono ?_);rintro e w10 ⟨rfl,hb⟩;refine ⟨_,rfl,?_⟩;have n0_:=Aside0.mk (IsS146.below (show IsS146 w0 ((((((w6.setCell ⟨gb304,0,none⟩ (.int .i64 t299)).setCell ⟨gb304,1,none⟩ (.int .i64 t300)).setCell ⟨gb304,2,none⟩ (.int .i64 t301)).setCell ⟨gb304,3,none⟩ (.slice none 0 0)).setCell ⟨gb304,4,none⟩ (.slice none 0 0)).setCell ⟨gb304,5,none⟩ (.slice none 0 0)) g s0_0 t302 t303 from by repeat (first|(with_reducible first|exact HI0.out|apply IsS146.alloc|apply IsS146.drewN|apply IsS146.drew|apply IsS146.set_1|apply IsS146.set_2|refine IsS146.far ?_ NB0_298.out _|refine IsS146.far ?_ NB0_304.out _)|exact HI0.out)) hb);have n1_:=Aside0.mk (blk_below (g:=gb298) (o:=.cells #[.int .i64 0,.int .i64 0,.int .i64 0,.slice none 0 0,.slice none 0 0,.slice none 0 0] 34 (0,0)) (by (with_reducible repeat (first|refine blk_drewN ?_ _|refine blk_drew ?_|refine blk_alloc ?_ _));refine blk_far ?_ NB298_304.out _;(with_reducible repeat (first|refine blk_drewN ?_ _|refine blk_drew ?_|refine blk_alloc ?_ _));refine blk_far ?_ NB298_304.out _;(with_reducible repeat (first|refine blk_drewN ?_ _|refine blk_drew ?_|refine blk_alloc ?_ _));refine blk_far ?_ NB298_304.out _;(with_reducible repeat (first|refine blk_drewN ?_ _|refine blk_drew ?_|refine blk_alloc ?_ _));refine blk_far ?_ NB298_304.out _;(with_reducible repeat (first|refine blk_drewN ?_ _|refine blk_drew ?_|refine blk_alloc ?_ _));refine blk_far ?_ NB298_304.out _;(with_reducible repeat (first|refine blk_drewN ?_ _|refine blk_drew ?_|refine blk_alloc ?_ _));refine blk_far ?_ NB298_304.out _;(with_reducible repeat (first|refine blk_drewN ?_ _|refine blk_drew ?_|refine blk_alloc ?_ _));exact BK298.out) hb);have n2_:=Aside0.mk (blk_below (g:=gb304) (o:=.cells #[.int .i64 t299,.int .i64 t300,.int .i64 t301,.slice none 0 0,.slice none 0 0,.slice none 0 0] 34 (0,0)) (by (with_reducible repeat (first|refine blk_drewN ?_ _|refine blk_drew ?_|refine blk_alloc ?_ _));refine blk_put (cs:=#[.int .i64 t299,.int .i64 t300,.int .i64 t301,.slice none 0 0,.slice none 0 0,.slice none 0 0]) ?_ 5 _ rfl;(with_reducible repeat (first|refine blk_drewN ?_ _|refine blk_drew ?_|refine blk_alloc ?_ _));refine blk_put (cs:=#[.int .i64 t299,.int .i64 t300,.int .i64 t301,.slice none 0 0,.slice none 0 0,.slice none 0 0]) ?_ 4 _ rfl;(with_reducible repeat (first|refine blk_drewN ?_ _|refine blk_drew ?_|refine blk_alloc ?_ _));refine blk_put (cs:=#[.int .i64 t299,.int .i64 t300,.int .i64 t301,.slice none 0 0,.slice none 0 0,.slice none 0 0]) ?_ 3 _ rfl;(with_reducible repeat (first|refine blk_drewN ?_ _|refine blk_drew ?_|refine blk_alloc ?_ _));refine blk_put (cs:=#[.int .i64 t299,.int .i64 t300,.int .i64 0,.slice none 0 0,.slice none 0 0,.slice none 0 0]) ?_ 2 _ rfl;(with_reducible repeat (first|refine blk_drewN ?_ _|refine blk_drew ?_|refine blk_alloc ?_ _));refine blk_put (cs:=#[.int .i64 t299,.int .i64 0,.int .i64 0,.slice none 0 0,.slice none 0 0,.slice none 0 0]) ?_ 1 _ rfl;(with_reducible repeat (first|refine blk_drewN ?_ _|refine blk_drew ?_|refine blk_alloc ?_ _));refine blk_put (cs:=#[.int .i64 0,.int .i64 0,.int .i64 0,.slice none 0 0,.slice none 0 0,.slice none 0 0]) ?_ 0 _ rfl;(with_reducible repeat (first|refine blk_drewN ?_ _|refine blk_drew ?_|refine blk_alloc ?_ _));exact BK304.out) hb);have n3_:=Aside0.mk (KeepBut.trans (by repeat (first|(with_reducible first|exact HK.out|apply KeepBut.set_|apply keep_drewN|apply keep_drew|apply keep_alloc|refine keep_far ?_ GW298.out _|refine keep_far ?_ GW304.out _)|exact HK.out)) (KeepBut.of_below hb g none) (.inl rfl));have n4_:=Aside0.mk (below_step (by repeat (first|(with_reducible first|exact HB.out|apply below_alloc|apply pw_below_drewN|apply below_drew1|refine below_set ?_ (IsS146.ge HI0.out)|refine below_set ?_ GE298.out|refine below_set ?_ GE304.out)|exact HB.out)) hb);clear HI0;clear BK298;clear BK304;clear HK;clear HB;have HI0:=n0_;have BK298:=n1_;have BK304:=n2_;have HK:=n3_;have HB:=n4_;clear n0_ n1_ n2_ n3_ n4_;(try clear hb);(try clear hb2);(try clear hk);(try clear hi)))
 go_loopg [4] k (fun kq v4 w'=>∃ (x4_1:Int) (x1001_1:Int) (x1002_1:Int) (x305003_1:List Int) (x305004_1:List Int) (x305005_1:List Int) (u305003:Value) (u305004:Value) (u305005:Value),v4=.int .i64 x4_1∧Aside0 (spec_l1Cur_model.l0 kq x4_1 s0_0 x1001_1 x1002_1 t299 t300 t301 x305003_1 x305004_1 x305005_1=some (r1,r2,r3,r4,r5,r6,r7,r8))∧Aside0 (kq≤k)∧Aside0 (Kd.R (Kd.int .i64) 3 w' w.heap.size (fun k_=>some k_≠(u305004:Value).ownBlock∧some k_≠(u305005:Value).ownBlock) u305003 x305003_1)∧Aside0 (Kd.R (Kd.int .i64) 3 w' w.heap.size (fun k_=>some k_≠(u305003:Value).ownBlock∧some k_≠(u305005:Value).ownBlock) u305004 x305004_1)∧Aside0 (Kd.R (Kd.int .i64) 3 w' w.heap.size (fun k_=>some k_≠(u305003:Value).ownBlock∧some k_≠(u305004:Value).ownBlock) u305005 x305005_1)∧Aside0 (w'.heap[gb298]?=some (.cells #[.int .i64 0,.int .i64 0,.int .i64 0,(.slice none 0 0),(.slice none 0 0),(.slice none 0 0)] 34 (0,0)))∧Aside0 (w'.heap[gb304]?=some (.cells #[.int .i64 t299,.int .i64 t300,.int .i64 t301,u305003,u305004,u305005] 34 (0,0)))∧Aside0 (IsS146 w0 w' g s0_0 x1001_1 x1002_1)∧Aside0 (KeepBut w w' g none)∧Aside0 (Below w0.heap.size w0 w'))
 case atStart=>exact ⟨(t305),(t302),(t303),(([]:List Int)),(([]:List Int)),(([]:List Int)),(.slice none 0 0),(.slice none 0 0),(.slice none 0 0),(by first|rfl|(simp;done)|(simp [*];done)),H',⟨Nat.le_refl _⟩,⟨by first|exact Kd.R_nil _ _ _ _ _|exact Kd.N_nil _ _ _ _ _|exact Kd.V_nil _ _ _ _ _|exact Kd.Q_nil _ _ _ _ _|exact Kd.S_nil _ _ _ _ _⟩,⟨by first|exact Kd.R_nil _ _ _ _ _|exact Kd.N_nil _ _ _ _ _|exact Kd.V_nil _ _ _ _ _|exact Kd.Q_nil _ _ _ _ _|exact Kd.S_nil _ _ _ _ _⟩,⟨by first|exact Kd.R_nil _ _ _ _ _|exact Kd.N_nil _ _ _ _ _|exact Kd.V_nil _ _ _ _ _|exact Kd.Q_nil _ _ _ _ _|exact Kd.S_nil _ _ _ _ _⟩,⟨by (with_reducible repeat (first|refine blk_drewN ?_ _|refine blk_drew ?_|refine blk_alloc ?_ _));exact BK298.out⟩,⟨by (with_reducible repeat (first|refine blk_drewN ?_ _|refine blk_drew ?_|refine blk_alloc ?_ _));exact BK304.out⟩,⟨by repeat (first|(with_reducible first|exact HI0.out|apply IsS146.alloc|apply IsS146.drewN|apply IsS146.drew|apply IsS146.set_1|apply IsS146.set_2|refine IsS146.far ?_ NB0_298.out _|refine IsS146.far ?_ NB0_304.out _)|exact HI0.out)⟩,⟨by repeat (first|(with_reducible first|exact HK.out|apply KeepBut.set_|apply keep_drewN|apply keep_drew|apply keep_alloc|refine keep_far ?_ GW298.out _|refine keep_far ?_ GW304.out _)|exact HK.out)⟩,⟨by repeat (first|(with_reducible first|exact HB.out|apply below_alloc|apply pw_below_drewN|apply below_drew1|refine below_set ?_ (IsS146.ge HI0.out)|refine below_set ?_ GE298.out|refine below_set ?_ GE304.out)|exact HB.out)⟩⟩
 case round =>
  clear H'
  try clear c1
  try clear c2
  try clear p2
  try clear c7
  try clear c8
  try clear hcz9_0
  try clear hcz9_1
  try clear hcz9_2
  try clear hcz9_3
  try clear hcz9_4
  try clear hcz9_5
  try clear hfz9_0
  try clear hfz9_1
  try clear hfz9_2
  try clear hfz9_3
  try clear hfz9_4
  try clear hfz9_5
  obtain ⟨x4_1,x1001_1,x1002_1,x305003_1,x305004_1,x305005_1,u305003,u305004,u305005,rfl,HA,HK1,HO_305003,HO_305004,HO_305005,BK298,BK304,HI0,HK,HB⟩:=hrel
  cases gk with
  | zero=>exact absurd HA.out (by simp [spec_l1Cur_model.l0])
  | succ k1 =>
   have H:=HA.out
   clear HA
   simp only [spec_l1Cur_model.l0] at H
   by_cases c11:x4_1 > 0
   ·rw [if_pos c11] at H
    have c11b0:decide (0 < x4_1)=true:=decide_eq_true c11
    clear c11
    replace H:=Option.bind_eq_some_iff.mp H
    obtain ⟨⟨t306,t307,t308⟩,A120,H⟩:=H
    replace H:((spec_l1Cur_among.f s0_0 t307 t308 (([0,100,100,200,500,1000,t306]:List Int))).bind fun bt312=>(if x305003_1.length < 17592186044416 then ((spec_l1Cur_pick.f s0_0 bt312.2.1 bt312.2.2 1001).bind fun bt318=>((spec_l1Cur_among.f s0_0 bt318.2.1 bt318.2.2 (([0,0,5,10,20,50,bt318.1]:List Int))).bind fun bt324=>(if x305004_1.length < 17592186044416 then ((spec_l1Cur_pick.f s0_0 bt324.2.1 bt324.2.2 5).bind fun bt330=>(if x305005_1.length < 17592186044416 then (spec_l1Cur_model.l0 k1 (wrap64 (x4_1 - 1)) s0_0 bt330.2.1 bt330.2.2 t299 t300 t301 (x305003_1 ++ [bt312.1]) (x305004_1 ++ [bt324.1]) (x305005_1 ++ [bt330.1])) else (none))) else (none)))) else (none)))=some (r1,r2,r3,r4,r5,r6,r7,r8):=H
    have A12:=Aside0.mk A120
    clear A120
    obtain ⟨y309,hy309⟩:∃ y_:List Int,y_=(([0,100,100,200,500,1000,t306]:List Int)):=⟨_,rfl⟩
    replace H:((spec_l1Cur_among.f s0_0 t307 t308 y309).bind fun bt312=>(if x305003_1.length < 17592186044416 then ((spec_l1Cur_pick.f s0_0 bt312.2.1 bt312.2.2 1001).bind fun bt318=>((spec_l1Cur_among.f s0_0 bt318.2.1 bt318.2.2 (([0,0,5,10,20,50,bt318.1]:List Int))).bind fun bt324=>(if x305004_1.length < 17592186044416 then ((spec_l1Cur_pick.f s0_0 bt324.2.1 bt324.2.2 5).bind fun bt330=>(if x305005_1.length < 17592186044416 then (spec_l1Cur_model.l0 k1 (wrap64 (x4_1 - 1)) s0_0 bt330.2.1 bt330.2.2 t299 t300 t301 (x305003_1 ++ [bt312.1]) (x305004_1 ++ [bt324.1]) (x305005_1 ++ [bt330.1])) else (none))) else (none)))) else (none)))=some (r1,r2,r3,r4,r5,r6,r7,r8):=by first|(rw [hy309];with_reducible exact H)|(have H2_:=(Option.bind_some _ _).symm.trans H;rw [hy309];with_reducible exact H2_)|(have H2_:=(Option.bind_some _ _).symm.trans H;with_reducible exact H2_)|with_reducible exact H|(rw [hy309];exact H)|exact H
    have Ny309:=Aside0.mk hy309
    clear hy309
    replace H:=Option.bind_eq_some_iff.mp H
    obtain ⟨⟨t312,t313,t314⟩,A130,H⟩:=H
    replace H:(if x305003_1.length < 17592186044416 then ((spec_l1Cur_pick.f s0_0 t313 t314 1001).bind fun bt318=>((spec_l1Cur_among.f s0_0 bt318.2.1 bt318.2.2 (([0,0,5,10,20,50,bt318.1]:List Int))).bind fun bt324=>(if x305004_1.length < 17592186044416 then ((spec_l1Cur_pick.f s0_0 bt324.2.1 bt324.2.2 5).bind fun bt330=>(if x305005_1.length < 17592186044416 then (spec_l1Cur_model.l0 k1 (wrap64 (x4_1 - 1)) s0_0 bt330.2.1 bt330.2.2 t299 t300 t301 (x305003_1 ++ [t312]) (x305004_1 ++ [bt324.1]) (x305005_1 ++ [bt330.1])) else (none))) else (none)))) else (none))=some (r1,r2,r3,r4,r5,r6,r7,r8):=H
    have A13:=Aside0.mk A130
    clear A130
    by_cases c14:x305003_1.length < 17592186044416
    ·rw [if_pos c14] at H
     have LMc14:=Aside0.mk c14
     clear c14
     obtain ⟨y315,hy315⟩:∃ y_:List Int,y_=(x305003_1 ++ [t312]):=⟨_,rfl⟩
     replace H:((spec_l1Cur_pick.f s0_0 t313 t314 1001).bind fun bt318=>((spec_l1Cur_among.f s0_0 bt318.2.1 bt318.2.2 (([0,0,5,10,20,50,bt318.1]:List Int))).bind fun bt324=>(if x305004_1.length < 17592186044416 then ((spec_l1Cur_pick.f s0_0 bt324.2.1 bt324.2.2 5).bind fun bt330=>(if x305005_1.length < 17592186044416 then (spec_l1Cur_model.l0 k1 (wrap64 (x4_1 - 1)) s0_0 bt330.2.1 bt330.2.2 t299 t300 t301 y315 (x305004_1 ++ [bt324.1]) (x305005_1 ++ [bt330.1])) else (none))) else (none))))=some (r1,r2,r3,r4,r5,r6,r7,r8):=by first|(rw [hy315];with_reducible exact H)|(have H2_:=(Option.bind_some _ _).symm.trans H;rw [hy315];with_reducible exact H2_)|(have H2_:=(Option.bind_some _ _).symm.trans H;with_reducible exact H2_)|with_reducible exact H|(rw [hy315];exact H)|exact H
     have Ny315:=Aside0.mk hy315
     clear hy315
     replace H:=Option.bind_eq_some_iff.mp H
     obtain ⟨⟨t318,t319,t320⟩,A150,H⟩:=H
     replace H:((spec_l1Cur_among.f s0_0 t319 t320 (([0,0,5,10,20,50,t318]:List Int))).bind fun bt324=>(if x305004_1.length < 17592186044416 then ((spec_l1Cur_pick.f s0_0 bt324.2.1 bt324.2.2 5).bind fun bt330=>(if x305005_1.length < 17592186044416 then (spec_l1Cur_model.l0 k1 (wrap64 (x4_1 - 1)) s0_0 bt330.2.1 bt330.2.2 t299 t300 t301 y315 (x305004_1 ++ [bt324.1]) (x305005_1 ++ [bt330.1])) else (none))) else (none)))=some (r1,r2,r3,r4,r5,r6,r7,r8):=H
     have A15:=Aside0.mk A150
     clear A150
     obtain ⟨y321,hy321⟩:∃ y_:List Int,y_=(([0,0,5,10,20,50,t318]:List Int)):=⟨_,rfl⟩
     replace H:((spec_l1Cur_among.f s0_0 t319 t320 y321).bind fun bt324=>(if x305004_1.length < 17592186044416 then ((spec_l1Cur_pick.f s0_0 bt324.2.1 bt324.2.2 5).bind fun bt330=>(if x305005_1.length < 17592186044416 then (spec_l1Cur_model.l0 k1 (wrap64 (x4_1 - 1)) s0_0 bt330.2.1 bt330.2.2 t299 t300 t301 y315 (x305004_1 ++ [bt324.1]) (x305005_1 ++ [bt330.1])) else (none))) else (none)))=some (r1,r2,r3,r4,r5,r6,r7,r8):=by first|(rw [hy321];with_reducible exact H)|(have H2_:=(Option.bind_some _ _).symm.trans H;rw [hy321];with_reducible exact H2_)|(have H2_:=(Option.bind_some _ _).symm.trans H;with_reducible exact H2_)|with_reducible exact H|(rw [hy321];exact H)|exact H
     have Ny321:=Aside0.mk hy321
     clear hy321
     replace H:=Option.bind_eq_some_iff.mp H
     obtain ⟨⟨t324,t325,t326⟩,A160,H⟩:=H
     replace H:(if x305004_1.length < 17592186044416 then ((spec_l1Cur_pick.f s0_0 t325 t326 5).bind fun bt330=>(if x305005_1.length < 17592186044416 then (spec_l1Cur_model.l0 k1 (wrap64 (x4_1 - 1)) s0_0 bt330.2.1 bt330.2.2 t299 t300 t301 y315 (x305004_1 ++ [t324]) (x305005_1 ++ [bt330.1])) else (none))) else (none))=some (r1,r2,r3,r4,r5,r6,r7,r8):=H
     have A16:=Aside0.mk A160
     clear A160
     by_cases c17:x305004_1.length < 17592186044416
     ·rw [if_pos c17] at H
      have LMc17:=Aside0.mk c17
      clear c17
      obtain ⟨y327,hy327⟩:∃ y_:List Int,y_=(x305004_1 ++ [t324]):=⟨_,rfl⟩
      replace H:((spec_l1Cur_pick.f s0_0 t325 t326 5).bind fun bt330=>(if x305005_1.length < 17592186044416 then (spec_l1Cur_model.l0 k1 (wrap64 (x4_1 - 1)) s0_0 bt330.2.1 bt330.2.2 t299 t300 t301 y315 y327 (x305005_1 ++ [bt330.1])) else (none)))=some (r1,r2,r3,r4,r5,r6,r7,r8):=by first|(rw [hy327];with_reducible exact H)|(have H2_:=(Option.bind_some _ _).symm.trans H;rw [hy327];with_reducible exact H2_)|(have H2_:=(Option.bind_some _ _).symm.trans H;with_reducible exact H2_)|with_reducible exact H|(rw [hy327];exact H)|exact H
      have Ny327:=Aside0.mk hy327
      clear hy327
      replace H:=Option.bind_eq_some_iff.mp H
      obtain ⟨⟨t330,t331,t332⟩,A180,H⟩:=H
      replace H:(if x305005_1.length < 17592186044416 then (spec_l1Cur_model.l0 k1 (wrap64 (x4_1 - 1)) s0_0 t331 t332 t299 t300 t301 y315 y327 (x305005_1 ++ [t330])) else (none))=some (r1,r2,r3,r4,r5,r6,r7,r8):=H
      have A18:=Aside0.mk A180
      clear A180
      by_cases c19:x305005_1.length < 17592186044416
      ·rw [if_pos c19] at H
       have LMc19:=Aside0.mk c19
       clear c19
       obtain ⟨y333,hy333⟩:∃ y_:List Int,y_=(x305005_1 ++ [t330]):=⟨_,rfl⟩
       replace H:(spec_l1Cur_model.l0 k1 (wrap64 (x4_1 - 1)) s0_0 t331 t332 t299 t300 t301 y315 y327 y333)=some (r1,r2,r3,r4,r5,r6,r7,r8):=by first|(rw [hy333];with_reducible exact H)|(have H2_:=(Option.bind_some _ _).symm.trans H;rw [hy333];with_reducible exact H2_)|(have H2_:=(Option.bind_some _ _).symm.trans H;with_reducible exact H2_)|with_reducible exact H|(rw [hy333];exact H)|exact H
       have Ny333:=Aside0.mk hy333
       clear hy333
       have H':=Aside0.mk H
       clear H
       try go_wp2
       have n0_:=Aside0.mk (Kd.R_drew HO_305003.out)
       have n1_:=Aside0.mk (Kd.R_drew HO_305004.out)
       have n2_:=Aside0.mk (Kd.R_drew HO_305005.out)
       have n3_:=Aside0.mk (blk_drew BK298.out)
       have n4_:=Aside0.mk (blk_drew BK304.out)
       have n5_:=Aside0.mk (IsS146.drew HI0.out)
       have n6_:=Aside0.mk (keep_drew HK.out)
       have n7_:=Aside0.mk (below_drew1 HB.out)
       clear HO_305003
       clear HO_305004
       clear HO_305005
       clear BK298
       clear BK304
       clear HI0
       clear HK
       clear HB
       have HO_305003:=n0_
       have HO_305004:=n1_
       have HO_305005:=n2_
       have BK298:=n3_
       have BK304:=n4_
       have HI0:=n5_
       have HK:=n6_
       have HB:=n7_
       clear n0_ n1_ n2_ n3_ n4_ n5_ n6_ n7_
       refine start_ (n:=11) (S:=fun w'=>w'.cell? ⟨gb304,0,none⟩=some (.int .i64 t299)∧w'.cell? ⟨gb304,1,none⟩=some (.int .i64 t300)∧w'.cell? ⟨gb304,2,none⟩=some (.int .i64 t301)∧w'.cell? ⟨gb304,3,none⟩=some (u305003)∧w'.cell? ⟨gb304,4,none⟩=some (u305004)∧w'.cell? ⟨gb304,5,none⟩=some (u305005)) (ds:=[10]) #[false,false,false,false,false,false,false,false,false,false,false] (by kernel_rfl) rfl rfl ⟨(blk_cell BK304.out 0).trans rfl,(blk_cell BK304.out 1).trans rfl,(blk_cell BK304.out 2).trans rfl,(blk_cell BK304.out 3).trans rfl,(blk_cell BK304.out 4).trans rfl,(blk_cell BK304.out 5).trans rfl⟩ (fun hHeld=>?_);refine with_tabW spec_l1Cur_model.tab5 spec_l1Cur_model.bits5 (fun HT_ HW_=>?_)
       generalize wr.drew=w20 at HO_305003 HO_305004 HO_305005 BK298 BK304 HI0 HK HB hHeld ⊢
       refine pure_ (i:=0) (N:=some 15) (v:=?_) (a':=?_) #[true,false,false,false,false,false,false,false,false,false,false] rfl rfl (any_of HT_.out (by kernel_rfl)) (fun _ _ _ h=>h) (Or.inl ⟨by rfl,?_⟩) ?_ ?_
       rotate_left
       ·intro w'
        go_simp
        with_reducible rfl
       rotate_left
       ·simp only [Act.put,List.setIfInBounds_toArray,List.set_cons_zero,List.set_cons_succ,i64_w,i32_w]
        rfl
       refine pure_ (i:=2) (N:=some 17) (v:=?_) (a':=?_) #[true,false,true,false,false,false,false,false,false,false,false] rfl rfl (any_of HT_.out (by kernel_rfl)) (fun _ _ _ h=>h) (Or.inl ⟨by rfl,?_⟩) ?_ ?_
       rotate_left
       ·intro w'
        go_simp
        with_reducible rfl
       rotate_left
       ·simp only [Act.put,List.setIfInBounds_toArray,List.set_cons_zero,List.set_cons_succ,i64_w,i32_w]
        rfl
       refine pure_ (i:=3) (N:=some 18) (v:=?_) (a':=?_) #[true,false,true,true,false,false,false,false,false,false,false] rfl rfl (any_of HT_.out (by kernel_rfl)) (fun _ _ _ h=>h) (Or.inl ⟨by rfl,?_⟩) ?_ ?_
       rotate_left
       ·intro w'
        go_simp
        with_reducible rfl
       rotate_left
       ·simp only [Act.put,List.setIfInBounds_toArray,List.set_cons_zero,List.set_cons_succ,i64_w,i32_w]
        rfl
       refine take_ (i:=1) (N:=some 16) (v:=?_) (a':=?_) #[true,true,true,true,false,false,false,false,false,false,false] rfl rfl (take_ofW HT_.out HW_.out (by kernel_rfl)) (fun _ _ _ h=>h) (Or.inl ⟨by rfl,?_⟩) hHeld ?_ ?_
       rotate_left
       ·rintro w' ⟨s0,s1,s2,s3,s4,s5⟩
        go_simp
        with_reducible rfl
       rotate_left
       ·simp only [Act.put,List.setIfInBounds_toArray,List.set_cons_zero,List.set_cons_succ,i64_w,i32_w]
        rfl
       refine one_ (i:=4) (N:=some 19) #[true,true,true,true,true,false,false,false,false,false,false] rfl rfl (one_of HT_.out (by kernel_rfl)) (by decide) (fun K hK=>?_)
       refine goes_ Try.func135 (by kernel_rfl) rfl #[.pointer (some ⟨g,0,none⟩),.int .i64 10001] (by rfl) rfl rfl (by (try simp only [List.map_toArray,List.map_cons,List.map_nil]);first|done|rfl|(simp only [List.length_drop,List.length_take];rfl)) ?_
       with_reducible refine (spec_l1Cur_pick.calls g s0_0 x1001_1 x1002_1 10001 t306 t307 t308 w0 _ ?side1 ?side2 A12.out).mono ?_
       (case side1=>repeat (first|(with_reducible first|exact HI0.out|apply IsS146.alloc|apply IsS146.drewN|apply IsS146.drew|apply IsS146.set_1|apply IsS146.set_2|refine IsS146.far ?_ NB0_298.out _|refine IsS146.far ?_ NB0_304.out _)|exact HI0.out))
       (case side2=>repeat (first|(with_reducible first|exact HB.out|apply below_alloc|apply pw_below_drewN|apply below_drew1|refine below_set ?_ (IsS146.ge HI0.out)|refine below_set ?_ GE298.out|refine below_set ?_ GE304.out)|exact HB.out))
       rintro e w21 ⟨rfl,hi,hb,hk⟩
       refine ⟨_,rfl,?_⟩
       have n0_:=Aside0.mk (Kd.R_mono (Kd.R_keep (IsS146.apart (show IsS146 w0 _ g s0_0 x1001_1 x1002_1 from by repeat (first|(with_reducible first|exact HI0.out|apply IsS146.alloc|apply IsS146.drewN|apply IsS146.drew|apply IsS146.set_1|apply IsS146.set_2|refine IsS146.far ?_ NB0_298.out _|refine IsS146.far ?_ NB0_304.out _)|exact HI0.out)) (by (with_reducible repeat (first|apply Kd.R_alloc|apply Kd.R_drewN|apply Kd.R_drew));exact HO_305003.out) (by decide)) hk (fun _ h=>h.2)) (fun _ h=>h.1))
       have n1_:=Aside0.mk (Kd.R_mono (Kd.R_keep (IsS146.apart (show IsS146 w0 _ g s0_0 x1001_1 x1002_1 from by repeat (first|(with_reducible first|exact HI0.out|apply IsS146.alloc|apply IsS146.drewN|apply IsS146.drew|apply IsS146.set_1|apply IsS146.set_2|refine IsS146.far ?_ NB0_298.out _|refine IsS146.far ?_ NB0_304.out _)|exact HI0.out)) (by (with_reducible repeat (first|apply Kd.R_alloc|apply Kd.R_drewN|apply Kd.R_drew));exact HO_305004.out) (by decide)) hk (fun _ h=>h.2)) (fun _ h=>h.1))
       have n2_:=Aside0.mk (Kd.R_mono (Kd.R_keep (IsS146.apart (show IsS146 w0 _ g s0_0 x1001_1 x1002_1 from by repeat (first|(with_reducible first|exact HI0.out|apply IsS146.alloc|apply IsS146.drewN|apply IsS146.drew|apply IsS146.set_1|apply IsS146.set_2|refine IsS146.far ?_ NB0_298.out _|refine IsS146.far ?_ NB0_304.out _)|exact HI0.out)) (by (with_reducible repeat (first|apply Kd.R_alloc|apply Kd.R_drewN|apply Kd.R_drew));exact HO_305005.out) (by decide)) hk (fun _ h=>h.2)) (fun _ h=>h.1))
       have n3_:=Aside0.mk (KeepBut.blk hk (g':=gb298) (o:=.cells #[.int .i64 0,.int .i64 0,.int .i64 0,.slice none 0 0,.slice none 0 0,.slice none 0 0] 34 (0,0)) (by (with_reducible repeat (first|refine blk_drewN ?_ _|refine blk_drew ?_|refine blk_alloc ?_ _));exact BK298.out) NB298_0.out (by simp))
       have n4_:=Aside0.mk (KeepBut.blk hk (g':=gb304) (o:=.cells #[.int .i64 t299,.int .i64 t300,.int .i64 t301,u305003,u305004,u305005] 34 (0,0)) (by (with_reducible repeat (first|refine blk_drewN ?_ _|refine blk_drew ?_|refine blk_alloc ?_ _));exact BK304.out) NB304_0.out (by simp))
       have n5_:=Aside0.mk (KeepBut.trans (by repeat (first|(with_reducible first|exact HK.out|apply KeepBut.set_|apply keep_drewN|apply keep_drew|apply keep_alloc|refine keep_far ?_ GW298.out _|refine keep_far ?_ GW304.out _)|exact HK.out)) hk (.inl rfl))
       have n6_:=Aside0.mk (hb)
       have n7_:=Aside0.mk (hi)
       clear HO_305003
       clear HO_305004
       clear HO_305005
       clear BK298
       clear BK304
       clear HK
       clear HB
       clear HI0
       have HO_305003:=n0_
       have HO_305004:=n1_
       have HO_305005:=n2_
       have BK298:=n3_
       have BK304:=n4_
       have HK:=n5_
       have HB:=n6_
       have HI0:=n7_
       clear n0_ n1_ n2_ n3_ n4_ n5_ n6_ n7_
       (try clear hb)
       (try clear hb2)
       (try clear hk)
       (try clear hi)
       refine hK.out _ _ ⟨(blk_cell BK304.out 0).trans rfl,(blk_cell BK304.out 1).trans rfl,(blk_cell BK304.out 2).trans rfl,(blk_cell BK304.out 3).trans rfl,(blk_cell BK304.out 4).trans rfl,(blk_cell BK304.out 5).trans rfl⟩ (fun hHeld=>?_)
       clear hK K
       refine norm_ (a':=?_) ?_ ?_
       rotate_left
       ·show Act.put _ (some 19) _=_
        simp only [Act.put,List.setIfInBounds_toArray,List.set_cons_zero,List.set_cons_succ,i64_w,i32_w]
        rfl
       refine one_ (i:=5) (N:=some 20) #[true,true,true,true,true,true,false,false,false,false,false] rfl rfl (one_of HT_.out (by kernel_rfl)) (by decide) (fun K hK=>?_)
       refine Kd.R_lit_step (Kd.int .i64) _ 3 ?hg (N:=20) ?hd (xs:=([0,100,100,200,500,1000,t306]:List Int)) (inner:=[.int .i64 0,.int .i64 100,.int .i64 100,.int .i64 200,.int .i64 500,.int .i64 1000,.int .i64 t306]) (ok:=fun _=>True) (okp:=fun _=>True) ?hr ?hp (fun _ hk=>hk) trivial (Below.refl _ _) (Nat.le_refl _) (by simp) ?_;(case hd=>rfl);(case hg=>rfl);(case hr=>first|(go_simp;done)|(go_simp;rfl));(case hp=>exact (Reps.one (show Kd.M (Kd.int .i64) _ _ _ 0 [.int .i64 0] from rfl) (Reps.one (show Kd.M (Kd.int .i64) _ _ _ 100 [.int .i64 100] from rfl) (Reps.one (show Kd.M (Kd.int .i64) _ _ _ 100 [.int .i64 100] from rfl) (Reps.one (show Kd.M (Kd.int .i64) _ _ _ 200 [.int .i64 200] from rfl) (Reps.one (show Kd.M (Kd.int .i64) _ _ _ 500 [.int .i64 500] from rfl) (Reps.one (show Kd.M (Kd.int .i64) _ _ _ 1000 [.int .i64 1000] from rfl) (Reps.one (show Kd.M (Kd.int .i64) _ _ _ t306 [.int .i64 t306] from rfl) (Reps.none _ _)))))))))
       intro v310 w22 ho23 hb hg_ hnew_
       clear hg_ hnew_
       (first|rw [← Ny309.out] at ho23|(simp only [Int.reduceToNat] at ho23;rw [← Ny309.out] at ho23))
       have n0_:=Aside0.mk (Kd.R_elder' (by (with_reducible repeat (first|apply Kd.R_alloc|apply Kd.R_drewN|apply Kd.R_drew));exact HO_305003.out) (Kd.R_base ho23) hb)
       have n1_:=Aside0.mk (Kd.R_elder' (by (with_reducible repeat (first|apply Kd.R_alloc|apply Kd.R_drewN|apply Kd.R_drew));exact HO_305004.out) (Kd.R_base ho23) hb)
       have n2_:=Aside0.mk (Kd.R_elder' (by (with_reducible repeat (first|apply Kd.R_alloc|apply Kd.R_drewN|apply Kd.R_drew));exact HO_305005.out) (Kd.R_base ho23) hb)
       have n3_:=Aside0.mk (Kd.R_lower (Kd.R_new' (Kd.R_new' (Kd.R_new' ho23 (Kd.R_lt (by (with_reducible repeat (first|apply Kd.R_alloc|apply Kd.R_drewN|apply Kd.R_drew));exact HO_305003.out))) (Kd.R_lt (by (with_reducible repeat (first|apply Kd.R_alloc|apply Kd.R_drewN|apply Kd.R_drew));exact HO_305004.out))) (Kd.R_lt (by (with_reducible repeat (first|apply Kd.R_alloc|apply Kd.R_drewN|apply Kd.R_drew));exact HO_305005.out))) (keep_size (w:=w) (g:=g) (row:=none) (by repeat (first|(with_reducible first|exact HK.out|apply KeepBut.set_|apply keep_drewN|apply keep_drew|apply keep_alloc|refine keep_far ?_ GW298.out _|refine keep_far ?_ GW304.out _)|exact HK.out))))
       have n4_:=Aside0.mk (blk_below (g:=gb298) (o:=.cells #[.int .i64 0,.int .i64 0,.int .i64 0,.slice none 0 0,.slice none 0 0,.slice none 0 0] 34 (0,0)) (by (with_reducible repeat (first|refine blk_drewN ?_ _|refine blk_drew ?_|refine blk_alloc ?_ _));exact BK298.out) hb)
       have n5_:=Aside0.mk (blk_below (g:=gb304) (o:=.cells #[.int .i64 t299,.int .i64 t300,.int .i64 t301,u305003,u305004,u305005] 34 (0,0)) (by (with_reducible repeat (first|refine blk_drewN ?_ _|refine blk_drew ?_|refine blk_alloc ?_ _));exact BK304.out) hb)
       have n6_:=Aside0.mk (IsS146.below (by repeat (first|(with_reducible first|exact HI0.out|apply IsS146.alloc|apply IsS146.drewN|apply IsS146.drew|apply IsS146.set_1|apply IsS146.set_2|refine IsS146.far ?_ NB0_298.out _|refine IsS146.far ?_ NB0_304.out _)|exact HI0.out)) hb)
       have n7_:=Aside0.mk (KeepBut.trans (by repeat (first|(with_reducible first|exact HK.out|apply KeepBut.set_|apply keep_drewN|apply keep_drew|apply keep_alloc|refine keep_far ?_ GW298.out _|refine keep_far ?_ GW304.out _)|exact HK.out)) (KeepBut.of_below hb g none) (.inl rfl))
       have n8_:=Aside0.mk (below_step (by repeat (first|(with_reducible first|exact HB.out|apply below_alloc|apply pw_below_drewN|apply below_drew1|refine below_set ?_ (IsS146.ge HI0.out)|refine below_set ?_ GE298.out|refine below_set ?_ GE304.out)|exact HB.out)) hb)
       clear HO_305003
       clear HO_305004
       clear HO_305005
       clear BK298
       clear BK304
       clear HI0
       clear HK
       clear HB
       have HO_305003:=n0_
       have HO_305004:=n1_
       have HO_305005:=n2_
       have HO311:=n3_
       have BK298:=n4_
       have BK304:=n5_
       have HI0:=n6_
       have HK:=n7_
       have HB:=n8_
       clear n0_ n1_ n2_ n3_ n4_ n5_ n6_ n7_ n8_
       clear hb ho23
       obtain ⟨Ao24,co24,eo24⟩:=Kd.R_slice HO311.out
       (first|subst eo24|(injection eo24 with f1_ f2_ f3_;have f4_:=f1_.symm;have f5_:=f3_.symm;clear f1_ f2_ f3_;subst f4_;subst f5_))
       refine hK.out _ _ ⟨(blk_cell BK304.out 0).trans rfl,(blk_cell BK304.out 1).trans rfl,(blk_cell BK304.out 2).trans rfl,(blk_cell BK304.out 3).trans rfl,(blk_cell BK304.out 4).trans rfl,(blk_cell BK304.out 5).trans rfl⟩ (fun hHeld=>?_)
       clear hK K
       refine norm_ (a':=?_) ?_ ?_
       rotate_left
       ·show Act.put _ (some 20) _=_
        simp only [Act.put,List.setIfInBounds_toArray,List.set_cons_zero,List.set_cons_succ,i64_w,i32_w]
        rfl
       refine one_ (i:=6) (N:=some 21) #[true,true,true,true,true,true,true,false,false,false,false] rfl rfl (one_of HT_.out (by kernel_rfl)) (by decide) (fun K hK=>?_)
       refine goes_ Try.func128 (by kernel_rfl) rfl #[.pointer (some ⟨g,0,none⟩),.slice Ao24 y309.length co24] (by rfl) rfl rfl (by (try simp only [List.map_toArray,List.map_cons,List.map_nil]);first|done|rfl|(simp only [List.length_drop,List.length_take];rfl)) ?_
       with_reducible refine (spec_l1Cur_among.calls g s0_0 t307 t308 _ _ y309 t312 t313 t314 w0 _ ?side1 ?side2 ?side3 ?side4 ?side5 A13.out).mono ?_
       (case side1=>repeat (first|(with_reducible first|exact HI0.out|apply IsS146.alloc|apply IsS146.drewN|apply IsS146.drew|apply IsS146.set_1|apply IsS146.set_2|refine IsS146.far ?_ NB0_298.out _|refine IsS146.far ?_ NB0_304.out _)|exact HI0.out))
       (case side2=>repeat (first|(with_reducible first|exact HB.out|apply below_alloc|apply pw_below_drewN|apply below_drew1|refine below_set ?_ (IsS146.ge HI0.out)|refine below_set ?_ GE298.out|refine below_set ?_ GE304.out)|exact HB.out))
       (case side3=>repeat (first|exact (Kd.R_reads' HO311.out).2.2|(with_reducible refine Kd.C_alloc ?_ _)|(with_reducible refine Kd.C_drewN ?_ _)|(with_reducible refine Kd.C_drew ?_)))
       (case side4=>exact (Kd.R_reads' HO311.out).2.1)
       (case side5=>exact far_slice (IsS146.own_ne HI0.out HO311.out (by decide)))
       rintro e w25 ⟨rfl,hi,hb,hk⟩
       refine ⟨_,rfl,?_⟩
       have n0_:=Aside0.mk (Kd.R_mono (Kd.R_keep (IsS146.apart (show IsS146 w0 _ g s0_0 t307 t308 from by repeat (first|(with_reducible first|exact HI0.out|apply IsS146.alloc|apply IsS146.drewN|apply IsS146.drew|apply IsS146.set_1|apply IsS146.set_2|refine IsS146.far ?_ NB0_298.out _|refine IsS146.far ?_ NB0_304.out _)|exact HI0.out)) (by (with_reducible repeat (first|apply Kd.R_alloc|apply Kd.R_drewN|apply Kd.R_drew));exact HO_305003.out) (by decide)) hk (fun _ h=>h.2)) (fun _ h=>h.1))
       have n1_:=Aside0.mk (Kd.R_mono (Kd.R_keep (IsS146.apart (show IsS146 w0 _ g s0_0 t307 t308 from by repeat (first|(with_reducible first|exact HI0.out|apply IsS146.alloc|apply IsS146.drewN|apply IsS146.drew|apply IsS146.set_1|apply IsS146.set_2|refine IsS146.far ?_ NB0_298.out _|refine IsS146.far ?_ NB0_304.out _)|exact HI0.out)) (by (with_reducible repeat (first|apply Kd.R_alloc|apply Kd.R_drewN|apply Kd.R_drew));exact HO_305004.out) (by decide)) hk (fun _ h=>h.2)) (fun _ h=>h.1))
       have n2_:=Aside0.mk (Kd.R_mono (Kd.R_keep (IsS146.apart (show IsS146 w0 _ g s0_0 t307 t308 from by repeat (first|(with_reducible first|exact HI0.out|apply IsS146.alloc|apply IsS146.drewN|apply IsS146.drew|apply IsS146.set_1|apply IsS146.set_2|refine IsS146.far ?_ NB0_298.out _|refine IsS146.far ?_ NB0_304.out _)|exact HI0.out)) (by (with_reducible repeat (first|apply Kd.R_alloc|apply Kd.R_drewN|apply Kd.R_drew));exact HO_305005.out) (by decide)) hk (fun _ h=>h.2)) (fun _ h=>h.1))
       have n3_:=Aside0.mk (KeepBut.blk hk (g':=gb298) (o:=.cells #[.int .i64 0,.int .i64 0,.int .i64 0,.slice none 0 0,.slice none 0 0,.slice none 0 0] 34 (0,0)) (by (with_reducible repeat (first|refine blk_drewN ?_ _|refine blk_drew ?_|refine blk_alloc ?_ _));exact BK298.out) NB298_0.out (by simp))
       have n4_:=Aside0.mk (KeepBut.blk hk (g':=gb304) (o:=.cells #[.int .i64 t299,.int .i64 t300,.int .i64 t301,u305003,u305004,u305005] 34 (0,0)) (by (with_reducible repeat (first|refine blk_drewN ?_ _|refine blk_drew ?_|refine blk_alloc ?_ _));exact BK304.out) NB304_0.out (by simp))
       have n5_:=Aside0.mk (Kd.R_mono (Kd.R_keep (IsS146.apart (show IsS146 w0 _ g s0_0 t307 t308 from by repeat (first|(with_reducible first|exact HI0.out|apply IsS146.alloc|apply IsS146.drewN|apply IsS146.drew|apply IsS146.set_1|apply IsS146.set_2|refine IsS146.far ?_ NB0_298.out _|refine IsS146.far ?_ NB0_304.out _)|exact HI0.out)) (by (with_reducible repeat (first|apply Kd.R_alloc|apply Kd.R_drewN|apply Kd.R_drew));exact HO311.out) (by decide)) hk (fun _ h=>h.2)) (fun _ h=>h.1))
       have n6_:=Aside0.mk (KeepBut.trans (by repeat (first|(with_reducible first|exact HK.out|apply KeepBut.set_|apply keep_drewN|apply keep_drew|apply keep_alloc|refine keep_far ?_ GW298.out _|refine keep_far ?_ GW304.out _)|exact HK.out)) hk (.inl rfl))
       have n7_:=Aside0.mk (hb)
       have n8_:=Aside0.mk (hi)
       clear HO_305003
       clear HO_305004
       clear HO_305005
       clear BK298
       clear BK304
       clear HO311
       clear HK
       clear HB
       clear HI0
       have HO_305003:=n0_
       have HO_305004:=n1_
       have HO_305005:=n2_
       have BK298:=n3_
       have BK304:=n4_
       have HO311:=n5_
       have HK:=n6_
       have HB:=n7_
       have HI0:=n8_
       clear n0_ n1_ n2_ n3_ n4_ n5_ n6_ n7_ n8_
       (try clear hb)
       (try clear hb2)
       (try clear hk)
       (try clear hi)
       refine hK.out _ _ ⟨(blk_cell BK304.out 0).trans rfl,(blk_cell BK304.out 1).trans rfl,(blk_cell BK304.out 2).trans rfl,(blk_cell BK304.out 3).trans rfl,(blk_cell BK304.out 4).trans rfl,(blk_cell BK304.out 5).trans rfl⟩ (fun hHeld=>?_)
       clear hK K
       refine norm_ (a':=?_) ?_ ?_
       rotate_left
       ·show Act.put _ (some 21) _=_
        simp only [Act.put,List.setIfInBounds_toArray,List.set_cons_zero,List.set_cons_succ,i64_w,i32_w]
        rfl
       refine one_ (i:=7) (N:=some 22) #[true,true,true,true,true,true,true,true,false,false,false] rfl rfl (one_of HT_.out (by kernel_rfl)) (by decide) (fun K hK=>?_)
       refine value_ (w1:=?_) (v:=?_) (by rfl) rfl ?_ ?_
       rotate_left 2
       ·go_simp
        constructor
        ·rfl
        ·rfl
       refine hK.out _ _ ⟨(blk_cell (blk_alloc BK304.out _) 0).trans rfl,(blk_cell (blk_alloc BK304.out _) 1).trans rfl,(blk_cell (blk_alloc BK304.out _) 2).trans rfl,(blk_cell (blk_alloc BK304.out _) 3).trans rfl,(blk_cell (blk_alloc BK304.out _) 4).trans rfl,(blk_cell (blk_alloc BK304.out _) 5).trans rfl⟩ (fun hHeld=>?_)
       clear hK K
       refine norm_ (a':=?_) ?_ ?_
       rotate_left
       ·show Act.put _ (some 22) _=_
        simp only [Act.put,List.setIfInBounds_toArray,List.set_cons_zero,List.set_cons_succ,i64_w,i32_w]
        rfl
       refine one_ (i:=8) (N:=some 23) #[true,true,true,true,true,true,true,true,true,false,false] rfl rfl (one_of HT_.out (by kernel_rfl)) (by decide) (fun K hK=>?_)
       refine Kd.R_append_step (Kd.int .i64) w.heap.size (by rfl) (.tmp 16) (.tmp 22) 24 3 (.int .i64 0) 8 rfl Try.underlying24 info3 rfl (by decide) (by omega) u305003 x305003_1 t312 [.int .i64 t312] (fun k_=>some k_≠(u305004:Value).ownBlock∧some k_≠(u305005:Value).ownBlock∧some k_≠(.slice Ao24 y309.length co24:Value).ownBlock) (fun _=>False) rfl rfl ?aP (fun _ hk=>hk.elim) ?aF ?aO (Below.refl _ _) ?aS ?aL ?_
       (case aP=>exact rfl)
       (case aF=>exact (fun k_ hk=>⟨Kd.fresh' (Kd.R_lt (by (with_reducible repeat (first|apply Kd.R_alloc|apply Kd.R_drewN|apply Kd.R_drew));exact HO_305004.out)) k_ hk,Kd.fresh' (Kd.R_lt (by (with_reducible repeat (first|apply Kd.R_alloc|apply Kd.R_drewN|apply Kd.R_drew));exact HO_305005.out)) k_ hk,Kd.fresh' (Kd.R_lt (by (with_reducible repeat (first|apply Kd.R_alloc|apply Kd.R_drewN|apply Kd.R_drew));exact HO311.out)) k_ hk⟩))
       (case aO=>exact (by (with_reducible repeat (first|apply Kd.R_alloc|apply Kd.R_drewN|apply Kd.R_drew));exact Kd.R_mono HO_305003.out (fun _ hk=>⟨hk.1.1,⟨hk.1.2,hk.2⟩⟩)))
       (case aS=>exact (keep_size (w:=w) (g:=g) (row:=none) (by repeat (first|(with_reducible first|exact HK.out|apply KeepBut.set_|apply keep_drewN|apply keep_drew|apply keep_alloc|refine keep_far ?_ GW298.out _|refine keep_far ?_ GW304.out _)|exact HK.out))))
       (case aL=>have:=LMc14.out;omega)
       intro v316 w26 ho hb hg hat
       rw [← Ny315.out] at ho
       have n0_:=Aside0.mk (Kd.R_after (ok:=(fun k_=>some k_≠(u305005:Value).ownBlock∧some k_≠(.slice Ao24 y309.length co24:Value).ownBlock)) (by (with_reducible repeat (first|apply Kd.R_alloc|apply Kd.R_drewN|apply Kd.R_drew));exact Kd.R_mono HO_305004.out (fun _ hk=>⟨⟨hk.1.2,hk.2⟩,hk.1.1⟩)) hg hat)
       have n1_:=Aside0.mk (Kd.R_after (ok:=(fun k_=>some k_≠(u305004:Value).ownBlock∧some k_≠(.slice Ao24 y309.length co24:Value).ownBlock)) (by (with_reducible repeat (first|apply Kd.R_alloc|apply Kd.R_drewN|apply Kd.R_drew));exact Kd.R_mono HO_305005.out (fun _ hk=>⟨⟨hk.1.2,hk.2⟩,hk.1.1⟩)) hg hat)
       have n2_:=Aside0.mk (blk_grown (g:=gb298) (o:=.cells #[.int .i64 0,.int .i64 0,.int .i64 0,.slice none 0 0,.slice none 0 0,.slice none 0 0] 34 (0,0)) (by (with_reducible repeat (first|refine blk_drewN ?_ _|refine blk_drew ?_|refine blk_alloc ?_ _));exact BK298.out) hg (Kd.R_ne HO_305003.out BK298.out (by decide)))
       have n3_:=Aside0.mk (blk_grown (g:=gb304) (o:=.cells #[.int .i64 t299,.int .i64 t300,.int .i64 t301,u305003,u305004,u305005] 34 (0,0)) (by (with_reducible repeat (first|refine blk_drewN ?_ _|refine blk_drew ?_|refine blk_alloc ?_ _));exact BK304.out) hg (Kd.R_ne HO_305003.out BK304.out (by decide)))
       have n4_:=Aside0.mk (IsS146.grown (by repeat (first|(with_reducible first|exact HI0.out|apply IsS146.alloc|apply IsS146.drewN|apply IsS146.drew|apply IsS146.set_1|apply IsS146.set_2|refine IsS146.far ?_ NB0_298.out _|refine IsS146.far ?_ NB0_304.out _)|exact HI0.out)) hg (IsS146.own_ne HI0.out HO_305003.out (by decide)))
       have n5_:=Aside0.mk (Kd.R_after (ok:=(fun k_=>some k_≠(u305004:Value).ownBlock∧some k_≠(u305005:Value).ownBlock)) (by (with_reducible repeat (first|apply Kd.R_alloc|apply Kd.R_drewN|apply Kd.R_drew));exact Kd.R_mono HO311.out (fun _ hk=>⟨⟨hk.1.2,hk.2⟩,hk.1.1.2⟩)) hg hat)
       have n6_:=Aside0.mk (below_weaken (by repeat (first|(with_reducible first|exact HB.out|apply below_alloc|apply pw_below_drewN|apply below_drew1|refine below_set ?_ (IsS146.ge HI0.out)|refine below_set ?_ GE298.out|refine below_set ?_ GE304.out)|exact HB.out)) HL.out hb)
       have n7_:=Aside0.mk (KeepBut.trans (by repeat (first|(with_reducible first|exact HK.out|apply KeepBut.set_|apply keep_drewN|apply keep_drew|apply keep_alloc|refine keep_far ?_ GW298.out _|refine keep_far ?_ GW304.out _)|exact HK.out)) (KeepBut.of_grown hg g) (Kd.R_base2 HO_305003.out))
       have n8_:=Aside0.mk (ho)
       clear HO_305004
       clear HO_305005
       clear BK298
       clear BK304
       clear HI0
       clear HO311
       clear HB
       clear HK
       clear HO_305003
       have HO_305004:=n0_
       have HO_305005:=n1_
       have BK298:=n2_
       have BK304:=n3_
       have HI0:=n4_
       have HO311:=n5_
       have HB:=n6_
       have HK:=n7_
       have HO317:=n8_
       clear n0_ n1_ n2_ n3_ n4_ n5_ n6_ n7_ n8_
       clear ho hb hg hat
       obtain ⟨Ao27,co27,eo27⟩:=Kd.R_slice HO317.out
       (first|subst eo27|(injection eo27 with f1_ f2_ f3_;have f4_:=f1_.symm;have f5_:=f3_.symm;clear f1_ f2_ f3_;subst f4_;subst f5_))
       refine hK.out _ _ ⟨(blk_cell BK304.out 0).trans rfl,(blk_cell BK304.out 1).trans rfl,(blk_cell BK304.out 2).trans rfl,(blk_cell BK304.out 3).trans rfl,(blk_cell BK304.out 4).trans rfl,(blk_cell BK304.out 5).trans rfl⟩ (fun hHeld=>?_)
       clear hK K
       refine norm_ (a':=?_) ?_ ?_
       rotate_left
       ·show Act.put _ (some 23) _=_
        simp only [Act.put,List.setIfInBounds_toArray,List.set_cons_zero,List.set_cons_succ,i64_w,i32_w]
        rfl
       refine pure_ (i:=9) (N:=some 24) (v:=?_) (a':=?_) #[true,true,true,true,true,true,true,true,true,true,false] rfl rfl (any_of HT_.out (by kernel_rfl)) (fun _ _ _ h=>h) (Or.inl ⟨by rfl,?_⟩) ?_ ?_
       rotate_left
       ·intro w'
        go_simp
        with_reducible rfl
       rotate_left
       ·simp only [Act.put,List.setIfInBounds_toArray,List.set_cons_zero,List.set_cons_succ,i64_w,i32_w]
        rfl
       refine last_ (i:=10) (N:=none) #[true,true,true,true,true,true,true,true,true,true,true] rfl rfl (one_of HT_.out (by kernel_rfl)) (by decide) (fun K hK=>?_)
       have hs28:w26.cell? ⟨gb304,3,none⟩=some (u305003):=(blk_cell BK304.out 3).trans rfl
       have hfs28:=blk_frozen BK304.out 3
       have hns28_0:=NB298_304.out
       have hms28_0:=NB304_298.out
       refine skip_ (w1:=?_) (by rfl) rfl ?_ ?_
       rotate_left
       ·go_simp
        rfl
       refine hK.out _ _ ?_
       clear hK K
       refine done_ (done_of HT_.out (by kernel_rfl)) ?_
       try go_wp2
       have n0_:Aside0 (Kd.R (Kd.int .i64) 3 (w26.setCell ⟨gb304,3,none⟩ (.slice Ao27 y315.length co27)) w.heap.size (fun k_=>some k_≠(u305005:Value).ownBlock∧some k_≠(.slice Ao24 y309.length co24:Value).ownBlock∧some k_≠(.slice Ao27 y315.length co27:Value).ownBlock) u305004 x305004_1):=⟨by (with_reducible repeat (first|apply Kd.R_alloc|apply Kd.R_drewN|apply Kd.R_drew));exact Kd.R_mono (Kd.R_far (p:=⟨gb304,3,none⟩) (Kd.R_types HO_305004.out BK304.out (by decide)) (fun _ hk=>hk.2) (.slice Ao27 y315.length co27)) (fun _ hk=>⟨hk.1.1.1,⟨hk.1.1.2,hk.1.2⟩⟩)⟩
       have n1_:Aside0 (Kd.R (Kd.int .i64) 3 (w26.setCell ⟨gb304,3,none⟩ (.slice Ao27 y315.length co27)) w.heap.size (fun k_=>some k_≠(u305004:Value).ownBlock∧some k_≠(.slice Ao24 y309.length co24:Value).ownBlock∧some k_≠(.slice Ao27 y315.length co27:Value).ownBlock) u305005 x305005_1):=⟨by (with_reducible repeat (first|apply Kd.R_alloc|apply Kd.R_drewN|apply Kd.R_drew));exact Kd.R_mono (Kd.R_far (p:=⟨gb304,3,none⟩) (Kd.R_types HO_305005.out BK304.out (by decide)) (fun _ hk=>hk.2) (.slice Ao27 y315.length co27)) (fun _ hk=>⟨hk.1.1.1,⟨hk.1.1.2,hk.1.2⟩⟩)⟩
       have n2_:Aside0 (Kd.R (Kd.int .i64) 3 (w26.setCell ⟨gb304,3,none⟩ (.slice Ao27 y315.length co27)) w.heap.size (fun k_=>some k_≠(u305004:Value).ownBlock∧some k_≠(u305005:Value).ownBlock∧some k_≠(.slice Ao27 y315.length co27:Value).ownBlock) (.slice Ao24 y309.length co24) y309):=⟨by (with_reducible repeat (first|apply Kd.R_alloc|apply Kd.R_drewN|apply Kd.R_drew));exact Kd.R_mono (Kd.R_far (p:=⟨gb304,3,none⟩) (Kd.R_types HO311.out BK304.out (by decide)) (fun _ hk=>hk.2) (.slice Ao27 y315.length co27)) (fun _ hk=>⟨hk.1.1.1,⟨hk.1.1.2,hk.1.2⟩⟩)⟩
       have n3_:Aside0 (Kd.R (Kd.int .i64) 3 (w26.setCell ⟨gb304,3,none⟩ (.slice Ao27 y315.length co27)) w.heap.size (fun k_=>some k_≠(u305004:Value).ownBlock∧some k_≠(u305005:Value).ownBlock∧some k_≠(.slice Ao24 y309.length co24:Value).ownBlock) (.slice Ao27 y315.length co27) y315):=⟨by (with_reducible repeat (first|apply Kd.R_alloc|apply Kd.R_drewN|apply Kd.R_drew));exact Kd.R_mono (Kd.R_far (p:=⟨gb304,3,none⟩) (Kd.R_types HO317.out BK304.out (by decide)) (fun _ hk=>hk.2) (.slice Ao27 y315.length co27)) (fun _ hk=>⟨hk.1.1,⟨hk.1.2.1,hk.1.2.2⟩⟩)⟩
       have n4_:Aside0 ((w26.setCell ⟨gb304,3,none⟩ (.slice Ao27 y315.length co27)).heap[gb298]?=some (.cells #[.int .i64 0,.int .i64 0,.int .i64 0,.slice none 0 0,.slice none 0 0,.slice none 0 0] 34 (0,0))):=⟨by (with_reducible repeat (first|refine blk_drewN ?_ _|refine blk_drew ?_|refine blk_alloc ?_ _));refine blk_far ?_ NB298_304.out _;(with_reducible repeat (first|refine blk_drewN ?_ _|refine blk_drew ?_|refine blk_alloc ?_ _));exact BK298.out⟩
       have n5_:Aside0 ((w26.setCell ⟨gb304,3,none⟩ (.slice Ao27 y315.length co27)).heap[gb304]?=some (.cells #[.int .i64 t299,.int .i64 t300,.int .i64 t301,.slice Ao27 y315.length co27,u305004,u305005] 34 (0,0))):=⟨by (with_reducible repeat (first|refine blk_drewN ?_ _|refine blk_drew ?_|refine blk_alloc ?_ _));refine blk_put (cs:=#[.int .i64 t299,.int .i64 t300,.int .i64 t301,u305003,u305004,u305005]) ?_ 3 _ rfl;(with_reducible repeat (first|refine blk_drewN ?_ _|refine blk_drew ?_|refine blk_alloc ?_ _));exact BK304.out⟩
       have n6_:Aside0 (IsS146 w0 (w26.setCell ⟨gb304,3,none⟩ (.slice Ao27 y315.length co27)) g s0_0 t313 t314):=⟨by repeat (first|(with_reducible first|exact HI0.out|apply IsS146.alloc|apply IsS146.drewN|apply IsS146.drew|apply IsS146.set_1|apply IsS146.set_2|refine IsS146.far ?_ NB0_298.out _|refine IsS146.far ?_ NB0_304.out _)|exact HI0.out)⟩
       have n7_:Aside0 (KeepBut w (w26.setCell ⟨gb304,3,none⟩ (.slice Ao27 y315.length co27)) g none):=⟨by repeat (first|(with_reducible first|exact HK.out|apply KeepBut.set_|apply keep_drewN|apply keep_drew|apply keep_alloc|refine keep_far ?_ GW298.out _|refine keep_far ?_ GW304.out _)|exact HK.out)⟩
       have n8_:Aside0 (Below w0.heap.size w0 (w26.setCell ⟨gb304,3,none⟩ (.slice Ao27 y315.length co27))):=⟨by repeat (first|(with_reducible first|exact HB.out|apply below_alloc|apply pw_below_drewN|apply below_drew1|refine below_set ?_ (IsS146.ge HI0.out)|refine below_set ?_ GE298.out|refine below_set ?_ GE304.out)|exact HB.out)⟩
       (try clear HO_305004)
       (try clear HO_305005)
       (try clear HO311)
       (try clear HO317)
       (try clear BK298)
       (try clear BK304)
       (try clear HI0)
       (try clear HK)
       (try clear HB)
       generalize (w26.setCell ⟨gb304,3,none⟩ (.slice Ao27 y315.length co27))=w29 at n0_ n1_ n2_ n3_ n4_ n5_ n6_ n7_ n8_ ⊢
       have HO_305004:=n0_
       have HO_305005:=n1_
       have HO311:=n2_
       have HO317:=n3_
       have BK298:=n4_
       have BK304:=n5_
       have HI0:=n6_
       have HK:=n7_
       have HB:=n8_
       clear n0_ n1_ n2_ n3_ n4_ n5_ n6_ n7_ n8_
       have n0_:=Aside0.mk (Kd.R_drew HO_305004.out)
       have n1_:=Aside0.mk (Kd.R_drew HO_305005.out)
       have n2_:=Aside0.mk (Kd.R_drew HO311.out)
       have n3_:=Aside0.mk (Kd.R_drew HO317.out)
       have n4_:=Aside0.mk (blk_drew BK298.out)
       have n5_:=Aside0.mk (blk_drew BK304.out)
       have n6_:=Aside0.mk (IsS146.drew HI0.out)
       have n7_:=Aside0.mk (keep_drew HK.out)
       have n8_:=Aside0.mk (below_drew1 HB.out)
       clear HO_305004
       clear HO_305005
       clear HO311
       clear HO317
       clear BK298
       clear BK304
       clear HI0
       clear HK
       clear HB
       have HO_305004:=n0_
       have HO_305005:=n1_
       have HO311:=n2_
       have HO317:=n3_
       have BK298:=n4_
       have BK304:=n5_
       have HI0:=n6_
       have HK:=n7_
       have HB:=n8_
       clear n0_ n1_ n2_ n3_ n4_ n5_ n6_ n7_ n8_
       refine start_ (n:=11) (S:=fun w'=>w'.cell? ⟨gb304,0,none⟩=some (.int .i64 t299)∧w'.cell? ⟨gb304,1,none⟩=some (.int .i64 t300)∧w'.cell? ⟨gb304,2,none⟩=some (.int .i64 t301)∧w'.cell? ⟨gb304,3,none⟩=some (.slice Ao27 y315.length co27)∧w'.cell? ⟨gb304,4,none⟩=some (u305004)∧w'.cell? ⟨gb304,5,none⟩=some (u305005)) (ds:=[10]) #[false,false,false,false,false,false,false,false,false,false,false] (by kernel_rfl) rfl rfl ⟨(blk_cell BK304.out 0).trans rfl,(blk_cell BK304.out 1).trans rfl,(blk_cell BK304.out 2).trans rfl,(blk_cell BK304.out 3).trans rfl,(blk_cell BK304.out 4).trans rfl,(blk_cell BK304.out 5).trans rfl⟩ (fun hHeld=>?_);refine with_tabW spec_l1Cur_model.tab6 spec_l1Cur_model.bits6 (fun HT_ HW_=>?_)
       generalize w29.drew=w30 at HO_305004 HO_305005 HO311 HO317 BK298 BK304 HI0 HK HB hHeld ⊢
       refine pure_ (i:=0) (N:=some 25) (v:=?_) (a':=?_) #[true,false,false,false,false,false,false,false,false,false,false] rfl rfl (any_of HT_.out (by kernel_rfl)) (fun _ _ _ h=>h) (Or.inl ⟨by rfl,?_⟩) ?_ ?_
       rotate_left
       ·intro w'
        go_simp
        with_reducible rfl
       rotate_left
       ·simp only [Act.put,List.setIfInBounds_toArray,List.set_cons_zero,List.set_cons_succ,i64_w,i32_w]
        rfl
       refine pure_ (i:=2) (N:=some 27) (v:=?_) (a':=?_) #[true,false,true,false,false,false,false,false,false,false,false] rfl rfl (any_of HT_.out (by kernel_rfl)) (fun _ _ _ h=>h) (Or.inl ⟨by rfl,?_⟩) ?_ ?_
       rotate_left
       ·intro w'
        go_simp
        with_reducible rfl
       rotate_left
       ·simp only [Act.put,List.setIfInBounds_toArray,List.set_cons_zero,List.set_cons_succ,i64_w,i32_w]
        rfl
       refine pure_ (i:=3) (N:=some 28) (v:=?_) (a':=?_) #[true,false,true,true,false,false,false,false,false,false,false] rfl rfl (any_of HT_.out (by kernel_rfl)) (fun _ _ _ h=>h) (Or.inl ⟨by rfl,?_⟩) ?_ ?_
       rotate_left
       ·intro w'
        go_simp
        with_reducible rfl
       rotate_left
       ·simp only [Act.put,List.setIfInBounds_toArray,List.set_cons_zero,List.set_cons_succ,i64_w,i32_w]
        rfl
       refine take_ (i:=1) (N:=some 26) (v:=?_) (a':=?_) #[true,true,true,true,false,false,false,false,false,false,false] rfl rfl (take_ofW HT_.out HW_.out (by kernel_rfl)) (fun _ _ _ h=>h) (Or.inl ⟨by rfl,?_⟩) hHeld ?_ ?_
       rotate_left
       ·rintro w' ⟨s0,s1,s2,s3,s4,s5⟩
        go_simp
        with_reducible rfl
       rotate_left
       ·simp only [Act.put,List.setIfInBounds_toArray,List.set_cons_zero,List.set_cons_succ,i64_w,i32_w]
        rfl
       refine one_ (i:=4) (N:=some 29) #[true,true,true,true,true,false,false,false,false,false,false] rfl rfl (one_of HT_.out (by kernel_rfl)) (by decide) (fun K hK=>?_)
       refine goes_ Try.func135 (by kernel_rfl) rfl #[.pointer (some ⟨g,0,none⟩),.int .i64 1001] (by rfl) rfl rfl (by (try simp only [List.map_toArray,List.map_cons,List.map_nil]);first|done|rfl|(simp only [List.length_drop,List.length_take];rfl)) ?_
       with_reducible refine (spec_l1Cur_pick.calls g s0_0 t313 t314 1001 t318 t319 t320 w0 _ ?side1 ?side2 A15.out).mono ?_
       (case side1=>repeat (first|(with_reducible first|exact HI0.out|apply IsS146.alloc|apply IsS146.drewN|apply IsS146.drew|apply IsS146.set_1|apply IsS146.set_2|refine IsS146.far ?_ NB0_298.out _|refine IsS146.far ?_ NB0_304.out _)|exact HI0.out))
       (case side2=>repeat (first|(with_reducible first|exact HB.out|apply below_alloc|apply pw_below_drewN|apply below_drew1|refine below_set ?_ (IsS146.ge HI0.out)|refine below_set ?_ GE298.out|refine below_set ?_ GE304.out)|exact HB.out))
       rintro e w31 ⟨rfl,hi,hb,hk⟩
       refine ⟨_,rfl,?_⟩
       have n0_:=Aside0.mk (Kd.R_mono (Kd.R_keep (IsS146.apart (show IsS146 w0 _ g s0_0 t313 t314 from by repeat (first|(with_reducible first|exact HI0.out|apply IsS146.alloc|apply IsS146.drewN|apply IsS146.drew|apply IsS146.set_1|apply IsS146.set_2|refine IsS146.far ?_ NB0_298.out _|refine IsS146.far ?_ NB0_304.out _)|exact HI0.out)) (by (with_reducible repeat (first|apply Kd.R_alloc|apply Kd.R_drewN|apply Kd.R_drew));exact HO_305004.out) (by decide)) hk (fun _ h=>h.2)) (fun _ h=>h.1))
       have n1_:=Aside0.mk (Kd.R_mono (Kd.R_keep (IsS146.apart (show IsS146 w0 _ g s0_0 t313 t314 from by repeat (first|(with_reducible first|exact HI0.out|apply IsS146.alloc|apply IsS146.drewN|apply IsS146.drew|apply IsS146.set_1|apply IsS146.set_2|refine IsS146.far ?_ NB0_298.out _|refine IsS146.far ?_ NB0_304.out _)|exact HI0.out)) (by (with_reducible repeat (first|apply Kd.R_alloc|apply Kd.R_drewN|apply Kd.R_drew));exact HO_305005.out) (by decide)) hk (fun _ h=>h.2)) (fun _ h=>h.1))
       have n2_:=Aside0.mk (KeepBut.blk hk (g':=gb298) (o:=.cells #[.int .i64 0,.int .i64 0,.int .i64 0,.slice none 0 0,.slice none 0 0,.slice none 0 0] 34 (0,0)) (by (with_reducible repeat (first|refine blk_drewN ?_ _|refine blk_drew ?_|refine blk_alloc ?_ _));exact BK298.out) NB298_0.out (by simp))
       have n3_:=Aside0.mk (KeepBut.blk hk (g':=gb304) (o:=.cells #[.int .i64 t299,.int .i64 t300,.int .i64 t301,.slice Ao27 y315.length co27,u305004,u305005] 34 (0,0)) (by (with_reducible repeat (first|refine blk_drewN ?_ _|refine blk_drew ?_|refine blk_alloc ?_ _));exact BK304.out) NB304_0.out (by simp))
       have n4_:=Aside0.mk (Kd.R_mono (Kd.R_keep (IsS146.apart (show IsS146 w0 _ g s0_0 t313 t314 from by repeat (first|(with_reducible first|exact HI0.out|apply IsS146.alloc|apply IsS146.drewN|apply IsS146.drew|apply IsS146.set_1|apply IsS146.set_2|refine IsS146.far ?_ NB0_298.out _|refine IsS146.far ?_ NB0_304.out _)|exact HI0.out)) (by (with_reducible repeat (first|apply Kd.R_alloc|apply Kd.R_drewN|apply Kd.R_drew));exact HO311.out) (by decide)) hk (fun _ h=>h.2)) (fun _ h=>h.1))
       have n5_:=Aside0.mk (Kd.R_mono (Kd.R_keep (IsS146.apart (show IsS146 w0 _ g s0_0 t313 t314 from by repeat (first|(with_reducible first|exact HI0.out|apply IsS146.alloc|apply IsS146.drewN|apply IsS146.drew|apply IsS146.set_1|apply IsS146.set_2|refine IsS146.far ?_ NB0_298.out _|refine IsS146.far ?_ NB0_304.out _)|exact HI0.out)) (by (with_reducible repeat (first|apply Kd.R_alloc|apply Kd.R_drewN|apply Kd.R_drew));exact HO317.out) (by decide)) hk (fun _ h=>h.2)) (fun _ h=>h.1))
       have n6_:=Aside0.mk (KeepBut.trans (by repeat (first|(with_reducible first|exact HK.out|apply KeepBut.set_|apply keep_drewN|apply keep_drew|apply keep_alloc|refine keep_far ?_ GW298.out _|refine keep_far ?_ GW304.out _)|exact HK.out)) hk (.inl rfl))
       have n7_:=Aside0.mk (hb)
       have n8_:=Aside0.mk (hi)
       clear HO_305004
       clear HO_305005
       clear BK298
       clear BK304
       clear HO311
       clear HO317
       clear HK
       clear HB
       clear HI0
       have HO_305004:=n0_
       have HO_305005:=n1_
       have BK298:=n2_
       have BK304:=n3_
       have HO311:=n4_
       have HO317:=n5_
       have HK:=n6_
       have HB:=n7_
       have HI0:=n8_
       clear n0_ n1_ n2_ n3_ n4_ n5_ n6_ n7_ n8_
       (try clear hb)
       (try clear hb2)
       (try clear hk)
       (try clear hi)
       refine hK.out _ _ ⟨(blk_cell BK304.out 0).trans rfl,(blk_cell BK304.out 1).trans rfl,(blk_cell BK304.out 2).trans rfl,(blk_cell BK304.out 3).trans rfl,(blk_cell BK304.out 4).trans rfl,(blk_cell BK304.out 5).trans rfl⟩ (fun hHeld=>?_)
       clear hK K
       refine norm_ (a':=?_) ?_ ?_
       rotate_left
       ·show Act.put _ (some 29) _=_
        simp only [Act.put,List.setIfInBounds_toArray,List.set_cons_zero,List.set_cons_succ,i64_w,i32_w]
        rfl
       refine one_ (i:=5) (N:=some 30) #[true,true,true,true,true,true,false,false,false,false,false] rfl rfl (one_of HT_.out (by kernel_rfl)) (by decide) (fun K hK=>?_)
       refine Kd.R_lit_step (Kd.int .i64) _ 3 ?hg (N:=30) ?hd (xs:=([0,0,5,10,20,50,t318]:List Int)) (inner:=[.int .i64 0,.int .i64 0,.int .i64 5,.int .i64 10,.int .i64 20,.int .i64 50,.int .i64 t318]) (ok:=fun _=>True) (okp:=fun _=>True) ?hr ?hp (fun _ hk=>hk) trivial (Below.refl _ _) (Nat.le_refl _) (by simp) ?_;(case hd=>rfl);(case hg=>rfl);(case hr=>first|(go_simp;done)|(go_simp;rfl));(case hp=>exact (Reps.one (show Kd.M (Kd.int .i64) _ _ _ 0 [.int .i64 0] from rfl) (Reps.one (show Kd.M (Kd.int .i64) _ _ _ 0 [.int .i64 0] from rfl) (Reps.one (show Kd.M (Kd.int .i64) _ _ _ 5 [.int .i64 5] from rfl) (Reps.one (show Kd.M (Kd.int .i64) _ _ _ 10 [.int .i64 10] from rfl) (Reps.one (show Kd.M (Kd.int .i64) _ _ _ 20 [.int .i64 20] from rfl) (Reps.one (show Kd.M (Kd.int .i64) _ _ _ 50 [.int .i64 50] from rfl) (Reps.one (show Kd.M (Kd.int .i64) _ _ _ t318 [.int .i64 t318] from rfl) (Reps.none _ _)))))))))
       intro v322 w32 ho33 hb hg_ hnew_
       clear hg_ hnew_
       (first|rw [← Ny321.out] at ho33|(simp only [Int.reduceToNat] at ho33;rw [← Ny321.out] at ho33))
       have n0_:=Aside0.mk (Kd.R_elder' (by (with_reducible repeat (first|apply Kd.R_alloc|apply Kd.R_drewN|apply Kd.R_drew));exact HO_305004.out) (Kd.R_base ho33) hb)
       have n1_:=Aside0.mk (Kd.R_elder' (by (with_reducible repeat (first|apply Kd.R_alloc|apply Kd.R_drewN|apply Kd.R_drew));exact HO_305005.out) (Kd.R_base ho33) hb)
       have n2_:=Aside0.mk (Kd.R_elder' (by (with_reducible repeat (first|apply Kd.R_alloc|apply Kd.R_drewN|apply Kd.R_drew));exact HO311.out) (Kd.R_base ho33) hb)
       have n3_:=Aside0.mk (Kd.R_elder' (by (with_reducible repeat (first|apply Kd.R_alloc|apply Kd.R_drewN|apply Kd.R_drew));exact HO317.out) (Kd.R_base ho33) hb)
       have n4_:=Aside0.mk (Kd.R_lower (Kd.R_new' (Kd.R_new' (Kd.R_new' (Kd.R_new' ho33 (Kd.R_lt (by (with_reducible repeat (first|apply Kd.R_alloc|apply Kd.R_drewN|apply Kd.R_drew));exact HO_305004.out))) (Kd.R_lt (by (with_reducible repeat (first|apply Kd.R_alloc|apply Kd.R_drewN|apply Kd.R_drew));exact HO_305005.out))) (Kd.R_lt (by (with_reducible repeat (first|apply Kd.R_alloc|apply Kd.R_drewN|apply Kd.R_drew));exact HO311.out))) (Kd.R_lt (by (with_reducible repeat (first|apply Kd.R_alloc|apply Kd.R_drewN|apply Kd.R_drew));exact HO317.out))) (keep_size (w:=w) (g:=g) (row:=none) (by repeat (first|(with_reducible first|exact HK.out|apply KeepBut.set_|apply keep_drewN|apply keep_drew|apply keep_alloc|refine keep_far ?_ GW298.out _|refine keep_far ?_ GW304.out _)|exact HK.out))))
       have n5_:=Aside0.mk (blk_below (g:=gb298) (o:=.cells #[.int .i64 0,.int .i64 0,.int .i64 0,.slice none 0 0,.slice none 0 0,.slice none 0 0] 34 (0,0)) (by (with_reducible repeat (first|refine blk_drewN ?_ _|refine blk_drew ?_|refine blk_alloc ?_ _));exact BK298.out) hb)
       have n6_:=Aside0.mk (blk_below (g:=gb304) (o:=.cells #[.int .i64 t299,.int .i64 t300,.int .i64 t301,.slice Ao27 y315.length co27,u305004,u305005] 34 (0,0)) (by (with_reducible repeat (first|refine blk_drewN ?_ _|refine blk_drew ?_|refine blk_alloc ?_ _));exact BK304.out) hb)
       have n7_:=Aside0.mk (IsS146.below (by repeat (first|(with_reducible first|exact HI0.out|apply IsS146.alloc|apply IsS146.drewN|apply IsS146.drew|apply IsS146.set_1|apply IsS146.set_2|refine IsS146.far ?_ NB0_298.out _|refine IsS146.far ?_ NB0_304.out _)|exact HI0.out)) hb)
       have n8_:=Aside0.mk (KeepBut.trans (by repeat (first|(with_reducible first|exact HK.out|apply KeepBut.set_|apply keep_drewN|apply keep_drew|apply keep_alloc|refine keep_far ?_ GW298.out _|refine keep_far ?_ GW304.out _)|exact HK.out)) (KeepBut.of_below hb g none) (.inl rfl))
       have n9_:=Aside0.mk (below_step (by repeat (first|(with_reducible first|exact HB.out|apply below_alloc|apply pw_below_drewN|apply below_drew1|refine below_set ?_ (IsS146.ge HI0.out)|refine below_set ?_ GE298.out|refine below_set ?_ GE304.out)|exact HB.out)) hb)
       clear HO_305004
       clear HO_305005
       clear HO311
       clear HO317
       clear BK298
       clear BK304
       clear HI0
       clear HK
       clear HB
       have HO_305004:=n0_
       have HO_305005:=n1_
       have HO311:=n2_
       have HO317:=n3_
       have HO323:=n4_
       have BK298:=n5_
       have BK304:=n6_
       have HI0:=n7_
       have HK:=n8_
       have HB:=n9_
       clear n0_ n1_ n2_ n3_ n4_ n5_ n6_ n7_ n8_ n9_
       clear hb ho33
       obtain ⟨Ao34,co34,eo34⟩:=Kd.R_slice HO323.out
       (first|subst eo34|(injection eo34 with f1_ f2_ f3_;have f4_:=f1_.symm;have f5_:=f3_.symm;clear f1_ f2_ f3_;subst f4_;subst f5_))
       refine hK.out _ _ ⟨(blk_cell BK304.out 0).trans rfl,(blk_cell BK304.out 1).trans rfl,(blk_cell BK304.out 2).trans rfl,(blk_cell BK304.out 3).trans rfl,(blk_cell BK304.out 4).trans rfl,(blk_cell BK304.out 5).trans rfl⟩ (fun hHeld=>?_)
       clear hK K
       refine norm_ (a':=?_) ?_ ?_
       rotate_left
       ·show Act.put _ (some 30) _=_
        simp only [Act.put,List.setIfInBounds_toArray,List.set_cons_zero,List.set_cons_succ,i64_w,i32_w]
        rfl
       refine one_ (i:=6) (N:=some 31) #[true,true,true,true,true,true,true,false,false,false,false] rfl rfl (one_of HT_.out (by kernel_rfl)) (by decide) (fun K hK=>?_)
       refine goes_ Try.func128 (by kernel_rfl) rfl #[.pointer (some ⟨g,0,none⟩),.slice Ao34 y321.length co34] (by rfl) rfl rfl (by (try simp only [List.map_toArray,List.map_cons,List.map_nil]);first|done|rfl|(simp only [List.length_drop,List.length_take];rfl)) ?_
       with_reducible refine (spec_l1Cur_among.calls g s0_0 t319 t320 _ _ y321 t324 t325 t326 w0 _ ?side1 ?side2 ?side3 ?side4 ?side5 A16.out).mono ?_
       (case side1=>repeat (first|(with_reducible first|exact HI0.out|apply IsS146.alloc|apply IsS146.drewN|apply IsS146.drew|apply IsS146.set_1|apply IsS146.set_2|refine IsS146.far ?_ NB0_298.out _|refine IsS146.far ?_ NB0_304.out _)|exact HI0.out))
       (case side2=>repeat (first|(with_reducible first|exact HB.out|apply below_alloc|apply pw_below_drewN|apply below_drew1|refine below_set ?_ (IsS146.ge HI0.out)|refine below_set ?_ GE298.out|refine below_set ?_ GE304.out)|exact HB.out))
       (case side3=>repeat (first|exact (Kd.R_reads' HO323.out).2.2|(with_reducible refine Kd.C_alloc ?_ _)|(with_reducible refine Kd.C_drewN ?_ _)|(with_reducible refine Kd.C_drew ?_)))
       (case side4=>exact (Kd.R_reads' HO323.out).2.1)
       (case side5=>exact far_slice (IsS146.own_ne HI0.out HO323.out (by decide)))
       rintro e w35 ⟨rfl,hi,hb,hk⟩
       refine ⟨_,rfl,?_⟩
       have n0_:=Aside0.mk (Kd.R_mono (Kd.R_keep (IsS146.apart (show IsS146 w0 _ g s0_0 t319 t320 from by repeat (first|(with_reducible first|exact HI0.out|apply IsS146.alloc|apply IsS146.drewN|apply IsS146.drew|apply IsS146.set_1|apply IsS146.set_2|refine IsS146.far ?_ NB0_298.out _|refine IsS146.far ?_ NB0_304.out _)|exact HI0.out)) (by (with_reducible repeat (first|apply Kd.R_alloc|apply Kd.R_drewN|apply Kd.R_drew));exact HO_305004.out) (by decide)) hk (fun _ h=>h.2)) (fun _ h=>h.1))
       have n1_:=Aside0.mk (Kd.R_mono (Kd.R_keep (IsS146.apart (show IsS146 w0 _ g s0_0 t319 t320 from by repeat (first|(with_reducible first|exact HI0.out|apply IsS146.alloc|apply IsS146.drewN|apply IsS146.drew|apply IsS146.set_1|apply IsS146.set_2|refine IsS146.far ?_ NB0_298.out _|refine IsS146.far ?_ NB0_304.out _)|exact HI0.out)) (by (with_reducible repeat (first|apply Kd.R_alloc|apply Kd.R_drewN|apply Kd.R_drew));exact HO_305005.out) (by decide)) hk (fun _ h=>h.2)) (fun _ h=>h.1))
       have n2_:=Aside0.mk (KeepBut.blk hk (g':=gb298) (o:=.cells #[.int .i64 0,.int .i64 0,.int .i64 0,.slice none 0 0,.slice none 0 0,.slice none 0 0] 34 (0,0)) (by (with_reducible repeat (first|refine blk_drewN ?_ _|refine blk_drew ?_|refine blk_alloc ?_ _));exact BK298.out) NB298_0.out (by simp))
       have n3_:=Aside0.mk (KeepBut.blk hk (g':=gb304) (o:=.cells #[.int .i64 t299,.int .i64 t300,.int .i64 t301,.slice Ao27 y315.length co27,u305004,u305005] 34 (0,0)) (by (with_reducible repeat (first|refine blk_drewN ?_ _|refine blk_drew ?_|refine blk_alloc ?_ _));exact BK304.out) NB304_0.out (by simp))
       have n4_:=Aside0.mk (Kd.R_mono (Kd.R_keep (IsS146.apart (show IsS146 w0 _ g s0_0 t319 t320 from by repeat (first|(with_reducible first|exact HI0.out|apply IsS146.alloc|apply IsS146.drewN|apply IsS146.drew|apply IsS146.set_1|apply IsS146.set_2|refine IsS146.far ?_ NB0_298.out _|refine IsS146.far ?_ NB0_304.out _)|exact HI0.out)) (by (with_reducible repeat (first|apply Kd.R_alloc|apply Kd.R_drewN|apply Kd.R_drew));exact HO311.out) (by decide)) hk (fun _ h=>h.2)) (fun _ h=>h.1))
       have n5_:=Aside0.mk (Kd.R_mono (Kd.R_keep (IsS146.apart (show IsS146 w0 _ g s0_0 t319 t320 from by repeat (first|(with_reducible first|exact HI0.out|apply IsS146.alloc|apply IsS146.drewN|apply IsS146.drew|apply IsS146.set_1|apply IsS146.set_2|refine IsS146.far ?_ NB0_298.out _|refine IsS146.far ?_ NB0_304.out _)|exact HI0.out)) (by (with_reducible repeat (first|apply Kd.R_alloc|apply Kd.R_drewN|apply Kd.R_drew));exact HO317.out) (by decide)) hk (fun _ h=>h.2)) (fun _ h=>h.1))
       have n6_:=Aside0.mk (Kd.R_mono (Kd.R_keep (IsS146.apart (show IsS146 w0 _ g s0_0 t319 t320 from by repeat (first|(with_reducible first|exact HI0.out|apply IsS146.alloc|apply IsS146.drewN|apply IsS146.drew|apply IsS146.set_1|apply IsS146.set_2|refine IsS146.far ?_ NB0_298.out _|refine IsS146.far ?_ NB0_304.out _)|exact HI0.out)) (by (with_reducible repeat (first|apply Kd.R_alloc|apply Kd.R_drewN|apply Kd.R_drew));exact HO323.out) (by decide)) hk (fun _ h=>h.2)) (fun _ h=>h.1))
       have n7_:=Aside0.mk (KeepBut.trans (by repeat (first|(with_reducible first|exact HK.out|apply KeepBut.set_|apply keep_drewN|apply keep_drew|apply keep_alloc|refine keep_far ?_ GW298.out _|refine keep_far ?_ GW304.out _)|exact HK.out)) hk (.inl rfl))
       have n8_:=Aside0.mk (hb)
       have n9_:=Aside0.mk (hi)
       clear HO_305004
       clear HO_305005
       clear BK298
       clear BK304
       clear HO311
       clear HO317
       clear HO323
       clear HK
       clear HB
       clear HI0
       have HO_305004:=n0_
       have HO_305005:=n1_
       have BK298:=n2_
       have BK304:=n3_
       have HO311:=n4_
       have HO317:=n5_
       have HO323:=n6_
       have HK:=n7_
       have HB:=n8_
       have HI0:=n9_
       clear n0_ n1_ n2_ n3_ n4_ n5_ n6_ n7_ n8_ n9_
       (try clear hb)
       (try clear hb2)
       (try clear hk)
       (try clear hi)
       refine hK.out _ _ ⟨(blk_cell BK304.out 0).trans rfl,(blk_cell BK304.out 1).trans rfl,(blk_cell BK304.out 2).trans rfl,(blk_cell BK304.out 3).trans rfl,(blk_cell BK304.out 4).trans rfl,(blk_cell BK304.out 5).trans rfl⟩ (fun hHeld=>?_)
       clear hK K
       refine norm_ (a':=?_) ?_ ?_
       rotate_left
       ·show Act.put _ (some 31) _=_
        simp only [Act.put,List.setIfInBounds_toArray,List.set_cons_zero,List.set_cons_succ,i64_w,i32_w]
        rfl
       refine one_ (i:=7) (N:=some 32) #[true,true,true,true,true,true,true,true,false,false,false] rfl rfl (one_of HT_.out (by kernel_rfl)) (by decide) (fun K hK=>?_)
       refine value_ (w1:=?_) (v:=?_) (by rfl) rfl ?_ ?_
       rotate_left 2
       ·go_simp
        constructor
        ·rfl
        ·rfl
       refine hK.out _ _ ⟨(blk_cell (blk_alloc BK304.out _) 0).trans rfl,(blk_cell (blk_alloc BK304.out _) 1).trans rfl,(blk_cell (blk_alloc BK304.out _) 2).trans rfl,(blk_cell (blk_alloc BK304.out _) 3).trans rfl,(blk_cell (blk_alloc BK304.out _) 4).trans rfl,(blk_cell (blk_alloc BK304.out _) 5).trans rfl⟩ (fun hHeld=>?_)
       clear hK K
       refine norm_ (a':=?_) ?_ ?_
       rotate_left
       ·show Act.put _ (some 32) _=_
        simp only [Act.put,List.setIfInBounds_toArray,List.set_cons_zero,List.set_cons_succ,i64_w,i32_w]
        rfl
       refine one_ (i:=8) (N:=some 33) #[true,true,true,true,true,true,true,true,true,false,false] rfl rfl (one_of HT_.out (by kernel_rfl)) (by decide) (fun K hK=>?_)
       refine Kd.R_append_step (Kd.int .i64) w.heap.size (by rfl) (.tmp 26) (.tmp 32) 24 3 (.int .i64 0) 8 rfl Try.underlying24 info3 rfl (by decide) (by omega) u305004 x305004_1 t324 [.int .i64 t324] (fun k_=>some k_≠(u305005:Value).ownBlock∧some k_≠(.slice Ao24 y309.length co24:Value).ownBlock∧some k_≠(.slice Ao27 y315.length co27:Value).ownBlock∧some k_≠(.slice Ao34 y321.length co34:Value).ownBlock) (fun _=>False) rfl rfl ?aP (fun _ hk=>hk.elim) ?aF ?aO (Below.refl _ _) ?aS ?aL ?_
       (case aP=>exact rfl)
       (case aF=>exact (fun k_ hk=>⟨Kd.fresh' (Kd.R_lt (by (with_reducible repeat (first|apply Kd.R_alloc|apply Kd.R_drewN|apply Kd.R_drew));exact HO_305005.out)) k_ hk,Kd.fresh' (Kd.R_lt (by (with_reducible repeat (first|apply Kd.R_alloc|apply Kd.R_drewN|apply Kd.R_drew));exact HO311.out)) k_ hk,Kd.fresh' (Kd.R_lt (by (with_reducible repeat (first|apply Kd.R_alloc|apply Kd.R_drewN|apply Kd.R_drew));exact HO317.out)) k_ hk,Kd.fresh' (Kd.R_lt (by (with_reducible repeat (first|apply Kd.R_alloc|apply Kd.R_drewN|apply Kd.R_drew));exact HO323.out)) k_ hk⟩))
       (case aO=>exact (by (with_reducible repeat (first|apply Kd.R_alloc|apply Kd.R_drewN|apply Kd.R_drew));exact Kd.R_mono HO_305004.out (fun _ hk=>⟨hk.1.1,⟨hk.1.2.1,⟨hk.1.2.2,hk.2⟩⟩⟩)))
       (case aS=>exact (keep_size (w:=w) (g:=g) (row:=none) (by repeat (first|(with_reducible first|exact HK.out|apply KeepBut.set_|apply keep_drewN|apply keep_drew|apply keep_alloc|refine keep_far ?_ GW298.out _|refine keep_far ?_ GW304.out _)|exact HK.out))))
       (case aL=>have:=LMc17.out;omega)
       intro v328 w36 ho hb hg hat
       rw [← Ny327.out] at ho
       have n0_:=Aside0.mk (Kd.R_after (ok:=(fun k_=>some k_≠(.slice Ao24 y309.length co24:Value).ownBlock∧some k_≠(.slice Ao27 y315.length co27:Value).ownBlock∧some k_≠(.slice Ao34 y321.length co34:Value).ownBlock)) (by (with_reducible repeat (first|apply Kd.R_alloc|apply Kd.R_drewN|apply Kd.R_drew));exact Kd.R_mono HO_305005.out (fun _ hk=>⟨⟨hk.1.2.1,⟨hk.1.2.2,hk.2⟩⟩,hk.1.1⟩)) hg hat)
       have n1_:=Aside0.mk (blk_grown (g:=gb298) (o:=.cells #[.int .i64 0,.int .i64 0,.int .i64 0,.slice none 0 0,.slice none 0 0,.slice none 0 0] 34 (0,0)) (by (with_reducible repeat (first|refine blk_drewN ?_ _|refine blk_drew ?_|refine blk_alloc ?_ _));exact BK298.out) hg (Kd.R_ne HO_305004.out BK298.out (by decide)))
       have n2_:=Aside0.mk (blk_grown (g:=gb304) (o:=.cells #[.int .i64 t299,.int .i64 t300,.int .i64 t301,.slice Ao27 y315.length co27,u305004,u305005] 34 (0,0)) (by (with_reducible repeat (first|refine blk_drewN ?_ _|refine blk_drew ?_|refine blk_alloc ?_ _));exact BK304.out) hg (Kd.R_ne HO_305004.out BK304.out (by decide)))
       have n3_:=Aside0.mk (IsS146.grown (by repeat (first|(with_reducible first|exact HI0.out|apply IsS146.alloc|apply IsS146.drewN|apply IsS146.drew|apply IsS146.set_1|apply IsS146.set_2|refine IsS146.far ?_ NB0_298.out _|refine IsS146.far ?_ NB0_304.out _)|exact HI0.out)) hg (IsS146.own_ne HI0.out HO_305004.out (by decide)))
       have n4_:=Aside0.mk (Kd.R_after (ok:=(fun k_=>some k_≠(u305005:Value).ownBlock∧some k_≠(.slice Ao27 y315.length co27:Value).ownBlock∧some k_≠(.slice Ao34 y321.length co34:Value).ownBlock)) (by (with_reducible repeat (first|apply Kd.R_alloc|apply Kd.R_drewN|apply Kd.R_drew));exact Kd.R_mono HO311.out (fun _ hk=>⟨⟨hk.1.2.1,⟨hk.1.2.2,hk.2⟩⟩,hk.1.1⟩)) hg hat)
       have n5_:=Aside0.mk (Kd.R_after (ok:=(fun k_=>some k_≠(u305005:Value).ownBlock∧some k_≠(.slice Ao24 y309.length co24:Value).ownBlock∧some k_≠(.slice Ao34 y321.length co34:Value).ownBlock)) (by (with_reducible repeat (first|apply Kd.R_alloc|apply Kd.R_drewN|apply Kd.R_drew));exact Kd.R_mono HO317.out (fun _ hk=>⟨⟨hk.1.2.1,⟨hk.1.2.2,hk.2⟩⟩,hk.1.1⟩)) hg hat)
       have n6_:=Aside0.mk (Kd.R_after (ok:=(fun k_=>some k_≠(u305005:Value).ownBlock∧some k_≠(.slice Ao24 y309.length co24:Value).ownBlock∧some k_≠(.slice Ao27 y315.length co27:Value).ownBlock)) (by (with_reducible repeat (first|apply Kd.R_alloc|apply Kd.R_drewN|apply Kd.R_drew));exact Kd.R_mono HO323.out (fun _ hk=>⟨⟨hk.1.1.2,⟨hk.1.2,hk.2⟩⟩,hk.1.1.1.2⟩)) hg hat)
       have n7_:=Aside0.mk (below_weaken (by repeat (first|(with_reducible first|exact HB.out|apply below_alloc|apply pw_below_drewN|apply below_drew1|refine below_set ?_ (IsS146.ge HI0.out)|refine below_set ?_ GE298.out|refine below_set ?_ GE304.out)|exact HB.out)) HL.out hb)
       have n8_:=Aside0.mk (KeepBut.trans (by repeat (first|(with_reducible first|exact HK.out|apply KeepBut.set_|apply keep_drewN|apply keep_drew|apply keep_alloc|refine keep_far ?_ GW298.out _|refine keep_far ?_ GW304.out _)|exact HK.out)) (KeepBut.of_grown hg g) (Kd.R_base2 HO_305004.out))
       have n9_:=Aside0.mk (ho)
       clear HO_305005
       clear BK298
       clear BK304
       clear HI0
       clear HO311
       clear HO317
       clear HO323
       clear HB
       clear HK
       clear HO_305004
       have HO_305005:=n0_
       have BK298:=n1_
       have BK304:=n2_
       have HI0:=n3_
       have HO311:=n4_
       have HO317:=n5_
       have HO323:=n6_
       have HB:=n7_
       have HK:=n8_
       have HO329:=n9_
       clear n0_ n1_ n2_ n3_ n4_ n5_ n6_ n7_ n8_ n9_
       clear ho hb hg hat
       obtain ⟨Ao37,co37,eo37⟩:=Kd.R_slice HO329.out
       (first|subst eo37|(injection eo37 with f1_ f2_ f3_;have f4_:=f1_.symm;have f5_:=f3_.symm;clear f1_ f2_ f3_;subst f4_;subst f5_))
       refine hK.out _ _ ⟨(blk_cell BK304.out 0).trans rfl,(blk_cell BK304.out 1).trans rfl,(blk_cell BK304.out 2).trans rfl,(blk_cell BK304.out 3).trans rfl,(blk_cell BK304.out 4).trans rfl,(blk_cell BK304.out 5).trans rfl⟩ (fun hHeld=>?_)
       clear hK K
       refine norm_ (a':=?_) ?_ ?_
       rotate_left
       ·show Act.put _ (some 33) _=_
        simp only [Act.put,List.setIfInBounds_toArray,List.set_cons_zero,List.set_cons_succ,i64_w,i32_w]
        rfl
       refine pure_ (i:=9) (N:=some 34) (v:=?_) (a':=?_) #[true,true,true,true,true,true,true,true,true,true,false] rfl rfl (any_of HT_.out (by kernel_rfl)) (fun _ _ _ h=>h) (Or.inl ⟨by rfl,?_⟩) ?_ ?_
       rotate_left
       ·intro w'
        go_simp
        with_reducible rfl
       rotate_left
       ·simp only [Act.put,List.setIfInBounds_toArray,List.set_cons_zero,List.set_cons_succ,i64_w,i32_w]
        rfl
       refine last_ (i:=10) (N:=none) #[true,true,true,true,true,true,true,true,true,true,true] rfl rfl (one_of HT_.out (by kernel_rfl)) (by decide) (fun K hK=>?_)
       have hs38:w36.cell? ⟨gb304,4,none⟩=some (u305004):=(blk_cell BK304.out 4).trans rfl
       have hfs38:=blk_frozen BK304.out 4
       have hns38_0:=NB298_304.out
       have hms38_0:=NB304_298.out
       refine skip_ (w1:=?_) (by rfl) rfl ?_ ?_
       rotate_left
       ·go_simp
        rfl
       refine hK.out _ _ ?_
       clear hK K
       refine done_ (done_of HT_.out (by kernel_rfl)) ?_
       try go_wp2
       have n0_:Aside0 (Kd.R (Kd.int .i64) 3 (w36.setCell ⟨gb304,4,none⟩ (.slice Ao37 y327.length co37)) w.heap.size (fun k_=>some k_≠(.slice Ao24 y309.length co24:Value).ownBlock∧some k_≠(.slice Ao27 y315.length co27:Value).ownBlock∧some k_≠(.slice Ao34 y321.length co34:Value).ownBlock∧some k_≠(.slice Ao37 y327.length co37:Value).ownBlock) u305005 x305005_1):=⟨by (with_reducible repeat (first|apply Kd.R_alloc|apply Kd.R_drewN|apply Kd.R_drew));exact Kd.R_mono (Kd.R_far (p:=⟨gb304,4,none⟩) (Kd.R_types HO_305005.out BK304.out (by decide)) (fun _ hk=>hk.2) (.slice Ao37 y327.length co37)) (fun _ hk=>⟨hk.1.1.1,⟨hk.1.1.2.1,⟨hk.1.1.2.2,hk.1.2⟩⟩⟩)⟩
       have n1_:Aside0 (Kd.R (Kd.int .i64) 3 (w36.setCell ⟨gb304,4,none⟩ (.slice Ao37 y327.length co37)) w.heap.size (fun k_=>some k_≠(u305005:Value).ownBlock∧some k_≠(.slice Ao27 y315.length co27:Value).ownBlock∧some k_≠(.slice Ao34 y321.length co34:Value).ownBlock∧some k_≠(.slice Ao37 y327.length co37:Value).ownBlock) (.slice Ao24 y309.length co24) y309):=⟨by (with_reducible repeat (first|apply Kd.R_alloc|apply Kd.R_drewN|apply Kd.R_drew));exact Kd.R_mono (Kd.R_far (p:=⟨gb304,4,none⟩) (Kd.R_types HO311.out BK304.out (by decide)) (fun _ hk=>hk.2) (.slice Ao37 y327.length co37)) (fun _ hk=>⟨hk.1.1.1,⟨hk.1.1.2.1,⟨hk.1.1.2.2,hk.1.2⟩⟩⟩)⟩
       have n2_:Aside0 (Kd.R (Kd.int .i64) 3 (w36.setCell ⟨gb304,4,none⟩ (.slice Ao37 y327.length co37)) w.heap.size (fun k_=>some k_≠(u305005:Value).ownBlock∧some k_≠(.slice Ao24 y309.length co24:Value).ownBlock∧some k_≠(.slice Ao34 y321.length co34:Value).ownBlock∧some k_≠(.slice Ao37 y327.length co37:Value).ownBlock) (.slice Ao27 y315.length co27) y315):=⟨by (with_reducible repeat (first|apply Kd.R_alloc|apply Kd.R_drewN|apply Kd.R_drew));exact Kd.R_mono (Kd.R_far (p:=⟨gb304,4,none⟩) (Kd.R_types HO317.out BK304.out (by decide)) (fun _ hk=>hk.2) (.slice Ao37 y327.length co37)) (fun _ hk=>⟨hk.1.1.1,⟨hk.1.1.2.1,⟨hk.1.1.2.2,hk.1.2⟩⟩⟩)⟩
       have n3_:Aside0 (Kd.R (Kd.int .i64) 3 (w36.setCell ⟨gb304,4,none⟩ (.slice Ao37 y327.length co37)) w.heap.size (fun k_=>some k_≠(u305005:Value).ownBlock∧some k_≠(.slice Ao24 y309.length co24:Value).ownBlock∧some k_≠(.slice Ao27 y315.length co27:Value).ownBlock∧some k_≠(.slice Ao37 y327.length co37:Value).ownBlock) (.slice Ao34 y321.length co34) y321):=⟨by (with_reducible repeat (first|apply Kd.R_alloc|apply Kd.R_drewN|apply Kd.R_drew));exact Kd.R_mono (Kd.R_far (p:=⟨gb304,4,none⟩) (Kd.R_types HO323.out BK304.out (by decide)) (fun _ hk=>hk.2) (.slice Ao37 y327.length co37)) (fun _ hk=>⟨hk.1.1.1,⟨hk.1.1.2.1,⟨hk.1.1.2.2,hk.1.2⟩⟩⟩)⟩
       have n4_:Aside0 (Kd.R (Kd.int .i64) 3 (w36.setCell ⟨gb304,4,none⟩ (.slice Ao37 y327.length co37)) w.heap.size (fun k_=>some k_≠(u305005:Value).ownBlock∧some k_≠(.slice Ao24 y309.length co24:Value).ownBlock∧some k_≠(.slice Ao27 y315.length co27:Value).ownBlock∧some k_≠(.slice Ao34 y321.length co34:Value).ownBlock) (.slice Ao37 y327.length co37) y327):=⟨by (with_reducible repeat (first|apply Kd.R_alloc|apply Kd.R_drewN|apply Kd.R_drew));exact Kd.R_mono (Kd.R_far (p:=⟨gb304,4,none⟩) (Kd.R_types HO329.out BK304.out (by decide)) (fun _ hk=>hk.2) (.slice Ao37 y327.length co37)) (fun _ hk=>⟨hk.1.1,⟨hk.1.2.1,⟨hk.1.2.2.1,hk.1.2.2.2⟩⟩⟩)⟩
       have n5_:Aside0 ((w36.setCell ⟨gb304,4,none⟩ (.slice Ao37 y327.length co37)).heap[gb298]?=some (.cells #[.int .i64 0,.int .i64 0,.int .i64 0,.slice none 0 0,.slice none 0 0,.slice none 0 0] 34 (0,0))):=⟨by (with_reducible repeat (first|refine blk_drewN ?_ _|refine blk_drew ?_|refine blk_alloc ?_ _));refine blk_far ?_ NB298_304.out _;(with_reducible repeat (first|refine blk_drewN ?_ _|refine blk_drew ?_|refine blk_alloc ?_ _));exact BK298.out⟩
       have n6_:Aside0 ((w36.setCell ⟨gb304,4,none⟩ (.slice Ao37 y327.length co37)).heap[gb304]?=some (.cells #[.int .i64 t299,.int .i64 t300,.int .i64 t301,.slice Ao27 y315.length co27,.slice Ao37 y327.length co37,u305005] 34 (0,0))):=⟨by (with_reducible repeat (first|refine blk_drewN ?_ _|refine blk_drew ?_|refine blk_alloc ?_ _));refine blk_put (cs:=#[.int .i64 t299,.int .i64 t300,.int .i64 t301,.slice Ao27 y315.length co27,u305004,u305005]) ?_ 4 _ rfl;(with_reducible repeat (first|refine blk_drewN ?_ _|refine blk_drew ?_|refine blk_alloc ?_ _));exact BK304.out⟩
       have n7_:Aside0 (IsS146 w0 (w36.setCell ⟨gb304,4,none⟩ (.slice Ao37 y327.length co37)) g s0_0 t325 t326):=⟨by repeat (first|(with_reducible first|exact HI0.out|apply IsS146.alloc|apply IsS146.drewN|apply IsS146.drew|apply IsS146.set_1|apply IsS146.set_2|refine IsS146.far ?_ NB0_298.out _|refine IsS146.far ?_ NB0_304.out _)|exact HI0.out)⟩
       have n8_:Aside0 (KeepBut w (w36.setCell ⟨gb304,4,none⟩ (.slice Ao37 y327.length co37)) g none):=⟨by repeat (first|(with_reducible first|exact HK.out|apply KeepBut.set_|apply keep_drewN|apply keep_drew|apply keep_alloc|refine keep_far ?_ GW298.out _|refine keep_far ?_ GW304.out _)|exact HK.out)⟩
       have n9_:Aside0 (Below w0.heap.size w0 (w36.setCell ⟨gb304,4,none⟩ (.slice Ao37 y327.length co37))):=⟨by repeat (first|(with_reducible first|exact HB.out|apply below_alloc|apply pw_below_drewN|apply below_drew1|refine below_set ?_ (IsS146.ge HI0.out)|refine below_set ?_ GE298.out|refine below_set ?_ GE304.out)|exact HB.out)⟩
       (try clear HO_305005)
       (try clear HO311)
       (try clear HO317)
       (try clear HO323)
       (try clear HO329)
       (try clear BK298)
       (try clear BK304)
       (try clear HI0)
       (try clear HK)
       (try clear HB)
       generalize (w36.setCell ⟨gb304,4,none⟩ (.slice Ao37 y327.length co37))=w39 at n0_ n1_ n2_ n3_ n4_ n5_ n6_ n7_ n8_ n9_ ⊢
       have HO_305005:=n0_
       have HO311:=n1_
       have HO317:=n2_
       have HO323:=n3_
       have HO329:=n4_
       have BK298:=n5_
       have BK304:=n6_
       have HI0:=n7_
       have HK:=n8_
       have HB:=n9_
       clear n0_ n1_ n2_ n3_ n4_ n5_ n6_ n7_ n8_ n9_
       have n0_:=Aside0.mk (Kd.R_drew HO_305005.out)
       have n1_:=Aside0.mk (Kd.R_drew HO311.out)
       have n2_:=Aside0.mk (Kd.R_drew HO317.out)
       have n3_:=Aside0.mk (Kd.R_drew HO323.out)
       have n4_:=Aside0.mk (Kd.R_drew HO329.out)
       have n5_:=Aside0.mk (blk_drew BK298.out)
       have n6_:=Aside0.mk (blk_drew BK304.out)
       have n7_:=Aside0.mk (IsS146.drew HI0.out)
       have n8_:=Aside0.mk (keep_drew HK.out)
       have n9_:=Aside0.mk (below_drew1 HB.out)
       clear HO_305005
       clear HO311
       clear HO317
       clear HO323
       clear HO329
       clear BK298
       clear BK304
       clear HI0
       clear HK
       clear HB
       have HO_305005:=n0_
       have HO311:=n1_
       have HO317:=n2_
       have HO323:=n3_
       have HO329:=n4_
       have BK298:=n5_
       have BK304:=n6_
       have HI0:=n7_
       have HK:=n8_
       have HB:=n9_
       clear n0_ n1_ n2_ n3_ n4_ n5_ n6_ n7_ n8_ n9_
       refine start_ (n:=8) (S:=fun w'=>w'.cell? ⟨gb304,0,none⟩=some (.int .i64 t299)∧w'.cell? ⟨gb304,1,none⟩=some (.int .i64 t300)∧w'.cell? ⟨gb304,2,none⟩=some (.int .i64 t301)∧w'.cell? ⟨gb304,3,none⟩=some (.slice Ao27 y315.length co27)∧w'.cell? ⟨gb304,4,none⟩=some (.slice Ao37 y327.length co37)∧w'.cell? ⟨gb304,5,none⟩=some (u305005)) (ds:=[7]) #[false,false,false,false,false,false,false,false] (by kernel_rfl) rfl rfl ⟨(blk_cell BK304.out 0).trans rfl,(blk_cell BK304.out 1).trans rfl,(blk_cell BK304.out 2).trans rfl,(blk_cell BK304.out 3).trans rfl,(blk_cell BK304.out 4).trans rfl,(blk_cell BK304.out 5).trans rfl⟩ (fun hHeld=>?_);refine with_tabW spec_l1Cur_model.tab7 spec_l1Cur_model.bits7 (fun HT_ HW_=>?_)
       generalize w39.drew=w40 at HO_305005 HO311 HO317 HO323 HO329 BK298 BK304 HI0 HK HB hHeld ⊢
       refine pure_ (i:=0) (N:=some 35) (v:=?_) (a':=?_) #[true,false,false,false,false,false,false,false] rfl rfl (any_of HT_.out (by kernel_rfl)) (fun _ _ _ h=>h) (Or.inl ⟨by rfl,?_⟩) ?_ ?_
       rotate_left
       ·intro w'
        go_simp
        with_reducible rfl
       rotate_left
       ·simp only [Act.put,List.setIfInBounds_toArray,List.set_cons_zero,List.set_cons_succ,i64_w,i32_w]
        rfl
       refine pure_ (i:=2) (N:=some 37) (v:=?_) (a':=?_) #[true,false,true,false,false,false,false,false] rfl rfl (any_of HT_.out (by kernel_rfl)) (fun _ _ _ h=>h) (Or.inl ⟨by rfl,?_⟩) ?_ ?_
       rotate_left
       ·intro w'
        go_simp
        with_reducible rfl
       rotate_left
       ·simp only [Act.put,List.setIfInBounds_toArray,List.set_cons_zero,List.set_cons_succ,i64_w,i32_w]
        rfl
       refine take_ (i:=1) (N:=some 36) (v:=?_) (a':=?_) #[true,true,true,false,false,false,false,false] rfl rfl (take_ofW HT_.out HW_.out (by kernel_rfl)) (fun _ _ _ h=>h) (Or.inl ⟨by rfl,?_⟩) hHeld ?_ ?_
       rotate_left
       ·rintro w' ⟨s0,s1,s2,s3,s4,s5⟩
        go_simp
        with_reducible rfl
       rotate_left
       ·simp only [Act.put,List.setIfInBounds_toArray,List.set_cons_zero,List.set_cons_succ,i64_w,i32_w]
        rfl
       refine one_ (i:=3) (N:=some 38) #[true,true,true,true,false,false,false,false] rfl rfl (one_of HT_.out (by kernel_rfl)) (by decide) (fun K hK=>?_)
       refine goes_ Try.func135 (by kernel_rfl) rfl #[.pointer (some ⟨g,0,none⟩),.int .i64 5] (by rfl) rfl rfl (by (try simp only [List.map_toArray,List.map_cons,List.map_nil]);first|done|rfl|(simp only [List.length_drop,List.length_take];rfl)) ?_
       with_reducible refine (spec_l1Cur_pick.calls g s0_0 t325 t326 5 t330 t331 t332 w0 _ ?side1 ?side2 A18.out).mono ?_
       (case side1=>repeat (first|(with_reducible first|exact HI0.out|apply IsS146.alloc|apply IsS146.drewN|apply IsS146.drew|apply IsS146.set_1|apply IsS146.set_2|refine IsS146.far ?_ NB0_298.out _|refine IsS146.far ?_ NB0_304.out _)|exact HI0.out))
       (case side2=>repeat (first|(with_reducible first|exact HB.out|apply below_alloc|apply pw_below_drewN|apply below_drew1|refine below_set ?_ (IsS146.ge HI0.out)|refine below_set ?_ GE298.out|refine below_set ?_ GE304.out)|exact HB.out))
       rintro e w41 ⟨rfl,hi,hb,hk⟩
       refine ⟨_,rfl,?_⟩
       have n0_:=Aside0.mk (Kd.R_mono (Kd.R_keep (IsS146.apart (show IsS146 w0 _ g s0_0 t325 t326 from by repeat (first|(with_reducible first|exact HI0.out|apply IsS146.alloc|apply IsS146.drewN|apply IsS146.drew|apply IsS146.set_1|apply IsS146.set_2|refine IsS146.far ?_ NB0_298.out _|refine IsS146.far ?_ NB0_304.out _)|exact HI0.out)) (by (with_reducible repeat (first|apply Kd.R_alloc|apply Kd.R_drewN|apply Kd.R_drew));exact HO_305005.out) (by decide)) hk (fun _ h=>h.2)) (fun _ h=>h.1))
       have n1_:=Aside0.mk (KeepBut.blk hk (g':=gb298) (o:=.cells #[.int .i64 0,.int .i64 0,.int .i64 0,.slice none 0 0,.slice none 0 0,.slice none 0 0] 34 (0,0)) (by (with_reducible repeat (first|refine blk_drewN ?_ _|refine blk_drew ?_|refine blk_alloc ?_ _));exact BK298.out) NB298_0.out (by simp))
       have n2_:=Aside0.mk (KeepBut.blk hk (g':=gb304) (o:=.cells #[.int .i64 t299,.int .i64 t300,.int .i64 t301,.slice Ao27 y315.length co27,.slice Ao37 y327.length co37,u305005] 34 (0,0)) (by (with_reducible repeat (first|refine blk_drewN ?_ _|refine blk_drew ?_|refine blk_alloc ?_ _));exact BK304.out) NB304_0.out (by simp))
       have n3_:=Aside0.mk (Kd.R_mono (Kd.R_keep (IsS146.apart (show IsS146 w0 _ g s0_0 t325 t326 from by repeat (first|(with_reducible first|exact HI0.out|apply IsS146.alloc|apply IsS146.drewN|apply IsS146.drew|apply IsS146.set_1|apply IsS146.set_2|refine IsS146.far ?_ NB0_298.out _|refine IsS146.far ?_ NB0_304.out _)|exact HI0.out)) (by (with_reducible repeat (first|apply Kd.R_alloc|apply Kd.R_drewN|apply Kd.R_drew));exact HO311.out) (by decide)) hk (fun _ h=>h.2)) (fun _ h=>h.1))
       have n4_:=Aside0.mk (Kd.R_mono (Kd.R_keep (IsS146.apart (show IsS146 w0 _ g s0_0 t325 t326 from by repeat (first|(with_reducible first|exact HI0.out|apply IsS146.alloc|apply IsS146.drewN|apply IsS146.drew|apply IsS146.set_1|apply IsS146.set_2|refine IsS146.far ?_ NB0_298.out _|refine IsS146.far ?_ NB0_304.out _)|exact HI0.out)) (by (with_reducible repeat (first|apply Kd.R_alloc|apply Kd.R_drewN|apply Kd.R_drew));exact HO317.out) (by decide)) hk (fun _ h=>h.2)) (fun _ h=>h.1))
       have n5_:=Aside0.mk (Kd.R_mono (Kd.R_keep (IsS146.apart (show IsS146 w0 _ g s0_0 t325 t326 from by repeat (first|(with_reducible first|exact HI0.out|apply IsS146.alloc|apply IsS146.drewN|apply IsS146.drew|apply IsS146.set_1|apply IsS146.set_2|refine IsS146.far ?_ NB0_298.out _|refine IsS146.far ?_ NB0_304.out _)|exact HI0.out)) (by (with_reducible repeat (first|apply Kd.R_alloc|apply Kd.R_drewN|apply Kd.R_drew));exact HO323.out) (by decide)) hk (fun _ h=>h.2)) (fun _ h=>h.1))
       have n6_:=Aside0.mk (Kd.R_mono (Kd.R_keep (IsS146.apart (show IsS146 w0 _ g s0_0 t325 t326 from by repeat (first|(with_reducible first|exact HI0.out|apply IsS146.alloc|apply IsS146.drewN|apply IsS146.drew|apply IsS146.set_1|apply IsS146.set_2|refine IsS146.far ?_ NB0_298.out _|refine IsS146.far ?_ NB0_304.out _)|exact HI0.out)) (by (with_reducible repeat (first|apply Kd.R_alloc|apply Kd.R_drewN|apply Kd.R_drew));exact HO329.out) (by decide)) hk (fun _ h=>h.2)) (fun _ h=>h.1))
       have n7_:=Aside0.mk (KeepBut.trans (by repeat (first|(with_reducible first|exact HK.out|apply KeepBut.set_|apply keep_drewN|apply keep_drew|apply keep_alloc|refine keep_far ?_ GW298.out _|refine keep_far ?_ GW304.out _)|exact HK.out)) hk (.inl rfl))
       have n8_:=Aside0.mk (hb)
       have n9_:=Aside0.mk (hi)
       clear HO_305005
       clear BK298
       clear BK304
       clear HO311
       clear HO317
       clear HO323
       clear HO329
       clear HK
       clear HB
       clear HI0
       have HO_305005:=n0_
       have BK298:=n1_
       have BK304:=n2_
       have HO311:=n3_
       have HO317:=n4_
       have HO323:=n5_
       have HO329:=n6_
       have HK:=n7_
       have HB:=n8_
       have HI0:=n9_
       clear n0_ n1_ n2_ n3_ n4_ n5_ n6_ n7_ n8_ n9_
       (try clear hb)
       (try clear hb2)
       (try clear hk)
       (try clear hi)
       refine hK.out _ _ ⟨(blk_cell BK304.out 0).trans rfl,(blk_cell BK304.out 1).trans rfl,(blk_cell BK304.out 2).trans rfl,(blk_cell BK304.out 3).trans rfl,(blk_cell BK304.out 4).trans rfl,(blk_cell BK304.out 5).trans rfl⟩ (fun hHeld=>?_)
       clear hK K
       refine norm_ (a':=?_) ?_ ?_
       rotate_left
       ·show Act.put _ (some 38) _=_
        simp only [Act.put,List.setIfInBounds_toArray,List.set_cons_zero,List.set_cons_succ,i64_w,i32_w]
        rfl
       refine one_ (i:=4) (N:=some 39) #[true,true,true,true,true,false,false,false] rfl rfl (one_of HT_.out (by kernel_rfl)) (by decide) (fun K hK=>?_)
       refine value_ (w1:=?_) (v:=?_) (by rfl) rfl ?_ ?_
       rotate_left 2
       ·go_simp
        constructor
        ·rfl
        ·rfl
       refine hK.out _ _ ⟨(blk_cell (blk_alloc BK304.out _) 0).trans rfl,(blk_cell (blk_alloc BK304.out _) 1).trans rfl,(blk_cell (blk_alloc BK304.out _) 2).trans rfl,(blk_cell (blk_alloc BK304.out _) 3).trans rfl,(blk_cell (blk_alloc BK304.out _) 4).trans rfl,(blk_cell (blk_alloc BK304.out _) 5).trans rfl⟩ (fun hHeld=>?_)
       clear hK K
       refine norm_ (a':=?_) ?_ ?_
       rotate_left
       ·show Act.put _ (some 39) _=_
        simp only [Act.put,List.setIfInBounds_toArray,List.set_cons_zero,List.set_cons_succ,i64_w,i32_w]
        rfl
       refine one_ (i:=5) (N:=some 40) #[true,true,true,true,true,true,false,false] rfl rfl (one_of HT_.out (by kernel_rfl)) (by decide) (fun K hK=>?_)
       refine Kd.R_append_step (Kd.int .i64) w.heap.size (by rfl) (.tmp 36) (.tmp 39) 24 3 (.int .i64 0) 8 rfl Try.underlying24 info3 rfl (by decide) (by omega) u305005 x305005_1 t330 [.int .i64 t330] (fun k_=>some k_≠(.slice Ao24 y309.length co24:Value).ownBlock∧some k_≠(.slice Ao27 y315.length co27:Value).ownBlock∧some k_≠(.slice Ao34 y321.length co34:Value).ownBlock∧some k_≠(.slice Ao37 y327.length co37:Value).ownBlock) (fun _=>False) rfl rfl ?aP (fun _ hk=>hk.elim) ?aF ?aO (Below.refl _ _) ?aS ?aL ?_
       (case aP=>exact rfl)
       (case aF=>exact (fun k_ hk=>⟨Kd.fresh' (Kd.R_lt (by (with_reducible repeat (first|apply Kd.R_alloc|apply Kd.R_drewN|apply Kd.R_drew));exact HO311.out)) k_ hk,Kd.fresh' (Kd.R_lt (by (with_reducible repeat (first|apply Kd.R_alloc|apply Kd.R_drewN|apply Kd.R_drew));exact HO317.out)) k_ hk,Kd.fresh' (Kd.R_lt (by (with_reducible repeat (first|apply Kd.R_alloc|apply Kd.R_drewN|apply Kd.R_drew));exact HO323.out)) k_ hk,Kd.fresh' (Kd.R_lt (by (with_reducible repeat (first|apply Kd.R_alloc|apply Kd.R_drewN|apply Kd.R_drew));exact HO329.out)) k_ hk⟩))
       (case aO=>exact (by (with_reducible repeat (first|apply Kd.R_alloc|apply Kd.R_drewN|apply Kd.R_drew));exact HO_305005.out))
       (case aS=>exact (keep_size (w:=w) (g:=g) (row:=none) (by repeat (first|(with_reducible first|exact HK.out|apply KeepBut.set_|apply keep_drewN|apply keep_drew|apply keep_alloc|refine keep_far ?_ GW298.out _|refine keep_far ?_ GW304.out _)|exact HK.out))))
       (case aL=>have:=LMc19.out;omega)
       intro v334 w42 ho hb hg hat
       rw [← Ny333.out] at ho
       have n0_:=Aside0.mk (blk_grown (g:=gb298) (o:=.cells #[.int .i64 0,.int .i64 0,.int .i64 0,.slice none 0 0,.slice none 0 0,.slice none 0 0] 34 (0,0)) (by (with_reducible repeat (first|refine blk_drewN ?_ _|refine blk_drew ?_|refine blk_alloc ?_ _));exact BK298.out) hg (Kd.R_ne HO_305005.out BK298.out (by decide)))
       have n1_:=Aside0.mk (blk_grown (g:=gb304) (o:=.cells #[.int .i64 t299,.int .i64 t300,.int .i64 t301,.slice Ao27 y315.length co27,.slice Ao37 y327.length co37,u305005] 34 (0,0)) (by (with_reducible repeat (first|refine blk_drewN ?_ _|refine blk_drew ?_|refine blk_alloc ?_ _));exact BK304.out) hg (Kd.R_ne HO_305005.out BK304.out (by decide)))
       have n2_:=Aside0.mk (IsS146.grown (by repeat (first|(with_reducible first|exact HI0.out|apply IsS146.alloc|apply IsS146.drewN|apply IsS146.drew|apply IsS146.set_1|apply IsS146.set_2|refine IsS146.far ?_ NB0_298.out _|refine IsS146.far ?_ NB0_304.out _)|exact HI0.out)) hg (IsS146.own_ne HI0.out HO_305005.out (by decide)))
       have n3_:=Aside0.mk (Kd.R_after (ok:=(fun k_=>some k_≠(.slice Ao27 y315.length co27:Value).ownBlock∧some k_≠(.slice Ao34 y321.length co34:Value).ownBlock∧some k_≠(.slice Ao37 y327.length co37:Value).ownBlock)) (by (with_reducible repeat (first|apply Kd.R_alloc|apply Kd.R_drewN|apply Kd.R_drew));exact Kd.R_mono HO311.out (fun _ hk=>⟨⟨hk.2.1,⟨hk.2.2.1,hk.2.2.2⟩⟩,hk.1⟩)) hg hat)
       have n4_:=Aside0.mk (Kd.R_after (ok:=(fun k_=>some k_≠(.slice Ao24 y309.length co24:Value).ownBlock∧some k_≠(.slice Ao34 y321.length co34:Value).ownBlock∧some k_≠(.slice Ao37 y327.length co37:Value).ownBlock)) (by (with_reducible repeat (first|apply Kd.R_alloc|apply Kd.R_drewN|apply Kd.R_drew));exact Kd.R_mono HO317.out (fun _ hk=>⟨⟨hk.2.1,⟨hk.2.2.1,hk.2.2.2⟩⟩,hk.1⟩)) hg hat)
       have n5_:=Aside0.mk (Kd.R_after (ok:=(fun k_=>some k_≠(.slice Ao24 y309.length co24:Value).ownBlock∧some k_≠(.slice Ao27 y315.length co27:Value).ownBlock∧some k_≠(.slice Ao37 y327.length co37:Value).ownBlock)) (by (with_reducible repeat (first|apply Kd.R_alloc|apply Kd.R_drewN|apply Kd.R_drew));exact Kd.R_mono HO323.out (fun _ hk=>⟨⟨hk.2.1,⟨hk.2.2.1,hk.2.2.2⟩⟩,hk.1⟩)) hg hat)
       have n6_:=Aside0.mk (Kd.R_after (ok:=(fun k_=>some k_≠(.slice Ao24 y309.length co24:Value).ownBlock∧some k_≠(.slice Ao27 y315.length co27:Value).ownBlock∧some k_≠(.slice Ao34 y321.length co34:Value).ownBlock)) (by (with_reducible repeat (first|apply Kd.R_alloc|apply Kd.R_drewN|apply Kd.R_drew));exact Kd.R_mono HO329.out (fun _ hk=>⟨⟨hk.2.1,⟨hk.2.2.1,hk.2.2.2⟩⟩,hk.1⟩)) hg hat)
       have n7_:=Aside0.mk (below_weaken (by repeat (first|(with_reducible first|exact HB.out|apply below_alloc|apply pw_below_drewN|apply below_drew1|refine below_set ?_ (IsS146.ge HI0.out)|refine below_set ?_ GE298.out|refine below_set ?_ GE304.out)|exact HB.out)) HL.out hb)
       have n8_:=Aside0.mk (KeepBut.trans (by repeat (first|(with_reducible first|exact HK.out|apply KeepBut.set_|apply keep_drewN|apply keep_drew|apply keep_alloc|refine keep_far ?_ GW298.out _|refine keep_far ?_ GW304.out _)|exact HK.out)) (KeepBut.of_grown hg g) (Kd.R_base2 HO_305005.out))
       have n9_:=Aside0.mk (ho)
       clear BK298
       clear BK304
       clear HI0
       clear HO311
       clear HO317
       clear HO323
       clear HO329
       clear HB
       clear HK
       clear HO_305005
       have BK298:=n0_
       have BK304:=n1_
       have HI0:=n2_
       have HO311:=n3_
       have HO317:=n4_
       have HO323:=n5_
       have HO329:=n6_
       have HB:=n7_
       have HK:=n8_
       have HO335:=n9_
       clear n0_ n1_ n2_ n3_ n4_ n5_ n6_ n7_ n8_ n9_
       clear ho hb hg hat
       obtain ⟨Ao43,co43,eo43⟩:=Kd.R_slice HO335.out
       (first|subst eo43|(injection eo43 with f1_ f2_ f3_;have f4_:=f1_.symm;have f5_:=f3_.symm;clear f1_ f2_ f3_;subst f4_;subst f5_))
       refine hK.out _ _ ⟨(blk_cell BK304.out 0).trans rfl,(blk_cell BK304.out 1).trans rfl,(blk_cell BK304.out 2).trans rfl,(blk_cell BK304.out 3).trans rfl,(blk_cell BK304.out 4).trans rfl,(blk_cell BK304.out 5).trans rfl⟩ (fun hHeld=>?_)
       clear hK K
       refine norm_ (a':=?_) ?_ ?_
       rotate_left
       ·show Act.put _ (some 40) _=_
        simp only [Act.put,List.setIfInBounds_toArray,List.set_cons_zero,List.set_cons_succ,i64_w,i32_w]
        rfl
       refine pure_ (i:=6) (N:=some 41) (v:=?_) (a':=?_) #[true,true,true,true,true,true,true,false] rfl rfl (any_of HT_.out (by kernel_rfl)) (fun _ _ _ h=>h) (Or.inl ⟨by rfl,?_⟩) ?_ ?_
       rotate_left
       ·intro w'
        go_simp
        with_reducible rfl
       rotate_left
       ·simp only [Act.put,List.setIfInBounds_toArray,List.set_cons_zero,List.set_cons_succ,i64_w,i32_w]
        rfl
       refine last_ (i:=7) (N:=none) #[true,true,true,true,true,true,true,true] rfl rfl (one_of HT_.out (by kernel_rfl)) (by decide) (fun K hK=>?_)
       have hs44:w42.cell? ⟨gb304,5,none⟩=some (u305005):=(blk_cell BK304.out 5).trans rfl
       have hfs44:=blk_frozen BK304.out 5
       have hns44_0:=NB298_304.out
       have hms44_0:=NB304_298.out
       refine skip_ (w1:=?_) (by rfl) rfl ?_ ?_
       rotate_left
       ·go_simp
        rfl
       refine hK.out _ _ ?_
       clear hK K
       refine done_ (done_of HT_.out (by kernel_rfl)) ?_
       try go_wp2
       go_roundg k1
       case measure=>have:=HK1.out;omega
       case rel=>exact ⟨(wrap64 (x4_1 - 1)),(t331),(t332),(y315),(y327),(y333),(.slice Ao27 y315.length co27),(.slice Ao37 y327.length co37),(.slice Ao43 y333.length co43),(by first|rfl|(simp;done)|(simp [*];done)),H',⟨by have:=HK1.out;omega⟩,⟨by (with_reducible repeat (first|apply Kd.R_alloc|apply Kd.R_drewN|apply Kd.R_drew));exact Kd.R_mono (Kd.R_far (p:=⟨gb304,5,none⟩) (Kd.R_types HO317.out BK304.out (by decide)) (fun _ hk=>hk.2) (.slice Ao43 y333.length co43)) (fun _ hk=>⟨hk.1.1.2.2,hk.1.2⟩)⟩,⟨by (with_reducible repeat (first|apply Kd.R_alloc|apply Kd.R_drewN|apply Kd.R_drew));exact Kd.R_mono (Kd.R_far (p:=⟨gb304,5,none⟩) (Kd.R_types HO329.out BK304.out (by decide)) (fun _ hk=>hk.2) (.slice Ao43 y333.length co43)) (fun _ hk=>⟨hk.1.1.2.1,hk.1.2⟩)⟩,⟨by (with_reducible repeat (first|apply Kd.R_alloc|apply Kd.R_drewN|apply Kd.R_drew));exact Kd.R_mono (Kd.R_far (p:=⟨gb304,5,none⟩) (Kd.R_types HO335.out BK304.out (by decide)) (fun _ hk=>hk.2) (.slice Ao43 y333.length co43)) (fun _ hk=>⟨hk.1.2.1,hk.1.2.2.2⟩)⟩,⟨by (with_reducible repeat (first|refine blk_drewN ?_ _|refine blk_drew ?_|refine blk_alloc ?_ _));refine blk_far ?_ NB298_304.out _;(with_reducible repeat (first|refine blk_drewN ?_ _|refine blk_drew ?_|refine blk_alloc ?_ _));exact BK298.out⟩,⟨by (with_reducible repeat (first|refine blk_drewN ?_ _|refine blk_drew ?_|refine blk_alloc ?_ _));refine blk_put (cs:=#[.int .i64 t299,.int .i64 t300,.int .i64 t301,.slice Ao27 y315.length co27,.slice Ao37 y327.length co37,u305005]) ?_ 5 _ rfl;(with_reducible repeat (first|refine blk_drewN ?_ _|refine blk_drew ?_|refine blk_alloc ?_ _));exact BK304.out⟩,⟨by repeat (first|(with_reducible first|exact HI0.out|apply IsS146.alloc|apply IsS146.drewN|apply IsS146.drew|apply IsS146.set_1|apply IsS146.set_2|refine IsS146.far ?_ NB0_298.out _|refine IsS146.far ?_ NB0_304.out _)|exact HI0.out)⟩,⟨by repeat (first|(with_reducible first|exact HK.out|apply KeepBut.set_|apply keep_drewN|apply keep_drew|apply keep_alloc|refine keep_far ?_ GW298.out _|refine keep_far ?_ GW304.out _)|exact HK.out)⟩,⟨by repeat (first|(with_reducible first|exact HB.out|apply below_alloc|apply pw_below_drewN|apply below_drew1|refine below_set ?_ (IsS146.ge HI0.out)|refine below_set ?_ GE298.out|refine below_set ?_ GE304.out)|exact HB.out)⟩⟩
      ·rw [if_neg c19] at H
       exact absurd H (by simp)
     ·rw [if_neg c17] at H
      exact absurd H (by simp)
    ·rw [if_neg c14] at H
     exact absurd H (by simp)
   ·rw [if_neg c11] at H
    have c11b0:decide (0 < x4_1)=false:=decide_eq_false c11
    clear c11
    simp only [Option.some.injEq,Prod.mk.injEq] at H
    obtain ⟨rfl,rfl,rfl,rfl,rfl,rfl,rfl,rfl⟩:=H
    have hnb45:=NB304_298.out
    have hnc45:=NB298_304.out
    have hnb46:=NB304_0.out
    have hnc46:=NB0_304.out
    have hcz47_0:wr.cell? ⟨gb304,0,none⟩=some (.int .i64 t299):=(blk_cell BK304.out 0).trans rfl
    have hcz47_1:wr.cell? ⟨gb304,1,none⟩=some (.int .i64 t300):=(blk_cell BK304.out 1).trans rfl
    have hcz47_2:wr.cell? ⟨gb304,2,none⟩=some (.int .i64 t301):=(blk_cell BK304.out 2).trans rfl
    have hcz47_3:wr.cell? ⟨gb304,3,none⟩=some (u305003):=(blk_cell BK304.out 3).trans rfl
    have hcz47_4:wr.cell? ⟨gb304,4,none⟩=some (u305004):=(blk_cell BK304.out 4).trans rfl
    have hcz47_5:wr.cell? ⟨gb304,5,none⟩=some (u305005):=(blk_cell BK304.out 5).trans rfl
    have hfz47_0:=blk_frozen BK304.out 0
    have hfz47_1:=blk_frozen BK304.out 1
    have hfz47_2:=blk_frozen BK304.out 2
    have hfz47_3:=blk_frozen BK304.out 3
    have hfz47_4:=blk_frozen BK304.out 4
    have hfz47_5:=blk_frozen BK304.out 5
    have hnb48:=NB298_0.out
    have hnc48:=NB0_298.out
    have hcz49_0:wr.cell? ⟨gb298,0,none⟩=some (.int .i64 0):=(blk_cell BK298.out 0).trans rfl
    have hcz49_1:wr.cell? ⟨gb298,1,none⟩=some (.int .i64 0):=(blk_cell BK298.out 1).trans rfl
    have hcz49_2:wr.cell? ⟨gb298,2,none⟩=some (.int .i64 0):=(blk_cell BK298.out 2).trans rfl
    have hcz49_3:wr.cell? ⟨gb298,3,none⟩=some (.slice none 0 0):=(blk_cell BK298.out 3).trans rfl
    have hcz49_4:wr.cell? ⟨gb298,4,none⟩=some (.slice none 0 0):=(blk_cell BK298.out 4).trans rfl
    have hcz49_5:wr.cell? ⟨gb298,5,none⟩=some (.slice none 0 0):=(blk_cell BK298.out 5).trans rfl
    have hfz49_0:=blk_frozen BK298.out 0
    have hfz49_1:=blk_frozen BK298.out 1
    have hfz49_2:=blk_frozen BK298.out 2
    have hfz49_3:=blk_frozen BK298.out 3
    have hfz49_4:=blk_frozen BK298.out 4
    have hfz49_5:=blk_frozen BK298.out 5
    obtain ⟨Ao50,co50,eo50⟩:=Kd.R_slice HO_305003.out
    subst eo50
    obtain ⟨Ao51,co51,eo51⟩:=Kd.R_slice HO_305004.out
    subst eo51
    obtain ⟨Ao52,co52,eo52⟩:=Kd.R_slice HO_305005.out
    subst eo52
    go_wp2
    refine bodyPost_ret (results_cell_row rfl _ _ gb298 34 #[.int .i64 t299,.int .i64 t300,.int .i64 t301,.slice Ao50 x305003_1.length co50,.slice Ao51 x305004_1.length co51,.slice Ao52 x305005_1.length co52] (0,0) _ rfl (by (with_reducible repeat (first|refine blk_drewN ?_ _|refine blk_drew ?_|refine blk_alloc ?_ _));refine blk_put (cs:=#[.int .i64 t299,.int .i64 t300,.int .i64 t301,.slice Ao50 x305003_1.length co50,.slice Ao51 x305004_1.length co51,.slice none 0 0]) ?_ 5 _ rfl;(with_reducible repeat (first|refine blk_drewN ?_ _|refine blk_drew ?_|refine blk_alloc ?_ _));refine blk_put (cs:=#[.int .i64 t299,.int .i64 t300,.int .i64 t301,.slice Ao50 x305003_1.length co50,.slice none 0 0,.slice none 0 0]) ?_ 4 _ rfl;(with_reducible repeat (first|refine blk_drewN ?_ _|refine blk_drew ?_|refine blk_alloc ?_ _));refine blk_put (cs:=#[.int .i64 t299,.int .i64 t300,.int .i64 t301,.slice none 0 0,.slice none 0 0,.slice none 0 0]) ?_ 3 _ rfl;(with_reducible repeat (first|refine blk_drewN ?_ _|refine blk_drew ?_|refine blk_alloc ?_ _));refine blk_put (cs:=#[.int .i64 t299,.int .i64 t300,.int .i64 0,.slice none 0 0,.slice none 0 0,.slice none 0 0]) ?_ 2 _ rfl;(with_reducible repeat (first|refine blk_drewN ?_ _|refine blk_drew ?_|refine blk_alloc ?_ _));refine blk_put (cs:=#[.int .i64 t299,.int .i64 0,.int .i64 0,.slice none 0 0,.slice none 0 0,.slice none 0 0]) ?_ 1 _ rfl;(with_reducible repeat (first|refine blk_drewN ?_ _|refine blk_drew ?_|refine blk_alloc ?_ _));refine blk_put (cs:=#[.int .i64 0,.int .i64 0,.int .i64 0,.slice none 0 0,.slice none 0 0,.slice none 0 0]) ?_ 0 _ rfl;(with_reducible repeat (first|refine blk_drewN ?_ _|refine blk_drew ?_|refine blk_alloc ?_ _));exact BK298.out) Try.underlying34 rfl (by kernel_rfl)) rfl ?_
    exact ⟨_,_,_,by first|rfl|(simp [errW_none,errW_some] <;> rfl)|(simp [*,errW_none,errW_some] <;> rfl),by (with_reducible repeat (first|apply Kd.R_alloc|apply Kd.R_drewN|apply Kd.R_drew));exact Kd.R_mono (Kd.R_far (p:=⟨gb298,5,none⟩) (Kd.R_far (p:=⟨gb298,4,none⟩) (Kd.R_far (p:=⟨gb298,3,none⟩) (Kd.R_far (p:=⟨gb298,2,none⟩) (Kd.R_far (p:=⟨gb298,1,none⟩) (Kd.R_far (p:=⟨gb298,0,none⟩) (Kd.R_types HO_305003.out BK298.out (by decide)) (fun _ hk=>hk.2) (.int .i64 t299)) (fun _ hk=>hk.2) (.int .i64 t300)) (fun _ hk=>hk.2) (.int .i64 t301)) (fun _ hk=>hk.2) (.slice Ao50 x305003_1.length co50)) (fun _ hk=>hk.2) (.slice Ao51 x305004_1.length co51)) (fun _ hk=>hk.2) (.slice Ao52 x305005_1.length co52)) (fun _ hk=>⟨hk.1.1,hk.1.2⟩),by (with_reducible repeat (first|apply Kd.R_alloc|apply Kd.R_drewN|apply Kd.R_drew));exact Kd.R_mono (Kd.R_far (p:=⟨gb298,5,none⟩) (Kd.R_far (p:=⟨gb298,4,none⟩) (Kd.R_far (p:=⟨gb298,3,none⟩) (Kd.R_far (p:=⟨gb298,2,none⟩) (Kd.R_far (p:=⟨gb298,1,none⟩) (Kd.R_far (p:=⟨gb298,0,none⟩) (Kd.R_types HO_305004.out BK298.out (by decide)) (fun _ hk=>hk.2) (.int .i64 t299)) (fun _ hk=>hk.2) (.int .i64 t300)) (fun _ hk=>hk.2) (.int .i64 t301)) (fun _ hk=>hk.2) (.slice Ao50 x305003_1.length co50)) (fun _ hk=>hk.2) (.slice Ao51 x305004_1.length co51)) (fun _ hk=>hk.2) (.slice Ao52 x305005_1.length co52)) (fun _ hk=>⟨hk.1.1,hk.1.2⟩),by (with_reducible repeat (first|apply Kd.R_alloc|apply Kd.R_drewN|apply Kd.R_drew));exact Kd.R_mono (Kd.R_far (p:=⟨gb298,5,none⟩) (Kd.R_far (p:=⟨gb298,4,none⟩) (Kd.R_far (p:=⟨gb298,3,none⟩) (Kd.R_far (p:=⟨gb298,2,none⟩) (Kd.R_far (p:=⟨gb298,1,none⟩) (Kd.R_far (p:=⟨gb298,0,none⟩) (Kd.R_types HO_305005.out BK298.out (by decide)) (fun _ hk=>hk.2) (.int .i64 t299)) (fun _ hk=>hk.2) (.int .i64 t300)) (fun _ hk=>hk.2) (.int .i64 t301)) (fun _ hk=>hk.2) (.slice Ao50 x305003_1.length co50)) (fun _ hk=>hk.2) (.slice Ao51 x305004_1.length co51)) (fun _ hk=>hk.2) (.slice Ao52 x305005_1.length co52)) (fun _ hk=>⟨hk.1.1,hk.1.2⟩),by repeat (first|(with_reducible first|exact HI0.out|apply IsS146.alloc|apply IsS146.drewN|apply IsS146.drew|apply IsS146.set_1|apply IsS146.set_2|refine IsS146.far ?_ NB0_298.out _|refine IsS146.far ?_ NB0_304.out _)|exact HI0.out),by repeat (first|(with_reducible first|exact HB.out|apply below_alloc|apply pw_below_drewN|apply below_drew1|refine below_set ?_ (IsS146.ge HI0.out)|refine below_set ?_ GE298.out|refine below_set ?_ GE304.out)|exact HB.out),by repeat (first|(with_reducible first|exact HK.out|apply KeepBut.set_|apply keep_drewN|apply keep_drew|apply keep_alloc|refine keep_far ?_ GW298.out _|refine keep_far ?_ GW304.out _)|exact HK.out)⟩
end Go.Proofs.Ytomfjhpiemipkaa.PFnOre
end
