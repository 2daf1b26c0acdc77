/- Texts that print.sh has printed for the law FnCones,one function each,put together in one file: contracts of its functions. -/
import Derived.Test.YtbhlffakpneecaaTMFnConesx0
import Derived.Test.YtbhlffakpneecaaTMFnConesx1
import Derived.Test.YtbhlffakpneecaaTMFnConesx2
import Derived.Test.YtbhlffakpneecaaTMFnConesx3
section
namespace Go.Proofs.Ytbhlffakpneecaa.PFnCones
open Go.RowKit Go.Proofs.YtbhlffakpneecaaW.PrintWords Go.Proofs.YtbhlffakpneecaaW.PrintLast Go.Proofs.YtbhlffakpneecaaW.PrintMore
attribute [local go_sem] max2_int min2_int max_two min_two max_three min_three max_four min_four   -- for this text's walks alone
set_option linter.unusedVariables false
set_option linter.unusedSimpArgs false
theorem aM4:type_of% @Aside0.mk:=@Aside0.mk
theorem uA4:type_of% @List.setIfInBounds_toArray.{0}:=@List.setIfInBounds_toArray.{0}
theorem uB4:type_of% @List.set_cons_zero.{0}:=@List.set_cons_zero.{0}
theorem uC4:type_of% @List.set_cons_succ.{0}:=@List.set_cons_succ.{0}
theorem bI4:type_of% @Option.bind_eq_some_iff.{0,0}:=@Option.bind_eq_some_iff.{0,0}
theorem kT4:type_of% @KeepBut.trans:=@KeepBut.trans
theorem bC4:type_of% @blk_cell:=@blk_cell
theorem kB4:type_of% @KeepBut.of_below:=@KeepBut.of_below
theorem zsx4_0 {P:Prop} (h:P:=by repeat (first|(with_reducible first|exact HI0.out|apply IsS61.alloc|apply IsS61.drewN|apply IsS61.drew|apply IsS61.set_1|apply IsS61.set_2)|exact HI0.out)):P:=h
theorem zsx4_1 {P:Prop} (h:P:=by repeat (first|(with_reducible first|exact HK.out|apply KeepBut.set_|apply keep_drewN|apply keep_drew|apply keep_alloc)|exact HK.out)):P:=h
theorem zsx4_2 {P:Prop} (h:P:=by repeat (first|(with_reducible first|exact HB.out|apply below_alloc|apply pw_below_drewN|apply below_drew1|refine below_set ?_ (IsS61.ge HI0.out))|exact HB.out)):P:=h
theorem zsx4_3 {P:Prop} (h:P:=by repeat (first|(with_reducible first|exact HI0.out|apply IsS61.alloc|apply IsS61.drewN|apply IsS61.drew|apply IsS61.set_1|apply IsS61.set_2|refine IsS61.far ?_ NB0_291.out _)|exact HI0.out)):P:=h
theorem zsx4_4 {P:Prop} (h:P:=by (with_reducible repeat (first|refine blk_drewN ?_ _|refine blk_drew ?_|refine blk_alloc ?_ _));exact BK291.out):P:=h
theorem zsx4_5 {P:Prop} (h:P:=by repeat (first|(with_reducible first|exact HK.out|apply KeepBut.set_|apply keep_drewN|apply keep_drew|apply keep_alloc|refine keep_far ?_ GW291.out _)|exact HK.out)):P:=h
theorem zsx4_6 {P:Prop} (h:P:=by repeat (first|(with_reducible first|exact HB.out|apply below_alloc|apply pw_below_drewN|apply below_drew1|refine below_set ?_ (IsS61.ge HI0.out)|refine below_set ?_ GE291.out)|exact HB.out)):P:=h
theorem zsx4_7 {P:Prop} (h:P:=by kernel_rfl):P:=h
theorem zsx4_8 {P:Prop} (h:P:=by (try simp only [List.map_toArray,List.map_cons,List.map_nil]);first|done|rfl|(simp only [List.length_drop,List.length_take];rfl)):P:=h
theorem zsx4_9 {P:Prop} (h:P:=by (with_reducible repeat (first|refine blk_drewN ?_ _|refine blk_drew ?_|refine blk_alloc ?_ _));exact BK292.out):P:=h
theorem zsx4_10 {P:Prop} (h:P:=by repeat (first|(with_reducible first|exact HK.out|apply KeepBut.set_|apply keep_drewN|apply keep_drew|apply keep_alloc|refine keep_far ?_ GW291.out _|refine keep_far ?_ GW292.out _)|exact HK.out)):P:=h
theorem zsx4_11 {P:Prop} (h:P:=by repeat (first|(with_reducible first|exact HI0.out|apply IsS61.alloc|apply IsS61.drewN|apply IsS61.drew|apply IsS61.set_1|apply IsS61.set_2|refine IsS61.far ?_ NB0_291.out _|refine IsS61.far ?_ NB0_292.out _)|exact HI0.out)):P:=h
theorem zsx4_12 {P:Prop} (h:P:=by repeat (first|(with_reducible first|exact HB.out|apply below_alloc|apply pw_below_drewN|apply below_drew1|refine below_set ?_ (IsS61.ge HI0.out)|refine below_set ?_ GE291.out|refine below_set ?_ GE292.out)|exact HB.out)):P:=h
theorem zsx4_13 {P:Prop} (h:P:=by (with_reducible repeat (first|apply Kd.R_alloc|apply Kd.R_drewN|apply Kd.R_drew));exact HO298.out):P:=h
theorem zsx4_14 {P:Prop} (h:P:=by (with_reducible repeat (first|apply Kd.N_alloc|apply Kd.N_drewN|apply Kd.N_drew));exact HO301.out):P:=h
theorem zsx4_15 {P:Prop} (h:P:=by simp only [putAll,Act.put,List.setIfInBounds_toArray,List.set_cons_zero,List.set_cons_succ]):P:=h
theorem zsx4_16 {P:Prop} (h:P:=by (with_reducible repeat (first|apply Kd.R_alloc|apply Kd.R_drewN|apply Kd.R_drew));exact Kd.R_mono HO298.out (fun _ hk=>hk.1)):P:=h
theorem zsx4_17 {P:Prop} (h:P:=by (with_reducible repeat (first|apply Kd.N_alloc|apply Kd.N_drewN|apply Kd.N_drew));exact Kd.N_mono HO301.out (fun _ hk=>⟨hk.1.1,⟨hk.1.2.1,⟨hk.1.2.2.2.2,⟨hk.1.2.2.1,⟨hk.1.2.2.2.1,hk.2⟩⟩⟩⟩⟩)):P:=h
theorem zsx4_18 {P:Prop} (h:P:=by (with_reducible repeat (first|refine blk_drewN ?_ _|refine blk_drew ?_|refine blk_alloc ?_ _));exact BK302.out):P:=h
theorem zsx4_19 {P:Prop} (h:P:=by repeat (first|(with_reducible first|exact HI0.out|apply IsS61.alloc|apply IsS61.drewN|apply IsS61.drew|apply IsS61.set_1|apply IsS61.set_2|refine IsS61.far ?_ NB0_291.out _|refine IsS61.far ?_ NB0_292.out _|refine IsS61.far ?_ NB0_302.out _)|exact HI0.out)):P:=h
theorem zsx4_20 {P:Prop} (h:P:=by repeat (first|(with_reducible first|exact HK.out|apply KeepBut.set_|apply keep_drewN|apply keep_drew|apply keep_alloc|refine keep_far ?_ GW291.out _|refine keep_far ?_ GW292.out _|refine keep_far ?_ GW302.out _)|exact HK.out)):P:=h
theorem zsx4_21 {P:Prop} (h:P:=by repeat (first|(with_reducible first|exact HB.out|apply below_alloc|apply pw_below_drewN|apply below_drew1|refine below_set ?_ (IsS61.ge HI0.out)|refine below_set ?_ GE291.out|refine below_set ?_ GE292.out|refine below_set ?_ GE302.out)|exact HB.out)):P:=h
theorem zsx4_22 {P:Prop} (h:P:=by (with_reducible repeat (first|apply Kd.N_alloc|apply Kd.N_drewN|apply Kd.N_drew));exact Kd.N_mono HO301.out (fun _ hk=>⟨hk.1,⟨hk.2.1,⟨hk.2.2.2.2.2,⟨hk.2.2.1,⟨hk.2.2.2.1,hk.2.2.2.2.1⟩⟩⟩⟩⟩)):P:=h
theorem zsx4_23 {P:Prop} (h:P:=by (with_reducible repeat (first|refine blk_drewN ?_ _|refine blk_drew ?_|refine blk_alloc ?_ _));refine blk_far ?_ NB291_302.out _;(with_reducible repeat (first|refine blk_drewN ?_ _|refine blk_drew ?_|refine blk_alloc ?_ _));refine blk_far ?_ NB291_302.out _;(with_reducible repeat (first|refine blk_drewN ?_ _|refine blk_drew ?_|refine blk_alloc ?_ _));exact BK291.out):P:=h
theorem zsx4_24 {P:Prop} (h:P:=by (with_reducible repeat (first|refine blk_drewN ?_ _|refine blk_drew ?_|refine blk_alloc ?_ _));refine blk_far ?_ NB292_302.out _;(with_reducible repeat (first|refine blk_drewN ?_ _|refine blk_drew ?_|refine blk_alloc ?_ _));refine blk_far ?_ NB292_302.out _;(with_reducible repeat (first|refine blk_drewN ?_ _|refine blk_drew ?_|refine blk_alloc ?_ _));exact BK292.out):P:=h
theorem zsx4_25 {P:Prop} (h:P:=by first|rfl|(simp [errW_none,errW_some] <;> rfl)|(simp [*,errW_none,errW_some] <;> rfl)):P:=h
theorem zsx4_26 {P:Prop} (h:P:=by first|(go_simp;done)|(go_simp;rfl)):P:=h
theorem zsx4_27 {P:Prop} (h:P:=by repeat (first|exact (Kd.Q_reads' HO308.out).2.2|(with_reducible refine Kd.C_alloc ?_ _)|(with_reducible refine Kd.C_drewN ?_ _)|(with_reducible refine Kd.C_drew ?_))):P:=h
theorem zsx4_28 {P:Prop} (h:P:=by rw [hg];exact (keep_size (w:=w) (g:=g) (row:=none) (zsx4_1))):P:=h
theorem zsx4_29 {P:Prop} (h:P:=by rw [hg];exact Nat.ne_of_lt (IsS61.lt (show IsS61 w0 _ g s0_0 s0_1 s0_2 from zsx4_0))):P:=h
theorem zsx4_30 {P:Prop} (h:P:=by rw [hg];exact Nat.ne_of_gt (IsS61.lt (show IsS61 w0 _ g s0_0 s0_1 s0_2 from zsx4_0))):P:=h
theorem zsx4_31 {P:Prop} (h:P:=by rw [hg];exact (keep_size (w:=w) (g:=g) (row:=none) (zsx4_5))):P:=h
theorem zsx4_32 {P:Prop} (h:P:=by rw [hg];exact Nat.ne_of_lt (blk_lt (g:=gb291) (o:=.cells #[.int .i64 a1_0,.int .i64 a1_1,.int .i64 a1_2] 84 (0,0)) (zsx4_4))):P:=h
theorem zsx4_33 {P:Prop} (h:P:=by rw [hg];exact Nat.ne_of_gt (blk_lt (g:=gb291) (o:=.cells #[.int .i64 a1_0,.int .i64 a1_1,.int .i64 a1_2] 84 (0,0)) (zsx4_4))):P:=h
theorem zsx4_34 {P:Prop} (h:P:=by rw [hg];exact Nat.ne_of_lt (IsS61.lt (show IsS61 w0 _ g s0_0 s0_1 s0_2 from zsx4_3))):P:=h
theorem zsx4_35 {P:Prop} (h:P:=by rw [hg];exact Nat.ne_of_gt (IsS61.lt (show IsS61 w0 _ g s0_0 s0_1 s0_2 from zsx4_3))):P:=h
theorem zsx4_36 {P:Prop} (h:P:=by rw [hg];exact (keep_size (w:=w) (g:=g) (row:=none) (zsx4_10))):P:=h
theorem zsx4_37 {P:Prop} (h:P:=by rw [hg];exact Nat.ne_of_lt (blk_lt (g:=gb292) (o:=.cells #[.slice none 0 0,.slice none 0 0] 89 (0,0)) (zsx4_9))):P:=h
theorem zsx4_38 {P:Prop} (h:P:=by rw [hg];exact Nat.ne_of_gt (blk_lt (g:=gb292) (o:=.cells #[.slice none 0 0,.slice none 0 0] 89 (0,0)) (zsx4_9))):P:=h
theorem zsx4_39 {P:Prop} (h:P:=by rw [hg];exact Nat.ne_of_lt (IsS61.lt (show IsS61 w0 _ g s0_0 t294 t295 from zsx4_11))):P:=h
theorem zsx4_40 {P:Prop} (h:P:=by rw [hg];exact Nat.ne_of_gt (IsS61.lt (show IsS61 w0 _ g s0_0 t294 t295 from zsx4_11))):P:=h
theorem zsx4_41 {P:Prop} (h:P:=by rw [hg];exact Nat.ne_of_lt (IsS61.lt (show IsS61 w0 _ g s0_0 s0_1 s0_2 from zsx4_11))):P:=h
theorem zsx4_42 {P:Prop} (h:P:=by rw [hg];exact Nat.ne_of_gt (IsS61.lt (show IsS61 w0 _ g s0_0 s0_1 s0_2 from zsx4_11))):P:=h
def spec_l1Cur_slopes.l0:Nat→Int→Int→List Int→Int→Int→List Int→List (List (S96))→Option (List Int × (List (List (S96))) × Int × Int)
 | 0,_,_,_,_,_,_,_=>none
 | k + 1,x27,x28,x1000,x1001,x1002,x303000,x303001=>if x28 < x27 then ((spec_l1Cur_pick.f x1000 x1001 x1002 2).bind fun bt315=>(if 0≤x28 then (if x28 < (x303000.length:Int) then (spec_l1Cur_slopes.l0 k x27 (wrap64 (x28 + 1)) x1000 bt315.2.1 bt315.2.2 (x303000.set (x28:Int).toNat bt315.1) x303001) else (none)) else (none))) else (some (x303000,x303001,x1001,x1002))
def spec_l1Cur_slopes.f (k:Nat) (s0_0:List Int) (s0_1:Int) (s0_2:Int) (a1_0:Int) (a1_1:Int) (a1_2:Int):Option (List Int × (List (List (S96))) × Int × Int):=(spec_l1Cur_pick.f s0_0 s0_1 s0_2 4).bind fun bt293=>((spec_slUniform.f k a1_0 a1_1 a1_2 (wrap64 (1 + bt293.1))).bind fun bt296=>((spec_l1Cur_one.f s0_0 bt293.2.1 bt293.2.2 3).bind fun bt303=>(if bt303.1=true then ((spec_l1Cur_template.f k s0_0 bt303.2.1 bt303.2.2).bind fun bt306=>((spec_slTemplate.f k bt306.1).bind fun t311=>(if t311=true then (if bt296.2.length < 5864062014805 then (spec_l1Cur_slopes.l0 k (bt296.1.length:Int) 0 s0_0 bt306.2.1 bt306.2.2 bt296.1 (bt296.2 ++ [bt306.1])) else (none)) else (some (bt296.1,bt296.2,bt306.2.1,bt306.2.2))))) else (some (bt296.1,bt296.2,bt303.2.1,bt303.2.2)))))
set_option maxHeartbeats 8000000 in
set_option maxRecDepth 100000 in
theorem spec_l1Cur_slopes.calls (k:Nat) (g:Nat) (s0_0:List Int) (s0_1:Int) (s0_2:Int) (a1_0:Int) (a1_1:Int) (a1_2:Int) (r1:List Int) (r2:List (List (S96))) (r3:Int) (r4:Int) (w0 w:World) (hI:IsS61 w0 w g s0_0 s0_1 s0_2) (hB:Below w0.heap.size w0 w) (h:spec_l1Cur_slopes.f k s0_0 s0_1 s0_2 a1_0 a1_1 a1_2=some (r1,r2,r3,r4)) :
  Calls Try.prog 91 #[.pointer (some ⟨g,0,none⟩),.agg #[.int .i64 a1_0,.int .i64 a1_1,.int .i64 a1_2]] w fun e w'=>∃ v0_ v1_:Value,e=.returned (.agg #[v0_,v1_])∧Kd.R (Kd.int .i64) 3 w' w.heap.size (fun k_=>(w.heap.size≤k_)) v0_ r1∧Kd.N (Kd.slice 96 k96) 94 w' w.heap.size (fun k_=>(w.heap.size≤k_)∧some k_≠(v0_:Value).ownBlock) v1_ r2∧IsS61 w0 w' g s0_0 r3 r4∧Below w0.heap.size w0 w'∧KeepBut w w' g none:=by
 have hu84:=Try.underlying84
 have hu89:=Try.underlying89
 have HI0:=aM4 hI
 have HK:=aM4 (KeepBut.refl w g none)
 have HL:=aM4 hB.size
 clear hI
 have HW0:=aM4 hB.size
 have HB:=aM4 hB
 clear hB
 have H:((spec_l1Cur_pick.f s0_0 s0_1 s0_2 4).bind fun bt293=>((spec_slUniform.f k a1_0 a1_1 a1_2 (wrap64 (1 + bt293.1))).bind fun bt296=>((spec_l1Cur_one.f s0_0 bt293.2.1 bt293.2.2 3).bind fun bt303=>(if bt303.1=true then ((spec_l1Cur_template.f k s0_0 bt303.2.1 bt303.2.2).bind fun bt306=>((spec_slTemplate.f k bt306.1).bind fun t311=>(if t311=true then (if bt296.2.length < 5864062014805 then (spec_l1Cur_slopes.l0 k (bt296.1.length:Int) 0 s0_0 bt306.2.1 bt306.2.2 bt296.1 (bt296.2 ++ [bt306.1])) else (none)) else (some (bt296.1,bt296.2,bt306.2.1,bt306.2.2))))) else (some (bt296.1,bt296.2,bt303.2.1,bt303.2.2))))))=some (r1,r2,r3,r4):=h
 clear h
 replace H:=bI4.mp H
 obtain ⟨⟨t293,t294,t295⟩,A30,H⟩:=H
 replace H:((spec_slUniform.f k a1_0 a1_1 a1_2 (wrap64 (1 + t293))).bind fun bt296=>((spec_l1Cur_one.f s0_0 t294 t295 3).bind fun bt303=>(if bt303.1=true then ((spec_l1Cur_template.f k s0_0 bt303.2.1 bt303.2.2).bind fun bt306=>((spec_slTemplate.f k bt306.1).bind fun t311=>(if t311=true then (if bt296.2.length < 5864062014805 then (spec_l1Cur_slopes.l0 k (bt296.1.length:Int) 0 s0_0 bt306.2.1 bt306.2.2 bt296.1 (bt296.2 ++ [bt306.1])) else (none)) else (some (bt296.1,bt296.2,bt306.2.1,bt306.2.2))))) else (some (bt296.1,bt296.2,bt303.2.1,bt303.2.2)))))=some (r1,r2,r3,r4):=H
 have A3:=aM4 A30
 clear A30
 replace H:=bI4.mp H
 obtain ⟨⟨t296,t299⟩,A40,H⟩:=H
 replace H:((spec_l1Cur_one.f s0_0 t294 t295 3).bind fun bt303=>(if bt303.1=true then ((spec_l1Cur_template.f k s0_0 bt303.2.1 bt303.2.2).bind fun bt306=>((spec_slTemplate.f k bt306.1).bind fun t311=>(if t311=true then (if t299.length < 5864062014805 then (spec_l1Cur_slopes.l0 k (t296.length:Int) 0 s0_0 bt306.2.1 bt306.2.2 t296 (t299 ++ [bt306.1])) else (none)) else (some (t296,t299,bt306.2.1,bt306.2.2))))) else (some (t296,t299,bt303.2.1,bt303.2.2))))=some (r1,r2,r3,r4):=H
 have A4:=aM4 A40
 clear A40
 replace H:=bI4.mp H
 obtain ⟨⟨t303,t304,t305⟩,A50,H⟩:=H
 replace H:(if t303=true then ((spec_l1Cur_template.f k s0_0 t304 t305).bind fun bt306=>((spec_slTemplate.f k bt306.1).bind fun t311=>(if t311=true then (if t299.length < 5864062014805 then (spec_l1Cur_slopes.l0 k (t296.length:Int) 0 s0_0 bt306.2.1 bt306.2.2 t296 (t299 ++ [bt306.1])) else (none)) else (some (t296,t299,bt306.2.1,bt306.2.2))))) else (some (t296,t299,t304,t305)))=some (r1,r2,r3,r4):=H
 have A5:=aM4 A50
 clear A50
 by_cases c6:t303=true
 ·subst c6
  have H1:((spec_l1Cur_template.f k s0_0 t304 t305).bind fun bt306=>((spec_slTemplate.f k bt306.1).bind fun t311=>(if t311=true then (if t299.length < 5864062014805 then (spec_l1Cur_slopes.l0 k (t296.length:Int) 0 s0_0 bt306.2.1 bt306.2.2 t296 (t299 ++ [bt306.1])) else (none)) else (some (t296,t299,bt306.2.1,bt306.2.2)))))=some (r1,r2,r3,r4):=by rw [if_pos rfl] at H;exact H
  clear H
  have H:=H1
  clear H1
  replace H:=bI4.mp H
  obtain ⟨⟨t306,t309,t310⟩,A70,H⟩:=H
  replace H:((spec_slTemplate.f k t306).bind fun t311=>(if t311=true then (if t299.length < 5864062014805 then (spec_l1Cur_slopes.l0 k (t296.length:Int) 0 s0_0 t309 t310 t296 (t299 ++ [t306])) else (none)) else (some (t296,t299,t309,t310))))=some (r1,r2,r3,r4):=H
  have A7:=aM4 A70
  clear A70
  replace H:=bI4.mp H
  obtain ⟨t311,A80,H⟩:=H
  replace H:(if t311=true then (if t299.length < 5864062014805 then (spec_l1Cur_slopes.l0 k (t296.length:Int) 0 s0_0 t309 t310 t296 (t299 ++ [t306])) else (none)) else (some (t296,t299,t309,t310)))=some (r1,r2,r3,r4):=H
  have A8:=aM4 A80
  clear A80
  by_cases c9:t311=true
  ·subst c9
   have H1:(if t299.length < 5864062014805 then (spec_l1Cur_slopes.l0 k (t296.length:Int) 0 s0_0 t309 t310 t296 (t299 ++ [t306])) else (none))=some (r1,r2,r3,r4):=by rw [if_pos rfl] at H;exact H
   clear H
   have H:=H1
   clear H1
   by_cases c10:t299.length < 5864062014805
   ·rw [if_pos c10] at H
    have LMc10:=aM4 c10
    clear c10
    obtain ⟨y312,hy312⟩:∃ y_:List (List (S96)),y_=(t299 ++ [t306]):=⟨_,rfl⟩
    replace H:(spec_l1Cur_slopes.l0 k (t296.length:Int) 0 s0_0 t309 t310 t296 y312)=some (r1,r2,r3,r4):=by first|(rw [hy312];with_reducible exact H)|(have H2_:=(Option.bind_some _ _).symm.trans H;rw [hy312];with_reducible exact H2_)|(have H2_:=(Option.bind_some _ _).symm.trans H;with_reducible exact H2_)|with_reducible exact H|(rw [hy312];exact H)|exact H
    have Ny312:=aM4 hy312
    clear hy312
    have H':=aM4 H
    clear H
    go_enter Try.func91,Try.ntmps91
    try go_wp2_with (first|((with_reducible refine gate_dst (N:=3) rfl ?_);refine box_event ?hg (N:=3) ?hd (cs:=#[.int .i64 a1_0,.int .i64 a1_1,.int .i64 a1_2]) (t:=84) ?hr ?_;(case hd=>rfl);(case hg=>rfl);(case hr=>exact zsx4_26);intro gb291 hg w11 hbox hb;have n0_:=aM4 (IsS61.below (zsx4_0) hb);have n1_:=aM4 (kT4 (zsx4_1) (kB4 hb g none) (.inl rfl));have n2_:=aM4 (below_step (zsx4_2) hb);have n3_:=aM4 (hbox);have n4_:=aM4 ((zsx4_28:w.heap.size≤gb291));have n5_:=aM4 ((Nat.le_trans HW0.out (zsx4_28:w.heap.size≤gb291):w0.heap.size≤gb291));have n6_:=aM4 ((zsx4_29:g≠gb291));have n7_:=aM4 ((zsx4_30:gb291≠g));clear HI0 HK HB;have HI0:=n0_;have HK:=n1_;have HB:=n2_;have BK291:=n3_;have GW291:=n4_;have GE291:=n5_;have NB0_291:=n6_;have NB291_0:=n7_;clear n0_ n1_ n2_ n3_ n4_ n5_ n6_ n7_ hb hbox hg)|((with_reducible refine gate_dst (N:=4) rfl ?_);refine box_event ?hg (N:=4) ?hd (cs:=#[.slice none 0 0,.slice none 0 0]) (t:=89) ?hr ?_;(case hd=>rfl);(case hg=>rfl);(case hr=>exact zsx4_26);intro gb292 hg w12 hbox hb;have n0_:=aM4 (IsS61.below (zsx4_3) hb);have n1_:=aM4 (blk_below (g:=gb291) (o:=.cells #[.int .i64 a1_0,.int .i64 a1_1,.int .i64 a1_2] 84 (0,0)) (zsx4_4) hb);have n2_:=aM4 (kT4 (zsx4_5) (kB4 hb g none) (.inl rfl));have n3_:=aM4 (below_step (zsx4_6) hb);have n4_:=aM4 (hbox);have n5_:=aM4 ((zsx4_31:w.heap.size≤gb292));have n6_:=aM4 ((Nat.le_trans HW0.out (zsx4_31:w.heap.size≤gb292):w0.heap.size≤gb292));have n7_:=aM4 ((zsx4_32:gb291≠gb292));have n8_:=aM4 ((zsx4_33:gb292≠gb291));have n9_:=aM4 ((zsx4_34:g≠gb292));have n10_:=aM4 ((zsx4_35:gb292≠g));clear HI0 BK291 HK HB;have HI0:=n0_;have BK291:=n1_;have HK:=n2_;have HB:=n3_;have BK292:=n4_;have GW292:=n5_;have GE292:=n6_;have NB291_292:=n7_;have NB292_291:=n8_;have NB0_292:=n9_;have NB292_0:=n10_;clear n0_ n1_ n2_ n3_ n4_ n5_ n6_ n7_ n8_ n9_ n10_ hb hbox hg))
    have n0_:=aM4 (blk_drew BK291.out)
    have n1_:=aM4 (blk_drew BK292.out)
    have n2_:=aM4 (IsS61.drew HI0.out)
    have n3_:=aM4 (keep_drew HK.out)
    have n4_:=aM4 (below_drew1 HB.out)
    clear BK291 BK292 HI0 HK HB
    have BK291:=n0_
    have BK292:=n1_
    have HI0:=n2_
    have HK:=n3_
    have HB:=n4_
    clear n0_ n1_ n2_ n3_ n4_
    refine start_ (n:=7) (S:=fun w'=>w'.cell? ⟨gb291,0,none⟩=some (.int .i64 a1_0)∧w'.cell? ⟨gb291,1,none⟩=some (.int .i64 a1_1)∧w'.cell? ⟨gb291,2,none⟩=some (.int .i64 a1_2)) (ds:=[]) #[false,false,false,false,false,false,false] (zsx4_7) rfl rfl ⟨(bC4 BK291.out 0).trans rfl,(bC4 BK291.out 1).trans rfl,(bC4 BK291.out 2).trans rfl⟩ (fun hHeld=>?_)
    generalize w12.drew=w13 at BK291 BK292 HI0 HK HB hHeld ⊢
    refine pure_ (i:=1) (N:=some 9) (v:=?_) (a':=?_) #[false,true,false,false,false,false,false] rfl rfl (zsx4_7) (fun _ _ _ h=>h) (Or.inl ⟨by rfl,?_⟩) ?_ ?_
    rotate_left
    ·intro w'
     go_simp
     with_reducible rfl
    rotate_left
    ·simp only [Act.put,uA4,uB4,uC4,i64_w,i32_w]
     rfl
    refine take_ (i:=0) (N:=some 8) (v:=?_) (a':=?_) #[true,true,false,false,false,false,false] rfl rfl (zsx4_7) (fun _ _ _ h=>h) (Or.inl ⟨by rfl,?_⟩) hHeld ?_ ?_
    rotate_left
    ·rintro w' ⟨s0,s1,s2⟩
     go_simp
     with_reducible rfl
    rotate_left
    ·simp only [Act.put,uA4,uB4,uC4,i64_w,i32_w]
     rfl
    refine join_ (σ:=Value × Value × Nat) 1 #[true,true,true,true,true,true,false] (fun s_=>[(10,.int .i64 t293),(12,.agg #[s_.1,s_.2.1]),(5,.pointer (some ⟨s_.2.2,0,none⟩)),(11,.int .i64 (wrap64 (1 + t293)))]) (fun s_ w'=>(w'.cell? ⟨gb291,0,none⟩=some (.int .i64 a1_0)∧w'.cell? ⟨gb291,1,none⟩=some (.int .i64 a1_1)∧w'.cell? ⟨gb291,2,none⟩=some (.int .i64 a1_2))∧(Kd.R (Kd.int .i64) 3 w' w.heap.size (fun k_=>(w.heap.size≤k_)) s_.1 t296)∧(Kd.N (Kd.slice 96 k96) 94 w' w.heap.size (fun k_=>(w.heap.size≤k_)∧some k_≠(s_.1:Value).ownBlock∧k_≠g∧k_≠gb291∧k_≠gb292∧k_≠s_.2.2) s_.2.1 t299)∧(w'.heap[gb291]?=some (.cells #[.int .i64 a1_0,.int .i64 a1_1,.int .i64 a1_2] 84 (0,0)))∧(w'.heap[gb292]?=some (.cells #[.slice none 0 0,.slice none 0 0] 89 (0,0)))∧(w'.heap[s_.2.2]?=some (.cells #[.slice none 0 0,.slice none 0 0] 89 (0,0)))∧(w.heap.size≤s_.2.2)∧(w0.heap.size≤s_.2.2)∧(g≠s_.2.2)∧(s_.2.2≠g)∧(gb291≠s_.2.2)∧(s_.2.2≠gb291)∧(gb292≠s_.2.2)∧(s_.2.2≠gb292)∧(IsS61 w0 w' g s0_0 t294 t295)∧(KeepBut w w' g none)∧(Below w0.heap.size w0 w')) ?_ ?_
    rotate_left
    ·intro hCont
     refine two_ (i:=2) (j:=5) (Ni:=some 10) (Nj:=some 5) #[true,true,true,false,false,false,false] #[true,true,false,false,false,true,false] rfl rfl rfl rfl (zsx4_7) (by decide) (by decide) (fun K hK=>?_) (fun K hK=>?_)
     ·skip
      refine goes_ Try.func53 (zsx4_7) rfl #[.pointer (some ⟨g,0,none⟩),.int .i64 4] (by rfl) rfl rfl (zsx4_8) ?_
      with_reducible refine (spec_l1Cur_pick.calls g s0_0 s0_1 s0_2 4 t293 t294 t295 w0 _ ?side1 ?side2 A3.out).mono ?_
      (case side1=>exact zsx4_11)
      (case side2=>exact zsx4_12)
      rintro e w14 ⟨rfl,hi,hb,hk⟩
      refine ⟨_,rfl,?_⟩
      have n0_:=aM4 (KeepBut.blk hk (g':=gb291) (o:=.cells #[.int .i64 a1_0,.int .i64 a1_1,.int .i64 a1_2] 84 (0,0)) (zsx4_4) NB291_0.out (by simp))
      have n1_:=aM4 (KeepBut.blk hk (g':=gb292) (o:=.cells #[.slice none 0 0,.slice none 0 0] 89 (0,0)) (zsx4_9) NB292_0.out (by simp))
      have n2_:=aM4 (kT4 (zsx4_10) hk (.inl rfl))
      have n3_:=aM4 (hb)
      have n4_:=aM4 (hi)
      clear BK291 BK292 HK HB HI0
      have BK291:=n0_
      have BK292:=n1_
      have HK:=n2_
      have HB:=n3_
      have HI0:=n4_
      clear n0_ n1_ n2_ n3_ n4_
      (try clear hb)
      (try clear hb2)
      (try clear hk)
      (try clear hi)
      refine hK.out _ _ ⟨(bC4 BK291.out 0).trans rfl,(bC4 BK291.out 1).trans rfl,(bC4 BK291.out 2).trans rfl⟩ (fun hHeld=>?_)
      clear hK K
      refine norm_ (a':=?_) ?_ ?_
      rotate_left
      ·show Act.put _ (some 10) _=_
       simp only [Act.put,uA4,uB4,uC4,i64_w,i32_w]
       rfl
      refine pure_ (i:=3) (N:=some 11) (v:=?_) (a':=?_) #[true,true,true,true,false,false,false] rfl rfl (zsx4_7) (fun _ _ _ h=>h) (Or.inl ⟨by rfl,?_⟩) ?_ ?_
      rotate_left
      ·intro w'
       go_simp
       with_reducible rfl
      rotate_left
      ·simp only [Act.put,uA4,uB4,uC4,i64_w,i32_w]
       rfl
      refine two_ (i:=4) (j:=5) (Ni:=some 12) (Nj:=some 5) #[true,true,true,true,true,false,false] #[true,true,true,true,false,true,false] rfl rfl rfl rfl (zsx4_7) (by decide) (by decide) (fun K hK=>?_) (fun K hK=>?_)
      ·skip
       refine goes_ Try.func97 (zsx4_7) rfl #[.agg #[.int .i64 a1_0,.int .i64 a1_1,.int .i64 a1_2],.int .i64 (wrap64 (1 + t293))] (by rfl) rfl rfl (zsx4_8) ?_
       with_reducible refine (spec_slUniform.calls k a1_0 a1_1 a1_2 (wrap64 (1 + t293)) t296 t299 _ A4.out).mono ?_
       rintro e w15 ⟨v297,v300,rfl,ho0,ho1,hb⟩
       refine ⟨_,rfl,?_⟩
       have n0_:=aM4 (Kd.R_lower (Kd.R_newM (M:=fun k_=>(w.heap.size≤k_)) (Kd.R_mono (ok':=fun k_=>True) ho0 (fun _ hk_=>trivial)) (keep_size (w:=w) (g:=g) (row:=none) (zsx4_10)) (fun k_ h_=>h_)) (keep_size (w:=w) (g:=g) (row:=none) (zsx4_10)))
       have n1_:=aM4 (Kd.N_lower (Kd.N_mono (ok':=fun k_=>(w.heap.size≤k_)∧some k_≠(v297:Value).ownBlock∧k_≠gb291∧k_≠gb292∧k_≠g) ho1 (fun k_ hk_=>⟨(Nat.le_trans (keep_size (w:=w) (g:=g) (row:=none) (zsx4_10)) hk_.1),hk_.2,(Kd.freshB (g:=gb291) (o:=.cells #[.int .i64 a1_0,.int .i64 a1_1,.int .i64 a1_2] 84 (0,0)) (zsx4_4) k_ hk_.1),(Kd.freshB (g:=gb292) (o:=.cells #[.slice none 0 0,.slice none 0 0] 89 (0,0)) (zsx4_9) k_ hk_.1),(IsS61.fresh (zsx4_11) k_ hk_.1)⟩)) (keep_size (w:=w) (g:=g) (row:=none) (zsx4_10)))
       have n2_:=aM4 (IsS61.below (zsx4_11) hb)
       have n3_:=aM4 (blk_below (g:=gb291) (o:=.cells #[.int .i64 a1_0,.int .i64 a1_1,.int .i64 a1_2] 84 (0,0)) (zsx4_4) hb)
       have n4_:=aM4 (blk_below (g:=gb292) (o:=.cells #[.slice none 0 0,.slice none 0 0] 89 (0,0)) (zsx4_9) hb)
       have n5_:=aM4 (kT4 (zsx4_10) (kB4 hb g none) (.inl rfl))
       have n6_:=aM4 (below_step (zsx4_12) hb)
       clear HI0 BK291 BK292 HK HB
       have HO298:=n0_
       have HO301:=n1_
       have HI0:=n2_
       have BK291:=n3_
       have BK292:=n4_
       have HK:=n5_
       have HB:=n6_
       clear n0_ n1_ n2_ n3_ n4_ n5_ n6_
       (try clear hb)
       (try clear hb2)
       (try clear hk)
       (try clear hi)
       (try clear ho0)
       (try clear ho1)
       refine hK.out _ _ ⟨(bC4 BK291.out 0).trans rfl,(bC4 BK291.out 1).trans rfl,(bC4 BK291.out 2).trans rfl⟩ (fun hHeld=>?_)
       clear hK K
       refine norm_ (a':=?_) ?_ ?_
       rotate_left
       ·show Act.put _ (some 12) _=_
        simp only [Act.put,uA4,uB4,uC4,i64_w,i32_w]
        rfl
       refine one_ (i:=5) (N:=some 5) #[true,true,true,true,true,true,false] rfl rfl (zsx4_7) (by decide) (fun K hK=>?_)
       refine box_step ?hg (N:=5) ?hd (cs:=#[.slice none 0 0,.slice none 0 0]) (t:=89) ?hr ?_;(case hd=>rfl);(case hg=>rfl);(case hr=>exact zsx4_26)
       intro gb302 hg w16 hbox hb
       have n0_:=aM4 (Kd.R_below (zsx4_13) hb)
       have n1_:=aM4 (Kd.N_below (Kd.N_elderB (zsx4_14) gb302 (Nat.le_of_eq hg.symm)) hb)
       have n2_:=aM4 (IsS61.below (zsx4_11) hb)
       have n3_:=aM4 (blk_below (g:=gb291) (o:=.cells #[.int .i64 a1_0,.int .i64 a1_1,.int .i64 a1_2] 84 (0,0)) (zsx4_4) hb)
       have n4_:=aM4 (blk_below (g:=gb292) (o:=.cells #[.slice none 0 0,.slice none 0 0] 89 (0,0)) (zsx4_9) hb)
       have n5_:=aM4 (kT4 (zsx4_10) (kB4 hb g none) (.inl rfl))
       have n6_:=aM4 (below_step (zsx4_12) hb)
       have n7_:=aM4 (hbox)
       have n8_:=aM4 ((zsx4_36:w.heap.size≤gb302))
       have n9_:=aM4 ((Nat.le_trans HW0.out (zsx4_36:w.heap.size≤gb302):w0.heap.size≤gb302))
       have n10_:=aM4 ((zsx4_32:gb291≠gb302))
       have n11_:=aM4 ((zsx4_33:gb302≠gb291))
       have n12_:=aM4 ((zsx4_37:gb292≠gb302))
       have n13_:=aM4 ((zsx4_38:gb302≠gb292))
       have n14_:=aM4 ((zsx4_39:g≠gb302))
       have n15_:=aM4 ((zsx4_40:gb302≠g))
       clear HO298 HO301 HI0 BK291 BK292 HK HB
       have HO298:=n0_
       have HO301:=n1_
       have HI0:=n2_
       have BK291:=n3_
       have BK292:=n4_
       have HK:=n5_
       have HB:=n6_
       have BK302:=n7_
       have GW302:=n8_
       have GE302:=n9_
       have NB291_302:=n10_
       have NB302_291:=n11_
       have NB292_302:=n12_
       have NB302_292:=n13_
       have NB0_302:=n14_
       have NB302_0:=n15_
       clear n0_ n1_ n2_ n3_ n4_ n5_ n6_ n7_ n8_ n9_ n10_ n11_ n12_ n13_ n14_ n15_ hb hbox hg
       refine hK.out _ _ ⟨(bC4 BK291.out 0).trans rfl,(bC4 BK291.out 1).trans rfl,(bC4 BK291.out 2).trans rfl⟩ (fun hHeld=>?_)
       clear hK K
       refine norm_ (a':=?_) ?_ ?_
       rotate_left
       ·show Act.put _ (some 5) _=_
        simp only [Act.put,uA4,uB4,uC4,i64_w,i32_w]
        rfl
       exact norm_ (zsx4_15) (hCont (v297,v300,gb302) _ ⟨hHeld,(zsx4_16),(zsx4_17),(zsx4_4),(zsx4_9),(zsx4_18),GW302.out,GE302.out,NB0_302.out,NB302_0.out,NB291_302.out,NB302_291.out,NB292_302.out,NB302_292.out,(zsx4_19),(zsx4_20),(zsx4_21)⟩)
      ·skip
       refine box_step ?hg (N:=5) ?hd (cs:=#[.slice none 0 0,.slice none 0 0]) (t:=89) ?hr ?_;(case hd=>rfl);(case hg=>rfl);(case hr=>exact zsx4_26)
       intro gb302 hg w15 hbox hb
       have n0_:=aM4 (IsS61.below (zsx4_11) hb)
       have n1_:=aM4 (blk_below (g:=gb291) (o:=.cells #[.int .i64 a1_0,.int .i64 a1_1,.int .i64 a1_2] 84 (0,0)) (zsx4_4) hb)
       have n2_:=aM4 (blk_below (g:=gb292) (o:=.cells #[.slice none 0 0,.slice none 0 0] 89 (0,0)) (zsx4_9) hb)
       have n3_:=aM4 (kT4 (zsx4_10) (kB4 hb g none) (.inl rfl))
       have n4_:=aM4 (below_step (zsx4_12) hb)
       have n5_:=aM4 (hbox)
       have n6_:=aM4 ((zsx4_36:w.heap.size≤gb302))
       have n7_:=aM4 ((Nat.le_trans HW0.out (zsx4_36:w.heap.size≤gb302):w0.heap.size≤gb302))
       have n8_:=aM4 ((zsx4_32:gb291≠gb302))
       have n9_:=aM4 ((zsx4_33:gb302≠gb291))
       have n10_:=aM4 ((zsx4_37:gb292≠gb302))
       have n11_:=aM4 ((zsx4_38:gb302≠gb292))
       have n12_:=aM4 ((zsx4_39:g≠gb302))
       have n13_:=aM4 ((zsx4_40:gb302≠g))
       clear HI0 BK291 BK292 HK HB
       have HI0:=n0_
       have BK291:=n1_
       have BK292:=n2_
       have HK:=n3_
       have HB:=n4_
       have BK302:=n5_
       have GW302:=n6_
       have GE302:=n7_
       have NB291_302:=n8_
       have NB302_291:=n9_
       have NB292_302:=n10_
       have NB302_292:=n11_
       have NB0_302:=n12_
       have NB302_0:=n13_
       clear n0_ n1_ n2_ n3_ n4_ n5_ n6_ n7_ n8_ n9_ n10_ n11_ n12_ n13_ hb hbox hg
       refine hK.out _ _ ⟨(bC4 BK291.out 0).trans rfl,(bC4 BK291.out 1).trans rfl,(bC4 BK291.out 2).trans rfl⟩ (fun hHeld=>?_)
       clear hK K
       refine norm_ (a':=?_) ?_ ?_
       rotate_left
       ·show Act.put _ (some 5) _=_
        simp only [Act.put,uA4,uB4,uC4,i64_w,i32_w]
        rfl
       refine one_ (i:=4) (N:=some 12) #[true,true,true,true,true,true,false] rfl rfl (zsx4_7) (by decide) (fun K hK=>?_)
       refine goes_ Try.func97 (zsx4_7) rfl #[.agg #[.int .i64 a1_0,.int .i64 a1_1,.int .i64 a1_2],.int .i64 (wrap64 (1 + t293))] (by rfl) rfl rfl (zsx4_8) ?_
       with_reducible refine (spec_slUniform.calls k a1_0 a1_1 a1_2 (wrap64 (1 + t293)) t296 t299 _ A4.out).mono ?_
       rintro e w16 ⟨v297,v300,rfl,ho0,ho1,hb⟩
       refine ⟨_,rfl,?_⟩
       have n0_:=aM4 (Kd.R_lower (Kd.R_newM (M:=fun k_=>(w.heap.size≤k_)) (Kd.R_mono (ok':=fun k_=>True) ho0 (fun _ hk_=>trivial)) (keep_size (w:=w) (g:=g) (row:=none) (zsx4_20)) (fun k_ h_=>h_)) (keep_size (w:=w) (g:=g) (row:=none) (zsx4_20)))
       have n1_:=aM4 (Kd.N_lower (Kd.N_mono (ok':=fun k_=>(w.heap.size≤k_)∧some k_≠(v297:Value).ownBlock∧k_≠gb291∧k_≠gb292∧k_≠gb302∧k_≠g) ho1 (fun k_ hk_=>⟨(Nat.le_trans (keep_size (w:=w) (g:=g) (row:=none) (zsx4_20)) hk_.1),hk_.2,(Kd.freshB (g:=gb291) (o:=.cells #[.int .i64 a1_0,.int .i64 a1_1,.int .i64 a1_2] 84 (0,0)) (zsx4_4) k_ hk_.1),(Kd.freshB (g:=gb292) (o:=.cells #[.slice none 0 0,.slice none 0 0] 89 (0,0)) (zsx4_9) k_ hk_.1),(Kd.freshB (g:=gb302) (o:=.cells #[.slice none 0 0,.slice none 0 0] 89 (0,0)) (zsx4_18) k_ hk_.1),(IsS61.fresh (zsx4_19) k_ hk_.1)⟩)) (keep_size (w:=w) (g:=g) (row:=none) (zsx4_20)))
       have n2_:=aM4 (IsS61.below (zsx4_19) hb)
       have n3_:=aM4 (blk_below (g:=gb291) (o:=.cells #[.int .i64 a1_0,.int .i64 a1_1,.int .i64 a1_2] 84 (0,0)) (zsx4_4) hb)
       have n4_:=aM4 (blk_below (g:=gb292) (o:=.cells #[.slice none 0 0,.slice none 0 0] 89 (0,0)) (zsx4_9) hb)
       have n5_:=aM4 (blk_below (g:=gb302) (o:=.cells #[.slice none 0 0,.slice none 0 0] 89 (0,0)) (zsx4_18) hb)
       have n6_:=aM4 (kT4 (zsx4_20) (kB4 hb g none) (.inl rfl))
       have n7_:=aM4 (below_step (zsx4_21) hb)
       clear HI0 BK291 BK292 BK302 HK HB
       have HO298:=n0_
       have HO301:=n1_
       have HI0:=n2_
       have BK291:=n3_
       have BK292:=n4_
       have BK302:=n5_
       have HK:=n6_
       have HB:=n7_
       clear n0_ n1_ n2_ n3_ n4_ n5_ n6_ n7_
       (try clear hb)
       (try clear hb2)
       (try clear hk)
       (try clear hi)
       (try clear ho0)
       (try clear ho1)
       refine hK.out _ _ ⟨(bC4 BK291.out 0).trans rfl,(bC4 BK291.out 1).trans rfl,(bC4 BK291.out 2).trans rfl⟩ (fun hHeld=>?_)
       clear hK K
       refine norm_ (a':=?_) ?_ ?_
       rotate_left
       ·show Act.put _ (some 12) _=_
        simp only [Act.put,uA4,uB4,uC4,i64_w,i32_w]
        rfl
       exact norm_ (zsx4_15) (hCont (v297,v300,gb302) _ ⟨hHeld,(zsx4_16),(zsx4_22),(zsx4_4),(zsx4_9),(zsx4_18),GW302.out,GE302.out,NB0_302.out,NB302_0.out,NB291_302.out,NB302_291.out,NB292_302.out,NB302_292.out,(zsx4_19),(zsx4_20),(zsx4_21)⟩)
     ·skip
      refine box_step ?hg (N:=5) ?hd (cs:=#[.slice none 0 0,.slice none 0 0]) (t:=89) ?hr ?_;(case hd=>rfl);(case hg=>rfl);(case hr=>exact zsx4_26)
      intro gb302 hg w14 hbox hb
      have n0_:=aM4 (IsS61.below (zsx4_11) hb)
      have n1_:=aM4 (blk_below (g:=gb291) (o:=.cells #[.int .i64 a1_0,.int .i64 a1_1,.int .i64 a1_2] 84 (0,0)) (zsx4_4) hb)
      have n2_:=aM4 (blk_below (g:=gb292) (o:=.cells #[.slice none 0 0,.slice none 0 0] 89 (0,0)) (zsx4_9) hb)
      have n3_:=aM4 (kT4 (zsx4_10) (kB4 hb g none) (.inl rfl))
      have n4_:=aM4 (below_step (zsx4_12) hb)
      have n5_:=aM4 (hbox)
      have n6_:=aM4 ((zsx4_36:w.heap.size≤gb302))
      have n7_:=aM4 ((Nat.le_trans HW0.out (zsx4_36:w.heap.size≤gb302):w0.heap.size≤gb302))
      have n8_:=aM4 ((zsx4_32:gb291≠gb302))
      have n9_:=aM4 ((zsx4_33:gb302≠gb291))
      have n10_:=aM4 ((zsx4_37:gb292≠gb302))
      have n11_:=aM4 ((zsx4_38:gb302≠gb292))
      have n12_:=aM4 ((zsx4_41:g≠gb302))
      have n13_:=aM4 ((zsx4_42:gb302≠g))
      clear HI0 BK291 BK292 HK HB
      have HI0:=n0_
      have BK291:=n1_
      have BK292:=n2_
      have HK:=n3_
      have HB:=n4_
      have BK302:=n5_
      have GW302:=n6_
      have GE302:=n7_
      have NB291_302:=n8_
      have NB302_291:=n9_
      have NB292_302:=n10_
      have NB302_292:=n11_
      have NB0_302:=n12_
      have NB302_0:=n13_
      clear n0_ n1_ n2_ n3_ n4_ n5_ n6_ n7_ n8_ n9_ n10_ n11_ n12_ n13_ hb hbox hg
      refine hK.out _ _ ⟨(bC4 BK291.out 0).trans rfl,(bC4 BK291.out 1).trans rfl,(bC4 BK291.out 2).trans rfl⟩ (fun hHeld=>?_)
      clear hK K
      refine norm_ (a':=?_) ?_ ?_
      rotate_left
      ·show Act.put _ (some 5) _=_
       simp only [Act.put,uA4,uB4,uC4,i64_w,i32_w]
       rfl
      refine one_ (i:=2) (N:=some 10) #[true,true,true,false,false,true,false] rfl rfl (zsx4_7) (by decide) (fun K hK=>?_)
      refine goes_ Try.func53 (zsx4_7) rfl #[.pointer (some ⟨g,0,none⟩),.int .i64 4] (by rfl) rfl rfl (zsx4_8) ?_
      with_reducible refine (spec_l1Cur_pick.calls g s0_0 s0_1 s0_2 4 t293 t294 t295 w0 _ ?side1 ?side2 A3.out).mono ?_
      (case side1=>exact zsx4_19)
      (case side2=>exact zsx4_21)
      rintro e w15 ⟨rfl,hi,hb,hk⟩
      refine ⟨_,rfl,?_⟩
      have n0_:=aM4 (KeepBut.blk hk (g':=gb291) (o:=.cells #[.int .i64 a1_0,.int .i64 a1_1,.int .i64 a1_2] 84 (0,0)) (zsx4_4) NB291_0.out (by simp))
      have n1_:=aM4 (KeepBut.blk hk (g':=gb292) (o:=.cells #[.slice none 0 0,.slice none 0 0] 89 (0,0)) (zsx4_9) NB292_0.out (by simp))
      have n2_:=aM4 (KeepBut.blk hk (g':=gb302) (o:=.cells #[.slice none 0 0,.slice none 0 0] 89 (0,0)) (zsx4_18) NB302_0.out (by simp))
      have n3_:=aM4 (kT4 (zsx4_20) hk (.inl rfl))
      have n4_:=aM4 (hb)
      have n5_:=aM4 (hi)
      clear BK291 BK292 BK302 HK HB HI0
      have BK291:=n0_
      have BK292:=n1_
      have BK302:=n2_
      have HK:=n3_
      have HB:=n4_
      have HI0:=n5_
      clear n0_ n1_ n2_ n3_ n4_ n5_
      (try clear hb)
      (try clear hb2)
      (try clear hk)
      (try clear hi)
      refine hK.out _ _ ⟨(bC4 BK291.out 0).trans rfl,(bC4 BK291.out 1).trans rfl,(bC4 BK291.out 2).trans rfl⟩ (fun hHeld=>?_)
      clear hK K
      refine norm_ (a':=?_) ?_ ?_
      rotate_left
      ·show Act.put _ (some 10) _=_
       simp only [Act.put,uA4,uB4,uC4,i64_w,i32_w]
       rfl
      refine pure_ (i:=3) (N:=some 11) (v:=?_) (a':=?_) #[true,true,true,true,false,true,false] rfl rfl (zsx4_7) (fun _ _ _ h=>h) (Or.inl ⟨by rfl,?_⟩) ?_ ?_
      rotate_left
      ·intro w'
       go_simp
       with_reducible rfl
      rotate_left
      ·simp only [Act.put,uA4,uB4,uC4,i64_w,i32_w]
       rfl
      refine one_ (i:=4) (N:=some 12) #[true,true,true,true,true,true,false] rfl rfl (zsx4_7) (by decide) (fun K hK=>?_)
      refine goes_ Try.func97 (zsx4_7) rfl #[.agg #[.int .i64 a1_0,.int .i64 a1_1,.int .i64 a1_2],.int .i64 (wrap64 (1 + t293))] (by rfl) rfl rfl (zsx4_8) ?_
      with_reducible refine (spec_slUniform.calls k a1_0 a1_1 a1_2 (wrap64 (1 + t293)) t296 t299 _ A4.out).mono ?_
      rintro e w16 ⟨v297,v300,rfl,ho0,ho1,hb⟩
      refine ⟨_,rfl,?_⟩
      have n0_:=aM4 (Kd.R_lower (Kd.R_newM (M:=fun k_=>(w.heap.size≤k_)) (Kd.R_mono (ok':=fun k_=>True) ho0 (fun _ hk_=>trivial)) (keep_size (w:=w) (g:=g) (row:=none) (zsx4_20)) (fun k_ h_=>h_)) (keep_size (w:=w) (g:=g) (row:=none) (zsx4_20)))
      have n1_:=aM4 (Kd.N_lower (Kd.N_mono (ok':=fun k_=>(w.heap.size≤k_)∧some k_≠(v297:Value).ownBlock∧k_≠gb291∧k_≠gb292∧k_≠gb302∧k_≠g) ho1 (fun k_ hk_=>⟨(Nat.le_trans (keep_size (w:=w) (g:=g) (row:=none) (zsx4_20)) hk_.1),hk_.2,(Kd.freshB (g:=gb291) (o:=.cells #[.int .i64 a1_0,.int .i64 a1_1,.int .i64 a1_2] 84 (0,0)) (zsx4_4) k_ hk_.1),(Kd.freshB (g:=gb292) (o:=.cells #[.slice none 0 0,.slice none 0 0] 89 (0,0)) (zsx4_9) k_ hk_.1),(Kd.freshB (g:=gb302) (o:=.cells #[.slice none 0 0,.slice none 0 0] 89 (0,0)) (zsx4_18) k_ hk_.1),(IsS61.fresh (zsx4_19) k_ hk_.1)⟩)) (keep_size (w:=w) (g:=g) (row:=none) (zsx4_20)))
      have n2_:=aM4 (IsS61.below (zsx4_19) hb)
      have n3_:=aM4 (blk_below (g:=gb291) (o:=.cells #[.int .i64 a1_0,.int .i64 a1_1,.int .i64 a1_2] 84 (0,0)) (zsx4_4) hb)
      have n4_:=aM4 (blk_below (g:=gb292) (o:=.cells #[.slice none 0 0,.slice none 0 0] 89 (0,0)) (zsx4_9) hb)
      have n5_:=aM4 (blk_below (g:=gb302) (o:=.cells #[.slice none 0 0,.slice none 0 0] 89 (0,0)) (zsx4_18) hb)
      have n6_:=aM4 (kT4 (zsx4_20) (kB4 hb g none) (.inl rfl))
      have n7_:=aM4 (below_step (zsx4_21) hb)
      clear HI0 BK291 BK292 BK302 HK HB
      have HO298:=n0_
      have HO301:=n1_
      have HI0:=n2_
      have BK291:=n3_
      have BK292:=n4_
      have BK302:=n5_
      have HK:=n6_
      have HB:=n7_
      clear n0_ n1_ n2_ n3_ n4_ n5_ n6_ n7_
      (try clear hb)
      (try clear hb2)
      (try clear hk)
      (try clear hi)
      (try clear ho0)
      (try clear ho1)
      refine hK.out _ _ ⟨(bC4 BK291.out 0).trans rfl,(bC4 BK291.out 1).trans rfl,(bC4 BK291.out 2).trans rfl⟩ (fun hHeld=>?_)
      clear hK K
      refine norm_ (a':=?_) ?_ ?_
      rotate_left
      ·show Act.put _ (some 12) _=_
       simp only [Act.put,uA4,uB4,uC4,i64_w,i32_w]
       rfl
      exact norm_ (zsx4_15) (hCont (v297,v300,gb302) _ ⟨hHeld,(zsx4_16),(zsx4_22),(zsx4_4),(zsx4_9),(zsx4_18),GW302.out,GE302.out,NB0_302.out,NB302_0.out,NB291_302.out,NB302_291.out,NB292_302.out,NB302_292.out,(zsx4_19),(zsx4_20),(zsx4_21)⟩)
    rintro ⟨v297,v300,gb302⟩ w17 ⟨hS_,h0_,h1_,h2_,h3_,h4_,h5_,h6_,h7_,h8_,h9_,h10_,h11_,h12_,h13_,h14_,h15_⟩
    have n0_:Aside0 (Kd.R (Kd.int .i64) 3 w17 w.heap.size (fun k_=>(w.heap.size≤k_)) v297 t296):=⟨h0_⟩
    have n1_:Aside0 (Kd.N (Kd.slice 96 k96) 94 w17 w.heap.size (fun k_=>(w.heap.size≤k_)∧some k_≠(v297:Value).ownBlock∧k_≠g∧k_≠gb291∧k_≠gb292∧k_≠gb302) v300 t299):=⟨h1_⟩
    have n2_:Aside0 (w17.heap[gb291]?=some (.cells #[.int .i64 a1_0,.int .i64 a1_1,.int .i64 a1_2] 84 (0,0))):=⟨h2_⟩
    have n3_:Aside0 (w17.heap[gb292]?=some (.cells #[.slice none 0 0,.slice none 0 0] 89 (0,0))):=⟨h3_⟩
    have n4_:Aside0 (w17.heap[gb302]?=some (.cells #[.slice none 0 0,.slice none 0 0] 89 (0,0))):=⟨h4_⟩
    have n5_:Aside0 (w.heap.size≤gb302):=⟨h5_⟩
    have n6_:Aside0 (w0.heap.size≤gb302):=⟨h6_⟩
    have n7_:Aside0 (g≠gb302):=⟨h7_⟩
    have n8_:Aside0 (gb302≠g):=⟨h8_⟩
    have n9_:Aside0 (gb291≠gb302):=⟨h9_⟩
    have n10_:Aside0 (gb302≠gb291):=⟨h10_⟩
    have n11_:Aside0 (gb292≠gb302):=⟨h11_⟩
    have n12_:Aside0 (gb302≠gb292):=⟨h12_⟩
    have n13_:Aside0 (IsS61 w0 w17 g s0_0 t294 t295):=⟨h13_⟩
    have n14_:Aside0 (KeepBut w w17 g none):=⟨h14_⟩
    have n15_:Aside0 (Below w0.heap.size w0 w17):=⟨h15_⟩
    clear BK291 BK292 HI0 HK HB h0_ h1_ h2_ h3_ h4_ h5_ h6_ h7_ h8_ h9_ h10_ h11_ h12_ h13_ h14_ h15_
    have HO298:=n0_
    have HO301:=n1_
    have BK291:=n2_
    have BK292:=n3_
    have BK302:=n4_
    have GW302:=n5_
    have GE302:=n6_
    have NB0_302:=n7_
    have NB302_0:=n8_
    have NB291_302:=n9_
    have NB302_291:=n10_
    have NB292_302:=n11_
    have NB302_292:=n12_
    have HI0:=n13_
    have HK:=n14_
    have HB:=n15_
    clear n0_ n1_ n2_ n3_ n4_ n5_ n6_ n7_ n8_ n9_ n10_ n11_ n12_ n13_ n14_ n15_
    have hHeld:w17.cell? ⟨gb291,0,none⟩=some (.int .i64 a1_0)∧w17.cell? ⟨gb291,1,none⟩=some (.int .i64 a1_1)∧w17.cell? ⟨gb291,2,none⟩=some (.int .i64 a1_2):=hS_
    obtain ⟨Ao18,co18,eo18⟩:=Kd.R_slice HO298.out
    (first|subst eo18|(injection eo18 with f1_ f2_ f3_;have f4_:=f1_.symm;have f5_:=f3_.symm;clear f1_ f2_ f3_;subst f4_;subst f5_))
    obtain ⟨Ao20,co20,eo20⟩:=Kd.N_slice HO301.out
    (first|subst eo20|(injection eo20 with f1_ f2_ f3_;have f4_:=f1_.symm;have f5_:=f3_.symm;clear f1_ f2_ f3_;subst f4_;subst f5_))
    refine norm_ (a':=?_) ?_ ?_
    rotate_left
    ·simp only [putAll,Act.put,uA4,uB4,uC4]
     rfl
    refine one_ (i:=6) (N:=none) #[true,true,true,true,true,true,true] rfl rfl (zsx4_7) (by decide) (fun K hK=>?_)
    have hs19:w17.cell? ⟨gb302,0,none⟩=some (.slice none 0 0):=(bC4 BK302.out 0).trans rfl
    have hfs19:=blk_frozen BK302.out 0
    have hns19_0:=NB291_302.out
    have hns19_1:=NB292_302.out
    have hms19_0:=NB302_291.out
    have hms19_1:=NB302_292.out
    have hs21:w17.cell? ⟨gb302,1,none⟩=some (.slice none 0 0):=(bC4 BK302.out 1).trans rfl
    have hfs21:=blk_frozen BK302.out 1
    have hns21_0:=NB291_302.out
    have hns21_1:=NB292_302.out
    have hms21_0:=NB302_291.out
    have hms21_1:=NB302_292.out
    refine skip_ (w1:=?_) (by rfl) rfl ?_ ?_
    rotate_left
    ·go_simp
     rfl
    refine hK.out _ _ ⟨((cell_far (p:=⟨gb302,_,none⟩) NB291_302.out _).trans (((cell_far (p:=⟨gb302,_,none⟩) NB291_302.out _).trans (hHeld.1)))),((cell_far (p:=⟨gb302,_,none⟩) NB291_302.out _).trans (((cell_far (p:=⟨gb302,_,none⟩) NB291_302.out _).trans (hHeld.2.1)))),((cell_far (p:=⟨gb302,_,none⟩) NB291_302.out _).trans (((cell_far (p:=⟨gb302,_,none⟩) NB291_302.out _).trans (hHeld.2.2))))⟩ (fun hHeld=>?_)
    clear hK K
    refine done_ (zsx4_7) ?_
    try go_wp2_with (first|((with_reducible refine gate_callee (f:=86) rfl ?_);refine goesL_ (some 14) rfl rfl Try.func86 (zsx4_7) rfl #[.pointer (some ⟨g,0,none⟩),.int .i64 3] rfl (zsx4_8) ?_;(with_reducible refine (spec_l1Cur_one.calls g s0_0 t294 t295 3 true t304 t305 w0 _ ?side1 ?side2 A5.out).mono ?_);(case side1=>exact zsx4_19);(case side2=>exact zsx4_21);rintro e w22 ⟨rfl,hi,hb,hk⟩;refine ⟨_,rfl,?_⟩;have n0_:=aM4 (KeepBut.blk hk (g':=gb291) (o:=.cells #[.int .i64 a1_0,.int .i64 a1_1,.int .i64 a1_2] 84 (0,0)) (zsx4_23) NB291_0.out (by simp));have n1_:=aM4 (KeepBut.blk hk (g':=gb292) (o:=.cells #[.slice none 0 0,.slice none 0 0] 89 (0,0)) (zsx4_24) NB292_0.out (by simp));have n2_:=aM4 (Kd.R_mono (Kd.R_keep (IsS61.apart (show IsS61 w0 _ g s0_0 t294 t295 from zsx4_19) (by (with_reducible repeat (first|apply Kd.R_alloc|apply Kd.R_drewN|apply Kd.R_drew));exact (Kd.R_mono (Kd.R_far (p:=⟨gb302,1,none⟩) (Kd.R_far (p:=⟨gb302,0,none⟩) (Kd.R_types HO298.out BK302.out (by decide)) (fun _ hk=>hk.2) (.slice Ao18 t296.length co18)) (fun _ hk=>hk.2) (.slice Ao20 t299.length co20)) (fun _ h_=>h_.1))) (by decide)) hk (fun _ h=>h.2)) (fun _ h=>h.1));have n3_:=aM4 (Kd.N_mono (Kd.N_keep (Kd.N_mono (ok:=fun k_=>(((w.heap.size≤k_))∧(some k_≠(.slice Ao18 t296.length co18:Value).ownBlock∧(k_≠g∧(k_≠gb291∧(k_≠gb292∧k_≠gb302)))))) (by (with_reducible repeat (first|apply Kd.N_alloc|apply Kd.N_drewN|apply Kd.N_drew));exact (Kd.N_mono (Kd.N_far (p:=⟨gb302,1,none⟩) (Kd.N_far (p:=⟨gb302,0,none⟩) (Kd.N_mono HO301.out (fun k_ hk=>(⟨hk,hk.2.2.2.2.2⟩:_∧k_≠gb302))) (fun _ hk=>hk.2) (.slice Ao18 t296.length co18)) (fun _ hk=>hk.2) (.slice Ao20 t299.length co20)) (fun _ h_=>h_.1))) (fun k_ hk_=>(⟨hk_,hk_.2.2.1⟩:_∧k_≠g))) hk (fun _ h=>h.2)) (fun _ h=>h.1));have n4_:=aM4 (KeepBut.blk hk (g':=gb302) (o:=.cells #[.slice Ao18 t296.length co18,.slice Ao20 t299.length co20] 89 (0,0)) (by (with_reducible repeat (first|refine blk_drewN ?_ _|refine blk_drew ?_|refine blk_alloc ?_ _));refine blk_put (cs:=#[.slice Ao18 t296.length co18,.slice none 0 0]) ?_ 1 _ rfl;(with_reducible repeat (first|refine blk_drewN ?_ _|refine blk_drew ?_|refine blk_alloc ?_ _));refine blk_put (cs:=#[.slice none 0 0,.slice none 0 0]) ?_ 0 _ rfl;(with_reducible repeat (first|refine blk_drewN ?_ _|refine blk_drew ?_|refine blk_alloc ?_ _));exact BK302.out) NB302_0.out (by simp));have n5_:=aM4 (kT4 (zsx4_20) hk (.inl rfl));have n6_:=aM4 (hb);have n7_:=aM4 (hi);clear BK291 BK292 HO298 HO301 BK302 HK HB HI0;have BK291:=n0_;have BK292:=n1_;have HO298:=n2_;have HO301:=n3_;have BK302:=n4_;have HK:=n5_;have HB:=n6_;have HI0:=n7_;clear n0_ n1_ n2_ n3_ n4_ n5_ n6_ n7_;(try clear hb);(try clear hb2);(try clear hk);(try clear hi))|((with_reducible refine gate_callee (f:=98) rfl ?_);refine goesL_ (some 16) rfl rfl Try.func98 (zsx4_7) rfl #[.pointer (some ⟨g,0,none⟩)] rfl (zsx4_8) ?_;(with_reducible refine (spec_l1Cur_template.calls k g s0_0 t304 t305 t306 t309 t310 w0 _ ?side1 ?side2 A7.out).mono ?_);(case side1=>exact zsx4_19);(case side2=>exact zsx4_21);rintro e w23 ⟨v307,rfl,ho0,hi,hb,hk⟩;refine ⟨_,rfl,?_⟩;have n0_:=aM4 (KeepBut.blk hk (g':=gb291) (o:=.cells #[.int .i64 a1_0,.int .i64 a1_1,.int .i64 a1_2] 84 (0,0)) (zsx4_4) NB291_0.out (by simp));have n1_:=aM4 (KeepBut.blk hk (g':=gb292) (o:=.cells #[.slice none 0 0,.slice none 0 0] 89 (0,0)) (zsx4_9) NB292_0.out (by simp));have n2_:=aM4 (Kd.R_mono (Kd.R_keep (IsS61.apart (show IsS61 w0 _ g s0_0 t304 t305 from zsx4_19) (zsx4_13) (by decide)) hk (fun _ h=>h.2)) (fun _ h=>h.1));have n3_:=aM4 (Kd.N_mono (Kd.N_told (Kd.N_oldK (Kd.N_mono (ok:=fun k_=>(((w.heap.size≤k_))∧(some k_≠(.slice Ao18 t296.length co18:Value).ownBlock∧(k_≠g∧(k_≠gb291∧(k_≠gb292∧k_≠gb302)))))) (zsx4_14) (fun k_ hk_=>(⟨hk_,hk_.2.2.1⟩:_∧k_≠g))) hk) (Kd.Q_base ho0)) (fun _ h_=>h_.1));have n4_:=aM4 (KeepBut.blk hk (g':=gb302) (o:=.cells #[.slice Ao18 t296.length co18,.slice Ao20 t299.length co20] 89 (0,0)) (zsx4_18) NB302_0.out (by simp));have n5_:=aM4 (Kd.Q_lower (Kd.Q_newM (M:=fun k_=>(w.heap.size≤k_)) ho0 (keep_size (w:=w) (g:=g) (row:=none) (zsx4_20)) (fun k_ h_=>h_)) (keep_size (w:=w) (g:=g) (row:=none) (zsx4_20)));have n6_:=aM4 (kT4 (zsx4_20) hk (.inl rfl));have n7_:=aM4 (hb);have n8_:=aM4 (hi);clear BK291 BK292 HO298 HO301 BK302 HK HB HI0;have BK291:=n0_;have BK292:=n1_;have HO298:=n2_;have HO301:=n3_;have BK302:=n4_;have HO308:=n5_;have HK:=n6_;have HB:=n7_;have HI0:=n8_;clear n0_ n1_ n2_ n3_ n4_ n5_ n6_ n7_ n8_;(try clear hb);(try clear hb2);(try clear hk);(try clear hi);(try clear ho0);obtain ⟨Ao24,co24,eo24,_⟩:=Kd.Q_slice HO308.out;subst eo24)|((with_reducible refine gate_callee (f:=99) rfl ?_);refine goesL_ (some 18) rfl rfl Try.func99 (zsx4_7) rfl #[.slice Ao24 t306.length co24] rfl (zsx4_8) ?_;(with_reducible refine (spec_slTemplate.calls k _ _ t306 true _ ?side1 ?side2 A8.out).mono ?_);(case side1=>exact zsx4_27);(case side2=>exact (Kd.Q_reads' HO308.out).2.1);rintro e w25 ⟨rfl,hb⟩;refine ⟨_,rfl,?_⟩;have n0_:=aM4 (Kd.R_below (zsx4_13) hb);have n1_:=aM4 (Kd.N_below (zsx4_14) hb);have n2_:=aM4 (Kd.Q_below (by (with_reducible repeat (first|apply Kd.Q_alloc|apply Kd.Q_drewN|apply Kd.Q_drew));exact HO308.out) hb);have n3_:=aM4 (IsS61.below (zsx4_19) hb);have n4_:=aM4 (blk_below (g:=gb291) (o:=.cells #[.int .i64 a1_0,.int .i64 a1_1,.int .i64 a1_2] 84 (0,0)) (zsx4_4) hb);have n5_:=aM4 (blk_below (g:=gb292) (o:=.cells #[.slice none 0 0,.slice none 0 0] 89 (0,0)) (zsx4_9) hb);have n6_:=aM4 (blk_below (g:=gb302) (o:=.cells #[.slice Ao18 t296.length co18,.slice Ao20 t299.length co20] 89 (0,0)) (zsx4_18) hb);have n7_:=aM4 (kT4 (zsx4_20) (kB4 hb g none) (.inl rfl));have n8_:=aM4 (below_step (zsx4_21) hb);clear HO298 HO301 HO308 HI0 BK291 BK292 BK302 HK HB;have HO298:=n0_;have HO301:=n1_;have HO308:=n2_;have HI0:=n3_;have BK291:=n4_;have BK292:=n5_;have BK302:=n6_;have HK:=n7_;have HB:=n8_;clear n0_ n1_ n2_ n3_ n4_ n5_ n6_ n7_ n8_;(try clear hb);(try clear hb2);(try clear hk);(try clear hi);have hnb26:=NB302_291.out;have hnc26:=NB291_302.out;have hnb27:=NB302_292.out;have hnc27:=NB292_302.out;have hnb28:=NB302_0.out;have hnc28:=NB0_302.out;have hcz29_0:w25.cell? ⟨gb302,0,none⟩=some (.slice Ao18 t296.length co18):=(bC4 BK302.out 0).trans rfl;have hcz29_1:w25.cell? ⟨gb302,1,none⟩=some (.slice Ao20 t299.length co20):=(bC4 BK302.out 1).trans rfl;have hfz29_0:=blk_frozen BK302.out 0;have hfz29_1:=blk_frozen BK302.out 1)|((with_reducible refine gate_builtin (b:=.append) (xs:=#[.tmp 20,.tmp 22]) rfl ?_);at_builtin;refine Kd.N_append (Kd.slice 96 k96) w.heap.size rfl (.tmp 20) (.tmp 22) 87 94 (.slice none 0 0) 24 rfl Try.underlying87 info94 rfl (by decide) (by omega) (.slice Ao20 t299.length co20) t299 t306 [.slice Ao24 t306.length co24] (fun k_=>(w.heap.size≤k_)∧some k_≠(.slice Ao18 t296.length co18:Value).ownBlock∧k_≠gb291∧k_≠gb292∧k_≠gb302∧k_≠g) (fun k_=>((fun k_=>(w.heap.size≤k_)∧some k_≠(.slice Ao18 t296.length co18:Value).ownBlock∧k_≠gb291∧k_≠gb292∧k_≠gb302∧k_≠g)) k_∧some k_≠(.slice Ao20 t299.length co20:Value).ownBlock) rfl rfl ?aP (fun _ hk=>hk) ?aF ?aO (Below.refl _ _) ?aS ?aL ?_;(case aP=>exact (Kd.FK_slice_mk (Kd.Q_reads' (Kd.Q_mono (ok':=(fun k_=>((fun k_=>(w.heap.size≤k_)∧some k_≠(.slice Ao18 t296.length co18:Value).ownBlock∧k_≠gb291∧k_≠gb292∧k_≠gb302∧k_≠g)) k_∧some k_≠(.slice Ao20 t299.length co20:Value).ownBlock)) (IsS61.apartQ HI0.out (Kd.Q_types (Kd.Q_types (Kd.Q_types (Kd.Q_apart' (Kd.Q_apart' (HO308.out) (Kd.R_typed HO298.out) (by decide)) (Kd.N_typed HO301.out) (by decide)) BK291.out (by decide)) BK292.out (by decide)) BK302.out (by decide)) (by decide)) (fun k_ hk=>⟨⟨hk.1.1.1.1.1.1.1,⟨hk.1.1.1.1.1.2,⟨hk.1.1.1.2,⟨hk.1.1.2,⟨hk.1.2,hk.2⟩⟩⟩⟩⟩,hk.1.1.1.1.2⟩))).2.1 (Kd.Q_F (Kd.Q_mono (ok':=(fun k_=>((fun k_=>(w.heap.size≤k_)∧some k_≠(.slice Ao18 t296.length co18:Value).ownBlock∧k_≠gb291∧k_≠gb292∧k_≠gb302∧k_≠g)) k_∧some k_≠(.slice Ao20 t299.length co20:Value).ownBlock)) (IsS61.apartQ HI0.out (Kd.Q_types (Kd.Q_types (Kd.Q_types (Kd.Q_apart' (Kd.Q_apart' (HO308.out) (Kd.R_typed HO298.out) (by decide)) (Kd.N_typed HO301.out) (by decide)) BK291.out (by decide)) BK292.out (by decide)) BK302.out (by decide)) (by decide)) (fun k_ hk=>⟨⟨hk.1.1.1.1.1.1.1,⟨hk.1.1.1.1.1.2,⟨hk.1.1.1.2,⟨hk.1.1.2,⟨hk.1.2,hk.2⟩⟩⟩⟩⟩,hk.1.1.1.1.2⟩)))));(case aF=>exact (fun k_ hk=>⟨(Nat.le_trans (keep_size (w:=w) (g:=g) (row:=none) (zsx4_20)) hk),Kd.fresh' (Kd.R_lt (zsx4_13)) k_ hk,Kd.freshB (g:=gb291) (o:=.cells #[.int .i64 a1_0,.int .i64 a1_1,.int .i64 a1_2] 84 (0,0)) (zsx4_4) k_ hk,Kd.freshB (g:=gb292) (o:=.cells #[.slice none 0 0,.slice none 0 0] 89 (0,0)) (zsx4_9) k_ hk,Kd.freshB (g:=gb302) (o:=.cells #[.slice Ao18 t296.length co18,.slice Ao20 t299.length co20] 89 (0,0)) (zsx4_18) k_ hk,IsS61.fresh (zsx4_19) k_ hk⟩));(case aO=>exact (by (with_reducible repeat (first|apply Kd.N_alloc|apply Kd.N_drewN|apply Kd.N_drew));exact Kd.N_mono HO301.out (fun _ hk=>⟨hk.1.1,⟨hk.1.2.1,⟨hk.1.2.2.2.1,⟨hk.1.2.2.2.2.1,⟨hk.1.2.2.2.2.2,hk.1.2.2.1⟩⟩⟩⟩⟩)));(case aS=>exact (keep_size (w:=w) (g:=g) (row:=none) (zsx4_20)));(case aL=>have:=LMc10.out;omega);intro v313 w30 ho hb hg hat;rw [← Ny312.out] at ho;have n0_:=aM4 (IsS61.grown (zsx4_19) hg (IsS61.own_neN HI0.out HO301.out (by decide)));have n1_:=aM4 (blk_grown (g:=gb291) (o:=.cells #[.int .i64 a1_0,.int .i64 a1_1,.int .i64 a1_2] 84 (0,0)) (zsx4_4) hg (Kd.N_ne HO301.out BK291.out (by decide)));have n2_:=aM4 (blk_grown (g:=gb292) (o:=.cells #[.slice none 0 0,.slice none 0 0] 89 (0,0)) (zsx4_9) hg (Kd.N_ne HO301.out BK292.out (by decide)));have n3_:=aM4 (Kd.R_over' (zsx4_13) (Kd.N_typed (zsx4_14)) (by decide) hg);have n4_:=aM4 (blk_grown (g:=gb302) (o:=.cells #[.slice Ao18 t296.length co18,.slice Ao20 t299.length co20] 89 (0,0)) (zsx4_18) hg (Kd.N_ne HO301.out BK302.out (by decide)));have n5_:=aM4 (below_weaken (zsx4_21) HL.out hb);have n6_:=aM4 (kT4 (zsx4_20) (KeepBut.of_grown hg g) (Kd.N_base2 HO301.out));have n7_:=aM4 (ho);clear HI0 BK291 BK292 HO298 BK302 HB HK HO301 HO308;have HI0:=n0_;have BK291:=n1_;have BK292:=n2_;have HO298:=n3_;have BK302:=n4_;have HB:=n5_;have HK:=n6_;have HO314:=n7_;clear n0_ n1_ n2_ n3_ n4_ n5_ n6_ n7_ ho hb hg hat;obtain ⟨Ao31,co31,eo31⟩:=Kd.N_slice HO314.out;subst eo31;have hcz32_0:w30.cell? ⟨gb302,0,none⟩=some (.slice Ao18 t296.length co18):=(bC4 BK302.out 0).trans rfl;have hcz32_1:w30.cell? ⟨gb302,1,none⟩=some (.slice Ao20 t299.length co20):=(bC4 BK302.out 1).trans rfl;have hfz32_0:=blk_frozen BK302.out 0;have hfz32_1:=blk_frozen BK302.out 1))
    go_loopg [28] k (fun kq v28 w'=>∃ (x28_1:Int) (x1001_1:Int) (x1002_1:Int) (x303000_1:List Int) (u303000:Value),v28=.int .i64 x28_1∧Aside0 (spec_l1Cur_slopes.l0 kq (t296.length:Int) x28_1 s0_0 x1001_1 x1002_1 x303000_1 y312=some (r1,r2,r3,r4))∧Aside0 (kq≤k)∧Aside0 (Kd.R (Kd.int .i64) 3 w' w.heap.size (fun k_=>(w.heap.size≤k_)) u303000 x303000_1)∧Aside0 (Kd.N (Kd.slice 96 k96) 94 w' w.heap.size (fun k_=>(w.heap.size≤k_)∧some k_≠(u303000:Value).ownBlock∧k_≠gb291∧k_≠gb292∧k_≠gb302∧k_≠g) (.slice Ao31 y312.length co31) y312)∧Aside0 (w'.heap[gb291]?=some (.cells #[.int .i64 a1_0,.int .i64 a1_1,.int .i64 a1_2] 84 (0,0)))∧Aside0 (w'.heap[gb292]?=some (.cells #[(.slice none 0 0),(.slice none 0 0)] 89 (0,0)))∧Aside0 (w'.heap[gb302]?=some (.cells #[u303000,(.slice Ao31 y312.length co31)] 89 (0,0)))∧Aside0 (IsS61 w0 w' g s0_0 x1001_1 x1002_1)∧Aside0 (KeepBut w w' g none)∧Aside0 (Below w0.heap.size w0 w'))
    case atStart=>exact ⟨(0),(t309),(t310),(t296),(.slice Ao18 t296.length co18),(by first|rfl|(simp;done)|(simp [*];done)),H',⟨Nat.le_refl _⟩,⟨by (with_reducible repeat (first|apply Kd.R_alloc|apply Kd.R_drewN|apply Kd.R_drew));exact Kd.R_mono (Kd.R_far (p:=⟨gb302,1,none⟩) (Kd.R_types HO298.out BK302.out (by decide)) (fun _ hk=>hk.2) (.slice Ao31 y312.length co31)) (fun _ hk=>hk.1)⟩,⟨by (with_reducible repeat (first|apply Kd.N_alloc|apply Kd.N_drewN|apply Kd.N_drew));exact Kd.N_mono (Kd.N_far (p:=⟨gb302,1,none⟩) (Kd.N_mono HO314.out (fun k_ hk=>(⟨hk,hk.2.2.2.2.1⟩:_∧k_≠gb302))) (fun _ hk=>hk.2) (.slice Ao31 y312.length co31)) (fun _ hk=>⟨hk.1.1,⟨hk.1.2.1,⟨hk.1.2.2.1,⟨hk.1.2.2.2.1,⟨hk.1.2.2.2.2.1,hk.1.2.2.2.2.2⟩⟩⟩⟩⟩)⟩,⟨by (with_reducible repeat (first|refine blk_drewN ?_ _|refine blk_drew ?_|refine blk_alloc ?_ _));refine blk_far ?_ NB291_302.out _;(with_reducible repeat (first|refine blk_drewN ?_ _|refine blk_drew ?_|refine blk_alloc ?_ _));exact BK291.out⟩,⟨by (with_reducible repeat (first|refine blk_drewN ?_ _|refine blk_drew ?_|refine blk_alloc ?_ _));refine blk_far ?_ NB292_302.out _;(with_reducible repeat (first|refine blk_drewN ?_ _|refine blk_drew ?_|refine blk_alloc ?_ _));exact BK292.out⟩,⟨by (with_reducible repeat (first|refine blk_drewN ?_ _|refine blk_drew ?_|refine blk_alloc ?_ _));refine blk_put (cs:=#[.slice Ao18 t296.length co18,.slice Ao20 t299.length co20]) ?_ 1 _ rfl;(with_reducible repeat (first|refine blk_drewN ?_ _|refine blk_drew ?_|refine blk_alloc ?_ _));exact BK302.out⟩,⟨zsx4_19⟩,⟨zsx4_20⟩,⟨zsx4_21⟩⟩
    case round =>
     clear H'
     try clear c1
     try clear c2
     try clear p2
     try clear c5
     try clear c6
     try clear p6
     try clear c8
     try clear c9
     try clear c10
     try clear c26
     try clear c27
     try clear c28
     try clear hcz29_0
     try clear hcz29_1
     try clear hcz32_0
     try clear hcz32_1
     try clear hfz29_0
     try clear hfz29_1
     try clear hfz32_0
     try clear hfz32_1
     obtain ⟨x28_1,x1001_1,x1002_1,x303000_1,u303000,rfl,HA,HK1,HO_303000,HO_303001,BK291,BK292,BK302,HI0,HK,HB⟩:=hrel
     cases gk with
     | zero=>exact absurd HA.out (by simp [spec_l1Cur_slopes.l0])
     | succ k1 =>
      have H:=HA.out
      clear HA
      simp only [spec_l1Cur_slopes.l0] at H
      by_cases c33:x28_1 < (t296.length:Int)
      ·rw [if_pos c33] at H
       have c33b0:decide (x28_1 < (t296.length:Int))=true:=decide_eq_true c33
       clear c33
       replace H:=bI4.mp H
       obtain ⟨⟨t315,t316,t317⟩,A340,H⟩:=H
       replace H:(if 0≤x28_1 then (if x28_1 < (x303000_1.length:Int) then (spec_l1Cur_slopes.l0 k1 (t296.length:Int) (wrap64 (x28_1 + 1)) s0_0 t316 t317 (x303000_1.set (x28_1:Int).toNat t315) y312) else (none)) else (none))=some (r1,r2,r3,r4):=H
       have A34:=aM4 A340
       clear A340
       by_cases c35:0≤x28_1
       ·rw [if_pos c35] at H
        have c35b0:decide (0≤x28_1)=true:=decide_eq_true c35
        clear c35
        by_cases c36:x28_1 < (x303000_1.length:Int)
        ·rw [if_pos c36] at H
         have c36b0:decide (x28_1 < (x303000_1.length:Int))=true:=decide_eq_true c36
         clear c36
         obtain ⟨y318,hy318⟩:∃ y_:List Int,y_=(x303000_1.set (x28_1:Int).toNat t315):=⟨_,rfl⟩
         replace H:(spec_l1Cur_slopes.l0 k1 (t296.length:Int) (wrap64 (x28_1 + 1)) s0_0 t316 t317 y318 y312)=some (r1,r2,r3,r4):=by first|(rw [hy318];with_reducible exact H)|(have H2_:=(Option.bind_some _ _).symm.trans H;rw [hy318];with_reducible exact H2_)|(have H2_:=(Option.bind_some _ _).symm.trans H;with_reducible exact H2_)|with_reducible exact H|(rw [hy318];exact H)|exact H
         have Ny318:=aM4 hy318
         clear hy318
         have H':=aM4 H
         clear H
         try go_wp2
         have n0_:=aM4 (Kd.R_drew HO_303000.out)
         have n1_:=aM4 (Kd.N_drew HO_303001.out)
         have n2_:=aM4 (blk_drew BK291.out)
         have n3_:=aM4 (blk_drew BK292.out)
         have n4_:=aM4 (blk_drew BK302.out)
         have n5_:=aM4 (IsS61.drew HI0.out)
         have n6_:=aM4 (keep_drew HK.out)
         have n7_:=aM4 (below_drew1 HB.out)
         clear HO_303000 HO_303001 BK291 BK292 BK302 HI0 HK HB
         have HO_303000:=n0_
         have HO_303001:=n1_
         have BK291:=n2_
         have BK292:=n3_
         have BK302:=n4_
         have HI0:=n5_
         have HK:=n6_
         have HB:=n7_
         clear n0_ n1_ n2_ n3_ n4_ n5_ n6_ n7_
         refine start_ (n:=7) (S:=fun w'=>w'.cell? ⟨gb302,0,none⟩=some (u303000)∧w'.cell? ⟨gb302,1,none⟩=some (.slice Ao31 y312.length co31)) (ds:=[6]) #[false,false,false,false,false,false,false] (zsx4_7) rfl rfl ⟨(bC4 BK302.out 0).trans rfl,(bC4 BK302.out 1).trans rfl⟩ (fun hHeld=>?_)
         generalize wr.drew=w38 at HO_303000 HO_303001 BK291 BK292 BK302 HI0 HK HB hHeld ⊢
         refine pure_ (i:=0) (N:=some 31) (v:=?_) (a':=?_) #[true,false,false,false,false,false,false] rfl rfl (zsx4_7) (fun _ _ _ h=>h) (Or.inl ⟨by rfl,?_⟩) ?_ ?_
         rotate_left
         ·intro w'
          go_simp
          with_reducible rfl
         rotate_left
         ·simp only [Act.put,uA4,uB4,uC4,i64_w,i32_w]
          rfl
         refine pure_ (i:=2) (N:=some 33) (v:=?_) (a':=?_) #[true,false,true,false,false,false,false] rfl rfl (zsx4_7) (fun _ _ _ h=>h) (Or.inl ⟨by rfl,?_⟩) ?_ ?_
         rotate_left
         ·intro w'
          go_simp
          with_reducible rfl
         rotate_left
         ·simp only [Act.put,uA4,uB4,uC4,i64_w,i32_w]
          rfl
         refine pure_ (i:=3) (N:=some 34) (v:=?_) (a':=?_) #[true,false,true,true,false,false,false] rfl rfl (zsx4_7) (fun _ _ _ h=>h) (Or.inl ⟨by rfl,?_⟩) ?_ ?_
         rotate_left
         ·intro w'
          go_simp
          with_reducible rfl
         rotate_left
         ·simp only [Act.put,uA4,uB4,uC4,i64_w,i32_w]
          rfl
         refine take_ (i:=1) (N:=some 32) (v:=?_) (a':=?_) #[true,true,true,true,false,false,false] rfl rfl (zsx4_7) (fun _ _ _ h=>h) (Or.inl ⟨by rfl,?_⟩) hHeld ?_ ?_
         rotate_left
         ·rintro w' ⟨s0,s1⟩
          go_simp
          with_reducible rfl
         rotate_left
         ·simp only [Act.put,uA4,uB4,uC4,i64_w,i32_w]
          rfl
         refine one_ (i:=4) (N:=some 35) #[true,true,true,true,true,false,false] rfl rfl (zsx4_7) (by decide) (fun K hK=>?_)
         refine goes_ Try.func53 (zsx4_7) rfl #[.pointer (some ⟨g,0,none⟩),.int .i64 2] (by rfl) rfl rfl (zsx4_8) ?_
         with_reducible refine (spec_l1Cur_pick.calls g s0_0 x1001_1 x1002_1 2 t315 t316 t317 w0 _ ?side1 ?side2 A34.out).mono ?_
         (case side1=>exact zsx4_19)
         (case side2=>exact zsx4_21)
         rintro e w39 ⟨rfl,hi,hb,hk⟩
         refine ⟨_,rfl,?_⟩
         have n0_:=aM4 (Kd.R_mono (Kd.R_keep (IsS61.apart (show IsS61 w0 _ g s0_0 x1001_1 x1002_1 from zsx4_19) (by (with_reducible repeat (first|apply Kd.R_alloc|apply Kd.R_drewN|apply Kd.R_drew));exact HO_303000.out) (by decide)) hk (fun _ h=>h.2)) (fun _ h=>h.1))
         have n1_:=aM4 (Kd.N_mono (Kd.N_keep (Kd.N_mono (ok:=fun k_=>(((w.heap.size≤k_))∧(some k_≠(u303000:Value).ownBlock∧(k_≠gb291∧(k_≠gb292∧(k_≠gb302∧k_≠g)))))) (by (with_reducible repeat (first|apply Kd.N_alloc|apply Kd.N_drewN|apply Kd.N_drew));exact HO_303001.out) (fun k_ hk_=>(⟨hk_,hk_.2.2.2.2.2⟩:_∧k_≠g))) hk (fun _ h=>h.2)) (fun _ h=>h.1))
         have n2_:=aM4 (KeepBut.blk hk (g':=gb291) (o:=.cells #[.int .i64 a1_0,.int .i64 a1_1,.int .i64 a1_2] 84 (0,0)) (zsx4_4) NB291_0.out (by simp))
         have n3_:=aM4 (KeepBut.blk hk (g':=gb292) (o:=.cells #[.slice none 0 0,.slice none 0 0] 89 (0,0)) (zsx4_9) NB292_0.out (by simp))
         have n4_:=aM4 (KeepBut.blk hk (g':=gb302) (o:=.cells #[u303000,.slice Ao31 y312.length co31] 89 (0,0)) (zsx4_18) NB302_0.out (by simp))
         have n5_:=aM4 (kT4 (zsx4_20) hk (.inl rfl))
         have n6_:=aM4 (hb)
         have n7_:=aM4 (hi)
         clear HO_303000 HO_303001 BK291 BK292 BK302 HK HB HI0
         have HO_303000:=n0_
         have HO_303001:=n1_
         have BK291:=n2_
         have BK292:=n3_
         have BK302:=n4_
         have HK:=n5_
         have HB:=n6_
         have HI0:=n7_
         clear n0_ n1_ n2_ n3_ n4_ n5_ n6_ n7_
         (try clear hb)
         (try clear hb2)
         (try clear hk)
         (try clear hi)
         have p37:0≤(x28_1:Int):=of_decide_eq_true (by first|(with_reducible assumption)|assumption)
         have q37:(x28_1:Int) < ((x303000_1.length:Int):Int):=of_decide_eq_true (by first|(with_reducible assumption)|assumption)
         obtain ⟨go37,co37,eo37,gb37,gl37,cl37,HG37⟩:=Kd.R_form HO_303000.out (by omega)
         (first|cases eo37|(injection eo37 with ea_ en_ ec_;(first|subst ea_|(injection ea_ with ea_;subst ea_));subst ec_;clear en_))
         have GB37:=aM4 gb37
         have GG37:=aM4 HG37
         clear gb37 gl37 HG37
         obtain ⟨hx37_0,hf37_0⟩:=Kd.R_celln 0 HO_303000.out (x28_1:Int) p37 q37
         replace p37:=eq_true p37
         replace q37:=eq_true q37
         have HN0_go37:=aM4 (show g≠go37 from by have h_:=IsS61.own_ne HI0.out HO_303000.out (by decide);intro e_;exact h_ (by rw [e_];rfl))
         have HP40:=Kd.R_putn HO_303000.out (x28_1:Int) t315
         rw [← Ny318.out] at HP40
         have HQ40:=aM4 HP40
         clear HP40
         refine hK.out _ _ ⟨(bC4 BK302.out 0).trans rfl,(bC4 BK302.out 1).trans rfl⟩ (fun hHeld=>?_)
         clear hK K
         refine norm_ (a':=?_) ?_ ?_
         rotate_left
         ·show Act.put _ (some 35) _=_
          simp only [Act.put,uA4,uB4,uC4,i64_w,i32_w]
          rfl
         refine pure_ (i:=5) (N:=some 36) (v:=?_) (a':=?_) #[true,true,true,true,true,true,false] rfl rfl (zsx4_7) (fun _ _ _ h=>h) (Or.inl ⟨by rfl,?_⟩) ?_ ?_
         rotate_left
         ·intro w'
          go_simp
          with_reducible rfl
         rotate_left
         ·simp only [Act.put,uA4,uB4,uC4,i64_w,i32_w]
          rfl
         refine last_ (i:=6) (N:=none) #[true,true,true,true,true,true,true] rfl rfl (zsx4_7) (by decide) (fun K hK=>?_)
         refine skip_ (w1:=?_) (by rfl) rfl ?_ ?_
         rotate_left
         ·go_simp
          rfl
         refine hK.out _ _ ?_
         clear hK K
         refine done_ (zsx4_7) ?_
         try go_wp2
         go_roundg k1
         case measure=>have:=HK1.out;omega
         case rel=>exact ⟨(wrap64 (x28_1 + 1)),(t316),(t317),(y318),(.slice (some ⟨go37,0,none⟩) x303000_1.length co37),(by first|rfl|(simp;done)|(simp [*];done)),H',⟨by have:=HK1.out;omega⟩,⟨by (with_reducible repeat (first|apply Kd.R_alloc|apply Kd.R_drewN|apply Kd.R_drew));exact HQ40.out⟩,⟨by (with_reducible repeat (first|apply Kd.N_alloc|apply Kd.N_drewN|apply Kd.N_drew));exact Kd.N_mono (Kd.N_far (p:=⟨go37,(x28_1:Int).toNat,none⟩) (Kd.N_mono HO_303001.out (fun k_ hk=>(⟨hk,fun e_=>hk.2.1 (by rw [e_];rfl)⟩:_∧k_≠go37))) (fun _ hk=>hk.2) (.int .i64 t315)) (fun _ hk=>⟨hk.1.1,⟨hk.1.2.1,⟨hk.1.2.2.1,⟨hk.1.2.2.2.1,⟨hk.1.2.2.2.2.1,hk.1.2.2.2.2.2⟩⟩⟩⟩⟩)⟩,⟨by (with_reducible repeat (first|refine blk_drewN ?_ _|refine blk_drew ?_|refine blk_alloc ?_ _));refine blk_far ?_ (by have h_:=Kd.R_ne HO_303000.out BK291.out (by decide);intro e_;exact h_ (by rw [e_];rfl)) _;(with_reducible repeat (first|refine blk_drewN ?_ _|refine blk_drew ?_|refine blk_alloc ?_ _));exact BK291.out⟩,⟨by (with_reducible repeat (first|refine blk_drewN ?_ _|refine blk_drew ?_|refine blk_alloc ?_ _));refine blk_far ?_ (by have h_:=Kd.R_ne HO_303000.out BK292.out (by decide);intro e_;exact h_ (by rw [e_];rfl)) _;(with_reducible repeat (first|refine blk_drewN ?_ _|refine blk_drew ?_|refine blk_alloc ?_ _));exact BK292.out⟩,⟨by (with_reducible repeat (first|refine blk_drewN ?_ _|refine blk_drew ?_|refine blk_alloc ?_ _));refine blk_far ?_ (by have h_:=Kd.R_ne HO_303000.out BK302.out (by decide);intro e_;exact h_ (by rw [e_];rfl)) _;(with_reducible repeat (first|refine blk_drewN ?_ _|refine blk_drew ?_|refine blk_alloc ?_ _));exact BK302.out⟩,⟨by repeat (first|(with_reducible first|exact HI0.out|apply IsS61.alloc|apply IsS61.drewN|apply IsS61.drew|apply IsS61.set_1|apply IsS61.set_2|refine IsS61.far ?_ HN0_go37.out _|refine IsS61.far ?_ NB0_291.out _|refine IsS61.far ?_ NB0_292.out _|refine IsS61.far ?_ NB0_302.out _)|exact HI0.out)⟩,⟨by repeat (first|(with_reducible first|exact HK.out|apply KeepBut.set_|apply keep_drewN|apply keep_drew|apply keep_alloc|refine keep_far ?_ GB37.out _|refine keep_far ?_ GW291.out _|refine keep_far ?_ GW292.out _|refine keep_far ?_ GW302.out _)|exact HK.out)⟩,⟨by repeat (first|(with_reducible first|exact HB.out|apply below_alloc|apply pw_below_drewN|apply below_drew1|refine below_set ?_ (Nat.le_trans HL.out GB37.out)|refine below_set ?_ (IsS61.ge HI0.out)|refine below_set ?_ GE291.out|refine below_set ?_ GE292.out|refine below_set ?_ GE302.out)|exact HB.out)⟩⟩
        ·rw [if_neg c36] at H
         exact absurd H (by simp)
       ·rw [if_neg c35] at H
        exact absurd H (by simp)
      ·rw [if_neg c33] at H
       have c33b0:decide (x28_1 < (t296.length:Int))=false:=decide_eq_false c33
       clear c33
       simp only [Option.some.injEq,Prod.mk.injEq] at H
       obtain ⟨rfl,rfl,rfl,rfl⟩:=H
       have hnb41:=NB302_291.out
       have hnc41:=NB291_302.out
       have hnb42:=NB302_292.out
       have hnc42:=NB292_302.out
       have hnb43:=NB302_0.out
       have hnc43:=NB0_302.out
       have hcz44_0:wr.cell? ⟨gb302,0,none⟩=some (u303000):=(bC4 BK302.out 0).trans rfl
       have hcz44_1:wr.cell? ⟨gb302,1,none⟩=some (.slice Ao31 y312.length co31):=(bC4 BK302.out 1).trans rfl
       have hfz44_0:=blk_frozen BK302.out 0
       have hfz44_1:=blk_frozen BK302.out 1
       obtain ⟨Ao45,co45,eo45⟩:=Kd.R_slice HO_303000.out
       subst eo45
       have hnb46:=NB292_291.out
       have hnc46:=NB291_292.out
       have hnb47:=NB292_0.out
       have hnc47:=NB0_292.out
       have hcz48_0:wr.cell? ⟨gb292,0,none⟩=some (.slice none 0 0):=(bC4 BK292.out 0).trans rfl
       have hcz48_1:wr.cell? ⟨gb292,1,none⟩=some (.slice none 0 0):=(bC4 BK292.out 1).trans rfl
       have hfz48_0:=blk_frozen BK292.out 0
       have hfz48_1:=blk_frozen BK292.out 1
       go_wp2
       refine bodyPost_ret (results_cell_row rfl _ _ gb292 89 #[.slice Ao45 x303000_1.length co45,.slice Ao31 y312.length co31] (0,0) _ rfl (by (with_reducible repeat (first|refine blk_drewN ?_ _|refine blk_drew ?_|refine blk_alloc ?_ _));refine blk_put (cs:=#[.slice Ao45 x303000_1.length co45,.slice none 0 0]) ?_ 1 _ rfl;(with_reducible repeat (first|refine blk_drewN ?_ _|refine blk_drew ?_|refine blk_alloc ?_ _));refine blk_put (cs:=#[.slice none 0 0,.slice none 0 0]) ?_ 0 _ rfl;(with_reducible repeat (first|refine blk_drewN ?_ _|refine blk_drew ?_|refine blk_alloc ?_ _));exact BK292.out) Try.underlying89 rfl (zsx4_7)) rfl ?_
       exact ⟨_,_,zsx4_25,by (with_reducible repeat (first|apply Kd.R_alloc|apply Kd.R_drewN|apply Kd.R_drew));exact Kd.R_mono (Kd.R_far (p:=⟨gb292,1,none⟩) (Kd.R_far (p:=⟨gb292,0,none⟩) (Kd.R_types HO_303000.out BK292.out (by decide)) (fun _ hk=>hk.2) (.slice Ao45 x303000_1.length co45)) (fun _ hk=>hk.2) (.slice Ao31 y312.length co31)) (fun _ hk=>hk.1),by (with_reducible repeat (first|apply Kd.N_alloc|apply Kd.N_drewN|apply Kd.N_drew));exact Kd.N_mono (Kd.N_far (p:=⟨gb292,1,none⟩) (Kd.N_far (p:=⟨gb292,0,none⟩) (Kd.N_mono HO_303001.out (fun k_ hk=>(⟨hk,hk.2.2.2.1⟩:_∧k_≠gb292))) (fun _ hk=>hk.2) (.slice Ao45 x303000_1.length co45)) (fun _ hk=>hk.2) (.slice Ao31 y312.length co31)) (fun _ hk=>⟨hk.1.1,hk.1.2.1⟩),zsx4_19,zsx4_21,zsx4_20⟩
   ·rw [if_neg c10] at H
    exact absurd H (by simp)
  ·replace c9:=Bool.eq_false_iff.mpr c9
   subst c9
   have H1:(some (t296,t299,t309,t310))=some (r1,r2,r3,r4):=by rw [if_neg (show ¬ (false=true) by decide)] at H;exact H
   clear H
   have H:=H1
   clear H1
   simp only [Option.some.injEq,Prod.mk.injEq] at H
   obtain ⟨rfl,rfl,rfl,rfl⟩:=H
   go_enter Try.func91,Try.ntmps91
   try go_wp2_with (first|((with_reducible refine gate_dst (N:=3) rfl ?_);refine box_event ?hg (N:=3) ?hd (cs:=#[.int .i64 a1_0,.int .i64 a1_1,.int .i64 a1_2]) (t:=84) ?hr ?_;(case hd=>rfl);(case hg=>rfl);(case hr=>exact zsx4_26);intro gb291 hg w49 hbox hb;have n0_:=aM4 (IsS61.below (zsx4_0) hb);have n1_:=aM4 (kT4 (zsx4_1) (kB4 hb g none) (.inl rfl));have n2_:=aM4 (below_step (zsx4_2) hb);have n3_:=aM4 (hbox);have n4_:=aM4 ((zsx4_28:w.heap.size≤gb291));have n5_:=aM4 ((Nat.le_trans HW0.out (zsx4_28:w.heap.size≤gb291):w0.heap.size≤gb291));have n6_:=aM4 ((zsx4_29:g≠gb291));have n7_:=aM4 ((zsx4_30:gb291≠g));clear HI0 HK HB;have HI0:=n0_;have HK:=n1_;have HB:=n2_;have BK291:=n3_;have GW291:=n4_;have GE291:=n5_;have NB0_291:=n6_;have NB291_0:=n7_;clear n0_ n1_ n2_ n3_ n4_ n5_ n6_ n7_ hb hbox hg)|((with_reducible refine gate_dst (N:=4) rfl ?_);refine box_event ?hg (N:=4) ?hd (cs:=#[.slice none 0 0,.slice none 0 0]) (t:=89) ?hr ?_;(case hd=>rfl);(case hg=>rfl);(case hr=>exact zsx4_26);intro gb292 hg w50 hbox hb;have n0_:=aM4 (IsS61.below (zsx4_3) hb);have n1_:=aM4 (blk_below (g:=gb291) (o:=.cells #[.int .i64 a1_0,.int .i64 a1_1,.int .i64 a1_2] 84 (0,0)) (zsx4_4) hb);have n2_:=aM4 (kT4 (zsx4_5) (kB4 hb g none) (.inl rfl));have n3_:=aM4 (below_step (zsx4_6) hb);have n4_:=aM4 (hbox);have n5_:=aM4 ((zsx4_31:w.heap.size≤gb292));have n6_:=aM4 ((Nat.le_trans HW0.out (zsx4_31:w.heap.size≤gb292):w0.heap.size≤gb292));have n7_:=aM4 ((zsx4_32:gb291≠gb292));have n8_:=aM4 ((zsx4_33:gb292≠gb291));have n9_:=aM4 ((zsx4_34:g≠gb292));have n10_:=aM4 ((zsx4_35:gb292≠g));clear HI0 BK291 HK HB;have HI0:=n0_;have BK291:=n1_;have HK:=n2_;have HB:=n3_;have BK292:=n4_;have GW292:=n5_;have GE292:=n6_;have NB291_292:=n7_;have NB292_291:=n8_;have NB0_292:=n9_;have NB292_0:=n10_;clear n0_ n1_ n2_ n3_ n4_ n5_ n6_ n7_ n8_ n9_ n10_ hb hbox hg))
   have n0_:=aM4 (blk_drew BK291.out)
   have n1_:=aM4 (blk_drew BK292.out)
   have n2_:=aM4 (IsS61.drew HI0.out)
   have n3_:=aM4 (keep_drew HK.out)
   have n4_:=aM4 (below_drew1 HB.out)
   clear BK291 BK292 HI0 HK HB
   have BK291:=n0_
   have BK292:=n1_
   have HI0:=n2_
   have HK:=n3_
   have HB:=n4_
   clear n0_ n1_ n2_ n3_ n4_
   refine start_ (n:=7) (S:=fun w'=>w'.cell? ⟨gb291,0,none⟩=some (.int .i64 a1_0)∧w'.cell? ⟨gb291,1,none⟩=some (.int .i64 a1_1)∧w'.cell? ⟨gb291,2,none⟩=some (.int .i64 a1_2)) (ds:=[]) #[false,false,false,false,false,false,false] (zsx4_7) rfl rfl ⟨(bC4 BK291.out 0).trans rfl,(bC4 BK291.out 1).trans rfl,(bC4 BK291.out 2).trans rfl⟩ (fun hHeld=>?_)
   generalize w50.drew=w51 at BK291 BK292 HI0 HK HB hHeld ⊢
   refine pure_ (i:=1) (N:=some 9) (v:=?_) (a':=?_) #[false,true,false,false,false,false,false] rfl rfl (zsx4_7) (fun _ _ _ h=>h) (Or.inl ⟨by rfl,?_⟩) ?_ ?_
   rotate_left
   ·intro w'
    go_simp
    with_reducible rfl
   rotate_left
   ·simp only [Act.put,uA4,uB4,uC4,i64_w,i32_w]
    rfl
   refine take_ (i:=0) (N:=some 8) (v:=?_) (a':=?_) #[true,true,false,false,false,false,false] rfl rfl (zsx4_7) (fun _ _ _ h=>h) (Or.inl ⟨by rfl,?_⟩) hHeld ?_ ?_
   rotate_left
   ·rintro w' ⟨s0,s1,s2⟩
    go_simp
    with_reducible rfl
   rotate_left
   ·simp only [Act.put,uA4,uB4,uC4,i64_w,i32_w]
    rfl
   refine join_ (σ:=Value × Value × Nat) 1 #[true,true,true,true,true,true,false] (fun s_=>[(10,.int .i64 t293),(12,.agg #[s_.1,s_.2.1]),(5,.pointer (some ⟨s_.2.2,0,none⟩)),(11,.int .i64 (wrap64 (1 + t293)))]) (fun s_ w'=>(w'.cell? ⟨gb291,0,none⟩=some (.int .i64 a1_0)∧w'.cell? ⟨gb291,1,none⟩=some (.int .i64 a1_1)∧w'.cell? ⟨gb291,2,none⟩=some (.int .i64 a1_2))∧(Kd.R (Kd.int .i64) 3 w' w.heap.size (fun k_=>(w.heap.size≤k_)) s_.1 t296)∧(Kd.N (Kd.slice 96 k96) 94 w' w.heap.size (fun k_=>(w.heap.size≤k_)∧some k_≠(s_.1:Value).ownBlock∧k_≠g∧k_≠gb291∧k_≠gb292∧k_≠s_.2.2) s_.2.1 t299)∧(w'.heap[gb291]?=some (.cells #[.int .i64 a1_0,.int .i64 a1_1,.int .i64 a1_2] 84 (0,0)))∧(w'.heap[gb292]?=some (.cells #[.slice none 0 0,.slice none 0 0] 89 (0,0)))∧(w'.heap[s_.2.2]?=some (.cells #[.slice none 0 0,.slice none 0 0] 89 (0,0)))∧(w.heap.size≤s_.2.2)∧(w0.heap.size≤s_.2.2)∧(g≠s_.2.2)∧(s_.2.2≠g)∧(gb291≠s_.2.2)∧(s_.2.2≠gb291)∧(gb292≠s_.2.2)∧(s_.2.2≠gb292)∧(IsS61 w0 w' g s0_0 t294 t295)∧(KeepBut w w' g none)∧(Below w0.heap.size w0 w')) ?_ ?_
   rotate_left
   ·intro hCont
    refine two_ (i:=2) (j:=5) (Ni:=some 10) (Nj:=some 5) #[true,true,true,false,false,false,false] #[true,true,false,false,false,true,false] rfl rfl rfl rfl (zsx4_7) (by decide) (by decide) (fun K hK=>?_) (fun K hK=>?_)
    ·skip
     refine goes_ Try.func53 (zsx4_7) rfl #[.pointer (some ⟨g,0,none⟩),.int .i64 4] (by rfl) rfl rfl (zsx4_8) ?_
     with_reducible refine (spec_l1Cur_pick.calls g s0_0 s0_1 s0_2 4 t293 t294 t295 w0 _ ?side1 ?side2 A3.out).mono ?_
     (case side1=>exact zsx4_11)
     (case side2=>exact zsx4_12)
     rintro e w52 ⟨rfl,hi,hb,hk⟩
     refine ⟨_,rfl,?_⟩
     have n0_:=aM4 (KeepBut.blk hk (g':=gb291) (o:=.cells #[.int .i64 a1_0,.int .i64 a1_1,.int .i64 a1_2] 84 (0,0)) (zsx4_4) NB291_0.out (by simp))
     have n1_:=aM4 (KeepBut.blk hk (g':=gb292) (o:=.cells #[.slice none 0 0,.slice none 0 0] 89 (0,0)) (zsx4_9) NB292_0.out (by simp))
     have n2_:=aM4 (kT4 (zsx4_10) hk (.inl rfl))
     have n3_:=aM4 (hb)
     have n4_:=aM4 (hi)
     clear BK291 BK292 HK HB HI0
     have BK291:=n0_
     have BK292:=n1_
     have HK:=n2_
     have HB:=n3_
     have HI0:=n4_
     clear n0_ n1_ n2_ n3_ n4_
     (try clear hb)
     (try clear hb2)
     (try clear hk)
     (try clear hi)
     refine hK.out _ _ ⟨(bC4 BK291.out 0).trans rfl,(bC4 BK291.out 1).trans rfl,(bC4 BK291.out 2).trans rfl⟩ (fun hHeld=>?_)
     clear hK K
     refine norm_ (a':=?_) ?_ ?_
     rotate_left
     ·show Act.put _ (some 10) _=_
      simp only [Act.put,uA4,uB4,uC4,i64_w,i32_w]
      rfl
     refine pure_ (i:=3) (N:=some 11) (v:=?_) (a':=?_) #[true,true,true,true,false,false,false] rfl rfl (zsx4_7) (fun _ _ _ h=>h) (Or.inl ⟨by rfl,?_⟩) ?_ ?_
     rotate_left
     ·intro w'
      go_simp
      with_reducible rfl
     rotate_left
     ·simp only [Act.put,uA4,uB4,uC4,i64_w,i32_w]
      rfl
     refine two_ (i:=4) (j:=5) (Ni:=some 12) (Nj:=some 5) #[true,true,true,true,true,false,false] #[true,true,true,true,false,true,false] rfl rfl rfl rfl (zsx4_7) (by decide) (by decide) (fun K hK=>?_) (fun K hK=>?_)
     ·skip
      refine goes_ Try.func97 (zsx4_7) rfl #[.agg #[.int .i64 a1_0,.int .i64 a1_1,.int .i64 a1_2],.int .i64 (wrap64 (1 + t293))] (by rfl) rfl rfl (zsx4_8) ?_
      with_reducible refine (spec_slUniform.calls k a1_0 a1_1 a1_2 (wrap64 (1 + t293)) t296 t299 _ A4.out).mono ?_
      rintro e w53 ⟨v297,v300,rfl,ho0,ho1,hb⟩
      refine ⟨_,rfl,?_⟩
      have n0_:=aM4 (Kd.R_lower (Kd.R_newM (M:=fun k_=>(w.heap.size≤k_)) (Kd.R_mono (ok':=fun k_=>True) ho0 (fun _ hk_=>trivial)) (keep_size (w:=w) (g:=g) (row:=none) (zsx4_10)) (fun k_ h_=>h_)) (keep_size (w:=w) (g:=g) (row:=none) (zsx4_10)))
      have n1_:=aM4 (Kd.N_lower (Kd.N_mono (ok':=fun k_=>(w.heap.size≤k_)∧some k_≠(v297:Value).ownBlock∧k_≠gb291∧k_≠gb292∧k_≠g) ho1 (fun k_ hk_=>⟨(Nat.le_trans (keep_size (w:=w) (g:=g) (row:=none) (zsx4_10)) hk_.1),hk_.2,(Kd.freshB (g:=gb291) (o:=.cells #[.int .i64 a1_0,.int .i64 a1_1,.int .i64 a1_2] 84 (0,0)) (zsx4_4) k_ hk_.1),(Kd.freshB (g:=gb292) (o:=.cells #[.slice none 0 0,.slice none 0 0] 89 (0,0)) (zsx4_9) k_ hk_.1),(IsS61.fresh (zsx4_11) k_ hk_.1)⟩)) (keep_size (w:=w) (g:=g) (row:=none) (zsx4_10)))
      have n2_:=aM4 (IsS61.below (zsx4_11) hb)
      have n3_:=aM4 (blk_below (g:=gb291) (o:=.cells #[.int .i64 a1_0,.int .i64 a1_1,.int .i64 a1_2] 84 (0,0)) (zsx4_4) hb)
      have n4_:=aM4 (blk_below (g:=gb292) (o:=.cells #[.slice none 0 0,.slice none 0 0] 89 (0,0)) (zsx4_9) hb)
      have n5_:=aM4 (kT4 (zsx4_10) (kB4 hb g none) (.inl rfl))
      have n6_:=aM4 (below_step (zsx4_12) hb)
      clear HI0 BK291 BK292 HK HB
      have HO298:=n0_
      have HO301:=n1_
      have HI0:=n2_
      have BK291:=n3_
      have BK292:=n4_
      have HK:=n5_
      have HB:=n6_
      clear n0_ n1_ n2_ n3_ n4_ n5_ n6_
      (try clear hb)
      (try clear hb2)
      (try clear hk)
      (try clear hi)
      (try clear ho0)
      (try clear ho1)
      refine hK.out _ _ ⟨(bC4 BK291.out 0).trans rfl,(bC4 BK291.out 1).trans rfl,(bC4 BK291.out 2).trans rfl⟩ (fun hHeld=>?_)
      clear hK K
      refine norm_ (a':=?_) ?_ ?_
      rotate_left
      ·show Act.put _ (some 12) _=_
       simp only [Act.put,uA4,uB4,uC4,i64_w,i32_w]
       rfl
      refine one_ (i:=5) (N:=some 5) #[true,true,true,true,true,true,false] rfl rfl (zsx4_7) (by decide) (fun K hK=>?_)
      refine box_step ?hg (N:=5) ?hd (cs:=#[.slice none 0 0,.slice none 0 0]) (t:=89) ?hr ?_;(case hd=>rfl);(case hg=>rfl);(case hr=>exact zsx4_26)
      intro gb302 hg w54 hbox hb
      have n0_:=aM4 (Kd.R_below (zsx4_13) hb)
      have n1_:=aM4 (Kd.N_below (Kd.N_elderB (zsx4_14) gb302 (Nat.le_of_eq hg.symm)) hb)
      have n2_:=aM4 (IsS61.below (zsx4_11) hb)
      have n3_:=aM4 (blk_below (g:=gb291) (o:=.cells #[.int .i64 a1_0,.int .i64 a1_1,.int .i64 a1_2] 84 (0,0)) (zsx4_4) hb)
      have n4_:=aM4 (blk_below (g:=gb292) (o:=.cells #[.slice none 0 0,.slice none 0 0] 89 (0,0)) (zsx4_9) hb)
      have n5_:=aM4 (kT4 (zsx4_10) (kB4 hb g none) (.inl rfl))
      have n6_:=aM4 (below_step (zsx4_12) hb)
      have n7_:=aM4 (hbox)
      have n8_:=aM4 ((zsx4_36:w.heap.size≤gb302))
      have n9_:=aM4 ((Nat.le_trans HW0.out (zsx4_36:w.heap.size≤gb302):w0.heap.size≤gb302))
      have n10_:=aM4 ((zsx4_32:gb291≠gb302))
      have n11_:=aM4 ((zsx4_33:gb302≠gb291))
      have n12_:=aM4 ((zsx4_37:gb292≠gb302))
      have n13_:=aM4 ((zsx4_38:gb302≠gb292))
      have n14_:=aM4 ((zsx4_39:g≠gb302))
      have n15_:=aM4 ((zsx4_40:gb302≠g))
      clear HO298 HO301 HI0 BK291 BK292 HK HB
      have HO298:=n0_
      have HO301:=n1_
      have HI0:=n2_
      have BK291:=n3_
      have BK292:=n4_
      have HK:=n5_
      have HB:=n6_
      have BK302:=n7_
      have GW302:=n8_
      have GE302:=n9_
      have NB291_302:=n10_
      have NB302_291:=n11_
      have NB292_302:=n12_
      have NB302_292:=n13_
      have NB0_302:=n14_
      have NB302_0:=n15_
      clear n0_ n1_ n2_ n3_ n4_ n5_ n6_ n7_ n8_ n9_ n10_ n11_ n12_ n13_ n14_ n15_ hb hbox hg
      refine hK.out _ _ ⟨(bC4 BK291.out 0).trans rfl,(bC4 BK291.out 1).trans rfl,(bC4 BK291.out 2).trans rfl⟩ (fun hHeld=>?_)
      clear hK K
      refine norm_ (a':=?_) ?_ ?_
      rotate_left
      ·show Act.put _ (some 5) _=_
       simp only [Act.put,uA4,uB4,uC4,i64_w,i32_w]
       rfl
      exact norm_ (zsx4_15) (hCont (v297,v300,gb302) _ ⟨hHeld,(zsx4_16),(zsx4_17),(zsx4_4),(zsx4_9),(zsx4_18),GW302.out,GE302.out,NB0_302.out,NB302_0.out,NB291_302.out,NB302_291.out,NB292_302.out,NB302_292.out,(zsx4_19),(zsx4_20),(zsx4_21)⟩)
     ·skip
      refine box_step ?hg (N:=5) ?hd (cs:=#[.slice none 0 0,.slice none 0 0]) (t:=89) ?hr ?_;(case hd=>rfl);(case hg=>rfl);(case hr=>exact zsx4_26)
      intro gb302 hg w53 hbox hb
      have n0_:=aM4 (IsS61.below (zsx4_11) hb)
      have n1_:=aM4 (blk_below (g:=gb291) (o:=.cells #[.int .i64 a1_0,.int .i64 a1_1,.int .i64 a1_2] 84 (0,0)) (zsx4_4) hb)
      have n2_:=aM4 (blk_below (g:=gb292) (o:=.cells #[.slice none 0 0,.slice none 0 0] 89 (0,0)) (zsx4_9) hb)
      have n3_:=aM4 (kT4 (zsx4_10) (kB4 hb g none) (.inl rfl))
      have n4_:=aM4 (below_step (zsx4_12) hb)
      have n5_:=aM4 (hbox)
      have n6_:=aM4 ((zsx4_36:w.heap.size≤gb302))
      have n7_:=aM4 ((Nat.le_trans HW0.out (zsx4_36:w.heap.size≤gb302):w0.heap.size≤gb302))
      have n8_:=aM4 ((zsx4_32:gb291≠gb302))
      have n9_:=aM4 ((zsx4_33:gb302≠gb291))
      have n10_:=aM4 ((zsx4_37:gb292≠gb302))
      have n11_:=aM4 ((zsx4_38:gb302≠gb292))
      have n12_:=aM4 ((zsx4_39:g≠gb302))
      have n13_:=aM4 ((zsx4_40:gb302≠g))
      clear HI0 BK291 BK292 HK HB
      have HI0:=n0_
      have BK291:=n1_
      have BK292:=n2_
      have HK:=n3_
      have HB:=n4_
      have BK302:=n5_
      have GW302:=n6_
      have GE302:=n7_
      have NB291_302:=n8_
      have NB302_291:=n9_
      have NB292_302:=n10_
      have NB302_292:=n11_
      have NB0_302:=n12_
      have NB302_0:=n13_
      clear n0_ n1_ n2_ n3_ n4_ n5_ n6_ n7_ n8_ n9_ n10_ n11_ n12_ n13_ hb hbox hg
      refine hK.out _ _ ⟨(bC4 BK291.out 0).trans rfl,(bC4 BK291.out 1).trans rfl,(bC4 BK291.out 2).trans rfl⟩ (fun hHeld=>?_)
      clear hK K
      refine norm_ (a':=?_) ?_ ?_
      rotate_left
      ·show Act.put _ (some 5) _=_
       simp only [Act.put,uA4,uB4,uC4,i64_w,i32_w]
       rfl
      refine one_ (i:=4) (N:=some 12) #[true,true,true,true,true,true,false] rfl rfl (zsx4_7) (by decide) (fun K hK=>?_)
      refine goes_ Try.func97 (zsx4_7) rfl #[.agg #[.int .i64 a1_0,.int .i64 a1_1,.int .i64 a1_2],.int .i64 (wrap64 (1 + t293))] (by rfl) rfl rfl (zsx4_8) ?_
      with_reducible refine (spec_slUniform.calls k a1_0 a1_1 a1_2 (wrap64 (1 + t293)) t296 t299 _ A4.out).mono ?_
      rintro e w54 ⟨v297,v300,rfl,ho0,ho1,hb⟩
      refine ⟨_,rfl,?_⟩
      have n0_:=aM4 (Kd.R_lower (Kd.R_newM (M:=fun k_=>(w.heap.size≤k_)) (Kd.R_mono (ok':=fun k_=>True) ho0 (fun _ hk_=>trivial)) (keep_size (w:=w) (g:=g) (row:=none) (zsx4_20)) (fun k_ h_=>h_)) (keep_size (w:=w) (g:=g) (row:=none) (zsx4_20)))
      have n1_:=aM4 (Kd.N_lower (Kd.N_mono (ok':=fun k_=>(w.heap.size≤k_)∧some k_≠(v297:Value).ownBlock∧k_≠gb291∧k_≠gb292∧k_≠gb302∧k_≠g) ho1 (fun k_ hk_=>⟨(Nat.le_trans (keep_size (w:=w) (g:=g) (row:=none) (zsx4_20)) hk_.1),hk_.2,(Kd.freshB (g:=gb291) (o:=.cells #[.int .i64 a1_0,.int .i64 a1_1,.int .i64 a1_2] 84 (0,0)) (zsx4_4) k_ hk_.1),(Kd.freshB (g:=gb292) (o:=.cells #[.slice none 0 0,.slice none 0 0] 89 (0,0)) (zsx4_9) k_ hk_.1),(Kd.freshB (g:=gb302) (o:=.cells #[.slice none 0 0,.slice none 0 0] 89 (0,0)) (zsx4_18) k_ hk_.1),(IsS61.fresh (zsx4_19) k_ hk_.1)⟩)) (keep_size (w:=w) (g:=g) (row:=none) (zsx4_20)))
      have n2_:=aM4 (IsS61.below (zsx4_19) hb)
      have n3_:=aM4 (blk_below (g:=gb291) (o:=.cells #[.int .i64 a1_0,.int .i64 a1_1,.int .i64 a1_2] 84 (0,0)) (zsx4_4) hb)
      have n4_:=aM4 (blk_below (g:=gb292) (o:=.cells #[.slice none 0 0,.slice none 0 0] 89 (0,0)) (zsx4_9) hb)
      have n5_:=aM4 (blk_below (g:=gb302) (o:=.cells #[.slice none 0 0,.slice none 0 0] 89 (0,0)) (zsx4_18) hb)
      have n6_:=aM4 (kT4 (zsx4_20) (kB4 hb g none) (.inl rfl))
      have n7_:=aM4 (below_step (zsx4_21) hb)
      clear HI0 BK291 BK292 BK302 HK HB
      have HO298:=n0_
      have HO301:=n1_
      have HI0:=n2_
      have BK291:=n3_
      have BK292:=n4_
      have BK302:=n5_
      have HK:=n6_
      have HB:=n7_
      clear n0_ n1_ n2_ n3_ n4_ n5_ n6_ n7_
      (try clear hb)
      (try clear hb2)
      (try clear hk)
      (try clear hi)
      (try clear ho0)
      (try clear ho1)
      refine hK.out _ _ ⟨(bC4 BK291.out 0).trans rfl,(bC4 BK291.out 1).trans rfl,(bC4 BK291.out 2).trans rfl⟩ (fun hHeld=>?_)
      clear hK K
      refine norm_ (a':=?_) ?_ ?_
      rotate_left
      ·show Act.put _ (some 12) _=_
       simp only [Act.put,uA4,uB4,uC4,i64_w,i32_w]
       rfl
      exact norm_ (zsx4_15) (hCont (v297,v300,gb302) _ ⟨hHeld,(zsx4_16),(zsx4_22),(zsx4_4),(zsx4_9),(zsx4_18),GW302.out,GE302.out,NB0_302.out,NB302_0.out,NB291_302.out,NB302_291.out,NB292_302.out,NB302_292.out,(zsx4_19),(zsx4_20),(zsx4_21)⟩)
    ·skip
     refine box_step ?hg (N:=5) ?hd (cs:=#[.slice none 0 0,.slice none 0 0]) (t:=89) ?hr ?_;(case hd=>rfl);(case hg=>rfl);(case hr=>exact zsx4_26)
     intro gb302 hg w52 hbox hb
     have n0_:=aM4 (IsS61.below (zsx4_11) hb)
     have n1_:=aM4 (blk_below (g:=gb291) (o:=.cells #[.int .i64 a1_0,.int .i64 a1_1,.int .i64 a1_2] 84 (0,0)) (zsx4_4) hb)
     have n2_:=aM4 (blk_below (g:=gb292) (o:=.cells #[.slice none 0 0,.slice none 0 0] 89 (0,0)) (zsx4_9) hb)
     have n3_:=aM4 (kT4 (zsx4_10) (kB4 hb g none) (.inl rfl))
     have n4_:=aM4 (below_step (zsx4_12) hb)
     have n5_:=aM4 (hbox)
     have n6_:=aM4 ((zsx4_36:w.heap.size≤gb302))
     have n7_:=aM4 ((Nat.le_trans HW0.out (zsx4_36:w.heap.size≤gb302):w0.heap.size≤gb302))
     have n8_:=aM4 ((zsx4_32:gb291≠gb302))
     have n9_:=aM4 ((zsx4_33:gb302≠gb291))
     have n10_:=aM4 ((zsx4_37:gb292≠gb302))
     have n11_:=aM4 ((zsx4_38:gb302≠gb292))
     have n12_:=aM4 ((zsx4_41:g≠gb302))
     have n13_:=aM4 ((zsx4_42:gb302≠g))
     clear HI0 BK291 BK292 HK HB
     have HI0:=n0_
     have BK291:=n1_
     have BK292:=n2_
     have HK:=n3_
     have HB:=n4_
     have BK302:=n5_
     have GW302:=n6_
     have GE302:=n7_
     have NB291_302:=n8_
     have NB302_291:=n9_
     have NB292_302:=n10_
     have NB302_292:=n11_
     have NB0_302:=n12_
     have NB302_0:=n13_
     clear n0_ n1_ n2_ n3_ n4_ n5_ n6_ n7_ n8_ n9_ n10_ n11_ n12_ n13_ hb hbox hg
     refine hK.out _ _ ⟨(bC4 BK291.out 0).trans rfl,(bC4 BK291.out 1).trans rfl,(bC4 BK291.out 2).trans rfl⟩ (fun hHeld=>?_)
     clear hK K
     refine norm_ (a':=?_) ?_ ?_
     rotate_left
     ·show Act.put _ (some 5) _=_
      simp only [Act.put,uA4,uB4,uC4,i64_w,i32_w]
      rfl
     refine one_ (i:=2) (N:=some 10) #[true,true,true,false,false,true,false] rfl rfl (zsx4_7) (by decide) (fun K hK=>?_)
     refine goes_ Try.func53 (zsx4_7) rfl #[.pointer (some ⟨g,0,none⟩),.int .i64 4] (by rfl) rfl rfl (zsx4_8) ?_
     with_reducible refine (spec_l1Cur_pick.calls g s0_0 s0_1 s0_2 4 t293 t294 t295 w0 _ ?side1 ?side2 A3.out).mono ?_
     (case side1=>exact zsx4_19)
     (case side2=>exact zsx4_21)
     rintro e w53 ⟨rfl,hi,hb,hk⟩
     refine ⟨_,rfl,?_⟩
     have n0_:=aM4 (KeepBut.blk hk (g':=gb291) (o:=.cells #[.int .i64 a1_0,.int .i64 a1_1,.int .i64 a1_2] 84 (0,0)) (zsx4_4) NB291_0.out (by simp))
     have n1_:=aM4 (KeepBut.blk hk (g':=gb292) (o:=.cells #[.slice none 0 0,.slice none 0 0] 89 (0,0)) (zsx4_9) NB292_0.out (by simp))
     have n2_:=aM4 (KeepBut.blk hk (g':=gb302) (o:=.cells #[.slice none 0 0,.slice none 0 0] 89 (0,0)) (zsx4_18) NB302_0.out (by simp))
     have n3_:=aM4 (kT4 (zsx4_20) hk (.inl rfl))
     have n4_:=aM4 (hb)
     have n5_:=aM4 (hi)
     clear BK291 BK292 BK302 HK HB HI0
     have BK291:=n0_
     have BK292:=n1_
     have BK302:=n2_
     have HK:=n3_
     have HB:=n4_
     have HI0:=n5_
     clear n0_ n1_ n2_ n3_ n4_ n5_
     (try clear hb)
     (try clear hb2)
     (try clear hk)
     (try clear hi)
     refine hK.out _ _ ⟨(bC4 BK291.out 0).trans rfl,(bC4 BK291.out 1).trans rfl,(bC4 BK291.out 2).trans rfl⟩ (fun hHeld=>?_)
     clear hK K
     refine norm_ (a':=?_) ?_ ?_
     rotate_left
     ·show Act.put _ (some 10) _=_
      simp only [Act.put,uA4,uB4,uC4,i64_w,i32_w]
      rfl
     refine pure_ (i:=3) (N:=some 11) (v:=?_) (a':=?_) #[true,true,true,true,false,true,false] rfl rfl (zsx4_7) (fun _ _ _ h=>h) (Or.inl ⟨by rfl,?_⟩) ?_ ?_
     rotate_left
     ·intro w'
      go_simp
      with_reducible rfl
     rotate_left
     ·simp only [Act.put,uA4,uB4,uC4,i64_w,i32_w]
      rfl
     refine one_ (i:=4) (N:=some 12) #[true,true,true,true,true,true,false] rfl rfl (zsx4_7) (by decide) (fun K hK=>?_)
     refine goes_ Try.func97 (zsx4_7) rfl #[.agg #[.int .i64 a1_0,.int .i64 a1_1,.int .i64 a1_2],.int .i64 (wrap64 (1 + t293))] (by rfl) rfl rfl (zsx4_8) ?_
     with_reducible refine (spec_slUniform.calls k a1_0 a1_1 a1_2 (wrap64 (1 + t293)) t296 t299 _ A4.out).mono ?_
     rintro e w54 ⟨v297,v300,rfl,ho0,ho1,hb⟩
     refine ⟨_,rfl,?_⟩
     have n0_:=aM4 (Kd.R_lower (Kd.R_newM (M:=fun k_=>(w.heap.size≤k_)) (Kd.R_mono (ok':=fun k_=>True) ho0 (fun _ hk_=>trivial)) (keep_size (w:=w) (g:=g) (row:=none) (zsx4_20)) (fun k_ h_=>h_)) (keep_size (w:=w) (g:=g) (row:=none) (zsx4_20)))
     have n1_:=aM4 (Kd.N_lower (Kd.N_mono (ok':=fun k_=>(w.heap.size≤k_)∧some k_≠(v297:Value).ownBlock∧k_≠gb291∧k_≠gb292∧k_≠gb302∧k_≠g) ho1 (fun k_ hk_=>⟨(Nat.le_trans (keep_size (w:=w) (g:=g) (row:=none) (zsx4_20)) hk_.1),hk_.2,(Kd.freshB (g:=gb291) (o:=.cells #[.int .i64 a1_0,.int .i64 a1_1,.int .i64 a1_2] 84 (0,0)) (zsx4_4) k_ hk_.1),(Kd.freshB (g:=gb292) (o:=.cells #[.slice none 0 0,.slice none 0 0] 89 (0,0)) (zsx4_9) k_ hk_.1),(Kd.freshB (g:=gb302) (o:=.cells #[.slice none 0 0,.slice none 0 0] 89 (0,0)) (zsx4_18) k_ hk_.1),(IsS61.fresh (zsx4_19) k_ hk_.1)⟩)) (keep_size (w:=w) (g:=g) (row:=none) (zsx4_20)))
     have n2_:=aM4 (IsS61.below (zsx4_19) hb)
     have n3_:=aM4 (blk_below (g:=gb291) (o:=.cells #[.int .i64 a1_0,.int .i64 a1_1,.int .i64 a1_2] 84 (0,0)) (zsx4_4) hb)
     have n4_:=aM4 (blk_below (g:=gb292) (o:=.cells #[.slice none 0 0,.slice none 0 0] 89 (0,0)) (zsx4_9) hb)
     have n5_:=aM4 (blk_below (g:=gb302) (o:=.cells #[.slice none 0 0,.slice none 0 0] 89 (0,0)) (zsx4_18) hb)
     have n6_:=aM4 (kT4 (zsx4_20) (kB4 hb g none) (.inl rfl))
     have n7_:=aM4 (below_step (zsx4_21) hb)
     clear HI0 BK291 BK292 BK302 HK HB
     have HO298:=n0_
     have HO301:=n1_
     have HI0:=n2_
     have BK291:=n3_
     have BK292:=n4_
     have BK302:=n5_
     have HK:=n6_
     have HB:=n7_
     clear n0_ n1_ n2_ n3_ n4_ n5_ n6_ n7_
     (try clear hb)
     (try clear hb2)
     (try clear hk)
     (try clear hi)
     (try clear ho0)
     (try clear ho1)
     refine hK.out _ _ ⟨(bC4 BK291.out 0).trans rfl,(bC4 BK291.out 1).trans rfl,(bC4 BK291.out 2).trans rfl⟩ (fun hHeld=>?_)
     clear hK K
     refine norm_ (a':=?_) ?_ ?_
     rotate_left
     ·show Act.put _ (some 12) _=_
      simp only [Act.put,uA4,uB4,uC4,i64_w,i32_w]
      rfl
     exact norm_ (zsx4_15) (hCont (v297,v300,gb302) _ ⟨hHeld,(zsx4_16),(zsx4_22),(zsx4_4),(zsx4_9),(zsx4_18),GW302.out,GE302.out,NB0_302.out,NB302_0.out,NB291_302.out,NB302_291.out,NB292_302.out,NB302_292.out,(zsx4_19),(zsx4_20),(zsx4_21)⟩)
   rintro ⟨v297,v300,gb302⟩ w55 ⟨hS_,h0_,h1_,h2_,h3_,h4_,h5_,h6_,h7_,h8_,h9_,h10_,h11_,h12_,h13_,h14_,h15_⟩
   have n0_:Aside0 (Kd.R (Kd.int .i64) 3 w55 w.heap.size (fun k_=>(w.heap.size≤k_)) v297 t296):=⟨h0_⟩
   have n1_:Aside0 (Kd.N (Kd.slice 96 k96) 94 w55 w.heap.size (fun k_=>(w.heap.size≤k_)∧some k_≠(v297:Value).ownBlock∧k_≠g∧k_≠gb291∧k_≠gb292∧k_≠gb302) v300 t299):=⟨h1_⟩
   have n2_:Aside0 (w55.heap[gb291]?=some (.cells #[.int .i64 a1_0,.int .i64 a1_1,.int .i64 a1_2] 84 (0,0))):=⟨h2_⟩
   have n3_:Aside0 (w55.heap[gb292]?=some (.cells #[.slice none 0 0,.slice none 0 0] 89 (0,0))):=⟨h3_⟩
   have n4_:Aside0 (w55.heap[gb302]?=some (.cells #[.slice none 0 0,.slice none 0 0] 89 (0,0))):=⟨h4_⟩
   have n5_:Aside0 (w.heap.size≤gb302):=⟨h5_⟩
   have n6_:Aside0 (w0.heap.size≤gb302):=⟨h6_⟩
   have n7_:Aside0 (g≠gb302):=⟨h7_⟩
   have n8_:Aside0 (gb302≠g):=⟨h8_⟩
   have n9_:Aside0 (gb291≠gb302):=⟨h9_⟩
   have n10_:Aside0 (gb302≠gb291):=⟨h10_⟩
   have n11_:Aside0 (gb292≠gb302):=⟨h11_⟩
   have n12_:Aside0 (gb302≠gb292):=⟨h12_⟩
   have n13_:Aside0 (IsS61 w0 w55 g s0_0 t294 t295):=⟨h13_⟩
   have n14_:Aside0 (KeepBut w w55 g none):=⟨h14_⟩
   have n15_:Aside0 (Below w0.heap.size w0 w55):=⟨h15_⟩
   clear BK291 BK292 HI0 HK HB h0_ h1_ h2_ h3_ h4_ h5_ h6_ h7_ h8_ h9_ h10_ h11_ h12_ h13_ h14_ h15_
   have HO298:=n0_
   have HO301:=n1_
   have BK291:=n2_
   have BK292:=n3_
   have BK302:=n4_
   have GW302:=n5_
   have GE302:=n6_
   have NB0_302:=n7_
   have NB302_0:=n8_
   have NB291_302:=n9_
   have NB302_291:=n10_
   have NB292_302:=n11_
   have NB302_292:=n12_
   have HI0:=n13_
   have HK:=n14_
   have HB:=n15_
   clear n0_ n1_ n2_ n3_ n4_ n5_ n6_ n7_ n8_ n9_ n10_ n11_ n12_ n13_ n14_ n15_
   have hHeld:w55.cell? ⟨gb291,0,none⟩=some (.int .i64 a1_0)∧w55.cell? ⟨gb291,1,none⟩=some (.int .i64 a1_1)∧w55.cell? ⟨gb291,2,none⟩=some (.int .i64 a1_2):=hS_
   obtain ⟨Ao56,co56,eo56⟩:=Kd.R_slice HO298.out
   (first|subst eo56|(injection eo56 with f1_ f2_ f3_;have f4_:=f1_.symm;have f5_:=f3_.symm;clear f1_ f2_ f3_;subst f4_;subst f5_))
   obtain ⟨Ao58,co58,eo58⟩:=Kd.N_slice HO301.out
   (first|subst eo58|(injection eo58 with f1_ f2_ f3_;have f4_:=f1_.symm;have f5_:=f3_.symm;clear f1_ f2_ f3_;subst f4_;subst f5_))
   refine norm_ (a':=?_) ?_ ?_
   rotate_left
   ·simp only [putAll,Act.put,uA4,uB4,uC4]
    rfl
   refine one_ (i:=6) (N:=none) #[true,true,true,true,true,true,true] rfl rfl (zsx4_7) (by decide) (fun K hK=>?_)
   have hs57:w55.cell? ⟨gb302,0,none⟩=some (.slice none 0 0):=(bC4 BK302.out 0).trans rfl
   have hfs57:=blk_frozen BK302.out 0
   have hns57_0:=NB291_302.out
   have hns57_1:=NB292_302.out
   have hms57_0:=NB302_291.out
   have hms57_1:=NB302_292.out
   have hs59:w55.cell? ⟨gb302,1,none⟩=some (.slice none 0 0):=(bC4 BK302.out 1).trans rfl
   have hfs59:=blk_frozen BK302.out 1
   have hns59_0:=NB291_302.out
   have hns59_1:=NB292_302.out
   have hms59_0:=NB302_291.out
   have hms59_1:=NB302_292.out
   refine skip_ (w1:=?_) (by rfl) rfl ?_ ?_
   rotate_left
   ·go_simp
    rfl
   refine hK.out _ _ ⟨((cell_far (p:=⟨gb302,_,none⟩) NB291_302.out _).trans (((cell_far (p:=⟨gb302,_,none⟩) NB291_302.out _).trans (hHeld.1)))),((cell_far (p:=⟨gb302,_,none⟩) NB291_302.out _).trans (((cell_far (p:=⟨gb302,_,none⟩) NB291_302.out _).trans (hHeld.2.1)))),((cell_far (p:=⟨gb302,_,none⟩) NB291_302.out _).trans (((cell_far (p:=⟨gb302,_,none⟩) NB291_302.out _).trans (hHeld.2.2))))⟩ (fun hHeld=>?_)
   clear hK K
   refine done_ (zsx4_7) ?_
   try go_wp2_with (first|((with_reducible refine gate_callee (f:=86) rfl ?_);refine goesL_ (some 14) rfl rfl Try.func86 (zsx4_7) rfl #[.pointer (some ⟨g,0,none⟩),.int .i64 3] rfl (zsx4_8) ?_;(with_reducible refine (spec_l1Cur_one.calls g s0_0 t294 t295 3 true t304 t305 w0 _ ?side1 ?side2 A5.out).mono ?_);(case side1=>exact zsx4_19);(case side2=>exact zsx4_21);rintro e w60 ⟨rfl,hi,hb,hk⟩;refine ⟨_,rfl,?_⟩;have n0_:=aM4 (KeepBut.blk hk (g':=gb291) (o:=.cells #[.int .i64 a1_0,.int .i64 a1_1,.int .i64 a1_2] 84 (0,0)) (zsx4_23) NB291_0.out (by simp));have n1_:=aM4 (KeepBut.blk hk (g':=gb292) (o:=.cells #[.slice none 0 0,.slice none 0 0] 89 (0,0)) (zsx4_24) NB292_0.out (by simp));have n2_:=aM4 (Kd.R_mono (Kd.R_keep (IsS61.apart (show IsS61 w0 _ g s0_0 t294 t295 from zsx4_19) (by (with_reducible repeat (first|apply Kd.R_alloc|apply Kd.R_drewN|apply Kd.R_drew));exact (Kd.R_mono (Kd.R_far (p:=⟨gb302,1,none⟩) (Kd.R_far (p:=⟨gb302,0,none⟩) (Kd.R_types HO298.out BK302.out (by decide)) (fun _ hk=>hk.2) (.slice Ao56 t296.length co56)) (fun _ hk=>hk.2) (.slice Ao58 t299.length co58)) (fun _ h_=>h_.1))) (by decide)) hk (fun _ h=>h.2)) (fun _ h=>h.1));have n3_:=aM4 (Kd.N_mono (Kd.N_keep (Kd.N_mono (ok:=fun k_=>(((w.heap.size≤k_))∧(some k_≠(.slice Ao56 t296.length co56:Value).ownBlock∧(k_≠g∧(k_≠gb291∧(k_≠gb292∧k_≠gb302)))))) (by (with_reducible repeat (first|apply Kd.N_alloc|apply Kd.N_drewN|apply Kd.N_drew));exact (Kd.N_mono (Kd.N_far (p:=⟨gb302,1,none⟩) (Kd.N_far (p:=⟨gb302,0,none⟩) (Kd.N_mono HO301.out (fun k_ hk=>(⟨hk,hk.2.2.2.2.2⟩:_∧k_≠gb302))) (fun _ hk=>hk.2) (.slice Ao56 t296.length co56)) (fun _ hk=>hk.2) (.slice Ao58 t299.length co58)) (fun _ h_=>h_.1))) (fun k_ hk_=>(⟨hk_,hk_.2.2.1⟩:_∧k_≠g))) hk (fun _ h=>h.2)) (fun _ h=>h.1));have n4_:=aM4 (KeepBut.blk hk (g':=gb302) (o:=.cells #[.slice Ao56 t296.length co56,.slice Ao58 t299.length co58] 89 (0,0)) (by (with_reducible repeat (first|refine blk_drewN ?_ _|refine blk_drew ?_|refine blk_alloc ?_ _));refine blk_put (cs:=#[.slice Ao56 t296.length co56,.slice none 0 0]) ?_ 1 _ rfl;(with_reducible repeat (first|refine blk_drewN ?_ _|refine blk_drew ?_|refine blk_alloc ?_ _));refine blk_put (cs:=#[.slice none 0 0,.slice none 0 0]) ?_ 0 _ rfl;(with_reducible repeat (first|refine blk_drewN ?_ _|refine blk_drew ?_|refine blk_alloc ?_ _));exact BK302.out) NB302_0.out (by simp));have n5_:=aM4 (kT4 (zsx4_20) hk (.inl rfl));have n6_:=aM4 (hb);have n7_:=aM4 (hi);clear BK291 BK292 HO298 HO301 BK302 HK HB HI0;have BK291:=n0_;have BK292:=n1_;have HO298:=n2_;have HO301:=n3_;have BK302:=n4_;have HK:=n5_;have HB:=n6_;have HI0:=n7_;clear n0_ n1_ n2_ n3_ n4_ n5_ n6_ n7_;(try clear hb);(try clear hb2);(try clear hk);(try clear hi))|((with_reducible refine gate_callee (f:=98) rfl ?_);refine goesL_ (some 16) rfl rfl Try.func98 (zsx4_7) rfl #[.pointer (some ⟨g,0,none⟩)] rfl (zsx4_8) ?_;(with_reducible refine (spec_l1Cur_template.calls k g s0_0 t304 t305 t306 t309 t310 w0 _ ?side1 ?side2 A7.out).mono ?_);(case side1=>exact zsx4_19);(case side2=>exact zsx4_21);rintro e w61 ⟨v307,rfl,ho0,hi,hb,hk⟩;refine ⟨_,rfl,?_⟩;have n0_:=aM4 (KeepBut.blk hk (g':=gb291) (o:=.cells #[.int .i64 a1_0,.int .i64 a1_1,.int .i64 a1_2] 84 (0,0)) (zsx4_4) NB291_0.out (by simp));have n1_:=aM4 (KeepBut.blk hk (g':=gb292) (o:=.cells #[.slice none 0 0,.slice none 0 0] 89 (0,0)) (zsx4_9) NB292_0.out (by simp));have n2_:=aM4 (Kd.R_mono (Kd.R_keep (IsS61.apart (show IsS61 w0 _ g s0_0 t304 t305 from zsx4_19) (zsx4_13) (by decide)) hk (fun _ h=>h.2)) (fun _ h=>h.1));have n3_:=aM4 (Kd.N_mono (Kd.N_told (Kd.N_oldK (Kd.N_mono (ok:=fun k_=>(((w.heap.size≤k_))∧(some k_≠(.slice Ao56 t296.length co56:Value).ownBlock∧(k_≠g∧(k_≠gb291∧(k_≠gb292∧k_≠gb302)))))) (zsx4_14) (fun k_ hk_=>(⟨hk_,hk_.2.2.1⟩:_∧k_≠g))) hk) (Kd.Q_base ho0)) (fun _ h_=>h_.1));have n4_:=aM4 (KeepBut.blk hk (g':=gb302) (o:=.cells #[.slice Ao56 t296.length co56,.slice Ao58 t299.length co58] 89 (0,0)) (zsx4_18) NB302_0.out (by simp));have n5_:=aM4 (Kd.Q_lower (Kd.Q_newM (M:=fun k_=>(w.heap.size≤k_)) ho0 (keep_size (w:=w) (g:=g) (row:=none) (zsx4_20)) (fun k_ h_=>h_)) (keep_size (w:=w) (g:=g) (row:=none) (zsx4_20)));have n6_:=aM4 (kT4 (zsx4_20) hk (.inl rfl));have n7_:=aM4 (hb);have n8_:=aM4 (hi);clear BK291 BK292 HO298 HO301 BK302 HK HB HI0;have BK291:=n0_;have BK292:=n1_;have HO298:=n2_;have HO301:=n3_;have BK302:=n4_;have HO308:=n5_;have HK:=n6_;have HB:=n7_;have HI0:=n8_;clear n0_ n1_ n2_ n3_ n4_ n5_ n6_ n7_ n8_;(try clear hb);(try clear hb2);(try clear hk);(try clear hi);(try clear ho0);obtain ⟨Ao62,co62,eo62,_⟩:=Kd.Q_slice HO308.out;subst eo62)|((with_reducible refine gate_callee (f:=99) rfl ?_);refine goesL_ (some 18) rfl rfl Try.func99 (zsx4_7) rfl #[.slice Ao62 t306.length co62] rfl (zsx4_8) ?_;(with_reducible refine (spec_slTemplate.calls k _ _ t306 false _ ?side1 ?side2 A8.out).mono ?_);(case side1=>exact zsx4_27);(case side2=>exact (Kd.Q_reads' HO308.out).2.1);rintro e w63 ⟨rfl,hb⟩;refine ⟨_,rfl,?_⟩;have n0_:=aM4 (Kd.R_below (zsx4_13) hb);have n1_:=aM4 (Kd.N_below (zsx4_14) hb);have n2_:=aM4 (Kd.Q_below (by (with_reducible repeat (first|apply Kd.Q_alloc|apply Kd.Q_drewN|apply Kd.Q_drew));exact HO308.out) hb);have n3_:=aM4 (IsS61.below (zsx4_19) hb);have n4_:=aM4 (blk_below (g:=gb291) (o:=.cells #[.int .i64 a1_0,.int .i64 a1_1,.int .i64 a1_2] 84 (0,0)) (zsx4_4) hb);have n5_:=aM4 (blk_below (g:=gb292) (o:=.cells #[.slice none 0 0,.slice none 0 0] 89 (0,0)) (zsx4_9) hb);have n6_:=aM4 (blk_below (g:=gb302) (o:=.cells #[.slice Ao56 t296.length co56,.slice Ao58 t299.length co58] 89 (0,0)) (zsx4_18) hb);have n7_:=aM4 (kT4 (zsx4_20) (kB4 hb g none) (.inl rfl));have n8_:=aM4 (below_step (zsx4_21) hb);clear HO298 HO301 HO308 HI0 BK291 BK292 BK302 HK HB;have HO298:=n0_;have HO301:=n1_;have HO308:=n2_;have HI0:=n3_;have BK291:=n4_;have BK292:=n5_;have BK302:=n6_;have HK:=n7_;have HB:=n8_;clear n0_ n1_ n2_ n3_ n4_ n5_ n6_ n7_ n8_;(try clear hb);(try clear hb2);(try clear hk);(try clear hi);have hnb64:=NB302_291.out;have hnc64:=NB291_302.out;have hnb65:=NB302_292.out;have hnc65:=NB292_302.out;have hnb66:=NB302_0.out;have hnc66:=NB0_302.out;have hcz67_0:w63.cell? ⟨gb302,0,none⟩=some (.slice Ao56 t296.length co56):=(bC4 BK302.out 0).trans rfl;have hcz67_1:w63.cell? ⟨gb302,1,none⟩=some (.slice Ao58 t299.length co58):=(bC4 BK302.out 1).trans rfl;have hfz67_0:=blk_frozen BK302.out 0;have hfz67_1:=blk_frozen BK302.out 1;have hnb68:=NB292_291.out;have hnc68:=NB291_292.out;have hnb69:=NB292_0.out;have hnc69:=NB0_292.out;have hcz70_0:w63.cell? ⟨gb292,0,none⟩=some (.slice none 0 0):=(bC4 BK292.out 0).trans rfl;have hcz70_1:w63.cell? ⟨gb292,1,none⟩=some (.slice none 0 0):=(bC4 BK292.out 1).trans rfl;have hfz70_0:=blk_frozen BK292.out 0;have hfz70_1:=blk_frozen BK292.out 1))
   refine bodyPost_ret (results_cell_row rfl _ _ gb292 89 #[.slice Ao56 t296.length co56,.slice Ao58 t299.length co58] (0,0) _ rfl (by (with_reducible repeat (first|refine blk_drewN ?_ _|refine blk_drew ?_|refine blk_alloc ?_ _));refine blk_put (cs:=#[.slice Ao56 t296.length co56,.slice none 0 0]) ?_ 1 _ rfl;(with_reducible repeat (first|refine blk_drewN ?_ _|refine blk_drew ?_|refine blk_alloc ?_ _));refine blk_put (cs:=#[.slice none 0 0,.slice none 0 0]) ?_ 0 _ rfl;(with_reducible repeat (first|refine blk_drewN ?_ _|refine blk_drew ?_|refine blk_alloc ?_ _));exact BK292.out) Try.underlying89 rfl (zsx4_7)) rfl ?_
   exact ⟨_,_,zsx4_25,by (with_reducible repeat (first|apply Kd.R_alloc|apply Kd.R_drewN|apply Kd.R_drew));exact Kd.R_mono (Kd.R_far (p:=⟨gb292,1,none⟩) (Kd.R_far (p:=⟨gb292,0,none⟩) (Kd.R_types HO298.out BK292.out (by decide)) (fun _ hk=>hk.2) (.slice Ao56 t296.length co56)) (fun _ hk=>hk.2) (.slice Ao58 t299.length co58)) (fun _ hk=>hk.1),by (with_reducible repeat (first|apply Kd.N_alloc|apply Kd.N_drewN|apply Kd.N_drew));exact Kd.N_mono (Kd.N_far (p:=⟨gb292,1,none⟩) (Kd.N_far (p:=⟨gb292,0,none⟩) (Kd.N_mono HO301.out (fun k_ hk=>(⟨hk,hk.1.2.2.2.2.1⟩:_∧k_≠gb292))) (fun _ hk=>hk.2) (.slice Ao56 t296.length co56)) (fun _ hk=>hk.2) (.slice Ao58 t299.length co58)) (fun _ hk=>⟨hk.1.1.1,hk.1.1.2.1⟩),zsx4_19,zsx4_21,zsx4_20⟩
 ·replace c6:=Bool.eq_false_iff.mpr c6
  subst c6
  have H1:(some (t296,t299,t304,t305))=some (r1,r2,r3,r4):=by rw [if_neg (show ¬ (false=true) by decide)] at H;exact H
  clear H
  have H:=H1
  clear H1
  simp only [Option.some.injEq,Prod.mk.injEq] at H
  obtain ⟨rfl,rfl,rfl,rfl⟩:=H
  go_enter Try.func91,Try.ntmps91
  try go_wp2_with (first|((with_reducible refine gate_dst (N:=3) rfl ?_);refine box_event ?hg (N:=3) ?hd (cs:=#[.int .i64 a1_0,.int .i64 a1_1,.int .i64 a1_2]) (t:=84) ?hr ?_;(case hd=>rfl);(case hg=>rfl);(case hr=>exact zsx4_26);intro gb291 hg w71 hbox hb;have n0_:=aM4 (IsS61.below (zsx4_0) hb);have n1_:=aM4 (kT4 (zsx4_1) (kB4 hb g none) (.inl rfl));have n2_:=aM4 (below_step (zsx4_2) hb);have n3_:=aM4 (hbox);have n4_:=aM4 ((zsx4_28:w.heap.size≤gb291));have n5_:=aM4 ((Nat.le_trans HW0.out (zsx4_28:w.heap.size≤gb291):w0.heap.size≤gb291));have n6_:=aM4 ((zsx4_29:g≠gb291));have n7_:=aM4 ((zsx4_30:gb291≠g));clear HI0 HK HB;have HI0:=n0_;have HK:=n1_;have HB:=n2_;have BK291:=n3_;have GW291:=n4_;have GE291:=n5_;have NB0_291:=n6_;have NB291_0:=n7_;clear n0_ n1_ n2_ n3_ n4_ n5_ n6_ n7_ hb hbox hg)|((with_reducible refine gate_dst (N:=4) rfl ?_);refine box_event ?hg (N:=4) ?hd (cs:=#[.slice none 0 0,.slice none 0 0]) (t:=89) ?hr ?_;(case hd=>rfl);(case hg=>rfl);(case hr=>exact zsx4_26);intro gb292 hg w72 hbox hb;have n0_:=aM4 (IsS61.below (zsx4_3) hb);have n1_:=aM4 (blk_below (g:=gb291) (o:=.cells #[.int .i64 a1_0,.int .i64 a1_1,.int .i64 a1_2] 84 (0,0)) (zsx4_4) hb);have n2_:=aM4 (kT4 (zsx4_5) (kB4 hb g none) (.inl rfl));have n3_:=aM4 (below_step (zsx4_6) hb);have n4_:=aM4 (hbox);have n5_:=aM4 ((zsx4_31:w.heap.size≤gb292));have n6_:=aM4 ((Nat.le_trans HW0.out (zsx4_31:w.heap.size≤gb292):w0.heap.size≤gb292));have n7_:=aM4 ((zsx4_32:gb291≠gb292));have n8_:=aM4 ((zsx4_33:gb292≠gb291));have n9_:=aM4 ((zsx4_34:g≠gb292));have n10_:=aM4 ((zsx4_35:gb292≠g));clear HI0 BK291 HK HB;have HI0:=n0_;have BK291:=n1_;have HK:=n2_;have HB:=n3_;have BK292:=n4_;have GW292:=n5_;have GE292:=n6_;have NB291_292:=n7_;have NB292_291:=n8_;have NB0_292:=n9_;have NB292_0:=n10_;clear n0_ n1_ n2_ n3_ n4_ n5_ n6_ n7_ n8_ n9_ n10_ hb hbox hg))
  have n0_:=aM4 (blk_drew BK291.out)
  have n1_:=aM4 (blk_drew BK292.out)
  have n2_:=aM4 (IsS61.drew HI0.out)
  have n3_:=aM4 (keep_drew HK.out)
  have n4_:=aM4 (below_drew1 HB.out)
  clear BK291 BK292 HI0 HK HB
  have BK291:=n0_
  have BK292:=n1_
  have HI0:=n2_
  have HK:=n3_
  have HB:=n4_
  clear n0_ n1_ n2_ n3_ n4_
  refine start_ (n:=7) (S:=fun w'=>w'.cell? ⟨gb291,0,none⟩=some (.int .i64 a1_0)∧w'.cell? ⟨gb291,1,none⟩=some (.int .i64 a1_1)∧w'.cell? ⟨gb291,2,none⟩=some (.int .i64 a1_2)) (ds:=[]) #[false,false,false,false,false,false,false] (zsx4_7) rfl rfl ⟨(bC4 BK291.out 0).trans rfl,(bC4 BK291.out 1).trans rfl,(bC4 BK291.out 2).trans rfl⟩ (fun hHeld=>?_)
  generalize w72.drew=w73 at BK291 BK292 HI0 HK HB hHeld ⊢
  refine pure_ (i:=1) (N:=some 9) (v:=?_) (a':=?_) #[false,true,false,false,false,false,false] rfl rfl (zsx4_7) (fun _ _ _ h=>h) (Or.inl ⟨by rfl,?_⟩) ?_ ?_
  rotate_left
  ·intro w'
   go_simp
   with_reducible rfl
  rotate_left
  ·simp only [Act.put,uA4,uB4,uC4,i64_w,i32_w]
   rfl
  refine take_ (i:=0) (N:=some 8) (v:=?_) (a':=?_) #[true,true,false,false,false,false,false] rfl rfl (zsx4_7) (fun _ _ _ h=>h) (Or.inl ⟨by rfl,?_⟩) hHeld ?_ ?_
  rotate_left
  ·rintro w' ⟨s0,s1,s2⟩
   go_simp
   with_reducible rfl
  rotate_left
  ·simp only [Act.put,uA4,uB4,uC4,i64_w,i32_w]
   rfl
  refine join_ (σ:=Value × Value × Nat) 1 #[true,true,true,true,true,true,false] (fun s_=>[(10,.int .i64 t293),(12,.agg #[s_.1,s_.2.1]),(5,.pointer (some ⟨s_.2.2,0,none⟩)),(11,.int .i64 (wrap64 (1 + t293)))]) (fun s_ w'=>(w'.cell? ⟨gb291,0,none⟩=some (.int .i64 a1_0)∧w'.cell? ⟨gb291,1,none⟩=some (.int .i64 a1_1)∧w'.cell? ⟨gb291,2,none⟩=some (.int .i64 a1_2))∧(Kd.R (Kd.int .i64) 3 w' w.heap.size (fun k_=>(w.heap.size≤k_)) s_.1 t296)∧(Kd.N (Kd.slice 96 k96) 94 w' w.heap.size (fun k_=>(w.heap.size≤k_)∧some k_≠(s_.1:Value).ownBlock∧k_≠g∧k_≠gb291∧k_≠gb292∧k_≠s_.2.2) s_.2.1 t299)∧(w'.heap[gb291]?=some (.cells #[.int .i64 a1_0,.int .i64 a1_1,.int .i64 a1_2] 84 (0,0)))∧(w'.heap[gb292]?=some (.cells #[.slice none 0 0,.slice none 0 0] 89 (0,0)))∧(w'.heap[s_.2.2]?=some (.cells #[.slice none 0 0,.slice none 0 0] 89 (0,0)))∧(w.heap.size≤s_.2.2)∧(w0.heap.size≤s_.2.2)∧(g≠s_.2.2)∧(s_.2.2≠g)∧(gb291≠s_.2.2)∧(s_.2.2≠gb291)∧(gb292≠s_.2.2)∧(s_.2.2≠gb292)∧(IsS61 w0 w' g s0_0 t294 t295)∧(KeepBut w w' g none)∧(Below w0.heap.size w0 w')) ?_ ?_
  rotate_left
  ·intro hCont
   refine two_ (i:=2) (j:=5) (Ni:=some 10) (Nj:=some 5) #[true,true,true,false,false,false,false] #[true,true,false,false,false,true,false] rfl rfl rfl rfl (zsx4_7) (by decide) (by decide) (fun K hK=>?_) (fun K hK=>?_)
   ·skip
    refine goes_ Try.func53 (zsx4_7) rfl #[.pointer (some ⟨g,0,none⟩),.int .i64 4] (by rfl) rfl rfl (zsx4_8) ?_
    with_reducible refine (spec_l1Cur_pick.calls g s0_0 s0_1 s0_2 4 t293 t294 t295 w0 _ ?side1 ?side2 A3.out).mono ?_
    (case side1=>exact zsx4_11)
    (case side2=>exact zsx4_12)
    rintro e w74 ⟨rfl,hi,hb,hk⟩
    refine ⟨_,rfl,?_⟩
    have n0_:=aM4 (KeepBut.blk hk (g':=gb291) (o:=.cells #[.int .i64 a1_0,.int .i64 a1_1,.int .i64 a1_2] 84 (0,0)) (zsx4_4) NB291_0.out (by simp))
    have n1_:=aM4 (KeepBut.blk hk (g':=gb292) (o:=.cells #[.slice none 0 0,.slice none 0 0] 89 (0,0)) (zsx4_9) NB292_0.out (by simp))
    have n2_:=aM4 (kT4 (zsx4_10) hk (.inl rfl))
    have n3_:=aM4 (hb)
    have n4_:=aM4 (hi)
    clear BK291 BK292 HK HB HI0
    have BK291:=n0_
    have BK292:=n1_
    have HK:=n2_
    have HB:=n3_
    have HI0:=n4_
    clear n0_ n1_ n2_ n3_ n4_
    (try clear hb)
    (try clear hb2)
    (try clear hk)
    (try clear hi)
    refine hK.out _ _ ⟨(bC4 BK291.out 0).trans rfl,(bC4 BK291.out 1).trans rfl,(bC4 BK291.out 2).trans rfl⟩ (fun hHeld=>?_)
    clear hK K
    refine norm_ (a':=?_) ?_ ?_
    rotate_left
    ·show Act.put _ (some 10) _=_
     simp only [Act.put,uA4,uB4,uC4,i64_w,i32_w]
     rfl
    refine pure_ (i:=3) (N:=some 11) (v:=?_) (a':=?_) #[true,true,true,true,false,false,false] rfl rfl (zsx4_7) (fun _ _ _ h=>h) (Or.inl ⟨by rfl,?_⟩) ?_ ?_
    rotate_left
    ·intro w'
     go_simp
     with_reducible rfl
    rotate_left
    ·simp only [Act.put,uA4,uB4,uC4,i64_w,i32_w]
     rfl
    refine two_ (i:=4) (j:=5) (Ni:=some 12) (Nj:=some 5) #[true,true,true,true,true,false,false] #[true,true,true,true,false,true,false] rfl rfl rfl rfl (zsx4_7) (by decide) (by decide) (fun K hK=>?_) (fun K hK=>?_)
    ·skip
     refine goes_ Try.func97 (zsx4_7) rfl #[.agg #[.int .i64 a1_0,.int .i64 a1_1,.int .i64 a1_2],.int .i64 (wrap64 (1 + t293))] (by rfl) rfl rfl (zsx4_8) ?_
     with_reducible refine (spec_slUniform.calls k a1_0 a1_1 a1_2 (wrap64 (1 + t293)) t296 t299 _ A4.out).mono ?_
     rintro e w75 ⟨v297,v300,rfl,ho0,ho1,hb⟩
     refine ⟨_,rfl,?_⟩
     have n0_:=aM4 (Kd.R_lower (Kd.R_newM (M:=fun k_=>(w.heap.size≤k_)) (Kd.R_mono (ok':=fun k_=>True) ho0 (fun _ hk_=>trivial)) (keep_size (w:=w) (g:=g) (row:=none) (zsx4_10)) (fun k_ h_=>h_)) (keep_size (w:=w) (g:=g) (row:=none) (zsx4_10)))
     have n1_:=aM4 (Kd.N_lower (Kd.N_mono (ok':=fun k_=>(w.heap.size≤k_)∧some k_≠(v297:Value).ownBlock∧k_≠gb291∧k_≠gb292∧k_≠g) ho1 (fun k_ hk_=>⟨(Nat.le_trans (keep_size (w:=w) (g:=g) (row:=none) (zsx4_10)) hk_.1),hk_.2,(Kd.freshB (g:=gb291) (o:=.cells #[.int .i64 a1_0,.int .i64 a1_1,.int .i64 a1_2] 84 (0,0)) (zsx4_4) k_ hk_.1),(Kd.freshB (g:=gb292) (o:=.cells #[.slice none 0 0,.slice none 0 0] 89 (0,0)) (zsx4_9) k_ hk_.1),(IsS61.fresh (zsx4_11) k_ hk_.1)⟩)) (keep_size (w:=w) (g:=g) (row:=none) (zsx4_10)))
     have n2_:=aM4 (IsS61.below (zsx4_11) hb)
     have n3_:=aM4 (blk_below (g:=gb291) (o:=.cells #[.int .i64 a1_0,.int .i64 a1_1,.int .i64 a1_2] 84 (0,0)) (zsx4_4) hb)
     have n4_:=aM4 (blk_below (g:=gb292) (o:=.cells #[.slice none 0 0,.slice none 0 0] 89 (0,0)) (zsx4_9) hb)
     have n5_:=aM4 (kT4 (zsx4_10) (kB4 hb g none) (.inl rfl))
     have n6_:=aM4 (below_step (zsx4_12) hb)
     clear HI0 BK291 BK292 HK HB
     have HO298:=n0_
     have HO301:=n1_
     have HI0:=n2_
     have BK291:=n3_
     have BK292:=n4_
     have HK:=n5_
     have HB:=n6_
     clear n0_ n1_ n2_ n3_ n4_ n5_ n6_
     (try clear hb)
     (try clear hb2)
     (try clear hk)
     (try clear hi)
     (try clear ho0)
     (try clear ho1)
     refine hK.out _ _ ⟨(bC4 BK291.out 0).trans rfl,(bC4 BK291.out 1).trans rfl,(bC4 BK291.out 2).trans rfl⟩ (fun hHeld=>?_)
     clear hK K
     refine norm_ (a':=?_) ?_ ?_
     rotate_left
     ·show Act.put _ (some 12) _=_
      simp only [Act.put,uA4,uB4,uC4,i64_w,i32_w]
      rfl
     refine one_ (i:=5) (N:=some 5) #[true,true,true,true,true,true,false] rfl rfl (zsx4_7) (by decide) (fun K hK=>?_)
     refine box_step ?hg (N:=5) ?hd (cs:=#[.slice none 0 0,.slice none 0 0]) (t:=89) ?hr ?_;(case hd=>rfl);(case hg=>rfl);(case hr=>exact zsx4_26)
     intro gb302 hg w76 hbox hb
     have n0_:=aM4 (Kd.R_below (zsx4_13) hb)
     have n1_:=aM4 (Kd.N_below (Kd.N_elderB (zsx4_14) gb302 (Nat.le_of_eq hg.symm)) hb)
     have n2_:=aM4 (IsS61.below (zsx4_11) hb)
     have n3_:=aM4 (blk_below (g:=gb291) (o:=.cells #[.int .i64 a1_0,.int .i64 a1_1,.int .i64 a1_2] 84 (0,0)) (zsx4_4) hb)
     have n4_:=aM4 (blk_below (g:=gb292) (o:=.cells #[.slice none 0 0,.slice none 0 0] 89 (0,0)) (zsx4_9) hb)
     have n5_:=aM4 (kT4 (zsx4_10) (kB4 hb g none) (.inl rfl))
     have n6_:=aM4 (below_step (zsx4_12) hb)
     have n7_:=aM4 (hbox)
     have n8_:=aM4 ((zsx4_36:w.heap.size≤gb302))
     have n9_:=aM4 ((Nat.le_trans HW0.out (zsx4_36:w.heap.size≤gb302):w0.heap.size≤gb302))
     have n10_:=aM4 ((zsx4_32:gb291≠gb302))
     have n11_:=aM4 ((zsx4_33:gb302≠gb291))
     have n12_:=aM4 ((zsx4_37:gb292≠gb302))
     have n13_:=aM4 ((zsx4_38:gb302≠gb292))
     have n14_:=aM4 ((zsx4_39:g≠gb302))
     have n15_:=aM4 ((zsx4_40:gb302≠g))
     clear HO298 HO301 HI0 BK291 BK292 HK HB
     have HO298:=n0_
     have HO301:=n1_
     have HI0:=n2_
     have BK291:=n3_
     have BK292:=n4_
     have HK:=n5_
     have HB:=n6_
     have BK302:=n7_
     have GW302:=n8_
     have GE302:=n9_
     have NB291_302:=n10_
     have NB302_291:=n11_
     have NB292_302:=n12_
     have NB302_292:=n13_
     have NB0_302:=n14_
     have NB302_0:=n15_
     clear n0_ n1_ n2_ n3_ n4_ n5_ n6_ n7_ n8_ n9_ n10_ n11_ n12_ n13_ n14_ n15_ hb hbox hg
     refine hK.out _ _ ⟨(bC4 BK291.out 0).trans rfl,(bC4 BK291.out 1).trans rfl,(bC4 BK291.out 2).trans rfl⟩ (fun hHeld=>?_)
     clear hK K
     refine norm_ (a':=?_) ?_ ?_
     rotate_left
     ·show Act.put _ (some 5) _=_
      simp only [Act.put,uA4,uB4,uC4,i64_w,i32_w]
      rfl
     exact norm_ (zsx4_15) (hCont (v297,v300,gb302) _ ⟨hHeld,(zsx4_16),(zsx4_17),(zsx4_4),(zsx4_9),(zsx4_18),GW302.out,GE302.out,NB0_302.out,NB302_0.out,NB291_302.out,NB302_291.out,NB292_302.out,NB302_292.out,(zsx4_19),(zsx4_20),(zsx4_21)⟩)
    ·skip
     refine box_step ?hg (N:=5) ?hd (cs:=#[.slice none 0 0,.slice none 0 0]) (t:=89) ?hr ?_;(case hd=>rfl);(case hg=>rfl);(case hr=>exact zsx4_26)
     intro gb302 hg w75 hbox hb
     have n0_:=aM4 (IsS61.below (zsx4_11) hb)
     have n1_:=aM4 (blk_below (g:=gb291) (o:=.cells #[.int .i64 a1_0,.int .i64 a1_1,.int .i64 a1_2] 84 (0,0)) (zsx4_4) hb)
     have n2_:=aM4 (blk_below (g:=gb292) (o:=.cells #[.slice none 0 0,.slice none 0 0] 89 (0,0)) (zsx4_9) hb)
     have n3_:=aM4 (kT4 (zsx4_10) (kB4 hb g none) (.inl rfl))
     have n4_:=aM4 (below_step (zsx4_12) hb)
     have n5_:=aM4 (hbox)
     have n6_:=aM4 ((zsx4_36:w.heap.size≤gb302))
     have n7_:=aM4 ((Nat.le_trans HW0.out (zsx4_36:w.heap.size≤gb302):w0.heap.size≤gb302))
     have n8_:=aM4 ((zsx4_32:gb291≠gb302))
     have n9_:=aM4 ((zsx4_33:gb302≠gb291))
     have n10_:=aM4 ((zsx4_37:gb292≠gb302))
     have n11_:=aM4 ((zsx4_38:gb302≠gb292))
     have n12_:=aM4 ((zsx4_39:g≠gb302))
     have n13_:=aM4 ((zsx4_40:gb302≠g))
     clear HI0 BK291 BK292 HK HB
     have HI0:=n0_
     have BK291:=n1_
     have BK292:=n2_
     have HK:=n3_
     have HB:=n4_
     have BK302:=n5_
     have GW302:=n6_
     have GE302:=n7_
     have NB291_302:=n8_
     have NB302_291:=n9_
     have NB292_302:=n10_
     have NB302_292:=n11_
     have NB0_302:=n12_
     have NB302_0:=n13_
     clear n0_ n1_ n2_ n3_ n4_ n5_ n6_ n7_ n8_ n9_ n10_ n11_ n12_ n13_ hb hbox hg
     refine hK.out _ _ ⟨(bC4 BK291.out 0).trans rfl,(bC4 BK291.out 1).trans rfl,(bC4 BK291.out 2).trans rfl⟩ (fun hHeld=>?_)
     clear hK K
     refine norm_ (a':=?_) ?_ ?_
     rotate_left
     ·show Act.put _ (some 5) _=_
      simp only [Act.put,uA4,uB4,uC4,i64_w,i32_w]
      rfl
     refine one_ (i:=4) (N:=some 12) #[true,true,true,true,true,true,false] rfl rfl (zsx4_7) (by decide) (fun K hK=>?_)
     refine goes_ Try.func97 (zsx4_7) rfl #[.agg #[.int .i64 a1_0,.int .i64 a1_1,.int .i64 a1_2],.int .i64 (wrap64 (1 + t293))] (by rfl) rfl rfl (zsx4_8) ?_
     with_reducible refine (spec_slUniform.calls k a1_0 a1_1 a1_2 (wrap64 (1 + t293)) t296 t299 _ A4.out).mono ?_
     rintro e w76 ⟨v297,v300,rfl,ho0,ho1,hb⟩
     refine ⟨_,rfl,?_⟩
     have n0_:=aM4 (Kd.R_lower (Kd.R_newM (M:=fun k_=>(w.heap.size≤k_)) (Kd.R_mono (ok':=fun k_=>True) ho0 (fun _ hk_=>trivial)) (keep_size (w:=w) (g:=g) (row:=none) (zsx4_20)) (fun k_ h_=>h_)) (keep_size (w:=w) (g:=g) (row:=none) (zsx4_20)))
     have n1_:=aM4 (Kd.N_lower (Kd.N_mono (ok':=fun k_=>(w.heap.size≤k_)∧some k_≠(v297:Value).ownBlock∧k_≠gb291∧k_≠gb292∧k_≠gb302∧k_≠g) ho1 (fun k_ hk_=>⟨(Nat.le_trans (keep_size (w:=w) (g:=g) (row:=none) (zsx4_20)) hk_.1),hk_.2,(Kd.freshB (g:=gb291) (o:=.cells #[.int .i64 a1_0,.int .i64 a1_1,.int .i64 a1_2] 84 (0,0)) (zsx4_4) k_ hk_.1),(Kd.freshB (g:=gb292) (o:=.cells #[.slice none 0 0,.slice none 0 0] 89 (0,0)) (zsx4_9) k_ hk_.1),(Kd.freshB (g:=gb302) (o:=.cells #[.slice none 0 0,.slice none 0 0] 89 (0,0)) (zsx4_18) k_ hk_.1),(IsS61.fresh (zsx4_19) k_ hk_.1)⟩)) (keep_size (w:=w) (g:=g) (row:=none) (zsx4_20)))
     have n2_:=aM4 (IsS61.below (zsx4_19) hb)
     have n3_:=aM4 (blk_below (g:=gb291) (o:=.cells #[.int .i64 a1_0,.int .i64 a1_1,.int .i64 a1_2] 84 (0,0)) (zsx4_4) hb)
     have n4_:=aM4 (blk_below (g:=gb292) (o:=.cells #[.slice none 0 0,.slice none 0 0] 89 (0,0)) (zsx4_9) hb)
     have n5_:=aM4 (blk_below (g:=gb302) (o:=.cells #[.slice none 0 0,.slice none 0 0] 89 (0,0)) (zsx4_18) hb)
     have n6_:=aM4 (kT4 (zsx4_20) (kB4 hb g none) (.inl rfl))
     have n7_:=aM4 (below_step (zsx4_21) hb)
     clear HI0 BK291 BK292 BK302 HK HB
     have HO298:=n0_
     have HO301:=n1_
     have HI0:=n2_
     have BK291:=n3_
     have BK292:=n4_
     have BK302:=n5_
     have HK:=n6_
     have HB:=n7_
     clear n0_ n1_ n2_ n3_ n4_ n5_ n6_ n7_
     (try clear hb)
     (try clear hb2)
     (try clear hk)
     (try clear hi)
     (try clear ho0)
     (try clear ho1)
     refine hK.out _ _ ⟨(bC4 BK291.out 0).trans rfl,(bC4 BK291.out 1).trans rfl,(bC4 BK291.out 2).trans rfl⟩ (fun hHeld=>?_)
     clear hK K
     refine norm_ (a':=?_) ?_ ?_
     rotate_left
     ·show Act.put _ (some 12) _=_
      simp only [Act.put,uA4,uB4,uC4,i64_w,i32_w]
      rfl
     exact norm_ (zsx4_15) (hCont (v297,v300,gb302) _ ⟨hHeld,(zsx4_16),(zsx4_22),(zsx4_4),(zsx4_9),(zsx4_18),GW302.out,GE302.out,NB0_302.out,NB302_0.out,NB291_302.out,NB302_291.out,NB292_302.out,NB302_292.out,(zsx4_19),(zsx4_20),(zsx4_21)⟩)
   ·skip
    refine box_step ?hg (N:=5) ?hd (cs:=#[.slice none 0 0,.slice none 0 0]) (t:=89) ?hr ?_;(case hd=>rfl);(case hg=>rfl);(case hr=>exact zsx4_26)
    intro gb302 hg w74 hbox hb
    have n0_:=aM4 (IsS61.below (zsx4_11) hb)
    have n1_:=aM4 (blk_below (g:=gb291) (o:=.cells #[.int .i64 a1_0,.int .i64 a1_1,.int .i64 a1_2] 84 (0,0)) (zsx4_4) hb)
    have n2_:=aM4 (blk_below (g:=gb292) (o:=.cells #[.slice none 0 0,.slice none 0 0] 89 (0,0)) (zsx4_9) hb)
    have n3_:=aM4 (kT4 (zsx4_10) (kB4 hb g none) (.inl rfl))
    have n4_:=aM4 (below_step (zsx4_12) hb)
    have n5_:=aM4 (hbox)
    have n6_:=aM4 ((zsx4_36:w.heap.size≤gb302))
    have n7_:=aM4 ((Nat.le_trans HW0.out (zsx4_36:w.heap.size≤gb302):w0.heap.size≤gb302))
    have n8_:=aM4 ((zsx4_32:gb291≠gb302))
    have n9_:=aM4 ((zsx4_33:gb302≠gb291))
    have n10_:=aM4 ((zsx4_37:gb292≠gb302))
    have n11_:=aM4 ((zsx4_38:gb302≠gb292))
    have n12_:=aM4 ((zsx4_41:g≠gb302))
    have n13_:=aM4 ((zsx4_42:gb302≠g))
    clear HI0 BK291 BK292 HK HB
    have HI0:=n0_
    have BK291:=n1_
    have BK292:=n2_
    have HK:=n3_
    have HB:=n4_
    have BK302:=n5_
    have GW302:=n6_
    have GE302:=n7_
    have NB291_302:=n8_
    have NB302_291:=n9_
    have NB292_302:=n10_
    have NB302_292:=n11_
    have NB0_302:=n12_
    have NB302_0:=n13_
    clear n0_ n1_ n2_ n3_ n4_ n5_ n6_ n7_ n8_ n9_ n10_ n11_ n12_ n13_ hb hbox hg
    refine hK.out _ _ ⟨(bC4 BK291.out 0).trans rfl,(bC4 BK291.out 1).trans rfl,(bC4 BK291.out 2).trans rfl⟩ (fun hHeld=>?_)
    clear hK K
    refine norm_ (a':=?_) ?_ ?_
    rotate_left
    ·show Act.put _ (some 5) _=_
     simp only [Act.put,uA4,uB4,uC4,i64_w,i32_w]
     rfl
    refine one_ (i:=2) (N:=some 10) #[true,true,true,false,false,true,false] rfl rfl (zsx4_7) (by decide) (fun K hK=>?_)
    refine goes_ Try.func53 (zsx4_7) rfl #[.pointer (some ⟨g,0,none⟩),.int .i64 4] (by rfl) rfl rfl (zsx4_8) ?_
    with_reducible refine (spec_l1Cur_pick.calls g s0_0 s0_1 s0_2 4 t293 t294 t295 w0 _ ?side1 ?side2 A3.out).mono ?_
    (case side1=>exact zsx4_19)
    (case side2=>exact zsx4_21)
    rintro e w75 ⟨rfl,hi,hb,hk⟩
    refine ⟨_,rfl,?_⟩
    have n0_:=aM4 (KeepBut.blk hk (g':=gb291) (o:=.cells #[.int .i64 a1_0,.int .i64 a1_1,.int .i64 a1_2] 84 (0,0)) (zsx4_4) NB291_0.out (by simp))
    have n1_:=aM4 (KeepBut.blk hk (g':=gb292) (o:=.cells #[.slice none 0 0,.slice none 0 0] 89 (0,0)) (zsx4_9) NB292_0.out (by simp))
    have n2_:=aM4 (KeepBut.blk hk (g':=gb302) (o:=.cells #[.slice none 0 0,.slice none 0 0] 89 (0,0)) (zsx4_18) NB302_0.out (by simp))
    have n3_:=aM4 (kT4 (zsx4_20) hk (.inl rfl))
    have n4_:=aM4 (hb)
    have n5_:=aM4 (hi)
    clear BK291 BK292 BK302 HK HB HI0
    have BK291:=n0_
    have BK292:=n1_
    have BK302:=n2_
    have HK:=n3_
    have HB:=n4_
    have HI0:=n5_
    clear n0_ n1_ n2_ n3_ n4_ n5_
    (try clear hb)
    (try clear hb2)
    (try clear hk)
    (try clear hi)
    refine hK.out _ _ ⟨(bC4 BK291.out 0).trans rfl,(bC4 BK291.out 1).trans rfl,(bC4 BK291.out 2).trans rfl⟩ (fun hHeld=>?_)
    clear hK K
    refine norm_ (a':=?_) ?_ ?_
    rotate_left
    ·show Act.put _ (some 10) _=_
     simp only [Act.put,uA4,uB4,uC4,i64_w,i32_w]
     rfl
    refine pure_ (i:=3) (N:=some 11) (v:=?_) (a':=?_) #[true,true,true,true,false,true,false] rfl rfl (zsx4_7) (fun _ _ _ h=>h) (Or.inl ⟨by rfl,?_⟩) ?_ ?_
    rotate_left
    ·intro w'
     go_simp
     with_reducible rfl
    rotate_left
    ·simp only [Act.put,uA4,uB4,uC4,i64_w,i32_w]
     rfl
    refine one_ (i:=4) (N:=some 12) #[true,true,true,true,true,true,false] rfl rfl (zsx4_7) (by decide) (fun K hK=>?_)
    refine goes_ Try.func97 (zsx4_7) rfl #[.agg #[.int .i64 a1_0,.int .i64 a1_1,.int .i64 a1_2],.int .i64 (wrap64 (1 + t293))] (by rfl) rfl rfl (zsx4_8) ?_
    with_reducible refine (spec_slUniform.calls k a1_0 a1_1 a1_2 (wrap64 (1 + t293)) t296 t299 _ A4.out).mono ?_
    rintro e w76 ⟨v297,v300,rfl,ho0,ho1,hb⟩
    refine ⟨_,rfl,?_⟩
    have n0_:=aM4 (Kd.R_lower (Kd.R_newM (M:=fun k_=>(w.heap.size≤k_)) (Kd.R_mono (ok':=fun k_=>True) ho0 (fun _ hk_=>trivial)) (keep_size (w:=w) (g:=g) (row:=none) (zsx4_20)) (fun k_ h_=>h_)) (keep_size (w:=w) (g:=g) (row:=none) (zsx4_20)))
    have n1_:=aM4 (Kd.N_lower (Kd.N_mono (ok':=fun k_=>(w.heap.size≤k_)∧some k_≠(v297:Value).ownBlock∧k_≠gb291∧k_≠gb292∧k_≠gb302∧k_≠g) ho1 (fun k_ hk_=>⟨(Nat.le_trans (keep_size (w:=w) (g:=g) (row:=none) (zsx4_20)) hk_.1),hk_.2,(Kd.freshB (g:=gb291) (o:=.cells #[.int .i64 a1_0,.int .i64 a1_1,.int .i64 a1_2] 84 (0,0)) (zsx4_4) k_ hk_.1),(Kd.freshB (g:=gb292) (o:=.cells #[.slice none 0 0,.slice none 0 0] 89 (0,0)) (zsx4_9) k_ hk_.1),(Kd.freshB (g:=gb302) (o:=.cells #[.slice none 0 0,.slice none 0 0] 89 (0,0)) (zsx4_18) k_ hk_.1),(IsS61.fresh (zsx4_19) k_ hk_.1)⟩)) (keep_size (w:=w) (g:=g) (row:=none) (zsx4_20)))
    have n2_:=aM4 (IsS61.below (zsx4_19) hb)
    have n3_:=aM4 (blk_below (g:=gb291) (o:=.cells #[.int .i64 a1_0,.int .i64 a1_1,.int .i64 a1_2] 84 (0,0)) (zsx4_4) hb)
    have n4_:=aM4 (blk_below (g:=gb292) (o:=.cells #[.slice none 0 0,.slice none 0 0] 89 (0,0)) (zsx4_9) hb)
    have n5_:=aM4 (blk_below (g:=gb302) (o:=.cells #[.slice none 0 0,.slice none 0 0] 89 (0,0)) (zsx4_18) hb)
    have n6_:=aM4 (kT4 (zsx4_20) (kB4 hb g none) (.inl rfl))
    have n7_:=aM4 (below_step (zsx4_21) hb)
    clear HI0 BK291 BK292 BK302 HK HB
    have HO298:=n0_
    have HO301:=n1_
    have HI0:=n2_
    have BK291:=n3_
    have BK292:=n4_
    have BK302:=n5_
    have HK:=n6_
    have HB:=n7_
    clear n0_ n1_ n2_ n3_ n4_ n5_ n6_ n7_
    (try clear hb)
    (try clear hb2)
    (try clear hk)
    (try clear hi)
    (try clear ho0)
    (try clear ho1)
    refine hK.out _ _ ⟨(bC4 BK291.out 0).trans rfl,(bC4 BK291.out 1).trans rfl,(bC4 BK291.out 2).trans rfl⟩ (fun hHeld=>?_)
    clear hK K
    refine norm_ (a':=?_) ?_ ?_
    rotate_left
    ·show Act.put _ (some 12) _=_
     simp only [Act.put,uA4,uB4,uC4,i64_w,i32_w]
     rfl
    exact norm_ (zsx4_15) (hCont (v297,v300,gb302) _ ⟨hHeld,(zsx4_16),(zsx4_22),(zsx4_4),(zsx4_9),(zsx4_18),GW302.out,GE302.out,NB0_302.out,NB302_0.out,NB291_302.out,NB302_291.out,NB292_302.out,NB302_292.out,(zsx4_19),(zsx4_20),(zsx4_21)⟩)
  rintro ⟨v297,v300,gb302⟩ w77 ⟨hS_,h0_,h1_,h2_,h3_,h4_,h5_,h6_,h7_,h8_,h9_,h10_,h11_,h12_,h13_,h14_,h15_⟩
  have n0_:Aside0 (Kd.R (Kd.int .i64) 3 w77 w.heap.size (fun k_=>(w.heap.size≤k_)) v297 t296):=⟨h0_⟩
  have n1_:Aside0 (Kd.N (Kd.slice 96 k96) 94 w77 w.heap.size (fun k_=>(w.heap.size≤k_)∧some k_≠(v297:Value).ownBlock∧k_≠g∧k_≠gb291∧k_≠gb292∧k_≠gb302) v300 t299):=⟨h1_⟩
  have n2_:Aside0 (w77.heap[gb291]?=some (.cells #[.int .i64 a1_0,.int .i64 a1_1,.int .i64 a1_2] 84 (0,0))):=⟨h2_⟩
  have n3_:Aside0 (w77.heap[gb292]?=some (.cells #[.slice none 0 0,.slice none 0 0] 89 (0,0))):=⟨h3_⟩
  have n4_:Aside0 (w77.heap[gb302]?=some (.cells #[.slice none 0 0,.slice none 0 0] 89 (0,0))):=⟨h4_⟩
  have n5_:Aside0 (w.heap.size≤gb302):=⟨h5_⟩
  have n6_:Aside0 (w0.heap.size≤gb302):=⟨h6_⟩
  have n7_:Aside0 (g≠gb302):=⟨h7_⟩
  have n8_:Aside0 (gb302≠g):=⟨h8_⟩
  have n9_:Aside0 (gb291≠gb302):=⟨h9_⟩
  have n10_:Aside0 (gb302≠gb291):=⟨h10_⟩
  have n11_:Aside0 (gb292≠gb302):=⟨h11_⟩
  have n12_:Aside0 (gb302≠gb292):=⟨h12_⟩
  have n13_:Aside0 (IsS61 w0 w77 g s0_0 t294 t295):=⟨h13_⟩
  have n14_:Aside0 (KeepBut w w77 g none):=⟨h14_⟩
  have n15_:Aside0 (Below w0.heap.size w0 w77):=⟨h15_⟩
  clear BK291 BK292 HI0 HK HB h0_ h1_ h2_ h3_ h4_ h5_ h6_ h7_ h8_ h9_ h10_ h11_ h12_ h13_ h14_ h15_
  have HO298:=n0_
  have HO301:=n1_
  have BK291:=n2_
  have BK292:=n3_
  have BK302:=n4_
  have GW302:=n5_
  have GE302:=n6_
  have NB0_302:=n7_
  have NB302_0:=n8_
  have NB291_302:=n9_
  have NB302_291:=n10_
  have NB292_302:=n11_
  have NB302_292:=n12_
  have HI0:=n13_
  have HK:=n14_
  have HB:=n15_
  clear n0_ n1_ n2_ n3_ n4_ n5_ n6_ n7_ n8_ n9_ n10_ n11_ n12_ n13_ n14_ n15_
  have hHeld:w77.cell? ⟨gb291,0,none⟩=some (.int .i64 a1_0)∧w77.cell? ⟨gb291,1,none⟩=some (.int .i64 a1_1)∧w77.cell? ⟨gb291,2,none⟩=some (.int .i64 a1_2):=hS_
  obtain ⟨Ao78,co78,eo78⟩:=Kd.R_slice HO298.out
  (first|subst eo78|(injection eo78 with f1_ f2_ f3_;have f4_:=f1_.symm;have f5_:=f3_.symm;clear f1_ f2_ f3_;subst f4_;subst f5_))
  obtain ⟨Ao80,co80,eo80⟩:=Kd.N_slice HO301.out
  (first|subst eo80|(injection eo80 with f1_ f2_ f3_;have f4_:=f1_.symm;have f5_:=f3_.symm;clear f1_ f2_ f3_;subst f4_;subst f5_))
  refine norm_ (a':=?_) ?_ ?_
  rotate_left
  ·simp only [putAll,Act.put,uA4,uB4,uC4]
   rfl
  refine one_ (i:=6) (N:=none) #[true,true,true,true,true,true,true] rfl rfl (zsx4_7) (by decide) (fun K hK=>?_)
  have hs79:w77.cell? ⟨gb302,0,none⟩=some (.slice none 0 0):=(bC4 BK302.out 0).trans rfl
  have hfs79:=blk_frozen BK302.out 0
  have hns79_0:=NB291_302.out
  have hns79_1:=NB292_302.out
  have hms79_0:=NB302_291.out
  have hms79_1:=NB302_292.out
  have hs81:w77.cell? ⟨gb302,1,none⟩=some (.slice none 0 0):=(bC4 BK302.out 1).trans rfl
  have hfs81:=blk_frozen BK302.out 1
  have hns81_0:=NB291_302.out
  have hns81_1:=NB292_302.out
  have hms81_0:=NB302_291.out
  have hms81_1:=NB302_292.out
  refine skip_ (w1:=?_) (by rfl) rfl ?_ ?_
  rotate_left
  ·go_simp
   rfl
  refine hK.out _ _ ⟨((cell_far (p:=⟨gb302,_,none⟩) NB291_302.out _).trans (((cell_far (p:=⟨gb302,_,none⟩) NB291_302.out _).trans (hHeld.1)))),((cell_far (p:=⟨gb302,_,none⟩) NB291_302.out _).trans (((cell_far (p:=⟨gb302,_,none⟩) NB291_302.out _).trans (hHeld.2.1)))),((cell_far (p:=⟨gb302,_,none⟩) NB291_302.out _).trans (((cell_far (p:=⟨gb302,_,none⟩) NB291_302.out _).trans (hHeld.2.2))))⟩ (fun hHeld=>?_)
  clear hK K
  refine done_ (zsx4_7) ?_
  try go_wp2_with (first|((with_reducible refine gate_callee (f:=86) rfl ?_);refine goesL_ (some 14) rfl rfl Try.func86 (zsx4_7) rfl #[.pointer (some ⟨g,0,none⟩),.int .i64 3] rfl (zsx4_8) ?_;(with_reducible refine (spec_l1Cur_one.calls g s0_0 t294 t295 3 false t304 t305 w0 _ ?side1 ?side2 A5.out).mono ?_);(case side1=>exact zsx4_19);(case side2=>exact zsx4_21);rintro e w82 ⟨rfl,hi,hb,hk⟩;refine ⟨_,rfl,?_⟩;have n0_:=aM4 (KeepBut.blk hk (g':=gb291) (o:=.cells #[.int .i64 a1_0,.int .i64 a1_1,.int .i64 a1_2] 84 (0,0)) (zsx4_23) NB291_0.out (by simp));have n1_:=aM4 (KeepBut.blk hk (g':=gb292) (o:=.cells #[.slice none 0 0,.slice none 0 0] 89 (0,0)) (zsx4_24) NB292_0.out (by simp));have n2_:=aM4 (Kd.R_mono (Kd.R_keep (IsS61.apart (show IsS61 w0 _ g s0_0 t294 t295 from zsx4_19) (by (with_reducible repeat (first|apply Kd.R_alloc|apply Kd.R_drewN|apply Kd.R_drew));exact (Kd.R_mono (Kd.R_far (p:=⟨gb302,1,none⟩) (Kd.R_far (p:=⟨gb302,0,none⟩) (Kd.R_types HO298.out BK302.out (by decide)) (fun _ hk=>hk.2) (.slice Ao78 t296.length co78)) (fun _ hk=>hk.2) (.slice Ao80 t299.length co80)) (fun _ h_=>h_.1))) (by decide)) hk (fun _ h=>h.2)) (fun _ h=>h.1));have n3_:=aM4 (Kd.N_mono (Kd.N_keep (Kd.N_mono (ok:=fun k_=>(((w.heap.size≤k_))∧(some k_≠(.slice Ao78 t296.length co78:Value).ownBlock∧(k_≠g∧(k_≠gb291∧(k_≠gb292∧k_≠gb302)))))) (by (with_reducible repeat (first|apply Kd.N_alloc|apply Kd.N_drewN|apply Kd.N_drew));exact (Kd.N_mono (Kd.N_far (p:=⟨gb302,1,none⟩) (Kd.N_far (p:=⟨gb302,0,none⟩) (Kd.N_mono HO301.out (fun k_ hk=>(⟨hk,hk.2.2.2.2.2⟩:_∧k_≠gb302))) (fun _ hk=>hk.2) (.slice Ao78 t296.length co78)) (fun _ hk=>hk.2) (.slice Ao80 t299.length co80)) (fun _ h_=>h_.1))) (fun k_ hk_=>(⟨hk_,hk_.2.2.1⟩:_∧k_≠g))) hk (fun _ h=>h.2)) (fun _ h=>h.1));have n4_:=aM4 (KeepBut.blk hk (g':=gb302) (o:=.cells #[.slice Ao78 t296.length co78,.slice Ao80 t299.length co80] 89 (0,0)) (by (with_reducible repeat (first|refine blk_drewN ?_ _|refine blk_drew ?_|refine blk_alloc ?_ _));refine blk_put (cs:=#[.slice Ao78 t296.length co78,.slice none 0 0]) ?_ 1 _ rfl;(with_reducible repeat (first|refine blk_drewN ?_ _|refine blk_drew ?_|refine blk_alloc ?_ _));refine blk_put (cs:=#[.slice none 0 0,.slice none 0 0]) ?_ 0 _ rfl;(with_reducible repeat (first|refine blk_drewN ?_ _|refine blk_drew ?_|refine blk_alloc ?_ _));exact BK302.out) NB302_0.out (by simp));have n5_:=aM4 (kT4 (zsx4_20) hk (.inl rfl));have n6_:=aM4 (hb);have n7_:=aM4 (hi);clear BK291 BK292 HO298 HO301 BK302 HK HB HI0;have BK291:=n0_;have BK292:=n1_;have HO298:=n2_;have HO301:=n3_;have BK302:=n4_;have HK:=n5_;have HB:=n6_;have HI0:=n7_;clear n0_ n1_ n2_ n3_ n4_ n5_ n6_ n7_;(try clear hb);(try clear hb2);(try clear hk);(try clear hi);have hnb83:=NB302_291.out;have hnc83:=NB291_302.out;have hnb84:=NB302_292.out;have hnc84:=NB292_302.out;have hnb85:=NB302_0.out;have hnc85:=NB0_302.out;have hcz86_0:w82.cell? ⟨gb302,0,none⟩=some (.slice Ao78 t296.length co78):=(bC4 BK302.out 0).trans rfl;have hcz86_1:w82.cell? ⟨gb302,1,none⟩=some (.slice Ao80 t299.length co80):=(bC4 BK302.out 1).trans rfl;have hfz86_0:=blk_frozen BK302.out 0;have hfz86_1:=blk_frozen BK302.out 1;have hnb87:=NB292_291.out;have hnc87:=NB291_292.out;have hnb88:=NB292_0.out;have hnc88:=NB0_292.out;have hcz89_0:w82.cell? ⟨gb292,0,none⟩=some (.slice none 0 0):=(bC4 BK292.out 0).trans rfl;have hcz89_1:w82.cell? ⟨gb292,1,none⟩=some (.slice none 0 0):=(bC4 BK292.out 1).trans rfl;have hfz89_0:=blk_frozen BK292.out 0;have hfz89_1:=blk_frozen BK292.out 1))
  refine bodyPost_ret (results_cell_row rfl _ _ gb292 89 #[.slice Ao78 t296.length co78,.slice Ao80 t299.length co80] (0,0) _ rfl (by (with_reducible repeat (first|refine blk_drewN ?_ _|refine blk_drew ?_|refine blk_alloc ?_ _));refine blk_put (cs:=#[.slice Ao78 t296.length co78,.slice none 0 0]) ?_ 1 _ rfl;(with_reducible repeat (first|refine blk_drewN ?_ _|refine blk_drew ?_|refine blk_alloc ?_ _));refine blk_put (cs:=#[.slice none 0 0,.slice none 0 0]) ?_ 0 _ rfl;(with_reducible repeat (first|refine blk_drewN ?_ _|refine blk_drew ?_|refine blk_alloc ?_ _));exact BK292.out) Try.underlying89 rfl (zsx4_7)) rfl ?_
  exact ⟨_,_,zsx4_25,by (with_reducible repeat (first|apply Kd.R_alloc|apply Kd.R_drewN|apply Kd.R_drew));exact Kd.R_mono (Kd.R_far (p:=⟨gb292,1,none⟩) (Kd.R_far (p:=⟨gb292,0,none⟩) (Kd.R_types HO298.out BK292.out (by decide)) (fun _ hk=>hk.2) (.slice Ao78 t296.length co78)) (fun _ hk=>hk.2) (.slice Ao80 t299.length co80)) (fun _ hk=>hk.1),by (with_reducible repeat (first|apply Kd.N_alloc|apply Kd.N_drewN|apply Kd.N_drew));exact Kd.N_mono (Kd.N_far (p:=⟨gb292,1,none⟩) (Kd.N_far (p:=⟨gb292,0,none⟩) (Kd.N_mono HO301.out (fun k_ hk=>(⟨hk,hk.2.2.2.2.1⟩:_∧k_≠gb292))) (fun _ hk=>hk.2) (.slice Ao78 t296.length co78)) (fun _ hk=>hk.2) (.slice Ao80 t299.length co80)) (fun _ hk=>⟨hk.1.1,hk.1.2.1⟩),zsx4_19,zsx4_21,zsx4_20⟩
end Go.Proofs.Ytbhlffakpneecaa.PFnCones
end
