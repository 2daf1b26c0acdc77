/- Texts that print.sh has printed for the law FnCones,one function each,put together in one file: contracts of its functions. -/
import Derived.Test.YtbhlffakpneecaaTMFnConesx0
import Derived.Test.YtbhlffakpneecaaTMFnConesx4
import Derived.Test.YtbhlffakpneecaaTMFnConesx1
section
namespace Go.Proofs.Ytbhlffakpneecaa.PFnCones
open Go.RowKit Go.Proofs.YtbhlffakpneecaaW.PrintWords Go.Proofs.YtbhlffakpneecaaW.PrintLast Go.Proofs.YtbhlffakpneecaaW.PrintMore
attribute [local go_sem] max2_int min2_int max_two min_two max_three min_three max_four min_four   -- for this text's walks alone
set_option linter.unusedVariables false
set_option linter.unusedSimpArgs false
theorem aM5:type_of% @Aside0.mk:=@Aside0.mk
theorem uA5:type_of% @List.setIfInBounds_toArray.{0}:=@List.setIfInBounds_toArray.{0}
theorem uB5:type_of% @List.set_cons_zero.{0}:=@List.set_cons_zero.{0}
theorem uC5:type_of% @List.set_cons_succ.{0}:=@List.set_cons_succ.{0}
theorem oD5:type_of% @of_decide_eq_true:=@of_decide_eq_true
theorem dT5:type_of% @decide_eq_true:=@decide_eq_true
theorem bI5:type_of% @Option.bind_eq_some_iff.{0,0}:=@Option.bind_eq_some_iff.{0,0}
theorem kT5:type_of% @KeepBut.trans:=@KeepBut.trans
theorem zsx5_0 {P:Prop} (h:P:=by kernel_rfl):P:=h
theorem zsx5_1 {P:Prop} (h:P:=by (try simp only [List.map_toArray,List.map_cons,List.map_nil]);first|done|rfl|(simp only [List.length_drop,List.length_take];rfl)):P:=h
theorem zsx5_2 {P:Prop} (h:P:=by repeat (first|(with_reducible first|exact HK.out|apply KeepBut.set_|apply keep_drewN|apply keep_drew|apply keep_alloc)|exact HK.out)):P:=h
theorem zsx5_3 {P:Prop} (h:P:=by first|rfl|(simp;done)|(simp [*];done)):P:=h
theorem zsx5_4 {P:Prop} (h:P:=by repeat (first|(with_reducible first|exact HI0.out|apply IsS61.alloc|apply IsS61.drewN|apply IsS61.drew|apply IsS61.set_1|apply IsS61.set_2)|exact HI0.out)):P:=h
theorem zsx5_5 {P:Prop} (h:P:=by repeat (first|(with_reducible first|exact HB.out|apply below_alloc|apply pw_below_drewN|apply below_drew1|refine below_set ?_ (IsS61.ge HI0.out))|exact HB.out)):P:=h
theorem zsx5_6 {P:Prop} (h:P:=by (with_reducible repeat (first|apply Kd.S_alloc|apply Kd.S_drewN|apply Kd.S_drew));exact HO_3.out):P:=h
theorem zsx5_7 {P:Prop} (h:P:=by (with_reducible repeat (first|apply Kd.R_alloc|apply Kd.R_drewN|apply Kd.R_drew));exact HO_6.out):P:=h
theorem zsx5_8 {P:Prop} (h:P:=by first|rfl|(simp [errW_none,errW_some] <;> rfl)|(simp [*,errW_none,errW_some] <;> rfl)):P:=h
theorem zsx5_9 {P:Prop} (h:P:=by repeat (first|(with_reducible first|exact HI0.out|apply IsS61.alloc|apply IsS61.drewN|apply IsS61.drew|apply IsS61.set_1|apply IsS61.set_2|refine IsS61.far ?_ NB0_345.out _)|exact HI0.out)):P:=h
theorem zsx5_10 {P:Prop} (h:P:=by repeat (first|(with_reducible first|exact HK.out|apply KeepBut.set_|apply keep_drewN|apply keep_drew|apply keep_alloc|refine keep_far ?_ GW345.out _)|exact HK.out)):P:=h
theorem zsx5_11 {P:Prop} (h:P:=by repeat (first|(with_reducible first|exact HB.out|apply below_alloc|apply pw_below_drewN|apply below_drew1|refine below_set ?_ (IsS61.ge HI0.out)|refine below_set ?_ GE345.out)|exact HB.out)):P:=h
theorem zsx5_12 {P:Prop} (h:P:=by (with_reducible repeat (first|refine blk_drewN ?_ _|refine blk_drew ?_|refine blk_alloc ?_ _));exact BK345.out):P:=h
theorem zsx5_13 {P:Prop} (h:P:=by first|exact Kd.R_nil _ _ _ _ _|exact Kd.N_nil _ _ _ _ _|exact Kd.V_nil _ _ _ _ _|exact Kd.Q_nil _ _ _ _ _|exact Kd.S_nil _ _ _ _ _):P:=h
theorem zsx5_14 {P:Prop} (h:P:=by (with_reducible repeat (first|apply Kd.N_alloc|apply Kd.N_drewN|apply Kd.N_drew));exact HO_4.out):P:=h
theorem zsx5_15 {P:Prop} (h:P:=by (with_reducible repeat (first|apply Kd.R_alloc|apply Kd.R_drewN|apply Kd.R_drew));exact HO_5.out):P:=h
theorem zsx5_16 {P:Prop} (h:P:=by (with_reducible repeat (first|apply Kd.N_alloc|apply Kd.N_drewN|apply Kd.N_drew));exact Kd.N_mono HO_4.out (fun _ hk=>⟨⟨hk.1.1,⟨hk.2,hk.1.2.2⟩⟩,hk.1.2.1⟩)):P:=h
theorem zsx5_17 {P:Prop} (h:P:=by have:=HK1.out;omega):P:=h
theorem zsx5_18 {P:Prop} (h:P:=by first|(with_reducible assumption)|assumption):P:=h
theorem zsx5_19 {P:Prop} (h:P:=by (with_reducible repeat (first|apply Kd.R_alloc|apply Kd.R_drewN|apply Kd.R_drew));exact HO588.out):P:=h
theorem zsx5_20 {P:Prop} (h:P:=by repeat (first|exact Drawn0.refl _|apply Drawn0.step)):P:=h
theorem zsx5_21 {P:Prop} (h:P:=by repeat (first|(with_reducible first|exact HB.out|apply below_alloc|apply pw_below_drewN|apply below_drew1)|exact HB.out)):P:=h
theorem zsx5_22 {P:Prop} (h:P:=by (with_reducible repeat (first|apply Kd.R_alloc|apply Kd.R_drewN|apply Kd.R_drew));exact HO_3.out):P:=h
theorem zsx5_23 {P:Prop} (h:P:=by first|(go_simp;done)|(go_simp;rfl)):P:=h
theorem zsx5_24 {P:Prop} (h:P:=by repeat (first|exact HR543_0.out|(with_reducible refine Kd.C_alloc ?_ _)|(with_reducible refine Kd.C_drewN ?_ _)|(with_reducible refine Kd.C_drew ?_))):P:=h
theorem zsx5_25 {P:Prop} (h:P:=by repeat (first|exact HR544_0.out|(with_reducible refine Kd.C_alloc ?_ _)|(with_reducible refine Kd.C_drewN ?_ _)|(with_reducible refine Kd.C_drew ?_))):P:=h
theorem zsx5_26 {P:Prop} (h:P:=by repeat (first|exact HR378_0.out|(with_reducible refine Kd.C_alloc ?_ _)|(with_reducible refine Kd.C_drewN ?_ _)|(with_reducible refine Kd.C_drew ?_))):P:=h
mutual
def spec_l1Cur_arcs.j0:Nat→List (List Int)→Int→List Int→Int→Int→Option ((List (List Int)) × Int × Int)
 | 0,_,_,_,_,_=>none
 | k + 1,x3,x4,x1000,x1001,x1002=>spec_l1Cur_arcs.l0 k x3 x4 0 x1000 x1001 x1002
def spec_l1Cur_arcs.l0:Nat→List (List Int)→Int→Int→List Int→Int→Int→Option ((List (List Int)) × Int × Int)
 | 0,_,_,_,_,_,_=>none
 | k + 1,x3,x4,x5,x1000,x1001,x1002=>if x5 < x4 then (spec_l1Cur_arcs.l1 k x3 x4 x5 ([]:List Int) 0 x1000 x1001 x1002) else (some (x3,x1001,x1002))
def spec_l1Cur_arcs.l1:Nat→List (List Int)→Int→Int→List Int→Int→List Int→Int→Int→Option ((List (List Int)) × Int × Int)
 | 0,_,_,_,_,_,_,_,_=>none
 | k + 1,x3,x4,x5,x6,x7,x1000,x1001,x1002=>if x7 < x5 then ((spec_l1Cur_one.f x1000 x1001 x1002 4).bind fun bt331=>(if bt331.1=true then (if x6.length < 17592186044416 then (spec_l1Cur_arcs.l1 k x3 x4 x5 (x6 ++ [x7]) (wrap64 (x7 + 1)) x1000 bt331.2.1 bt331.2.2) else (none)) else (spec_l1Cur_arcs.l1 k x3 x4 x5 x6 (wrap64 (x7 + 1)) x1000 bt331.2.1 bt331.2.2))) else (if x3.length < 5864062014805 then (spec_l1Cur_arcs.l0 k (x3 ++ [x6]) x4 (wrap64 (x5 + 1)) x1000 x1001 x1002) else (none))
end
def spec_l1Cur_arcs.f (k:Nat) (s0_0:List Int) (s0_1:Int) (s0_2:Int):Option ((List (List Int)) × Int × Int):=(spec_l1Cur_one.f s0_0 s0_1 s0_2 3).bind fun bt319=>(if bt319.1=true then ((spec_l1Cur_pick.f s0_0 bt319.2.1 bt319.2.2 14).bind fun bt322=>((spec_l1Cur_one.f s0_0 bt322.2.1 bt322.2.2 16).bind fun bt325=>(if bt325.1=true then ((spec_l1Cur_pick.f s0_0 bt325.2.1 bt325.2.2 2).bind fun bt328=>(spec_l1Cur_arcs.j0 k ([]:List (List Int)) (wrap64 (20 + bt328.1)) s0_0 bt328.2.1 bt328.2.2)) else (spec_l1Cur_arcs.j0 k ([]:List (List Int)) (wrap64 (1 + bt322.1)) s0_0 bt325.2.1 bt325.2.2)))) else ((spec_l1Cur_grid.f s0_0 bt319.2.1 bt319.2.2).bind fun bt340=>((spec_l1Cur_slopes.f k s0_0 bt340.2.2.2.1 bt340.2.2.2.2 bt340.1 bt340.2.1 bt340.2.2.1).bind fun bt346=>((spec_slArcs.f k bt340.1 bt340.2.1 bt340.2.2.1 bt346.1 bt346.2.1).bind fun t354=>(some (t354,bt346.2.2.1,bt346.2.2.2))))))
set_option maxHeartbeats 8000000 in
set_option maxRecDepth 100000 in
theorem spec_l1Cur_arcs.callsS (k:Nat) (g:Nat) (s0_0:List Int) (s0_1:Int) (s0_2:Int) (r1:List (List Int)) (r2:Int) (r3:Int) (w0 w:World) (hI:IsS61 w0 w g s0_0 s0_1 s0_2) (hB:Below w0.heap.size w0 w) (h:spec_l1Cur_arcs.f k s0_0 s0_1 s0_2=some (r1,r2,r3)) :
  Calls Try.prog 87 #[.pointer (some ⟨g,0,none⟩)] w fun e w'=>∃ v0_:Value,e=.returned (v0_)∧Kd.S (Kd.slice 3 (Kd.int .i64)) 33 w' w.heap.size (fun k_=>(w.heap.size≤k_)) v0_ r1∧IsS61 w0 w' g s0_0 r2 r3∧Below w0.heap.size w0 w'∧KeepBut w w' g none:=by
 have hu84:=Try.underlying84
 have HI0:=aM5 hI
 have HK:=aM5 (KeepBut.refl w g none)
 have HL:=aM5 hB.size
 clear hI
 have HW0:=aM5 hB.size
 have HB:=aM5 hB
 clear hB
 have H:((spec_l1Cur_one.f s0_0 s0_1 s0_2 3).bind fun bt319=>(if bt319.1=true then ((spec_l1Cur_pick.f s0_0 bt319.2.1 bt319.2.2 14).bind fun bt322=>((spec_l1Cur_one.f s0_0 bt322.2.1 bt322.2.2 16).bind fun bt325=>(if bt325.1=true then ((spec_l1Cur_pick.f s0_0 bt325.2.1 bt325.2.2 2).bind fun bt328=>(spec_l1Cur_arcs.j0 k ([]:List (List Int)) (wrap64 (20 + bt328.1)) s0_0 bt328.2.1 bt328.2.2)) else (spec_l1Cur_arcs.j0 k ([]:List (List Int)) (wrap64 (1 + bt322.1)) s0_0 bt325.2.1 bt325.2.2)))) else ((spec_l1Cur_grid.f s0_0 bt319.2.1 bt319.2.2).bind fun bt340=>((spec_l1Cur_slopes.f k s0_0 bt340.2.2.2.1 bt340.2.2.2.2 bt340.1 bt340.2.1 bt340.2.2.1).bind fun bt346=>((spec_slArcs.f k bt340.1 bt340.2.1 bt340.2.2.1 bt346.1 bt346.2.1).bind fun t354=>(some (t354,bt346.2.2.1,bt346.2.2.2)))))))=some (r1,r2,r3):=h
 clear h
 replace H:=bI5.mp H
 obtain ⟨⟨t319,t320,t321⟩,A20,H⟩:=H
 replace H:(if t319=true then ((spec_l1Cur_pick.f s0_0 t320 t321 14).bind fun bt322=>((spec_l1Cur_one.f s0_0 bt322.2.1 bt322.2.2 16).bind fun bt325=>(if bt325.1=true then ((spec_l1Cur_pick.f s0_0 bt325.2.1 bt325.2.2 2).bind fun bt328=>(spec_l1Cur_arcs.j0 k ([]:List (List Int)) (wrap64 (20 + bt328.1)) s0_0 bt328.2.1 bt328.2.2)) else (spec_l1Cur_arcs.j0 k ([]:List (List Int)) (wrap64 (1 + bt322.1)) s0_0 bt325.2.1 bt325.2.2)))) else ((spec_l1Cur_grid.f s0_0 t320 t321).bind fun bt340=>((spec_l1Cur_slopes.f k s0_0 bt340.2.2.2.1 bt340.2.2.2.2 bt340.1 bt340.2.1 bt340.2.2.1).bind fun bt346=>((spec_slArcs.f k bt340.1 bt340.2.1 bt340.2.2.1 bt346.1 bt346.2.1).bind fun t354=>(some (t354,bt346.2.2.1,bt346.2.2.2))))))=some (r1,r2,r3):=H
 have A2:=aM5 A20
 clear A20
 by_cases c3:t319=true
 ·subst c3
  have H1:((spec_l1Cur_pick.f s0_0 t320 t321 14).bind fun bt322=>((spec_l1Cur_one.f s0_0 bt322.2.1 bt322.2.2 16).bind fun bt325=>(if bt325.1=true then ((spec_l1Cur_pick.f s0_0 bt325.2.1 bt325.2.2 2).bind fun bt328=>(spec_l1Cur_arcs.j0 k ([]:List (List Int)) (wrap64 (20 + bt328.1)) s0_0 bt328.2.1 bt328.2.2)) else (spec_l1Cur_arcs.j0 k ([]:List (List Int)) (wrap64 (1 + bt322.1)) s0_0 bt325.2.1 bt325.2.2))))=some (r1,r2,r3):=by rw [if_pos rfl] at H;exact H
  clear H
  have H:=H1
  clear H1
  replace H:=bI5.mp H
  obtain ⟨⟨t322,t323,t324⟩,A40,H⟩:=H
  replace H:((spec_l1Cur_one.f s0_0 t323 t324 16).bind fun bt325=>(if bt325.1=true then ((spec_l1Cur_pick.f s0_0 bt325.2.1 bt325.2.2 2).bind fun bt328=>(spec_l1Cur_arcs.j0 k ([]:List (List Int)) (wrap64 (20 + bt328.1)) s0_0 bt328.2.1 bt328.2.2)) else (spec_l1Cur_arcs.j0 k ([]:List (List Int)) (wrap64 (1 + t322)) s0_0 bt325.2.1 bt325.2.2)))=some (r1,r2,r3):=H
  have A4:=aM5 A40
  clear A40
  replace H:=bI5.mp H
  obtain ⟨⟨t325,t326,t327⟩,A50,H⟩:=H
  replace H:(if t325=true then ((spec_l1Cur_pick.f s0_0 t326 t327 2).bind fun bt328=>(spec_l1Cur_arcs.j0 k ([]:List (List Int)) (wrap64 (20 + bt328.1)) s0_0 bt328.2.1 bt328.2.2)) else (spec_l1Cur_arcs.j0 k ([]:List (List Int)) (wrap64 (1 + t322)) s0_0 t326 t327))=some (r1,r2,r3):=H
  have A5:=aM5 A50
  clear A50
  have HC6:=aM5 H
  clear H
  go_enter Try.func87,Try.ntmps87
  go_upto_if 15 with (first|((with_reducible refine gate_callee (f:=86) rfl ?_);refine goesL_ (some 10) rfl rfl Try.func86 (zsx5_0) rfl #[.pointer (some ⟨g,0,none⟩),.int .i64 3] rfl (zsx5_1) ?_;(with_reducible refine (spec_l1Cur_one.calls g s0_0 s0_1 s0_2 3 true t320 t321 w0 _ ?side1 ?side2 A2.out).mono ?_);(case side1=>exact zsx5_4);(case side2=>exact zsx5_5);rintro e w7 ⟨rfl,hi,hb,hk⟩;refine ⟨_,rfl,?_⟩;have n0_:=aM5 (kT5 (zsx5_2) hk (.inl rfl));have n1_:=aM5 (hb);have n2_:=aM5 (hi);clear HK HB HI0;have HK:=n0_;have HB:=n1_;have HI0:=n2_;clear n0_ n1_ n2_;(try clear hb);(try clear hb2);(try clear hk);(try clear hi))|((with_reducible refine gate_callee (f:=53) rfl ?_);refine goesL_ (some 12) rfl rfl Try.func53 (zsx5_0) rfl #[.pointer (some ⟨g,0,none⟩),.int .i64 14] rfl (zsx5_1) ?_;(with_reducible refine (spec_l1Cur_pick.calls g s0_0 t320 t321 14 t322 t323 t324 w0 _ ?side1 ?side2 A4.out).mono ?_);(case side1=>exact zsx5_4);(case side2=>exact zsx5_5);rintro e w8 ⟨rfl,hi,hb,hk⟩;refine ⟨_,rfl,?_⟩;have n0_:=aM5 (kT5 (zsx5_2) hk (.inl rfl));have n1_:=aM5 (hb);have n2_:=aM5 (hi);clear HK HB HI0;have HK:=n0_;have HB:=n1_;have HI0:=n2_;clear n0_ n1_ n2_;(try clear hb);(try clear hb2);(try clear hk);(try clear hi))|((with_reducible refine gate_callee (f:=86) rfl ?_);refine goesL_ (some 15) rfl rfl Try.func86 (zsx5_0) rfl #[.pointer (some ⟨g,0,none⟩),.int .i64 16] rfl (zsx5_1) ?_;(with_reducible refine (spec_l1Cur_one.calls g s0_0 t323 t324 16 t325 t326 t327 w0 _ ?side1 ?side2 A5.out).mono ?_);(case side1=>exact zsx5_4);(case side2=>exact zsx5_5);rintro e w9 ⟨rfl,hi,hb,hk⟩;refine ⟨_,rfl,?_⟩;have n0_:=aM5 (kT5 (zsx5_2) hk (.inl rfl));have n1_:=aM5 (hb);have n2_:=aM5 (hi);clear HK HB HI0;have HK:=n0_;have HB:=n1_;have HI0:=n2_;clear n0_ n1_ n2_;(try clear hb);(try clear hb2);(try clear hk);(try clear hi)))
  (try simp only [Act.put,uA5,uB5,uC5])
  go_cut [4] (fun v4 wc=>∃ (kq:Nat) (x4_5:Int) (x1001_5:Int) (x1002_5:Int),v4=.int .i64 x4_5∧Aside0 (spec_l1Cur_arcs.j0 kq ([]:List (List Int)) x4_5 s0_0 x1001_5 x1002_5=some (r1,r2,r3))∧Aside0 (kq≤k)∧Aside0 (Kd.S (Kd.slice 3 (Kd.int .i64)) 33 wc w.heap.size (fun k_=>(w.heap.size≤k_)∧k_≠g) (.slice none 0 0) ([]:List (List Int)))∧Aside0 (IsS61 w0 wc g s0_0 x1001_5 x1002_5)∧Aside0 (KeepBut w wc g none)∧Aside0 (Below w0.heap.size w0 wc))
  case first =>
   have H:=HC6.out
   clear HC6
   by_cases c10:t325=true
   ·subst c10
    have H1:((spec_l1Cur_pick.f s0_0 t326 t327 2).bind fun bt328=>(spec_l1Cur_arcs.j0 k ([]:List (List Int)) (wrap64 (20 + bt328.1)) s0_0 bt328.2.1 bt328.2.2))=some (r1,r2,r3):=by rw [if_pos rfl] at H;exact H
    clear H
    have H:=H1
    clear H1
    replace H:=bI5.mp H
    obtain ⟨⟨t328,t329,t330⟩,A110,H⟩:=H
    replace H:(spec_l1Cur_arcs.j0 k ([]:List (List Int)) (wrap64 (20 + t328)) s0_0 t329 t330)=some (r1,r2,r3):=H
    have A11:=aM5 A110
    clear A110
    have H':=aM5 H
    clear H
    go_wp2_with (first|((with_reducible refine gate_callee (f:=53) rfl ?_);refine goesL_ (some 17) rfl rfl Try.func53 (zsx5_0) rfl #[.pointer (some ⟨g,0,none⟩),.int .i64 2] rfl (zsx5_1) ?_;(with_reducible refine (spec_l1Cur_pick.calls g s0_0 t326 t327 2 t328 t329 t330 w0 _ ?side1 ?side2 A11.out).mono ?_);(case side1=>exact zsx5_4);(case side2=>exact zsx5_5);rintro e w12 ⟨rfl,hi,hb,hk⟩;refine ⟨_,rfl,?_⟩;have n0_:=aM5 (kT5 (zsx5_2) hk (.inl rfl));have n1_:=aM5 (hb);have n2_:=aM5 (hi);clear HK HB HI0;have HK:=n0_;have HB:=n1_;have HI0:=n2_;clear n0_ n1_ n2_;(try clear hb);(try clear hb2);(try clear hk);(try clear hi)))
    go_meet
    case rel=>exact ⟨_,(wrap64 (20 + t328)),(t329),(t330),(zsx5_3),H',⟨by first|omega|exact Nat.le_refl _⟩,⟨by first|exact Kd.S_nil _ _ _ _ _|exact Kd.V_nil _ _ _ _ _|exact Kd.Q_nil _ _ _ _ _|exact Kd.R_nil _ _ _ _ _⟩,⟨zsx5_4⟩,⟨zsx5_2⟩,⟨zsx5_5⟩⟩
   ·replace c10:=Bool.eq_false_iff.mpr c10
    subst c10
    have H1:(spec_l1Cur_arcs.j0 k ([]:List (List Int)) (wrap64 (1 + t322)) s0_0 t326 t327)=some (r1,r2,r3):=by rw [if_neg (show ¬ (false=true) by decide)] at H;exact H
    clear H
    have H:=H1
    clear H1
    have H':=aM5 H
    clear H
    go_wp2
    go_meet
    case rel=>exact ⟨_,(wrap64 (1 + t322)),(t326),(t327),(zsx5_3),H',⟨by first|omega|exact Nat.le_refl _⟩,⟨by first|exact Kd.S_nil _ _ _ _ _|exact Kd.V_nil _ _ _ _ _|exact Kd.Q_nil _ _ _ _ _|exact Kd.R_nil _ _ _ _ _⟩,⟨zsx5_4⟩,⟨zsx5_2⟩,⟨zsx5_5⟩⟩
  case rest =>
   clear HC6
   try clear c1
   try clear p2
   try clear c3
   try clear c5
   try clear p6
   try clear c8
   try clear c10
   obtain ⟨kq,x4_5,x1001_5,x1002_5,rfl,HA,HJ5,HO_3,HI0,HK,HB⟩:=hcut
   cases kq with
   | zero=>exact absurd HA.out (by simp [spec_l1Cur_arcs.j0])
   | succ kj5 =>
    have H:=HA.out
    clear HA
    simp only [spec_l1Cur_arcs.j0] at H
    have H':=aM5 H
    clear H
    go_wp2
    go_loopg [3,5] kj5 (fun kq v3 v5 w'=>∃ (x3_2:List (List Int)) (x5_2:Int) (x1001_2:Int) (x1002_2:Int),v5=.int .i64 x5_2∧Aside0 (spec_l1Cur_arcs.l0 kq x3_2 x4_5 x5_2 s0_0 x1001_2 x1002_2=some (r1,r2,r3))∧Aside0 (kq≤kj5)∧Aside0 (Kd.S (Kd.slice 3 (Kd.int .i64)) 33 w' w.heap.size (fun k_=>(w.heap.size≤k_)∧k_≠g) v3 x3_2)∧Aside0 (IsS61 w0 w' g s0_0 x1001_2 x1002_2)∧Aside0 (KeepBut w w' g none)∧Aside0 (Below w0.heap.size w0 w'))
    case atStart=>exact ⟨(([]:List (List Int))),(0),(x1001_5),(x1002_5),(zsx5_3),H',⟨Nat.le_refl _⟩,⟨zsx5_6⟩,⟨zsx5_4⟩,⟨zsx5_2⟩,⟨zsx5_5⟩⟩
    case round =>
     clear H'
     try clear c1
     try clear p2
     try clear c3
     try clear c5
     try clear p6
     try clear c8
     try clear c10
     try clear p2
     try clear p6
     obtain ⟨x3_2,x5_2,x1001_2,x1002_2,rfl,HA,HK2,HO_3,HI0,HK,HB⟩:=hrel
     cases gk with
     | zero=>exact absurd HA.out (by simp [spec_l1Cur_arcs.l0])
     | succ k2 =>
      have H:=HA.out
      clear HA
      simp only [spec_l1Cur_arcs.l0] at H
      by_cases c13:x5_2 < x4_5
      ·rw [if_pos c13] at H
       have c13b0:decide (x5_2 < x4_5)=true:=dT5 c13
       clear c13
       have H':=aM5 H
       clear H
       go_wp2
       go_loopg [6,7] k2 (fun kq v6 v7 w'=>∃ (x6_3:List Int) (x7_3:Int) (x1001_3:Int) (x1002_3:Int),v7=.int .i64 x7_3∧Aside0 (spec_l1Cur_arcs.l1 kq x3_2 x4_5 x5_2 x6_3 x7_3 s0_0 x1001_3 x1002_3=some (r1,r2,r3))∧Aside0 (kq≤k2)∧Aside0 (Kd.S (Kd.slice 3 (Kd.int .i64)) 33 w' w.heap.size (fun k_=>(w.heap.size≤k_)∧some k_≠(v6:Value).ownBlock∧k_≠g) u3 x3_2)∧Aside0 (Kd.R (Kd.int .i64) 3 w' w.heap.size (fun k_=>(w.heap.size≤k_)) v6 x6_3)∧Aside0 (IsS61 w0 w' g s0_0 x1001_3 x1002_3)∧Aside0 (KeepBut w w' g none)∧Aside0 (Below w0.heap.size w0 w'))
       case atStart=>exact ⟨(([]:List Int)),(0),(x1001_2),(x1002_2),(zsx5_3),H',⟨Nat.le_refl _⟩,⟨by (with_reducible repeat (first|apply Kd.S_alloc|apply Kd.S_drewN|apply Kd.S_drew));exact Kd.S_mono HO_3.out (fun _ hk=>⟨hk.1,⟨(by simp [Value.ownBlock]),hk.2⟩⟩)⟩,⟨by first|exact Kd.R_nil _ _ _ _ _|exact Kd.S_nil _ _ _ _ _|exact Kd.V_nil _ _ _ _ _|exact Kd.Q_nil _ _ _ _ _|exact Kd.S_nil _ _ _ _ _⟩,⟨zsx5_4⟩,⟨zsx5_2⟩,⟨zsx5_5⟩⟩
       case round =>
        clear H'
        try clear c1
        try clear p2
        try clear c3
        try clear c5
        try clear p6
        try clear c8
        try clear c10
        try clear c13
        try clear c13b0
        try clear p2
        try clear p6
        obtain ⟨x6_3,x7_3,x1001_3,x1002_3,rfl,HA,HK3,HO_3,HO_6,HI0,HK,HB⟩:=hrel
        cases gk with
        | zero=>exact absurd HA.out (by simp [spec_l1Cur_arcs.l1])
        | succ k3 =>
         have H:=HA.out
         clear HA
         simp only [spec_l1Cur_arcs.l1] at H
         by_cases c14:x7_3 < x5_2
         ·rw [if_pos c14] at H
          have c14b0:decide (x7_3 < x5_2)=true:=dT5 c14
          clear c14
          replace H:=bI5.mp H
          obtain ⟨⟨t331,t332,t333⟩,A150,H⟩:=H
          replace H:(if t331=true then (if x6_3.length < 17592186044416 then (spec_l1Cur_arcs.l1 k3 x3_2 x4_5 x5_2 (x6_3 ++ [x7_3]) (wrap64 (x7_3 + 1)) s0_0 t332 t333) else (none)) else (spec_l1Cur_arcs.l1 k3 x3_2 x4_5 x5_2 x6_3 (wrap64 (x7_3 + 1)) s0_0 t332 t333))=some (r1,r2,r3):=H
          have A15:=aM5 A150
          clear A150
          by_cases c16:t331=true
          ·subst c16
           have H1:(if x6_3.length < 17592186044416 then (spec_l1Cur_arcs.l1 k3 x3_2 x4_5 x5_2 (x6_3 ++ [x7_3]) (wrap64 (x7_3 + 1)) s0_0 t332 t333) else (none))=some (r1,r2,r3):=by rw [if_pos rfl] at H;exact H
           clear H
           have H:=H1
           clear H1
           by_cases c17:x6_3.length < 17592186044416
           ·rw [if_pos c17] at H
            have LMc17:=aM5 c17
            clear c17
            obtain ⟨y334,hy334⟩:∃ y_:List Int,y_=(x6_3 ++ [x7_3]):=⟨_,rfl⟩
            replace H:(spec_l1Cur_arcs.l1 k3 x3_2 x4_5 x5_2 y334 (wrap64 (x7_3 + 1)) s0_0 t332 t333)=some (r1,r2,r3):=by first|(rw [hy334];with_reducible exact H)|(have H2_:=(Option.bind_some _ _).symm.trans H;rw [hy334];with_reducible exact H2_)|(have H2_:=(Option.bind_some _ _).symm.trans H;with_reducible exact H2_)|with_reducible exact H|(rw [hy334];exact H)|exact H
            have Ny334:=aM5 hy334
            clear hy334
            have H':=aM5 H
            clear H
            go_wp2_with (first|((with_reducible refine gate_callee (f:=86) rfl ?_);refine goesL_ (some 30) rfl rfl Try.func86 (zsx5_0) rfl #[.pointer (some ⟨g,0,none⟩),.int .i64 4] rfl (zsx5_1) ?_;(with_reducible refine (spec_l1Cur_one.calls g s0_0 x1001_3 x1002_3 4 true t332 t333 w0 _ ?side1 ?side2 A15.out).mono ?_);(case side1=>exact zsx5_4);(case side2=>exact zsx5_5);rintro e w18 ⟨rfl,hi,hb,hk⟩;refine ⟨_,rfl,?_⟩;have n0_:=aM5 (Kd.S_mono (Kd.S_keep (Kd.S_mono (ok:=fun k_=>(((w.heap.size≤k_))∧(some k_≠(u6:Value).ownBlock∧k_≠g))) (zsx5_6) (fun k_ hk_=>(⟨hk_,hk_.2.2⟩:_∧k_≠g))) hk (fun _ h=>h.2)) (fun _ h=>h.1));have n1_:=aM5 (Kd.R_mono (Kd.R_keep (IsS61.apart (show IsS61 w0 _ g s0_0 x1001_3 x1002_3 from zsx5_4) (zsx5_7) (by decide)) hk (fun _ h=>h.2)) (fun _ h=>h.1));have n2_:=aM5 (kT5 (zsx5_2) hk (.inl rfl));have n3_:=aM5 (hb);have n4_:=aM5 (hi);clear HO_3 HO_6 HK HB HI0;have HO_3:=n0_;have HO_6:=n1_;have HK:=n2_;have HB:=n3_;have HI0:=n4_;clear n0_ n1_ n2_ n3_ n4_;(try clear hb);(try clear hb2);(try clear hk);(try clear hi))|((with_reducible refine gate_builtin (b:=.append) (xs:=#[.tmp 31,.tmp 33]) rfl ?_);at_builtin;refine Kd.R_append (Kd.int .i64) w.heap.size rfl (.tmp 31) (.tmp 33) 33 3 (.int .i64 0) 8 rfl Try.underlying33 info3 rfl (by decide) (by omega) u6 x6_3 x7_3 [.int .i64 x7_3] (fun k_=>(w.heap.size≤k_)) (fun _=>False) rfl rfl ?aP (fun _ hk=>hk.elim) ?aF ?aO (Below.refl _ _) ?aS ?aL ?_;(case aP=>exact rfl);(case aF=>exact (fun k_ hk=>(Nat.le_trans (keep_size (w:=w) (g:=g) (row:=none) (zsx5_2)) hk)));(case aO=>exact (zsx5_7));(case aS=>exact (keep_size (w:=w) (g:=g) (row:=none) (zsx5_2)));(case aL=>have:=LMc17.out;omega);intro v335 w19 ho hb hg hat;rw [← Ny334.out] at ho;have n0_:=aM5 (Kd.S_after (ok:=(fun k_=>(w.heap.size≤k_)∧k_≠g)) (by (with_reducible repeat (first|apply Kd.S_alloc|apply Kd.S_drewN|apply Kd.S_drew));exact Kd.S_mono HO_3.out (fun _ hk=>⟨⟨hk.1,hk.2.2⟩,hk.2.1⟩)) hg hat);have n1_:=aM5 (IsS61.grown (zsx5_4) hg (IsS61.own_ne HI0.out HO_6.out (by decide)));have n2_:=aM5 (below_weaken (zsx5_5) HL.out hb);have n3_:=aM5 (kT5 (zsx5_2) (KeepBut.of_grown hg g) (Kd.R_base2 HO_6.out));have n4_:=aM5 (ho);clear HO_3 HI0 HB HK HO_6;have HO_3:=n0_;have HI0:=n1_;have HB:=n2_;have HK:=n3_;have HO336:=n4_;clear n0_ n1_ n2_ n3_ n4_ ho hb hg hat))
            go_roundg k3
            case measure=>have:=HJ5.out;have:=HK2.out;have:=HK3.out;omega
            case rel=>exact ⟨(y334),(wrap64 (x7_3 + 1)),(t332),(t333),(zsx5_3),H',⟨by have:=HJ5.out;have:=HK2.out;have:=HK3.out;omega⟩,⟨by (with_reducible repeat (first|apply Kd.S_alloc|apply Kd.S_drewN|apply Kd.S_drew));exact Kd.S_mono HO_3.out (fun _ hk=>⟨hk.1.1,⟨hk.2,hk.1.2⟩⟩)⟩,⟨by (with_reducible repeat (first|apply Kd.R_alloc|apply Kd.R_drewN|apply Kd.R_drew));exact HO336.out⟩,⟨zsx5_4⟩,⟨zsx5_2⟩,⟨zsx5_5⟩⟩
           ·rw [if_neg c17] at H
            exact absurd H (by simp)
          ·replace c16:=Bool.eq_false_iff.mpr c16
           subst c16
           have H1:(spec_l1Cur_arcs.l1 k3 x3_2 x4_5 x5_2 x6_3 (wrap64 (x7_3 + 1)) s0_0 t332 t333)=some (r1,r2,r3):=by rw [if_neg (show ¬ (false=true) by decide)] at H;exact H
           clear H
           have H:=H1
           clear H1
           have H':=aM5 H
           clear H
           go_wp2_with (first|((with_reducible refine gate_callee (f:=86) rfl ?_);refine goesL_ (some 30) rfl rfl Try.func86 (zsx5_0) rfl #[.pointer (some ⟨g,0,none⟩),.int .i64 4] rfl (zsx5_1) ?_;(with_reducible refine (spec_l1Cur_one.calls g s0_0 x1001_3 x1002_3 4 false t332 t333 w0 _ ?side1 ?side2 A15.out).mono ?_);(case side1=>exact zsx5_4);(case side2=>exact zsx5_5);rintro e w20 ⟨rfl,hi,hb,hk⟩;refine ⟨_,rfl,?_⟩;have n0_:=aM5 (Kd.S_mono (Kd.S_keep (Kd.S_mono (ok:=fun k_=>(((w.heap.size≤k_))∧(some k_≠(u6:Value).ownBlock∧k_≠g))) (zsx5_6) (fun k_ hk_=>(⟨hk_,hk_.2.2⟩:_∧k_≠g))) hk (fun _ h=>h.2)) (fun _ h=>h.1));have n1_:=aM5 (Kd.R_mono (Kd.R_keep (IsS61.apart (show IsS61 w0 _ g s0_0 x1001_3 x1002_3 from zsx5_4) (zsx5_7) (by decide)) hk (fun _ h=>h.2)) (fun _ h=>h.1));have n2_:=aM5 (kT5 (zsx5_2) hk (.inl rfl));have n3_:=aM5 (hb);have n4_:=aM5 (hi);clear HO_3 HO_6 HK HB HI0;have HO_3:=n0_;have HO_6:=n1_;have HK:=n2_;have HB:=n3_;have HI0:=n4_;clear n0_ n1_ n2_ n3_ n4_;(try clear hb);(try clear hb2);(try clear hk);(try clear hi)))
           go_roundg k3
           case measure=>have:=HJ5.out;have:=HK2.out;have:=HK3.out;omega
           case rel=>exact ⟨(x6_3),(wrap64 (x7_3 + 1)),(t332),(t333),(zsx5_3),H',⟨by have:=HJ5.out;have:=HK2.out;have:=HK3.out;omega⟩,⟨zsx5_6⟩,⟨zsx5_7⟩,⟨zsx5_4⟩,⟨zsx5_2⟩,⟨zsx5_5⟩⟩
         ·rw [if_neg c14] at H
          have c14b0:decide (x7_3 < x5_2)=false:=decide_eq_false c14
          clear c14
          by_cases c21:x3_2.length < 5864062014805
          ·rw [if_pos c21] at H
           have LMc21:=aM5 c21
           clear c21
           obtain ⟨y337,hy337⟩:∃ y_:List (List Int),y_=(x3_2 ++ [x6_3]):=⟨_,rfl⟩
           replace H:(spec_l1Cur_arcs.l0 k3 y337 x4_5 (wrap64 (x5_2 + 1)) s0_0 x1001_3 x1002_3)=some (r1,r2,r3):=by first|(rw [hy337];with_reducible exact H)|(have H2_:=(Option.bind_some _ _).symm.trans H;rw [hy337];with_reducible exact H2_)|(have H2_:=(Option.bind_some _ _).symm.trans H;with_reducible exact H2_)|with_reducible exact H|(rw [hy337];exact H)|exact H
           have Ny337:=aM5 hy337
           clear hy337
           have H':=aM5 H
           clear H
           obtain ⟨Ao23,co23,eo23⟩:=Kd.R_slice HO_6.out
           subst eo23
           go_wp2_with (first|((with_reducible refine gate_builtin (b:=.append) (xs:=#[.tmp 35,.tmp 37]) rfl ?_);at_builtin;refine Kd.S_append (Kd.slice 3 (Kd.int .i64)) w.heap.size rfl (.tmp 35) (.tmp 37) 22 33 (.slice none 0 0) 24 rfl Try.underlying22 info33 rfl (by decide) (by omega) u3 x3_2 x6_3 [.slice Ao23 x6_3.length co23] (fun k_=>(w.heap.size≤k_)∧k_≠g) (fun k_=>some k_=(.slice Ao23 x6_3.length co23:Value).ownBlock) rfl rfl ?aP (fun k_ hk_=>(Kd.R_mono (ok':=(fun k_=>((fun k_=>(w.heap.size≤k_)∧k_≠g)) k_∧some k_≠(u3:Value).ownBlock)) (IsS61.apart HI0.out (Kd.R_apart' (HO_6.out) (Kd.S_typed HO_3.out) (by decide)) (by decide)) (fun k_ hk=>⟨⟨hk.1.1,hk.2⟩,hk.1.2⟩)).1 k_ hk_.symm) ?aF ?aO (Below.refl _ _) ?aS ?aL ?_;(case aP=>exact Kd.M_row (Kd.R_mono (Kd.R_tight rfl (Kd.R_mono (ok':=(fun k_=>((fun k_=>(w.heap.size≤k_)∧k_≠g)) k_∧some k_≠(u3:Value).ownBlock)) (IsS61.apart HI0.out (Kd.R_apart' (HO_6.out) (Kd.S_typed HO_3.out) (by decide)) (by decide)) (fun k_ hk=>⟨⟨hk.1.1,hk.2⟩,hk.1.2⟩))) (fun _ h_=>h_)));(case aF=>exact (fun k_ hk=>⟨(Nat.le_trans (keep_size (w:=w) (g:=g) (row:=none) (zsx5_2)) hk),IsS61.fresh (zsx5_4) k_ hk⟩));(case aO=>exact (by (with_reducible repeat (first|apply Kd.S_alloc|apply Kd.S_drewN|apply Kd.S_drew));exact Kd.S_mono HO_3.out (fun k_ hk=>⟨⟨hk.1,hk.2.2⟩,fun e_=>hk.2.1 e_⟩)));(case aS=>exact (keep_size (w:=w) (g:=g) (row:=none) (zsx5_2)));(case aL=>have:=LMc21.out;omega);intro v338 w22 ho hb hg hat;rw [← Ny337.out] at ho;have n0_:=aM5 (IsS61.grown (zsx5_4) hg (IsS61.own_neN HI0.out (Kd.S_N HO_3.out) (by decide)));have n1_:=aM5 (below_weaken (zsx5_5) HL.out hb);have n2_:=aM5 (kT5 (zsx5_2) (KeepBut.of_grown hg g) (Kd.S_base2 HO_3.out));have n3_:=aM5 (ho);clear HI0 HB HK HO_3 HO_6;have HI0:=n0_;have HB:=n1_;have HK:=n2_;have HO339:=n3_;clear n0_ n1_ n2_ n3_ ho hb hg hat))
           go_roundg k3
           case measure=>have:=HJ5.out;have:=HK2.out;have:=HK3.out;omega
           case rel=>exact ⟨(y337),(wrap64 (x5_2 + 1)),(x1001_3),(x1002_3),(zsx5_3),H',⟨by have:=HJ5.out;have:=HK2.out;have:=HK3.out;omega⟩,⟨by (with_reducible repeat (first|apply Kd.S_alloc|apply Kd.S_drewN|apply Kd.S_drew));exact HO339.out⟩,⟨zsx5_4⟩,⟨zsx5_2⟩,⟨zsx5_5⟩⟩
          ·rw [if_neg c21] at H
           exact absurd H (by simp)
      ·rw [if_neg c13] at H
       have c13b0:decide (x5_2 < x4_5)=false:=decide_eq_false c13
       clear c13
       simp only [Option.some.injEq,Prod.mk.injEq] at H
       obtain ⟨rfl,rfl,rfl⟩:=H
       go_wp2
       go_ret
       exact ⟨_,zsx5_8,by (with_reducible repeat (first|apply Kd.S_alloc|apply Kd.S_drewN|apply Kd.S_drew));exact Kd.S_mono HO_3.out (fun _ hk=>hk.1),zsx5_4,zsx5_5,zsx5_2⟩
 ·replace c3:=Bool.eq_false_iff.mpr c3
  subst c3
  have H1:((spec_l1Cur_grid.f s0_0 t320 t321).bind fun bt340=>((spec_l1Cur_slopes.f k s0_0 bt340.2.2.2.1 bt340.2.2.2.2 bt340.1 bt340.2.1 bt340.2.2.1).bind fun bt346=>((spec_slArcs.f k bt340.1 bt340.2.1 bt340.2.2.1 bt346.1 bt346.2.1).bind fun t354=>(some (t354,bt346.2.2.1,bt346.2.2.2)))))=some (r1,r2,r3):=by rw [if_neg (show ¬ (false=true) by decide)] at H;exact H
  clear H
  have H:=H1
  clear H1
  replace H:=bI5.mp H
  obtain ⟨⟨t340,t341,t342,t343,t344⟩,A240,H⟩:=H
  replace H:((spec_l1Cur_slopes.f k s0_0 t343 t344 t340 t341 t342).bind fun bt346=>((spec_slArcs.f k t340 t341 t342 bt346.1 bt346.2.1).bind fun t354=>(some (t354,bt346.2.2.1,bt346.2.2.2))))=some (r1,r2,r3):=H
  have A24:=aM5 A240
  clear A240
  replace H:=bI5.mp H
  obtain ⟨⟨t346,t349,t352,t353⟩,A250,H⟩:=H
  replace H:((spec_slArcs.f k t340 t341 t342 t346 t349).bind fun t354=>(some (t354,t352,t353)))=some (r1,r2,r3):=H
  have A25:=aM5 A250
  clear A250
  replace H:=bI5.mp H
  obtain ⟨t354,A260,H⟩:=H
  replace H:(some (t354,t352,t353))=some (r1,r2,r3):=H
  have A26:=aM5 A260
  clear A260
  simp only [Option.some.injEq,Prod.mk.injEq] at H
  obtain ⟨rfl,rfl,rfl⟩:=H
  go_enter Try.func87,Try.ntmps87
  try go_wp2_with (first|((with_reducible refine gate_callee (f:=86) rfl ?_);refine goesL_ (some 10) rfl rfl Try.func86 (zsx5_0) rfl #[.pointer (some ⟨g,0,none⟩),.int .i64 3] rfl (zsx5_1) ?_;(with_reducible refine (spec_l1Cur_one.calls g s0_0 s0_1 s0_2 3 false t320 t321 w0 _ ?side1 ?side2 A2.out).mono ?_);(case side1=>exact zsx5_4);(case side2=>exact zsx5_5);rintro e w27 ⟨rfl,hi,hb,hk⟩;refine ⟨_,rfl,?_⟩;have n0_:=aM5 (kT5 (zsx5_2) hk (.inl rfl));have n1_:=aM5 (hb);have n2_:=aM5 (hi);clear HK HB HI0;have HK:=n0_;have HB:=n1_;have HI0:=n2_;clear n0_ n1_ n2_;(try clear hb);(try clear hb2);(try clear hk);(try clear hi))|((with_reducible refine gate_callee (f:=89) rfl ?_);refine goesL_ (some 41) rfl rfl Try.func89 (zsx5_0) rfl #[.pointer (some ⟨g,0,none⟩)] rfl (zsx5_1) ?_;(with_reducible refine (spec_l1Cur_grid.calls g s0_0 t320 t321 t340 t341 t342 t343 t344 w0 _ ?side1 ?side2 A24.out).mono ?_);(case side1=>exact zsx5_4);(case side2=>exact zsx5_5);rintro e w28 ⟨rfl,hi,hb,hk⟩;refine ⟨_,rfl,?_⟩;have n0_:=aM5 (kT5 (zsx5_2) hk (.inl rfl));have n1_:=aM5 (hb);have n2_:=aM5 (hi);clear HK HB HI0;have HK:=n0_;have HB:=n1_;have HI0:=n2_;clear n0_ n1_ n2_;(try clear hb);(try clear hb2);(try clear hk);(try clear hi))|((with_reducible refine gate_dst (N:=8) rfl ?_);refine box_event ?hg (N:=8) ?hd (cs:=#[.int .i64 0,.int .i64 0,.int .i64 0]) (t:=84) ?hr ?_;(case hd=>rfl);(case hg=>rfl);(case hr=>exact zsx5_23);intro gb345 hg w29 hbox hb;have n0_:=aM5 (IsS61.below (zsx5_4) hb);have n1_:=aM5 (kT5 (zsx5_2) (KeepBut.of_below hb g none) (.inl rfl));have n2_:=aM5 (below_step (zsx5_5) hb);have n3_:=aM5 (hbox);have n4_:=aM5 ((by rw [hg];exact (keep_size (w:=w) (g:=g) (row:=none) (zsx5_2)):w.heap.size≤gb345));have n5_:=aM5 ((Nat.le_trans HW0.out (by rw [hg];exact (keep_size (w:=w) (g:=g) (row:=none) (zsx5_2)):w.heap.size≤gb345):w0.heap.size≤gb345));have n6_:=aM5 ((by rw [hg];exact Nat.ne_of_lt (IsS61.lt (show IsS61 w0 _ g s0_0 t343 t344 from zsx5_4)):g≠gb345));have n7_:=aM5 ((by rw [hg];exact Nat.ne_of_gt (IsS61.lt (show IsS61 w0 _ g s0_0 t343 t344 from zsx5_4)):gb345≠g));clear HI0 HK HB;have HI0:=n0_;have HK:=n1_;have HB:=n2_;have BK345:=n3_;have GW345:=n4_;have GE345:=n5_;have NB0_345:=n6_;have NB345_0:=n7_;clear n0_ n1_ n2_ n3_ n4_ n5_ n6_ n7_ hb hbox hg;have hnb30:=NB345_0.out;have hnc30:=NB0_345.out;have hcz31_0:w29.cell? ⟨gb345,0,none⟩=some (.int .i64 0):=(blk_cell BK345.out 0).trans rfl;have hcz31_1:w29.cell? ⟨gb345,1,none⟩=some (.int .i64 0):=(blk_cell BK345.out 1).trans rfl;have hcz31_2:w29.cell? ⟨gb345,2,none⟩=some (.int .i64 0):=(blk_cell BK345.out 2).trans rfl;have hfz31_0:=blk_frozen BK345.out 0;have hfz31_1:=blk_frozen BK345.out 1;have hfz31_2:=blk_frozen BK345.out 2))
  have n0_:Aside0 ((((w29.setCell ⟨gb345,0,none⟩ (.int .i64 t340)).setCell ⟨gb345,1,none⟩ (.int .i64 t341)).setCell ⟨gb345,2,none⟩ (.int .i64 t342)).heap[gb345]?=some (.cells #[.int .i64 t340,.int .i64 t341,.int .i64 t342] 84 (0,0))):=⟨by (with_reducible repeat (first|refine blk_drewN ?_ _|refine blk_drew ?_|refine blk_alloc ?_ _));refine blk_put (cs:=#[.int .i64 t340,.int .i64 t341,.int .i64 0]) ?_ 2 _ rfl;(with_reducible repeat (first|refine blk_drewN ?_ _|refine blk_drew ?_|refine blk_alloc ?_ _));refine blk_put (cs:=#[.int .i64 t340,.int .i64 0,.int .i64 0]) ?_ 1 _ rfl;(with_reducible repeat (first|refine blk_drewN ?_ _|refine blk_drew ?_|refine blk_alloc ?_ _));refine blk_put (cs:=#[.int .i64 0,.int .i64 0,.int .i64 0]) ?_ 0 _ rfl;(with_reducible repeat (first|refine blk_drewN ?_ _|refine blk_drew ?_|refine blk_alloc ?_ _));exact BK345.out⟩
  have n1_:Aside0 (IsS61 w0 (((w29.setCell ⟨gb345,0,none⟩ (.int .i64 t340)).setCell ⟨gb345,1,none⟩ (.int .i64 t341)).setCell ⟨gb345,2,none⟩ (.int .i64 t342)) g s0_0 t343 t344):=⟨zsx5_9⟩
  have n2_:Aside0 (KeepBut w (((w29.setCell ⟨gb345,0,none⟩ (.int .i64 t340)).setCell ⟨gb345,1,none⟩ (.int .i64 t341)).setCell ⟨gb345,2,none⟩ (.int .i64 t342)) g none):=⟨zsx5_10⟩
  have n3_:Aside0 (Below w0.heap.size w0 (((w29.setCell ⟨gb345,0,none⟩ (.int .i64 t340)).setCell ⟨gb345,1,none⟩ (.int .i64 t341)).setCell ⟨gb345,2,none⟩ (.int .i64 t342))):=⟨zsx5_11⟩
  (try clear BK345)
  (try clear HI0)
  (try clear HK)
  (try clear HB)
  generalize (((w29.setCell ⟨gb345,0,none⟩ (.int .i64 t340)).setCell ⟨gb345,1,none⟩ (.int .i64 t341)).setCell ⟨gb345,2,none⟩ (.int .i64 t342))=w32 at n0_ n1_ n2_ n3_ ⊢
  have BK345:=n0_
  have HI0:=n1_
  have HK:=n2_
  have HB:=n3_
  clear n0_ n1_ n2_ n3_
  have n0_:=aM5 (blk_drew BK345.out)
  have n1_:=aM5 (IsS61.drew HI0.out)
  have n2_:=aM5 (keep_drew HK.out)
  have n3_:=aM5 (below_drew1 HB.out)
  clear BK345 HI0 HK HB
  have BK345:=n0_
  have HI0:=n1_
  have HK:=n2_
  have HB:=n3_
  clear n0_ n1_ n2_ n3_
  refine start_ (n:=6) (S:=fun w'=>w'.cell? ⟨gb345,0,none⟩=some (.int .i64 t340)∧w'.cell? ⟨gb345,1,none⟩=some (.int .i64 t341)∧w'.cell? ⟨gb345,2,none⟩=some (.int .i64 t342)) (ds:=[]) #[false,false,false,false,false,false] (zsx5_0) rfl rfl ⟨(blk_cell BK345.out 0).trans rfl,(blk_cell BK345.out 1).trans rfl,(blk_cell BK345.out 2).trans rfl⟩ (fun hHeld=>?_)
  generalize w32.drew=w33 at BK345 HI0 HK HB hHeld ⊢
  refine pure_ (i:=1) (N:=some 43) (v:=?_) (a':=?_) #[false,true,false,false,false,false] rfl rfl (zsx5_0) (fun _ _ _ h=>h) (Or.inl ⟨by rfl,?_⟩) ?_ ?_
  rotate_left
  ·intro w'
   go_simp
   with_reducible rfl
  rotate_left
  ·simp only [Act.put,uA5,uB5,uC5,i64_w,i32_w]
   rfl
  refine take_ (i:=0) (N:=some 42) (v:=?_) (a':=?_) #[true,true,false,false,false,false] rfl rfl (zsx5_0) (fun _ _ _ h=>h) (Or.inl ⟨by rfl,?_⟩) hHeld ?_ ?_
  rotate_left
  ·rintro w' ⟨s0,s1,s2⟩
   go_simp
   with_reducible rfl
  rotate_left
  ·simp only [Act.put,uA5,uB5,uC5,i64_w,i32_w]
   rfl
  refine take_ (i:=2) (N:=some 44) (v:=?_) (a':=?_) #[true,true,true,false,false,false] rfl rfl (zsx5_0) (fun _ _ _ h=>h) (Or.inl ⟨by rfl,?_⟩) hHeld ?_ ?_
  rotate_left
  ·rintro w' ⟨s0,s1,s2⟩
   go_simp
   with_reducible rfl
  rotate_left
  ·simp only [Act.put,uA5,uB5,uC5,i64_w,i32_w]
   rfl
  refine one_ (i:=3) (N:=some 45) #[true,true,true,true,false,false] rfl rfl (zsx5_0) (by decide) (fun K hK=>?_)
  refine goes_ Try.func91 (zsx5_0) rfl #[.pointer (some ⟨g,0,none⟩),.agg #[.int .i64 t340,.int .i64 t341,.int .i64 t342]] (by rfl) rfl rfl (zsx5_1) ?_
  with_reducible refine (spec_l1Cur_slopes.calls k g s0_0 t343 t344 t340 t341 t342 t346 t349 t352 t353 w0 _ ?side1 ?side2 A25.out).mono ?_
  (case side1=>exact zsx5_9)
  (case side2=>exact zsx5_11)
  rintro e w34 ⟨v347,v350,rfl,ho0,ho1,hi,hb,hk⟩
  refine ⟨_,rfl,?_⟩
  have n0_:=aM5 (KeepBut.blk hk (g':=gb345) (o:=.cells #[.int .i64 t340,.int .i64 t341,.int .i64 t342] 84 (0,0)) (zsx5_12) NB345_0.out (by simp))
  have n1_:=aM5 (Kd.R_lower (Kd.R_newM (M:=fun k_=>(w.heap.size≤k_)) (Kd.R_mono (ok':=fun k_=>True) ho0 (fun _ hk_=>trivial)) (keep_size (w:=w) (g:=g) (row:=none) (zsx5_10)) (fun k_ h_=>h_)) (keep_size (w:=w) (g:=g) (row:=none) (zsx5_10)))
  have n2_:=aM5 (Kd.N_lower (Kd.N_mono (ok':=fun k_=>(w.heap.size≤k_)∧some k_≠(v347:Value).ownBlock∧k_≠gb345∧k_≠g) ho1 (fun k_ hk_=>⟨(Nat.le_trans (keep_size (w:=w) (g:=g) (row:=none) (zsx5_10)) hk_.1),hk_.2,(Kd.freshB (g:=gb345) (o:=.cells #[.int .i64 t340,.int .i64 t341,.int .i64 t342] 84 (0,0)) (zsx5_12) k_ hk_.1),(IsS61.fresh (zsx5_9) k_ hk_.1)⟩)) (keep_size (w:=w) (g:=g) (row:=none) (zsx5_10)))
  have n3_:=aM5 (kT5 (zsx5_10) hk (.inl rfl))
  have n4_:=aM5 (hb)
  have n5_:=aM5 (hi)
  clear BK345 HK HB HI0
  have BK345:=n0_
  have HO348:=n1_
  have HO351:=n2_
  have HK:=n3_
  have HB:=n4_
  have HI0:=n5_
  clear n0_ n1_ n2_ n3_ n4_ n5_
  (try clear hb)
  (try clear hb2)
  (try clear hk)
  (try clear hi)
  (try clear ho0)
  (try clear ho1)
  obtain ⟨Ao35,co35,eo35⟩:=Kd.R_slice HO348.out
  (first|subst eo35|(injection eo35 with f1_ f2_ f3_;have f4_:=f1_.symm;have f5_:=f3_.symm;clear f1_ f2_ f3_;subst f4_;subst f5_))
  obtain ⟨Ao36,co36,eo36⟩:=Kd.N_slice HO351.out
  (first|subst eo36|(injection eo36 with f1_ f2_ f3_;have f4_:=f1_.symm;have f5_:=f3_.symm;clear f1_ f2_ f3_;subst f4_;subst f5_))
  refine hK.out _ _ ⟨(blk_cell BK345.out 0).trans rfl,(blk_cell BK345.out 1).trans rfl,(blk_cell BK345.out 2).trans rfl⟩ (fun hHeld=>?_)
  clear hK K
  refine norm_ (a':=?_) ?_ ?_
  rotate_left
  ·show Act.put _ (some 45) _=_
   simp only [Act.put,uA5,uB5,uC5,i64_w,i32_w]
   rfl
  refine one_ (i:=4) (N:=some 46) #[true,true,true,true,true,false] rfl rfl (zsx5_0) (by decide) (fun K hK=>?_)
  refine goes_ Try.func90 (zsx5_0) rfl #[.agg #[.int .i64 t340,.int .i64 t341,.int .i64 t342],.agg #[.slice Ao35 t346.length co35,.slice Ao36 t349.length co36]] (by rfl) rfl rfl (zsx5_1) ?_
  with_reducible refine (spec_slArcs.calls k t340 t341 t342 _ _ t346 _ _ t349 t354 _ ?side1 ?side2 ?side3 ?side4 A26.out).mono ?_
  (case side1=>repeat (first|exact (Kd.R_reads' HO348.out).2.2|(with_reducible refine Kd.C_alloc ?_ _)|(with_reducible refine Kd.C_drewN ?_ _)|(with_reducible refine Kd.C_drew ?_)))
  (case side2=>exact (Kd.R_reads' HO348.out).2.1)
  (case side3=>repeat (first|exact (Kd.N_reads' HO351.out).2.2|(with_reducible refine Kd.C_alloc ?_ _)|(with_reducible refine Kd.C_drewN ?_ _)|(with_reducible refine Kd.C_drew ?_)))
  (case side4=>exact (Kd.N_reads' HO351.out).2.1)
  rintro e w37 ⟨v355,rfl,ho0,hb⟩
  refine ⟨_,rfl,?_⟩
  have n0_:=aM5 (Kd.R_below (by (with_reducible repeat (first|apply Kd.R_alloc|apply Kd.R_drewN|apply Kd.R_drew));exact HO348.out) hb)
  have n1_:=aM5 (Kd.N_elder' (by (with_reducible repeat (first|apply Kd.N_alloc|apply Kd.N_drewN|apply Kd.N_drew));exact HO351.out) (Kd.N_base (Kd.S_N ho0)) hb)
  have n2_:=aM5 (Kd.S_lower (Kd.S_mono (ok':=fun k_=>(w.heap.size≤k_)∧some k_≠(.slice Ao35 t346.length co35:Value).ownBlock∧some k_≠(.slice Ao36 t349.length co36:Value).ownBlock∧k_≠gb345∧k_≠g) (Kd.S_bound ho0) (fun k_ hk_=>⟨(Nat.le_trans (keep_size (w:=w) (g:=g) (row:=none) (zsx5_10)) hk_.2.1),(Kd.fresh' (Kd.R_lt (by (with_reducible repeat (first|apply Kd.R_alloc|apply Kd.R_drewN|apply Kd.R_drew));exact HO348.out)) k_ hk_.2.1),(Kd.fresh' (Kd.N_lt (by (with_reducible repeat (first|apply Kd.N_alloc|apply Kd.N_drewN|apply Kd.N_drew));exact HO351.out)) k_ hk_.2.1),(Kd.freshB (g:=gb345) (o:=.cells #[.int .i64 t340,.int .i64 t341,.int .i64 t342] 84 (0,0)) (zsx5_12) k_ hk_.2.1),(IsS61.fresh (zsx5_9) k_ hk_.2.1)⟩)) (keep_size (w:=w) (g:=g) (row:=none) (zsx5_10)))
  have n3_:=aM5 (IsS61.below (zsx5_9) hb)
  have n4_:=aM5 (blk_below (g:=gb345) (o:=.cells #[.int .i64 t340,.int .i64 t341,.int .i64 t342] 84 (0,0)) (zsx5_12) hb)
  have n5_:=aM5 (kT5 (zsx5_10) (KeepBut.of_below hb g none) (.inl rfl))
  have n6_:=aM5 (below_step (zsx5_11) hb)
  clear HO348 HO351 HI0 BK345 HK HB
  have HO348:=n0_
  have HO351:=n1_
  have HO356:=n2_
  have HI0:=n3_
  have BK345:=n4_
  have HK:=n5_
  have HB:=n6_
  clear n0_ n1_ n2_ n3_ n4_ n5_ n6_
  (try clear hb)
  (try clear hb2)
  (try clear hk)
  (try clear hi)
  (try clear ho0)
  refine hK.out _ _ ⟨(blk_cell BK345.out 0).trans rfl,(blk_cell BK345.out 1).trans rfl,(blk_cell BK345.out 2).trans rfl⟩ (fun hHeld=>?_)
  clear hK K
  refine norm_ (a':=?_) ?_ ?_
  rotate_left
  ·show Act.put _ (some 46) _=_
   simp only [Act.put,uA5,uB5,uC5,i64_w,i32_w]
   rfl
  refine pure_ (i:=5) (N:=some 2) (v:=?_) (a':=?_) #[true,true,true,true,true,true] rfl rfl (zsx5_0) (fun _ _ _ h=>h) (Or.inl ⟨by rfl,?_⟩) ?_ ?_
  rotate_left
  ·intro w'
   go_simp
   with_reducible rfl
  rotate_left
  ·simp only [Act.put,uA5,uB5,uC5,i64_w,i32_w]
   rfl
  refine done_ (zsx5_0) ?_
  try go_wp2
  go_ret
  exact ⟨_,zsx5_8,by (with_reducible repeat (first|apply Kd.S_alloc|apply Kd.S_drewN|apply Kd.S_drew));exact Kd.S_mono HO356.out (fun _ hk=>hk.1),zsx5_9,zsx5_11,zsx5_10⟩
theorem spec_l1Cur_arcs.calls (k:Nat) (g:Nat) (s0_0:List Int) (s0_1:Int) (s0_2:Int) (r1:List (List Int)) (r2:Int) (r3:Int) (w0 w:World) (hI:IsS61 w0 w g s0_0 s0_1 s0_2) (hB:Below w0.heap.size w0 w) (h:spec_l1Cur_arcs.f k s0_0 s0_1 s0_2=some (r1,r2,r3)) :
  Calls Try.prog 87 #[.pointer (some ⟨g,0,none⟩)] w fun e w'=>∃ v0_:Value,e=.returned (v0_)∧Kd.N (Kd.slice 3 (Kd.int .i64)) 33 w' w.heap.size (fun k_=>(w.heap.size≤k_)) v0_ r1∧IsS61 w0 w' g s0_0 r2 r3∧Below w0.heap.size w0 w'∧KeepBut w w' g none:=(spec_l1Cur_arcs.callsS k g s0_0 s0_1 s0_2 r1 r2 r3 w0 w hI hB h).mono fun e w' q=>by obtain ⟨v,h1,h2,h3⟩:=q;exact ⟨v,h1,Kd.S_N h2,h3⟩
def spec_l1Cur_valued.l0:Nat→List (List Int)→List Int→Int→Int→List Int→Int→Int→Option ((List (List Int)) × List Int × Int × Int)
 | 0,_,_,_,_,_,_,_=>none
 | k + 1,x4,x5,x9,x10,x1000,x1001,x1002=>if x10 < x9 then ((spec_l1Cur_pick.f x1000 x1001 x1002 200).bind fun bt552=>((spec_l1Cur_among.f x1000 bt552.2.1 bt552.2.2 (([(-10),(-10),(-20),(-5),0,7,15,40,100,wrap64 (bt552.1 - 100)]:List Int))).bind fun bt558=>(if x5.length < 17592186044416 then (spec_l1Cur_valued.l0 k x4 (x5 ++ [bt558.1]) x9 (wrap64 (x10 + 1)) x1000 bt558.2.1 bt558.2.2) else (none)))) else ((spec_l1Cur_one.f x1000 x1001 x1002 24).bind fun bt564=>(if bt564.1=true then ((spec_l1Cur_pick.f x1000 bt564.2.1 bt564.2.2 (x5.length:Int)).bind fun bt567=>((spec_l1Cur_among.f x1000 bt567.2.1 bt567.2.2 (([(-1000000),1000000]:List Int))).bind fun bt573=>(if 0≤bt567.1 then (if bt567.1 < (x5.length:Int) then (some (x4,(x5.set (bt567.1:Int).toNat bt573.1),bt573.2.1,bt573.2.2)) else (none)) else (none)))) else (some (x4,x5,bt564.2.1,bt564.2.2))))
def spec_l1Cur_valued.f (k:Nat) (s0_0:List Int) (s0_1:Int) (s0_2:Int):Option ((List (List Int)) × List Int × Int × Int):=(spec_l1Cur_arcs.f k s0_0 s0_1 s0_2).bind fun bt547=>(spec_l1Cur_valued.l0 k bt547.1 ([]:List Int) (bt547.1.length:Int) 0 s0_0 bt547.2.1 bt547.2.2)
set_option maxHeartbeats 8000000 in
set_option maxRecDepth 100000 in
theorem spec_l1Cur_valued.calls (k:Nat) (g:Nat) (s0_0:List Int) (s0_1:Int) (s0_2:Int) (r1:List (List Int)) (r2:List Int) (r3:Int) (r4:Int) (w0 w:World) (hI:IsS61 w0 w g s0_0 s0_1 s0_2) (hB:Below w0.heap.size w0 w) (h:spec_l1Cur_valued.f k s0_0 s0_1 s0_2=some (r1,r2,r3,r4)) :
  Calls Try.prog 65 #[.pointer (some ⟨g,0,none⟩)] w fun e w'=>∃ v0_ v1_:Value,e=.returned (.tuple #[v0_,v1_])∧Kd.N (Kd.slice 3 (Kd.int .i64)) 33 w' w.heap.size (fun k_=>(w.heap.size≤k_)∧some k_≠(v1_:Value).ownBlock) v0_ r1∧Kd.R (Kd.int .i64) 3 w' w.heap.size (fun k_=>(w.heap.size≤k_)) v1_ r2∧IsS61 w0 w' g s0_0 r3 r4∧Below w0.heap.size w0 w'∧KeepBut w w' g none:=by
 have HI0:=aM5 hI
 have HK:=aM5 (KeepBut.refl w g none)
 have HL:=aM5 hB.size
 clear hI
 have HW0:=aM5 hB.size
 have HB:=aM5 hB
 clear hB
 have H:((spec_l1Cur_arcs.f k s0_0 s0_1 s0_2).bind fun bt547=>(spec_l1Cur_valued.l0 k bt547.1 ([]:List Int) (bt547.1.length:Int) 0 s0_0 bt547.2.1 bt547.2.2))=some (r1,r2,r3,r4):=h
 clear h
 replace H:=bI5.mp H
 obtain ⟨⟨t547,t550,t551⟩,A20,H⟩:=H
 replace H:(spec_l1Cur_valued.l0 k t547 ([]:List Int) (t547.length:Int) 0 s0_0 t550 t551)=some (r1,r2,r3,r4):=H
 have A2:=aM5 A20
 clear A20
 have H':=aM5 H
 clear H
 go_enter Try.func65,Try.ntmps65
 go_wp2_with (first|((with_reducible refine gate_callee (f:=87) rfl ?_);refine goesL_ (some 7) rfl rfl Try.func87 (zsx5_0) rfl #[.pointer (some ⟨g,0,none⟩)] rfl (zsx5_1) ?_;(with_reducible refine (spec_l1Cur_arcs.calls k g s0_0 s0_1 s0_2 t547 t550 t551 w0 _ ?side1 ?side2 A2.out).mono ?_);(case side1=>exact zsx5_4);(case side2=>exact zsx5_5);rintro e w3 ⟨v548,rfl,ho0,hi,hb,hk⟩;refine ⟨_,rfl,?_⟩;have n0_:=aM5 (Kd.N_lower (Kd.N_mono (ok':=fun k_=>(w.heap.size≤k_)∧k_≠g) ho0 (fun k_ hk_=>⟨(Nat.le_trans (keep_size (w:=w) (g:=g) (row:=none) (zsx5_2)) hk_),(IsS61.fresh (zsx5_4) k_ hk_)⟩)) (keep_size (w:=w) (g:=g) (row:=none) (zsx5_2)));have n1_:=aM5 (kT5 (zsx5_2) hk (.inl rfl));have n2_:=aM5 (hb);have n3_:=aM5 (hi);clear HK HB HI0;have HO549:=n0_;have HK:=n1_;have HB:=n2_;have HI0:=n3_;clear n0_ n1_ n2_ n3_;(try clear hb);(try clear hb2);(try clear hk);(try clear hi);(try clear ho0);obtain ⟨Ao4,co4,eo4⟩:=Kd.N_slice HO549.out;subst eo4))
 go_loopg [5,10] k (fun kq v5 v10 w'=>∃ (x5_1:List Int) (x10_1:Int) (x1001_1:Int) (x1002_1:Int),v10=.int .i64 x10_1∧Aside0 (spec_l1Cur_valued.l0 kq t547 x5_1 (t547.length:Int) x10_1 s0_0 x1001_1 x1002_1=some (r1,r2,r3,r4))∧Aside0 (kq≤k)∧Aside0 (Kd.N (Kd.slice 3 (Kd.int .i64)) 33 w' w.heap.size (fun k_=>(w.heap.size≤k_)∧some k_≠(v5:Value).ownBlock∧k_≠g) (.slice Ao4 t547.length co4) t547)∧Aside0 (Kd.R (Kd.int .i64) 3 w' w.heap.size (fun k_=>(w.heap.size≤k_)) v5 x5_1)∧Aside0 (IsS61 w0 w' g s0_0 x1001_1 x1002_1)∧Aside0 (KeepBut w w' g none)∧Aside0 (Below w0.heap.size w0 w'))
 case atStart=>exact ⟨(([]:List Int)),(0),(t550),(t551),(zsx5_3),H',⟨Nat.le_refl _⟩,⟨by (with_reducible repeat (first|apply Kd.N_alloc|apply Kd.N_drewN|apply Kd.N_drew));exact Kd.N_mono HO549.out (fun _ hk=>⟨hk.1,⟨(by simp [Value.ownBlock]),hk.2⟩⟩)⟩,⟨zsx5_13⟩,⟨zsx5_4⟩,⟨zsx5_2⟩,⟨zsx5_5⟩⟩
 case round =>
  clear H'
  try clear p2
  obtain ⟨x5_1,x10_1,x1001_1,x1002_1,rfl,HA,HK1,HO_4,HO_5,HI0,HK,HB⟩:=hrel
  cases gk with
  | zero=>exact absurd HA.out (by simp [spec_l1Cur_valued.l0])
  | succ k1 =>
   have H:=HA.out
   clear HA
   simp only [spec_l1Cur_valued.l0] at H
   by_cases c5:x10_1 < (t547.length:Int)
   ·rw [if_pos c5] at H
    have c5b0:decide (x10_1 < (t547.length:Int))=true:=dT5 c5
    clear c5
    replace H:=bI5.mp H
    obtain ⟨⟨t552,t553,t554⟩,A60,H⟩:=H
    replace H:((spec_l1Cur_among.f s0_0 t553 t554 (([(-10),(-10),(-20),(-5),0,7,15,40,100,wrap64 (t552 - 100)]:List Int))).bind fun bt558=>(if x5_1.length < 17592186044416 then (spec_l1Cur_valued.l0 k1 t547 (x5_1 ++ [bt558.1]) (t547.length:Int) (wrap64 (x10_1 + 1)) s0_0 bt558.2.1 bt558.2.2) else (none)))=some (r1,r2,r3,r4):=H
    have A6:=aM5 A60
    clear A60
    obtain ⟨y555,hy555⟩:∃ y_:List Int,y_=(([(-10),(-10),(-20),(-5),0,7,15,40,100,wrap64 (t552 - 100)]:List Int)):=⟨_,rfl⟩
    replace H:((spec_l1Cur_among.f s0_0 t553 t554 y555).bind fun bt558=>(if x5_1.length < 17592186044416 then (spec_l1Cur_valued.l0 k1 t547 (x5_1 ++ [bt558.1]) (t547.length:Int) (wrap64 (x10_1 + 1)) s0_0 bt558.2.1 bt558.2.2) else (none)))=some (r1,r2,r3,r4):=by first|(rw [hy555];with_reducible exact H)|(have H2_:=(Option.bind_some _ _).symm.trans H;rw [hy555];with_reducible exact H2_)|(have H2_:=(Option.bind_some _ _).symm.trans H;with_reducible exact H2_)|with_reducible exact H|(rw [hy555];exact H)|exact H
    have Ny555:=aM5 hy555
    clear hy555
    replace H:=bI5.mp H
    obtain ⟨⟨t558,t559,t560⟩,A70,H⟩:=H
    replace H:(if x5_1.length < 17592186044416 then (spec_l1Cur_valued.l0 k1 t547 (x5_1 ++ [t558]) (t547.length:Int) (wrap64 (x10_1 + 1)) s0_0 t559 t560) else (none))=some (r1,r2,r3,r4):=H
    have A7:=aM5 A70
    clear A70
    by_cases c8:x5_1.length < 17592186044416
    ·rw [if_pos c8] at H
     have LMc8:=aM5 c8
     clear c8
     obtain ⟨y561,hy561⟩:∃ y_:List Int,y_=(x5_1 ++ [t558]):=⟨_,rfl⟩
     replace H:(spec_l1Cur_valued.l0 k1 t547 y561 (t547.length:Int) (wrap64 (x10_1 + 1)) s0_0 t559 t560)=some (r1,r2,r3,r4):=by first|(rw [hy561];with_reducible exact H)|(have H2_:=(Option.bind_some _ _).symm.trans H;rw [hy561];with_reducible exact H2_)|(have H2_:=(Option.bind_some _ _).symm.trans H;with_reducible exact H2_)|with_reducible exact H|(rw [hy561];exact H)|exact H
     have Ny561:=aM5 hy561
     clear hy561
     have H':=aM5 H
     clear H
     go_wp2_with (first|((with_reducible refine gate_callee (f:=53) rfl ?_);refine goesL_ (some 15) rfl rfl Try.func53 (zsx5_0) rfl #[.pointer (some ⟨g,0,none⟩),.int .i64 200] rfl (zsx5_1) ?_;(with_reducible refine (spec_l1Cur_pick.calls g s0_0 x1001_1 x1002_1 200 t552 t553 t554 w0 _ ?side1 ?side2 A6.out).mono ?_);(case side1=>exact zsx5_4);(case side2=>exact zsx5_5);rintro e w9 ⟨rfl,hi,hb,hk⟩;refine ⟨_,rfl,?_⟩;have n0_:=aM5 (Kd.N_mono (Kd.N_keep (Kd.N_mono (ok:=fun k_=>(((w.heap.size≤k_))∧(some k_≠(u5:Value).ownBlock∧k_≠g))) (zsx5_14) (fun k_ hk_=>(⟨hk_,hk_.2.2⟩:_∧k_≠g))) hk (fun _ h=>h.2)) (fun _ h=>h.1));have n1_:=aM5 (Kd.R_mono (Kd.R_keep (IsS61.apart (show IsS61 w0 _ g s0_0 x1001_1 x1002_1 from zsx5_4) (zsx5_15) (by decide)) hk (fun _ h=>h.2)) (fun _ h=>h.1));have n2_:=aM5 (kT5 (zsx5_2) hk (.inl rfl));have n3_:=aM5 (hb);have n4_:=aM5 (hi);clear HO_4 HO_5 HK HB HI0;have HO_4:=n0_;have HO_5:=n1_;have HK:=n2_;have HB:=n3_;have HI0:=n4_;clear n0_ n1_ n2_ n3_ n4_;(try clear hb);(try clear hb2);(try clear hk);(try clear hi))|((with_reducible refine gate_dst (N:=17) rfl ?_);refine Kd.R_lit (Kd.int .i64) _ 3 ?hg (N:=17) ?hd (xs:=([(-10),(-10),(-20),(-5),0,7,15,40,100,wrap64 (t552 - 100)]:List Int)) (inner:=[.int .i64 (-10),.int .i64 (-10),.int .i64 (-20),.int .i64 (-5),.int .i64 0,.int .i64 7,.int .i64 15,.int .i64 40,.int .i64 100,.int .i64 (wrap64 (t552 - 100))]) (ok:=fun _=>True) (okp:=fun _=>True) ?hr ?hp (fun _ hk=>hk) trivial (Below.refl _ _) (Nat.le_refl _) (by simp) ?_;(case hd=>rfl);(case hg=>rfl);(case hr=>exact zsx5_23);(case hp=>exact (Reps.one (show Kd.M (Kd.int .i64) _ _ _ (-10) [.int .i64 (-10)] from rfl) (Reps.one (show Kd.M (Kd.int .i64) _ _ _ (-10) [.int .i64 (-10)] from rfl) (Reps.one (show Kd.M (Kd.int .i64) _ _ _ (-20) [.int .i64 (-20)] from rfl) (Reps.one (show Kd.M (Kd.int .i64) _ _ _ (-5) [.int .i64 (-5)] from rfl) (Reps.one (show Kd.M (Kd.int .i64) _ _ _ 0 [.int .i64 0] from rfl) (Reps.one (show Kd.M (Kd.int .i64) _ _ _ 7 [.int .i64 7] from rfl) (Reps.one (show Kd.M (Kd.int .i64) _ _ _ 15 [.int .i64 15] from rfl) (Reps.one (show Kd.M (Kd.int .i64) _ _ _ 40 [.int .i64 40] from rfl) (Reps.one (show Kd.M (Kd.int .i64) _ _ _ 100 [.int .i64 100] from rfl) (Reps.one (show Kd.M (Kd.int .i64) _ _ _ (wrap64 (t552 - 100)) [.int .i64 (wrap64 (t552 - 100))] from rfl) (Reps.none _ _))))))))))));intro v556 w10 ho11 hb hg_ hnew_;clear hg_ hnew_;(first|rw [← Ny555.out] at ho11|(simp only [Int.reduceToNat] at ho11;rw [← Ny555.out] at ho11));have n0_:=aM5 (Kd.N_elder' (zsx5_14) (Kd.R_base ho11) hb);have n1_:=aM5 (Kd.R_elder' (zsx5_15) (Kd.R_base ho11) hb);have n2_:=aM5 (Kd.R_lower (Kd.R_new' (Kd.R_newM (M:=fun k_=>(w.heap.size≤k_)) ho11 (keep_size (w:=w) (g:=g) (row:=none) (zsx5_2)) (fun k_ h_=>h_)) (Kd.R_lt (zsx5_15))) (keep_size (w:=w) (g:=g) (row:=none) (zsx5_2)));have n3_:=aM5 (IsS61.below (zsx5_4) hb);have n4_:=aM5 (kT5 (zsx5_2) (KeepBut.of_below hb g none) (.inl rfl));have n5_:=aM5 (below_step (zsx5_5) hb);clear HO_4 HO_5 HI0 HK HB;have HO_4:=n0_;have HO_5:=n1_;have HO557:=n2_;have HI0:=n3_;have HK:=n4_;have HB:=n5_;clear n0_ n1_ n2_ n3_ n4_ n5_ hb ho11;obtain ⟨Ao12,co12,eo12⟩:=Kd.R_slice HO557.out;subst eo12)|((with_reducible refine gate_callee (f:=66) rfl ?_);refine goesL_ (some 18) rfl rfl Try.func66 (zsx5_0) rfl #[.pointer (some ⟨g,0,none⟩),.slice Ao12 y555.length co12] rfl (zsx5_1) ?_;(with_reducible refine (spec_l1Cur_among.calls g s0_0 t553 t554 _ _ y555 t558 t559 t560 w0 _ ?side1 ?side2 ?side3 ?side4 ?side5 A7.out).mono ?_);(case side1=>exact zsx5_4);(case side2=>exact zsx5_5);(case side3=>repeat (first|exact (Kd.R_reads' HO557.out).2.2|(with_reducible refine Kd.C_alloc ?_ _)|(with_reducible refine Kd.C_drewN ?_ _)|(with_reducible refine Kd.C_drew ?_)));(case side4=>exact (Kd.R_reads' HO557.out).2.1);(case side5=>exact far_slice (IsS61.own_ne HI0.out HO557.out (by decide)));rintro e w13 ⟨rfl,hi,hb,hk⟩;refine ⟨_,rfl,?_⟩;have n0_:=aM5 (Kd.N_mono (Kd.N_keep (Kd.N_mono (ok:=fun k_=>((((w.heap.size≤k_))∧(some k_≠(u5:Value).ownBlock∧k_≠g))∧some k_≠(.slice Ao12 y555.length co12:Value).ownBlock)) (zsx5_14) (fun k_ hk_=>(⟨hk_,hk_.1.2.2⟩:_∧k_≠g))) hk (fun _ h=>h.2)) (fun _ h=>h.1));have n1_:=aM5 (Kd.R_mono (Kd.R_keep (IsS61.apart (show IsS61 w0 _ g s0_0 t553 t554 from zsx5_4) (zsx5_15) (by decide)) hk (fun _ h=>h.2)) (fun _ h=>h.1));have n2_:=aM5 (Kd.R_mono (Kd.R_keep (IsS61.apart (show IsS61 w0 _ g s0_0 t553 t554 from zsx5_4) (by (with_reducible repeat (first|apply Kd.R_alloc|apply Kd.R_drewN|apply Kd.R_drew));exact HO557.out) (by decide)) hk (fun _ h=>h.2)) (fun _ h=>h.1));have n3_:=aM5 (kT5 (zsx5_2) hk (.inl rfl));have n4_:=aM5 (hb);have n5_:=aM5 (hi);clear HO_4 HO_5 HO557 HK HB HI0;have HO_4:=n0_;have HO_5:=n1_;have HO557:=n2_;have HK:=n3_;have HB:=n4_;have HI0:=n5_;clear n0_ n1_ n2_ n3_ n4_ n5_;(try clear hb);(try clear hb2);(try clear hk);(try clear hi))|((with_reducible refine gate_builtin (b:=.append) (xs:=#[.tmp 12,.tmp 19]) rfl ?_);at_builtin;refine Kd.R_append (Kd.int .i64) w.heap.size rfl (.tmp 12) (.tmp 19) 33 3 (.int .i64 0) 8 rfl Try.underlying33 info3 rfl (by decide) (by omega) u5 x5_1 t558 [.int .i64 t558] (fun k_=>(w.heap.size≤k_)∧some k_≠(.slice Ao12 y555.length co12:Value).ownBlock) (fun _=>False) rfl rfl ?aP (fun _ hk=>hk.elim) ?aF ?aO (Below.refl _ _) ?aS ?aL ?_;(case aP=>exact rfl);(case aF=>exact (fun k_ hk=>⟨(Nat.le_trans (keep_size (w:=w) (g:=g) (row:=none) (zsx5_2)) hk),Kd.fresh' (Kd.R_lt (by (with_reducible repeat (first|apply Kd.R_alloc|apply Kd.R_drewN|apply Kd.R_drew));exact HO557.out)) k_ hk⟩));(case aO=>exact (zsx5_15));(case aS=>exact (keep_size (w:=w) (g:=g) (row:=none) (zsx5_2)));(case aL=>have:=LMc8.out;omega);intro v562 w14 ho hb hg hat;rw [← Ny561.out] at ho;have n0_:=aM5 (Kd.N_afterv (ok:=(fun k_=>(w.heap.size≤k_)∧some k_≠(.slice Ao12 y555.length co12:Value).ownBlock∧k_≠g)) (zsx5_16) hg hat);have n1_:=aM5 (IsS61.grown (zsx5_4) hg (IsS61.own_ne HI0.out HO_5.out (by decide)));have n2_:=aM5 (Kd.R_after (ok:=(fun k_=>(w.heap.size≤k_))) (by (with_reducible repeat (first|apply Kd.R_alloc|apply Kd.R_drewN|apply Kd.R_drew));exact Kd.R_mono HO557.out (fun _ hk=>⟨hk.1.1,hk.2⟩)) hg hat);have n3_:=aM5 (below_weaken (zsx5_5) HL.out hb);have n4_:=aM5 (kT5 (zsx5_2) (KeepBut.of_grown hg g) (Kd.R_base2 HO_5.out));have n5_:=aM5 (ho);clear HO_4 HI0 HO557 HB HK HO_5;have HO_4:=n0_;have HI0:=n1_;have HO557:=n2_;have HB:=n3_;have HK:=n4_;have HO563:=n5_;clear n0_ n1_ n2_ n3_ n4_ n5_ ho hb hg hat))
     go_roundg k1
     case measure=>have:=HK1.out;omega
     case rel=>exact ⟨(y561),(wrap64 (x10_1 + 1)),(t559),(t560),(zsx5_3),H',⟨zsx5_17⟩,⟨by (with_reducible repeat (first|apply Kd.N_alloc|apply Kd.N_drewN|apply Kd.N_drew));exact Kd.N_mono HO_4.out (fun _ hk=>⟨hk.1.1,⟨hk.2,hk.1.2.2⟩⟩)⟩,⟨by (with_reducible repeat (first|apply Kd.R_alloc|apply Kd.R_drewN|apply Kd.R_drew));exact Kd.R_mono HO563.out (fun _ hk=>hk.1)⟩,⟨zsx5_4⟩,⟨zsx5_2⟩,⟨zsx5_5⟩⟩
    ·rw [if_neg c8] at H
     exact absurd H (by simp)
   ·rw [if_neg c5] at H
    have c5b0:decide (x10_1 < (t547.length:Int))=false:=decide_eq_false c5
    clear c5
    replace H:=bI5.mp H
    obtain ⟨⟨t564,t565,t566⟩,A150,H⟩:=H
    replace H:(if t564=true then ((spec_l1Cur_pick.f s0_0 t565 t566 (x5_1.length:Int)).bind fun bt567=>((spec_l1Cur_among.f s0_0 bt567.2.1 bt567.2.2 (([(-1000000),1000000]:List Int))).bind fun bt573=>(if 0≤bt567.1 then (if bt567.1 < (x5_1.length:Int) then (some (t547,(x5_1.set (bt567.1:Int).toNat bt573.1),bt573.2.1,bt573.2.2)) else (none)) else (none)))) else (some (t547,x5_1,t565,t566)))=some (r1,r2,r3,r4):=H
    have A15:=aM5 A150
    clear A150
    by_cases c16:t564=true
    ·subst c16
     have H1:((spec_l1Cur_pick.f s0_0 t565 t566 (x5_1.length:Int)).bind fun bt567=>((spec_l1Cur_among.f s0_0 bt567.2.1 bt567.2.2 (([(-1000000),1000000]:List Int))).bind fun bt573=>(if 0≤bt567.1 then (if bt567.1 < (x5_1.length:Int) then (some (t547,(x5_1.set (bt567.1:Int).toNat bt573.1),bt573.2.1,bt573.2.2)) else (none)) else (none))))=some (r1,r2,r3,r4):=by rw [if_pos rfl] at H;exact H
     clear H
     have H:=H1
     clear H1
     replace H:=bI5.mp H
     obtain ⟨⟨t567,t568,t569⟩,A170,H⟩:=H
     replace H:((spec_l1Cur_among.f s0_0 t568 t569 (([(-1000000),1000000]:List Int))).bind fun bt573=>(if 0≤t567 then (if t567 < (x5_1.length:Int) then (some (t547,(x5_1.set (t567:Int).toNat bt573.1),bt573.2.1,bt573.2.2)) else (none)) else (none)))=some (r1,r2,r3,r4):=H
     have A17:=aM5 A170
     clear A170
     obtain ⟨y570,hy570⟩:∃ y_:List Int,y_=(([(-1000000),1000000]:List Int)):=⟨_,rfl⟩
     replace H:((spec_l1Cur_among.f s0_0 t568 t569 y570).bind fun bt573=>(if 0≤t567 then (if t567 < (x5_1.length:Int) then (some (t547,(x5_1.set (t567:Int).toNat bt573.1),bt573.2.1,bt573.2.2)) else (none)) else (none)))=some (r1,r2,r3,r4):=by first|(rw [hy570];with_reducible exact H)|(have H2_:=(Option.bind_some _ _).symm.trans H;rw [hy570];with_reducible exact H2_)|(have H2_:=(Option.bind_some _ _).symm.trans H;with_reducible exact H2_)|with_reducible exact H|(rw [hy570];exact H)|exact H
     have Ny570:=aM5 hy570
     clear hy570
     replace H:=bI5.mp H
     obtain ⟨⟨t573,t574,t575⟩,A180,H⟩:=H
     replace H:(if 0≤t567 then (if t567 < (x5_1.length:Int) then (some (t547,(x5_1.set (t567:Int).toNat t573),t574,t575)) else (none)) else (none))=some (r1,r2,r3,r4):=H
     have A18:=aM5 A180
     clear A180
     by_cases c19:0≤t567
     ·rw [if_pos c19] at H
      have c19b0:decide (0≤t567)=true:=dT5 c19
      clear c19
      by_cases c20:t567 < (x5_1.length:Int)
      ·rw [if_pos c20] at H
       have c20b0:decide (t567 < (x5_1.length:Int))=true:=dT5 c20
       clear c20
       obtain ⟨y576,hy576⟩:∃ y_:List Int,y_=(x5_1.set (t567:Int).toNat t573):=⟨_,rfl⟩
       replace H:(some (t547,y576,t574,t575))=some (r1,r2,r3,r4):=by first|(rw [hy576];with_reducible exact H)|(have H2_:=(Option.bind_some _ _).symm.trans H;rw [hy576];with_reducible exact H2_)|(have H2_:=(Option.bind_some _ _).symm.trans H;with_reducible exact H2_)|with_reducible exact H|(rw [hy576];exact H)|exact H
       have Ny576:=aM5 hy576
       clear hy576
       simp only [Option.some.injEq,Prod.mk.injEq] at H
       obtain ⟨rfl,rfl,rfl,rfl⟩:=H
       go_wp2_with (first|((with_reducible refine gate_callee (f:=86) rfl ?_);refine goesL_ (some 23) rfl rfl Try.func86 (zsx5_0) rfl #[.pointer (some ⟨g,0,none⟩),.int .i64 24] rfl (zsx5_1) ?_;(with_reducible refine (spec_l1Cur_one.calls g s0_0 x1001_1 x1002_1 24 true t565 t566 w0 _ ?side1 ?side2 A15.out).mono ?_);(case side1=>exact zsx5_4);(case side2=>exact zsx5_5);rintro e w22 ⟨rfl,hi,hb,hk⟩;refine ⟨_,rfl,?_⟩;have n0_:=aM5 (Kd.N_mono (Kd.N_keep (Kd.N_mono (ok:=fun k_=>(((w.heap.size≤k_))∧(some k_≠(u5:Value).ownBlock∧k_≠g))) (zsx5_14) (fun k_ hk_=>(⟨hk_,hk_.2.2⟩:_∧k_≠g))) hk (fun _ h=>h.2)) (fun _ h=>h.1));have n1_:=aM5 (Kd.R_mono (Kd.R_keep (IsS61.apart (show IsS61 w0 _ g s0_0 x1001_1 x1002_1 from zsx5_4) (zsx5_15) (by decide)) hk (fun _ h=>h.2)) (fun _ h=>h.1));have n2_:=aM5 (kT5 (zsx5_2) hk (.inl rfl));have n3_:=aM5 (hb);have n4_:=aM5 (hi);clear HO_4 HO_5 HK HB HI0;have HO_4:=n0_;have HO_5:=n1_;have HK:=n2_;have HB:=n3_;have HI0:=n4_;clear n0_ n1_ n2_ n3_ n4_;(try clear hb);(try clear hb2);(try clear hk);(try clear hi);obtain ⟨Ao23,co23,eo23⟩:=Kd.R_slice HO_5.out;subst eo23)|((with_reducible refine gate_callee (f:=53) rfl ?_);refine goesL_ (some 28) rfl rfl Try.func53 (zsx5_0) rfl #[.pointer (some ⟨g,0,none⟩),.int .i64 (x5_1.length:Int)] rfl (zsx5_1) ?_;(with_reducible refine (spec_l1Cur_pick.calls g s0_0 t565 t566 (x5_1.length:Int) t567 t568 t569 w0 _ ?side1 ?side2 A17.out).mono ?_);(case side1=>exact zsx5_4);(case side2=>exact zsx5_5);rintro e w24 ⟨rfl,hi,hb,hk⟩;refine ⟨_,rfl,?_⟩;have n0_:=aM5 (Kd.N_mono (Kd.N_keep (Kd.N_mono (ok:=fun k_=>(((w.heap.size≤k_))∧(some k_≠(.slice Ao23 x5_1.length co23:Value).ownBlock∧k_≠g))) (zsx5_14) (fun k_ hk_=>(⟨hk_,hk_.2.2⟩:_∧k_≠g))) hk (fun _ h=>h.2)) (fun _ h=>h.1));have n1_:=aM5 (Kd.R_mono (Kd.R_keep (IsS61.apart (show IsS61 w0 _ g s0_0 t565 t566 from zsx5_4) (zsx5_15) (by decide)) hk (fun _ h=>h.2)) (fun _ h=>h.1));have n2_:=aM5 (kT5 (zsx5_2) hk (.inl rfl));have n3_:=aM5 (hb);have n4_:=aM5 (hi);clear HO_4 HO_5 HK HB HI0;have HO_4:=n0_;have HO_5:=n1_;have HK:=n2_;have HB:=n3_;have HI0:=n4_;clear n0_ n1_ n2_ n3_ n4_;(try clear hb);(try clear hb2);(try clear hk);(try clear hi))|((with_reducible refine gate_dst (N:=30) rfl ?_);refine Kd.R_lit (Kd.int .i64) _ 3 ?hg (N:=30) ?hd (xs:=([(-1000000),1000000]:List Int)) (inner:=[.int .i64 (-1000000),.int .i64 1000000]) (ok:=fun _=>True) (okp:=fun _=>True) ?hr ?hp (fun _ hk=>hk) trivial (Below.refl _ _) (Nat.le_refl _) (by simp) ?_;(case hd=>rfl);(case hg=>rfl);(case hr=>exact zsx5_23);(case hp=>exact (Reps.one (show Kd.M (Kd.int .i64) _ _ _ (-1000000) [.int .i64 (-1000000)] from rfl) (Reps.one (show Kd.M (Kd.int .i64) _ _ _ 1000000 [.int .i64 1000000] from rfl) (Reps.none _ _))));intro v571 w25 ho26 hb hg_ hnew_;clear hg_ hnew_;(first|rw [← Ny570.out] at ho26|(simp only [Int.reduceToNat] at ho26;rw [← Ny570.out] at ho26));have n0_:=aM5 (Kd.N_elder' (zsx5_14) (Kd.R_base ho26) hb);have n1_:=aM5 (Kd.R_elder' (zsx5_15) (Kd.R_base ho26) hb);have n2_:=aM5 (Kd.R_lower (Kd.R_new' (Kd.R_newM (M:=fun k_=>(w.heap.size≤k_)) ho26 (keep_size (w:=w) (g:=g) (row:=none) (zsx5_2)) (fun k_ h_=>h_)) (Kd.R_lt (zsx5_15))) (keep_size (w:=w) (g:=g) (row:=none) (zsx5_2)));have n3_:=aM5 (IsS61.below (zsx5_4) hb);have n4_:=aM5 (kT5 (zsx5_2) (KeepBut.of_below hb g none) (.inl rfl));have n5_:=aM5 (below_step (zsx5_5) hb);clear HO_4 HO_5 HI0 HK HB;have HO_4:=n0_;have HO_5:=n1_;have HO572:=n2_;have HI0:=n3_;have HK:=n4_;have HB:=n5_;clear n0_ n1_ n2_ n3_ n4_ n5_ hb ho26;obtain ⟨Ao27,co27,eo27⟩:=Kd.R_slice HO572.out;subst eo27)|((with_reducible refine gate_callee (f:=66) rfl ?_);refine goesL_ (some 31) rfl rfl Try.func66 (zsx5_0) rfl #[.pointer (some ⟨g,0,none⟩),.slice Ao27 y570.length co27] rfl (zsx5_1) ?_;(with_reducible refine (spec_l1Cur_among.calls g s0_0 t568 t569 _ _ y570 t573 t574 t575 w0 _ ?side1 ?side2 ?side3 ?side4 ?side5 A18.out).mono ?_);(case side1=>exact zsx5_4);(case side2=>exact zsx5_5);(case side3=>repeat (first|exact (Kd.R_reads' HO572.out).2.2|(with_reducible refine Kd.C_alloc ?_ _)|(with_reducible refine Kd.C_drewN ?_ _)|(with_reducible refine Kd.C_drew ?_)));(case side4=>exact (Kd.R_reads' HO572.out).2.1);(case side5=>exact far_slice (IsS61.own_ne HI0.out HO572.out (by decide)));rintro e w28 ⟨rfl,hi,hb,hk⟩;refine ⟨_,rfl,?_⟩;have n0_:=aM5 (Kd.N_mono (Kd.N_keep (Kd.N_mono (ok:=fun k_=>((((w.heap.size≤k_))∧(some k_≠(.slice Ao23 x5_1.length co23:Value).ownBlock∧k_≠g))∧some k_≠(.slice Ao27 y570.length co27:Value).ownBlock)) (zsx5_14) (fun k_ hk_=>(⟨hk_,hk_.1.2.2⟩:_∧k_≠g))) hk (fun _ h=>h.2)) (fun _ h=>h.1));have n1_:=aM5 (Kd.R_mono (Kd.R_keep (IsS61.apart (show IsS61 w0 _ g s0_0 t568 t569 from zsx5_4) (zsx5_15) (by decide)) hk (fun _ h=>h.2)) (fun _ h=>h.1));have n2_:=aM5 (Kd.R_mono (Kd.R_keep (IsS61.apart (show IsS61 w0 _ g s0_0 t568 t569 from zsx5_4) (by (with_reducible repeat (first|apply Kd.R_alloc|apply Kd.R_drewN|apply Kd.R_drew));exact HO572.out) (by decide)) hk (fun _ h=>h.2)) (fun _ h=>h.1));have n3_:=aM5 (kT5 (zsx5_2) hk (.inl rfl));have n4_:=aM5 (hb);have n5_:=aM5 (hi);clear HO_4 HO_5 HO572 HK HB HI0;have HO_4:=n0_;have HO_5:=n1_;have HO572:=n2_;have HK:=n3_;have HB:=n4_;have HI0:=n5_;clear n0_ n1_ n2_ n3_ n4_ n5_;(try clear hb);(try clear hb2);(try clear hk);(try clear hi);have p21:0≤(t567:Int):=oD5 (zsx5_18);have q21:(t567:Int) < ((x5_1.length:Int):Int):=oD5 (zsx5_18);obtain ⟨go21,co21,eo21,gb21,gl21,cl21,HG21⟩:=Kd.R_form HO_5.out (by omega);(first|cases eo21|(injection eo21 with ea_ en_ ec_;(first|subst ea_|(injection ea_ with ea_;subst ea_));subst ec_;clear en_));have GB21:=aM5 gb21;have GG21:=aM5 HG21;clear gb21 gl21 HG21;obtain ⟨hx21_0,hf21_0⟩:=Kd.R_celln 0 HO_5.out (t567:Int) p21 q21;replace p21:=eq_true p21;replace q21:=eq_true q21;obtain ⟨hy29_,hz29_⟩:=Kd.R_celln 0 HO_5.out (t567:Int) (oD5 (zsx5_18)) (oD5 (zsx5_18));have HP29:=Kd.R_putg HO_5.out (t567:Int) t573)|((with_reducible refine gate_store (t:=3) (p:=32) rfl ?_);refine store_event (t:=3) (p:=32) (v:=?vo_w30) (w1:=(w28.setCell ⟨go21,(t567:Int).toNat,none⟩ (.int .i64 t573))) ?hg ?ho ?hn ?hr ?_;(case ho=>rfl);(case hg=>rfl);(case hn=>rfl);(case hr=>exact zsx5_23);intro w30 hw;have hg:w28.grownBy w30 (some go21):=(by rw [hw];exact HP29.2);have hp_:Kd.R (Kd.int .i64) 3 w30 w.heap.size (fun k_=>(w.heap.size≤k_)∧some k_≠(.slice Ao27 y570.length co27:Value).ownBlock) (.slice (some ⟨go21,0,none⟩) x5_1.length co23) y576:=(by rw [hw,Ny576.out];exact HP29.1);clear HP29;have n0_:=aM5 (Kd.N_afterv (v:=(.slice (some ⟨go21,0,none⟩) x5_1.length co23)) (v1:=(.slice (some ⟨go21,0,none⟩) x5_1.length co23)) (ok:=(fun k_=>(w.heap.size≤k_)∧some k_≠(.slice Ao27 y570.length co27:Value).ownBlock∧k_≠g)) (zsx5_16) hg (.inl rfl));have n1_:=aM5 (hp_);have n2_:=aM5 (IsS61.grown (zsx5_4) hg (IsS61.own_ne HI0.out HO_5.out (by decide)));have n3_:=aM5 (Kd.R_after (v:=(.slice (some ⟨go21,0,none⟩) x5_1.length co23)) (v1:=(.slice (some ⟨go21,0,none⟩) x5_1.length co23)) (ok:=(fun k_=>(w.heap.size≤k_))) (by (with_reducible repeat (first|apply Kd.R_alloc|apply Kd.R_drewN|apply Kd.R_drew));exact Kd.R_mono HO572.out (fun _ hk=>⟨hk.1.1,hk.2⟩)) hg (.inl rfl));have n4_:=aM5 ((by rw [hw];exact below_set (HB.out) (Nat.le_trans HL.out GB21.out):Below w0.heap.size w0 w30));have n5_:=aM5 (kT5 (zsx5_2) (KeepBut.of_grown hg g) (Kd.R_base2 HO_5.out));clear HO_4 HO_5 HI0 HO572 HB HK;have HO_4:=n0_;have HO_5:=n1_;have HI0:=n2_;have HO572:=n3_;have HB:=n4_;have HK:=n5_;clear n0_ n1_ n2_ n3_ n4_ n5_ hg hw hp_))
       go_ret2
       exact ⟨_,_,zsx5_8,by (with_reducible repeat (first|apply Kd.N_alloc|apply Kd.N_drewN|apply Kd.N_drew));exact Kd.N_mono HO_4.out (fun _ hk=>⟨hk.1.1,hk.2⟩),by (with_reducible repeat (first|apply Kd.R_alloc|apply Kd.R_drewN|apply Kd.R_drew));exact Kd.R_mono HO_5.out (fun _ hk=>hk.1),zsx5_4,zsx5_5,zsx5_2⟩
      ·rw [if_neg c20] at H
       exact absurd H (by simp)
     ·rw [if_neg c19] at H
      exact absurd H (by simp)
    ·replace c16:=Bool.eq_false_iff.mpr c16
     subst c16
     have H1:(some (t547,x5_1,t565,t566))=some (r1,r2,r3,r4):=by rw [if_neg (show ¬ (false=true) by decide)] at H;exact H
     clear H
     have H:=H1
     clear H1
     simp only [Option.some.injEq,Prod.mk.injEq] at H
     obtain ⟨rfl,rfl,rfl,rfl⟩:=H
     go_wp2_with (first|((with_reducible refine gate_callee (f:=86) rfl ?_);refine goesL_ (some 23) rfl rfl Try.func86 (zsx5_0) rfl #[.pointer (some ⟨g,0,none⟩),.int .i64 24] rfl (zsx5_1) ?_;(with_reducible refine (spec_l1Cur_one.calls g s0_0 x1001_1 x1002_1 24 false t565 t566 w0 _ ?side1 ?side2 A15.out).mono ?_);(case side1=>exact zsx5_4);(case side2=>exact zsx5_5);rintro e w31 ⟨rfl,hi,hb,hk⟩;refine ⟨_,rfl,?_⟩;have n0_:=aM5 (Kd.N_mono (Kd.N_keep (Kd.N_mono (ok:=fun k_=>(((w.heap.size≤k_))∧(some k_≠(u5:Value).ownBlock∧k_≠g))) (zsx5_14) (fun k_ hk_=>(⟨hk_,hk_.2.2⟩:_∧k_≠g))) hk (fun _ h=>h.2)) (fun _ h=>h.1));have n1_:=aM5 (Kd.R_mono (Kd.R_keep (IsS61.apart (show IsS61 w0 _ g s0_0 x1001_1 x1002_1 from zsx5_4) (zsx5_15) (by decide)) hk (fun _ h=>h.2)) (fun _ h=>h.1));have n2_:=aM5 (kT5 (zsx5_2) hk (.inl rfl));have n3_:=aM5 (hb);have n4_:=aM5 (hi);clear HO_4 HO_5 HK HB HI0;have HO_4:=n0_;have HO_5:=n1_;have HK:=n2_;have HB:=n3_;have HI0:=n4_;clear n0_ n1_ n2_ n3_ n4_;(try clear hb);(try clear hb2);(try clear hk);(try clear hi)))
     go_ret2
     exact ⟨_,_,zsx5_8,by (with_reducible repeat (first|apply Kd.N_alloc|apply Kd.N_drewN|apply Kd.N_drew));exact Kd.N_mono HO_4.out (fun _ hk=>⟨hk.1,hk.2.1⟩),zsx5_15,zsx5_4,zsx5_5,zsx5_2⟩
mutual
def spec_l1Cur_some.l0:Nat→Int→List Int→Int→List Int→Int→Int→Option (List Int × Int × Int)
 | 0,_,_,_,_,_,_=>none
 | k + 1,x1,x5,x6,x1000,x1001,x1002=>if x6 < x1 then ((spec_l1Cur_one.f x1000 x1001 x1002 3).bind fun bt577=>(if bt577.1=true then (if x5.length < 17592186044416 then (spec_l1Cur_some.l0 k x1 (x5 ++ [x6]) (wrap64 (x6 + 1)) x1000 bt577.2.1 bt577.2.2) else (none)) else (spec_l1Cur_some.l0 k x1 x5 (wrap64 (x6 + 1)) x1000 bt577.2.1 bt577.2.2))) else ((spec_l1Cur_pick.f x1000 x1001 x1002 24).bind fun bt583=>(if bt583.1=0 then ((spec_l1Cur_among.f x1000 bt583.2.1 bt583.2.2 (([(-1),x1,0]:List Int))).bind fun bt589=>(if x5.length < 17592186044416 then (some ((x5 ++ [bt589.1]),bt589.2.1,bt589.2.2)) else (none))) else (if bt583.1=1 then (spec_l1Cur_some.l1 k x1 ([]:List Int) 0 x1000 bt583.2.1 bt583.2.2) else (some (x5,bt583.2.1,bt583.2.2)))))
def spec_l1Cur_some.l1:Nat→Int→List Int→Int→List Int→Int→Int→Option (List Int × Int × Int)
 | 0,_,_,_,_,_,_=>none
 | k + 1,x1,x5,x7,x1000,x1001,x1002=>if x7 < x1 then (if x5.length < 17592186044416 then (spec_l1Cur_some.l1 k x1 (x5 ++ [x7]) (wrap64 (x7 + 1)) x1000 x1001 x1002) else (none)) else (some (x5,x1001,x1002))
end
def spec_l1Cur_some.f (k:Nat) (s0_0:List Int) (s0_1:Int) (s0_2:Int) (a1:Int):Option (List Int × Int × Int):=spec_l1Cur_some.l0 k a1 ([]:List Int) 0 s0_0 s0_1 s0_2
set_option maxHeartbeats 8000000 in
set_option maxRecDepth 100000 in
theorem spec_l1Cur_some.calls (k:Nat) (g:Nat) (s0_0:List Int) (s0_1:Int) (s0_2:Int) (a1:Int) (r1:List Int) (r2:Int) (r3:Int) (w0 w:World) (hI:IsS61 w0 w g s0_0 s0_1 s0_2) (hB:Below w0.heap.size w0 w) (h:spec_l1Cur_some.f k s0_0 s0_1 s0_2 a1=some (r1,r2,r3)) :
  Calls Try.prog 67 #[.pointer (some ⟨g,0,none⟩),.int .i64 a1] w fun e w'=>∃ v0_:Value,e=.returned (v0_)∧Kd.R (Kd.int .i64) 3 w' w.heap.size (fun _=>True) v0_ r1∧IsS61 w0 w' g s0_0 r2 r3∧Below w0.heap.size w0 w'∧KeepBut w w' g none:=by
 have HI0:=aM5 hI
 have HK:=aM5 (KeepBut.refl w g none)
 have HL:=aM5 hB.size
 clear hI
 have HW0:=aM5 hB.size
 have HB:=aM5 hB
 clear hB
 have H:(spec_l1Cur_some.l0 k a1 ([]:List Int) 0 s0_0 s0_1 s0_2)=some (r1,r2,r3):=h
 clear h
 have H':=aM5 H
 clear H
 go_enter Try.func67,Try.ntmps67
 go_wp2
 go_loopg [5,6] k (fun kq v5 v6 w'=>∃ (x5_1:List Int) (x6_1:Int) (x1001_1:Int) (x1002_1:Int),v6=.int .i64 x6_1∧Aside0 (spec_l1Cur_some.l0 kq a1 x5_1 x6_1 s0_0 x1001_1 x1002_1=some (r1,r2,r3))∧Aside0 (kq≤k)∧Aside0 (Kd.R (Kd.int .i64) 3 w' w.heap.size (fun _=>True) v5 x5_1)∧Aside0 (IsS61 w0 w' g s0_0 x1001_1 x1002_1)∧Aside0 (KeepBut w w' g none)∧Aside0 (Below w0.heap.size w0 w'))
 case atStart=>exact ⟨(([]:List Int)),(0),(s0_1),(s0_2),(zsx5_3),H',⟨Nat.le_refl _⟩,⟨zsx5_13⟩,⟨zsx5_4⟩,⟨zsx5_2⟩,⟨zsx5_5⟩⟩
 case round =>
  clear H'
  try clear p2
  obtain ⟨x5_1,x6_1,x1001_1,x1002_1,rfl,HA,HK1,HO_5,HI0,HK,HB⟩:=hrel
  cases gk with
  | zero=>exact absurd HA.out (by simp [spec_l1Cur_some.l0])
  | succ k1 =>
   have H:=HA.out
   clear HA
   simp only [spec_l1Cur_some.l0] at H
   by_cases c3:x6_1 < a1
   ·rw [if_pos c3] at H
    have c3b0:decide (x6_1 < a1)=true:=dT5 c3
    clear c3
    replace H:=bI5.mp H
    obtain ⟨⟨t577,t578,t579⟩,A40,H⟩:=H
    replace H:(if t577=true then (if x5_1.length < 17592186044416 then (spec_l1Cur_some.l0 k1 a1 (x5_1 ++ [x6_1]) (wrap64 (x6_1 + 1)) s0_0 t578 t579) else (none)) else (spec_l1Cur_some.l0 k1 a1 x5_1 (wrap64 (x6_1 + 1)) s0_0 t578 t579))=some (r1,r2,r3):=H
    have A4:=aM5 A40
    clear A40
    by_cases c5:t577=true
    ·subst c5
     have H1:(if x5_1.length < 17592186044416 then (spec_l1Cur_some.l0 k1 a1 (x5_1 ++ [x6_1]) (wrap64 (x6_1 + 1)) s0_0 t578 t579) else (none))=some (r1,r2,r3):=by rw [if_pos rfl] at H;exact H
     clear H
     have H:=H1
     clear H1
     by_cases c6:x5_1.length < 17592186044416
     ·rw [if_pos c6] at H
      have LMc6:=aM5 c6
      clear c6
      obtain ⟨y580,hy580⟩:∃ y_:List Int,y_=(x5_1 ++ [x6_1]):=⟨_,rfl⟩
      replace H:(spec_l1Cur_some.l0 k1 a1 y580 (wrap64 (x6_1 + 1)) s0_0 t578 t579)=some (r1,r2,r3):=by first|(rw [hy580];with_reducible exact H)|(have H2_:=(Option.bind_some _ _).symm.trans H;rw [hy580];with_reducible exact H2_)|(have H2_:=(Option.bind_some _ _).symm.trans H;with_reducible exact H2_)|with_reducible exact H|(rw [hy580];exact H)|exact H
      have Ny580:=aM5 hy580
      clear hy580
      have H':=aM5 H
      clear H
      go_wp2_with (first|((with_reducible refine gate_callee (f:=86) rfl ?_);refine goesL_ (some 14) rfl rfl Try.func86 (zsx5_0) rfl #[.pointer (some ⟨g,0,none⟩),.int .i64 3] rfl (zsx5_1) ?_;(with_reducible refine (spec_l1Cur_one.calls g s0_0 x1001_1 x1002_1 3 true t578 t579 w0 _ ?side1 ?side2 A4.out).mono ?_);(case side1=>exact zsx5_4);(case side2=>exact zsx5_5);rintro e w7 ⟨rfl,hi,hb,hk⟩;refine ⟨_,rfl,?_⟩;have n0_:=aM5 (Kd.R_mono (Kd.R_keep (IsS61.apart (show IsS61 w0 _ g s0_0 x1001_1 x1002_1 from zsx5_4) (zsx5_15) (by decide)) hk (fun _ h=>h.2)) (fun _ h=>h.1));have n1_:=aM5 (kT5 (zsx5_2) hk (.inl rfl));have n2_:=aM5 (hb);have n3_:=aM5 (hi);clear HO_5 HK HB HI0;have HO_5:=n0_;have HK:=n1_;have HB:=n2_;have HI0:=n3_;clear n0_ n1_ n2_ n3_;(try clear hb);(try clear hb2);(try clear hk);(try clear hi))|((with_reducible refine gate_builtin (b:=.append) (xs:=#[.tmp 15,.tmp 17]) rfl ?_);at_builtin;refine Kd.R_append (Kd.int .i64) w.heap.size rfl (.tmp 15) (.tmp 17) 33 3 (.int .i64 0) 8 rfl Try.underlying33 info3 rfl (by decide) (by omega) u5 x5_1 x6_1 [.int .i64 x6_1] (fun _=>True) (fun _=>False) rfl rfl ?aP (fun _ hk=>hk.elim) ?aF ?aO (Below.refl _ _) ?aS ?aL ?_;(case aP=>exact rfl);(case aF=>exact (fun _ _=>trivial));(case aO=>exact (zsx5_15));(case aS=>exact (keep_size (w:=w) (g:=g) (row:=none) (zsx5_2)));(case aL=>have:=LMc6.out;omega);intro v581 w8 ho hb hg hat;rw [← Ny580.out] at ho;have n0_:=aM5 (IsS61.grown (zsx5_4) hg (IsS61.own_ne HI0.out HO_5.out (by decide)));have n1_:=aM5 (below_weaken (zsx5_5) HL.out hb);have n2_:=aM5 (kT5 (zsx5_2) (KeepBut.of_grown hg g) (Kd.R_base2 HO_5.out));have n3_:=aM5 (ho);clear HI0 HB HK HO_5;have HI0:=n0_;have HB:=n1_;have HK:=n2_;have HO582:=n3_;clear n0_ n1_ n2_ n3_ ho hb hg hat))
      go_roundg k1
      case measure=>have:=HK1.out;omega
      case rel=>exact ⟨(y580),(wrap64 (x6_1 + 1)),(t578),(t579),(zsx5_3),H',⟨zsx5_17⟩,⟨by (with_reducible repeat (first|apply Kd.R_alloc|apply Kd.R_drewN|apply Kd.R_drew));exact HO582.out⟩,⟨zsx5_4⟩,⟨zsx5_2⟩,⟨zsx5_5⟩⟩
     ·rw [if_neg c6] at H
      exact absurd H (by simp)
    ·replace c5:=Bool.eq_false_iff.mpr c5
     subst c5
     have H1:(spec_l1Cur_some.l0 k1 a1 x5_1 (wrap64 (x6_1 + 1)) s0_0 t578 t579)=some (r1,r2,r3):=by rw [if_neg (show ¬ (false=true) by decide)] at H;exact H
     clear H
     have H:=H1
     clear H1
     have H':=aM5 H
     clear H
     go_wp2_with (first|((with_reducible refine gate_callee (f:=86) rfl ?_);refine goesL_ (some 14) rfl rfl Try.func86 (zsx5_0) rfl #[.pointer (some ⟨g,0,none⟩),.int .i64 3] rfl (zsx5_1) ?_;(with_reducible refine (spec_l1Cur_one.calls g s0_0 x1001_1 x1002_1 3 false t578 t579 w0 _ ?side1 ?side2 A4.out).mono ?_);(case side1=>exact zsx5_4);(case side2=>exact zsx5_5);rintro e w9 ⟨rfl,hi,hb,hk⟩;refine ⟨_,rfl,?_⟩;have n0_:=aM5 (Kd.R_mono (Kd.R_keep (IsS61.apart (show IsS61 w0 _ g s0_0 x1001_1 x1002_1 from zsx5_4) (zsx5_15) (by decide)) hk (fun _ h=>h.2)) (fun _ h=>h.1));have n1_:=aM5 (kT5 (zsx5_2) hk (.inl rfl));have n2_:=aM5 (hb);have n3_:=aM5 (hi);clear HO_5 HK HB HI0;have HO_5:=n0_;have HK:=n1_;have HB:=n2_;have HI0:=n3_;clear n0_ n1_ n2_ n3_;(try clear hb);(try clear hb2);(try clear hk);(try clear hi)))
     go_roundg k1
     case measure=>have:=HK1.out;omega
     case rel=>exact ⟨(x5_1),(wrap64 (x6_1 + 1)),(t578),(t579),(zsx5_3),H',⟨zsx5_17⟩,⟨zsx5_15⟩,⟨zsx5_4⟩,⟨zsx5_2⟩,⟨zsx5_5⟩⟩
   ·rw [if_neg c3] at H
    have c3b0:decide (x6_1 < a1)=false:=decide_eq_false c3
    clear c3
    replace H:=bI5.mp H
    obtain ⟨⟨t583,t584,t585⟩,A100,H⟩:=H
    replace H:(if t583=0 then ((spec_l1Cur_among.f s0_0 t584 t585 (([(-1),a1,0]:List Int))).bind fun bt589=>(if x5_1.length < 17592186044416 then (some ((x5_1 ++ [bt589.1]),bt589.2.1,bt589.2.2)) else (none))) else (if t583=1 then (spec_l1Cur_some.l1 k1 a1 ([]:List Int) 0 s0_0 t584 t585) else (some (x5_1,t584,t585))))=some (r1,r2,r3):=H
    have A10:=aM5 A100
    clear A100
    by_cases c11:t583=0
    ·rw [if_pos c11] at H
     have c11b0:(t583 == 0)=true:=beq_iff_eq.mpr c11
     have c11b1:(t583 != 0)=false:=bne_eq_false_iff_eq.mpr c11
     clear c11
     obtain ⟨y586,hy586⟩:∃ y_:List Int,y_=(([(-1),a1,0]:List Int)):=⟨_,rfl⟩
     replace H:((spec_l1Cur_among.f s0_0 t584 t585 y586).bind fun bt589=>(if x5_1.length < 17592186044416 then (some ((x5_1 ++ [bt589.1]),bt589.2.1,bt589.2.2)) else (none)))=some (r1,r2,r3):=by first|(rw [hy586];with_reducible exact H)|(have H2_:=(Option.bind_some _ _).symm.trans H;rw [hy586];with_reducible exact H2_)|(have H2_:=(Option.bind_some _ _).symm.trans H;with_reducible exact H2_)|with_reducible exact H|(rw [hy586];exact H)|exact H
     have Ny586:=aM5 hy586
     clear hy586
     replace H:=bI5.mp H
     obtain ⟨⟨t589,t590,t591⟩,A120,H⟩:=H
     replace H:(if x5_1.length < 17592186044416 then (some ((x5_1 ++ [t589]),t590,t591)) else (none))=some (r1,r2,r3):=H
     have A12:=aM5 A120
     clear A120
     by_cases c13:x5_1.length < 17592186044416
     ·rw [if_pos c13] at H
      have LMc13:=aM5 c13
      clear c13
      obtain ⟨y592,hy592⟩:∃ y_:List Int,y_=(x5_1 ++ [t589]):=⟨_,rfl⟩
      replace H:(some (y592,t590,t591))=some (r1,r2,r3):=by first|(rw [hy592];with_reducible exact H)|(have H2_:=(Option.bind_some _ _).symm.trans H;rw [hy592];with_reducible exact H2_)|(have H2_:=(Option.bind_some _ _).symm.trans H;with_reducible exact H2_)|with_reducible exact H|(rw [hy592];exact H)|exact H
      have Ny592:=aM5 hy592
      clear hy592
      simp only [Option.some.injEq,Prod.mk.injEq] at H
      obtain ⟨rfl,rfl,rfl⟩:=H
      go_wp2_with (first|((with_reducible refine gate_callee (f:=53) rfl ?_);refine goesL_ (some 20) rfl rfl Try.func53 (zsx5_0) rfl #[.pointer (some ⟨g,0,none⟩),.int .i64 24] rfl (zsx5_1) ?_;(with_reducible refine (spec_l1Cur_pick.calls g s0_0 x1001_1 x1002_1 24 t583 t584 t585 w0 _ ?side1 ?side2 A10.out).mono ?_);(case side1=>exact zsx5_4);(case side2=>exact zsx5_5);rintro e w14 ⟨rfl,hi,hb,hk⟩;refine ⟨_,rfl,?_⟩;have n0_:=aM5 (Kd.R_mono (Kd.R_keep (IsS61.apart (show IsS61 w0 _ g s0_0 x1001_1 x1002_1 from zsx5_4) (zsx5_15) (by decide)) hk (fun _ h=>h.2)) (fun _ h=>h.1));have n1_:=aM5 (kT5 (zsx5_2) hk (.inl rfl));have n2_:=aM5 (hb);have n3_:=aM5 (hi);clear HO_5 HK HB HI0;have HO_5:=n0_;have HK:=n1_;have HB:=n2_;have HI0:=n3_;clear n0_ n1_ n2_ n3_;(try clear hb);(try clear hb2);(try clear hk);(try clear hi))|((with_reducible refine gate_dst (N:=26) rfl ?_);refine Kd.R_lit (Kd.int .i64) _ 3 ?hg (N:=26) ?hd (xs:=([(-1),a1,0]:List Int)) (inner:=[.int .i64 (-1),.int .i64 a1,.int .i64 0]) (ok:=fun _=>True) (okp:=fun _=>True) ?hr ?hp (fun _ hk=>hk) trivial (Below.refl _ _) (Nat.le_refl _) (by simp) ?_;(case hd=>rfl);(case hg=>rfl);(case hr=>exact zsx5_23);(case hp=>exact (Reps.one (show Kd.M (Kd.int .i64) _ _ _ (-1) [.int .i64 (-1)] from rfl) (Reps.one (show Kd.M (Kd.int .i64) _ _ _ a1 [.int .i64 a1] from rfl) (Reps.one (show Kd.M (Kd.int .i64) _ _ _ 0 [.int .i64 0] from rfl) (Reps.none _ _)))));intro v587 w15 ho16 hb hg_ hnew_;clear hg_ hnew_;(first|rw [← Ny586.out] at ho16|(simp only [Int.reduceToNat] at ho16;rw [← Ny586.out] at ho16));have n0_:=aM5 (Kd.R_elder' (zsx5_15) (Kd.R_base ho16) hb);have n1_:=aM5 (Kd.R_lower (Kd.R_new' ho16 (Kd.R_lt (zsx5_15))) (keep_size (w:=w) (g:=g) (row:=none) (zsx5_2)));have n2_:=aM5 (IsS61.below (zsx5_4) hb);have n3_:=aM5 (kT5 (zsx5_2) (KeepBut.of_below hb g none) (.inl rfl));have n4_:=aM5 (below_step (zsx5_5) hb);clear HO_5 HI0 HK HB;have HO_5:=n0_;have HO588:=n1_;have HI0:=n2_;have HK:=n3_;have HB:=n4_;clear n0_ n1_ n2_ n3_ n4_ hb ho16;obtain ⟨Ao17,co17,eo17⟩:=Kd.R_slice HO588.out;subst eo17)|((with_reducible refine gate_callee (f:=66) rfl ?_);refine goesL_ (some 27) rfl rfl Try.func66 (zsx5_0) rfl #[.pointer (some ⟨g,0,none⟩),.slice Ao17 y586.length co17] rfl (zsx5_1) ?_;(with_reducible refine (spec_l1Cur_among.calls g s0_0 t584 t585 _ _ y586 t589 t590 t591 w0 _ ?side1 ?side2 ?side3 ?side4 ?side5 A12.out).mono ?_);(case side1=>exact zsx5_4);(case side2=>exact zsx5_5);(case side3=>repeat (first|exact (Kd.R_reads' HO588.out).2.2|(with_reducible refine Kd.C_alloc ?_ _)|(with_reducible refine Kd.C_drewN ?_ _)|(with_reducible refine Kd.C_drew ?_)));(case side4=>exact (Kd.R_reads' HO588.out).2.1);(case side5=>exact far_slice (IsS61.own_ne HI0.out HO588.out (by decide)));rintro e w18 ⟨rfl,hi,hb,hk⟩;refine ⟨_,rfl,?_⟩;have n0_:=aM5 (Kd.R_mono (Kd.R_keep (IsS61.apart (show IsS61 w0 _ g s0_0 t584 t585 from zsx5_4) (zsx5_15) (by decide)) hk (fun _ h=>h.2)) (fun _ h=>h.1));have n1_:=aM5 (Kd.R_mono (Kd.R_keep (IsS61.apart (show IsS61 w0 _ g s0_0 t584 t585 from zsx5_4) (zsx5_19) (by decide)) hk (fun _ h=>h.2)) (fun _ h=>h.1));have n2_:=aM5 (kT5 (zsx5_2) hk (.inl rfl));have n3_:=aM5 (hb);have n4_:=aM5 (hi);clear HO_5 HO588 HK HB HI0;have HO_5:=n0_;have HO588:=n1_;have HK:=n2_;have HB:=n3_;have HI0:=n4_;clear n0_ n1_ n2_ n3_ n4_;(try clear hb);(try clear hb2);(try clear hk);(try clear hi))|((with_reducible refine gate_builtin (b:=.append) (xs:=#[.tmp 23,.tmp 28]) rfl ?_);at_builtin;refine Kd.R_append (Kd.int .i64) w.heap.size rfl (.tmp 23) (.tmp 28) 33 3 (.int .i64 0) 8 rfl Try.underlying33 info3 rfl (by decide) (by omega) u5 x5_1 t589 [.int .i64 t589] (fun k_=>some k_≠(.slice Ao17 y586.length co17:Value).ownBlock) (fun _=>False) rfl rfl ?aP (fun _ hk=>hk.elim) ?aF ?aO (Below.refl _ _) ?aS ?aL ?_;(case aP=>exact rfl);(case aF=>exact (fun k_ hk=>Kd.fresh' (Kd.R_lt (zsx5_19)) k_ hk));(case aO=>exact (by (with_reducible repeat (first|apply Kd.R_alloc|apply Kd.R_drewN|apply Kd.R_drew));exact Kd.R_mono HO_5.out (fun _ hk=>hk.2)));(case aS=>exact (keep_size (w:=w) (g:=g) (row:=none) (zsx5_2)));(case aL=>have:=LMc13.out;omega);intro v593 w19 ho hb hg hat;rw [← Ny592.out] at ho;have n0_:=aM5 (IsS61.grown (zsx5_4) hg (IsS61.own_ne HI0.out HO_5.out (by decide)));have n1_:=aM5 (Kd.R_after (ok:=(fun _=>True)) (zsx5_19) hg hat);have n2_:=aM5 (below_weaken (zsx5_5) HL.out hb);have n3_:=aM5 (kT5 (zsx5_2) (KeepBut.of_grown hg g) (Kd.R_base2 HO_5.out));have n4_:=aM5 (ho);clear HI0 HO588 HB HK HO_5;have HI0:=n0_;have HO588:=n1_;have HB:=n2_;have HK:=n3_;have HO594:=n4_;clear n0_ n1_ n2_ n3_ n4_ ho hb hg hat))
      go_ret
      exact ⟨_,zsx5_8,by (with_reducible repeat (first|apply Kd.R_alloc|apply Kd.R_drewN|apply Kd.R_drew));exact Kd.R_mono HO594.out (fun _ hk=>trivial),zsx5_4,zsx5_5,zsx5_2⟩
     ·rw [if_neg c13] at H
      exact absurd H (by simp)
    ·rw [if_neg c11] at H
     have c11b0:(t583 == 0)=false:=beq_eq_false_iff_ne.mpr c11
     have c11b1:(t583 != 0)=true:=bne_iff_ne.mpr c11
     by_cases c20:t583=1
     ·rw [if_pos c20] at H
      have c20b0:(t583 == 1)=true:=beq_iff_eq.mpr c20
      have c20b1:(t583 != 1)=false:=bne_eq_false_iff_eq.mpr c20
      clear c20
      have H':=aM5 H
      clear H
      go_wp2_with (first|((with_reducible refine gate_callee (f:=53) rfl ?_);refine goesL_ (some 20) rfl rfl Try.func53 (zsx5_0) rfl #[.pointer (some ⟨g,0,none⟩),.int .i64 24] rfl (zsx5_1) ?_;(with_reducible refine (spec_l1Cur_pick.calls g s0_0 x1001_1 x1002_1 24 t583 t584 t585 w0 _ ?side1 ?side2 A10.out).mono ?_);(case side1=>exact zsx5_4);(case side2=>exact zsx5_5);rintro e w21 ⟨rfl,hi,hb,hk⟩;refine ⟨_,rfl,?_⟩;have n0_:=aM5 (Kd.R_mono (Kd.R_keep (IsS61.apart (show IsS61 w0 _ g s0_0 x1001_1 x1002_1 from zsx5_4) (zsx5_15) (by decide)) hk (fun _ h=>h.2)) (fun _ h=>h.1));have n1_:=aM5 (kT5 (zsx5_2) hk (.inl rfl));have n2_:=aM5 (hb);have n3_:=aM5 (hi);clear HO_5 HK HB HI0;have HO_5:=n0_;have HK:=n1_;have HB:=n2_;have HI0:=n3_;clear n0_ n1_ n2_ n3_;(try clear hb);(try clear hb2);(try clear hk);(try clear hi)))
      go_loopg [5,7] k1 (fun kq v5 v7 w'=>∃ (x5_2:List Int) (x7_2:Int),v7=.int .i64 x7_2∧Aside0 (spec_l1Cur_some.l1 kq a1 x5_2 x7_2 s0_0 t584 t585=some (r1,r2,r3))∧Aside0 (kq≤k1)∧Aside0 (Kd.R (Kd.int .i64) 3 w' w.heap.size (fun _=>True) v5 x5_2)∧Aside0 (IsS61 w0 w' g s0_0 t584 t585)∧Aside0 (KeepBut w w' g none)∧Aside0 (Below w0.heap.size w0 w'))
      case atStart=>exact ⟨(([]:List Int)),(0),(zsx5_3),H',⟨Nat.le_refl _⟩,⟨zsx5_13⟩,⟨zsx5_4⟩,⟨zsx5_2⟩,⟨zsx5_5⟩⟩
      case round =>
       clear H'
       try clear c1
       try clear c2
       try clear p2
       try clear c3
       try clear c3b0
       try clear c5
       try clear c6
       try clear p6
       try clear c8
       try clear c11
       try clear c11b0
       try clear c11b1
       try clear c13
       try clear c20
       try clear c20b0
       try clear c20b1
       try clear p2
       obtain ⟨x5_2,x7_2,rfl,HA,HK2,HO_5,HI0,HK,HB⟩:=hrel
       cases gk with
       | zero=>exact absurd HA.out (by simp [spec_l1Cur_some.l1])
       | succ k2 =>
        have H:=HA.out
        clear HA
        simp only [spec_l1Cur_some.l1] at H
        by_cases c22:x7_2 < a1
        ·rw [if_pos c22] at H
         have c22b0:decide (x7_2 < a1)=true:=dT5 c22
         clear c22
         by_cases c23:x5_2.length < 17592186044416
         ·rw [if_pos c23] at H
          have LMc23:=aM5 c23
          clear c23
          obtain ⟨y595,hy595⟩:∃ y_:List Int,y_=(x5_2 ++ [x7_2]):=⟨_,rfl⟩
          replace H:(spec_l1Cur_some.l1 k2 a1 y595 (wrap64 (x7_2 + 1)) s0_0 t584 t585)=some (r1,r2,r3):=by first|(rw [hy595];with_reducible exact H)|(have H2_:=(Option.bind_some _ _).symm.trans H;rw [hy595];with_reducible exact H2_)|(have H2_:=(Option.bind_some _ _).symm.trans H;with_reducible exact H2_)|with_reducible exact H|(rw [hy595];exact H)|exact H
          have Ny595:=aM5 hy595
          clear hy595
          have H':=aM5 H
          clear H
          go_wp2_with (first|((with_reducible refine gate_builtin (b:=.append) (xs:=#[.tmp 37,.tmp 39]) rfl ?_);at_builtin;refine Kd.R_append (Kd.int .i64) w.heap.size rfl (.tmp 37) (.tmp 39) 33 3 (.int .i64 0) 8 rfl Try.underlying33 info3 rfl (by decide) (by omega) u5 x5_2 x7_2 [.int .i64 x7_2] (fun _=>True) (fun _=>False) rfl rfl ?aP (fun _ hk=>hk.elim) ?aF ?aO (Below.refl _ _) ?aS ?aL ?_;(case aP=>exact rfl);(case aF=>exact (fun _ _=>trivial));(case aO=>exact (zsx5_15));(case aS=>exact (keep_size (w:=w) (g:=g) (row:=none) (zsx5_2)));(case aL=>have:=LMc23.out;omega);intro v596 w24 ho hb hg hat;rw [← Ny595.out] at ho;have n0_:=aM5 (IsS61.grown (zsx5_4) hg (IsS61.own_ne HI0.out HO_5.out (by decide)));have n1_:=aM5 (below_weaken (zsx5_5) HL.out hb);have n2_:=aM5 (kT5 (zsx5_2) (KeepBut.of_grown hg g) (Kd.R_base2 HO_5.out));have n3_:=aM5 (ho);clear HI0 HB HK HO_5;have HI0:=n0_;have HB:=n1_;have HK:=n2_;have HO597:=n3_;clear n0_ n1_ n2_ n3_ ho hb hg hat))
          go_roundg k2
          case measure=>have:=HK1.out;have:=HK2.out;omega
          case rel=>exact ⟨(y595),(wrap64 (x7_2 + 1)),(zsx5_3),H',⟨by have:=HK1.out;have:=HK2.out;omega⟩,⟨by (with_reducible repeat (first|apply Kd.R_alloc|apply Kd.R_drewN|apply Kd.R_drew));exact HO597.out⟩,⟨zsx5_4⟩,⟨zsx5_2⟩,⟨zsx5_5⟩⟩
         ·rw [if_neg c23] at H
          exact absurd H (by simp)
        ·rw [if_neg c22] at H
         have c22b0:decide (x7_2 < a1)=false:=decide_eq_false c22
         clear c22
         simp only [Option.some.injEq,Prod.mk.injEq] at H
         obtain ⟨rfl,rfl,rfl⟩:=H
         go_wp2
         go_ret
         exact ⟨_,zsx5_8,zsx5_15,zsx5_4,zsx5_5,zsx5_2⟩
     ·rw [if_neg c20] at H
      have c20b0:(t583 == 1)=false:=beq_eq_false_iff_ne.mpr c20
      have c20b1:(t583 != 1)=true:=bne_iff_ne.mpr c20
      simp only [Option.some.injEq,Prod.mk.injEq] at H
      obtain ⟨rfl,rfl,rfl⟩:=H
      go_wp2_with (first|((with_reducible refine gate_callee (f:=53) rfl ?_);refine goesL_ (some 20) rfl rfl Try.func53 (zsx5_0) rfl #[.pointer (some ⟨g,0,none⟩),.int .i64 24] rfl (zsx5_1) ?_;(with_reducible refine (spec_l1Cur_pick.calls g s0_0 x1001_1 x1002_1 24 t583 t584 t585 w0 _ ?side1 ?side2 A10.out).mono ?_);(case side1=>exact zsx5_4);(case side2=>exact zsx5_5);rintro e w25 ⟨rfl,hi,hb,hk⟩;refine ⟨_,rfl,?_⟩;have n0_:=aM5 (Kd.R_mono (Kd.R_keep (IsS61.apart (show IsS61 w0 _ g s0_0 x1001_1 x1002_1 from zsx5_4) (zsx5_15) (by decide)) hk (fun _ h=>h.2)) (fun _ h=>h.1));have n1_:=aM5 (kT5 (zsx5_2) hk (.inl rfl));have n2_:=aM5 (hb);have n3_:=aM5 (hi);clear HO_5 HK HB HI0;have HO_5:=n0_;have HK:=n1_;have HB:=n2_;have HI0:=n3_;clear n0_ n1_ n2_ n3_;(try clear hb);(try clear hb2);(try clear hk);(try clear hi)))
      go_ret
      exact ⟨_,zsx5_8,zsx5_15,zsx5_4,zsx5_5,zsx5_2⟩
def laws_big.f (l0:List Int) (l1:List Int):Option (Bool):=if (l0.length:Int) > 1048576 then (some true) else (some (decide ((l1.length:Int) > (wrap64 (1048576 - (l0.length:Int))))))
set_option maxHeartbeats 8000000 in
set_option maxRecDepth 100000 in
theorem laws_big.calls (A0:Option Addr) (c0:Nat) (l0:List Int) (A1:Option Addr) (c1:Nat) (l1:List Int) (r:Bool) (w:World) (hr0:Kd.C (Kd.int .u8) w A0 l0.length l0) (hc0:l0.length≤c0) (hr1:Kd.C (Kd.int .u8) w A1 l1.length l1) (hc1:l1.length≤c1) (h:laws_big.f l0 l1=some r) :
  Calls Try.prog 11 #[.slice A0 l0.length c0,.slice A1 l1.length c1] w fun e w'=>e=.returned (.bool r)∧Drawn0 w w':=by
 have HR0:=aM5 hr0
 have HC0:=aM5 hc0
 clear hr0 hc0
 have HR1:=aM5 hr1
 have HC1:=aM5 hc1
 clear hr1 hc1
 have H:(if (l0.length:Int) > 1048576 then (some true) else (some (decide ((l1.length:Int) > (wrap64 (1048576 - (l0.length:Int)))))))=some r:=h
 clear h
 by_cases c3:(l0.length:Int) > 1048576
 ·rw [if_pos c3] at H
  have c3b0:decide (1048576 < (l0.length:Int))=true:=dT5 c3
  have c3b1:decide (1048576 < l0.length)=true:=dT5 (by omega)
  clear c3
  obtain rfl:=Option.some.inj H
  go_enter Try.func11,Try.ntmps11
  go_wp2
  go_ret
  exact ⟨zsx5_3,zsx5_20⟩
 ·rw [if_neg c3] at H
  have c3b0:decide (1048576 < (l0.length:Int))=false:=decide_eq_false c3
  have c3b1:decide (1048576 < l0.length)=false:=decide_eq_false (by omega)
  clear c3
  obtain rfl:=Option.some.inj H
  go_enter Try.func11,Try.ntmps11
  go_wp2
  go_ret
  exact ⟨zsx5_3,zsx5_20⟩
def laws_sameInts.l0:Nat→List Int→List Int→Int→Int→Option (Bool)
 | 0,_,_,_,_=>none
 | k + 1,x0,x1,x12,x13=>if x13 < x12 then (if 0≤x13 then (if x13 < (x0.length:Int) then (if x13 < (x1.length:Int) then (if (rd x0 x13)=(rd x1 x13) then (laws_sameInts.l0 k x0 x1 x12 (wrap64 (x13 + 1))) else (some false)) else (none)) else (none)) else (none)) else (some true)
def laws_sameInts.f (k:Nat) (l0:List Int) (l1:List Int):Option (Bool):=if (l0.length:Int)=(l1.length:Int) then (laws_sameInts.l0 k l0 l1 (l0.length:Int) 0) else (some false)
set_option maxHeartbeats 8000000 in
set_option maxRecDepth 100000 in
theorem laws_sameInts.calls (k:Nat) (A0:Option Addr) (c0:Nat) (l0:List Int) (A1:Option Addr) (c1:Nat) (l1:List Int) (r:Bool) (w:World) (hr0:Kd.C (Kd.int .i64) w A0 l0.length l0) (hc0:l0.length≤c0) (hr1:Kd.C (Kd.int .i64) w A1 l1.length l1) (hc1:l1.length≤c1) (h:laws_sameInts.f k l0 l1=some r) :
  Calls Try.prog 17 #[.slice A0 l0.length c0,.slice A1 l1.length c1] w fun e w'=>e=.returned (.bool r)∧Drawn0 w w':=by
 have HR0:=aM5 hr0
 have HC0:=aM5 hc0
 clear hr0 hc0
 have HR1:=aM5 hr1
 have HC1:=aM5 hc1
 clear hr1 hc1
 have H:(if (l0.length:Int)=(l1.length:Int) then (laws_sameInts.l0 k l0 l1 (l0.length:Int) 0) else (some false))=some r:=h
 clear h
 by_cases c3:(l0.length:Int)=(l1.length:Int)
 ·rw [if_pos c3] at H
  have c3b0:((l0.length:Int) == (l1.length:Int))=true:=beq_iff_eq.mpr c3
  have c3b1:((l0.length:Int) != (l1.length:Int))=false:=bne_eq_false_iff_eq.mpr c3
  have c3b2:(l0.length == l1.length)=true:=by first|simpa using c3|(simp at c3 ⊢;omega)
  clear c3
  have H':=aM5 H
  clear H
  go_enter Try.func17,Try.ntmps17
  go_wp2
  repeat (go_quiet (fail);try go_wp2)
  go_loopg [13] k (fun kq v13 w'=>∃ (x13_1:Int),v13=.int .i64 x13_1∧Aside0 (laws_sameInts.l0 kq l0 l1 (l0.length:Int) x13_1=some r)∧Aside0 (kq≤k)∧Drawn0 w w')
  case atStart=>exact ⟨(0),(zsx5_3),H',⟨Nat.le_refl _⟩,zsx5_20⟩
  case round =>
   clear H'
   try clear c1
   try clear p2
   try clear c3
   try clear c3b0
   try clear c3b1
   try clear c3b2
   obtain ⟨x13_1,rfl,HA,HK1,⟨m1,rfl⟩⟩:=hrel
   cases gk with
   | zero=>exact absurd HA.out (by simp [laws_sameInts.l0])
   | succ k1 =>
    have H:=HA.out
    clear HA
    simp only [laws_sameInts.l0] at H
    by_cases c4:x13_1 < (l0.length:Int)
    ·rw [if_pos c4] at H
     have c4b0:decide (x13_1 < (l0.length:Int))=true:=dT5 c4
     clear c4
     by_cases c5:0≤x13_1
     ·rw [if_pos c5] at H
      have c5b0:decide (0≤x13_1)=true:=dT5 c5
      clear c5
      by_cases c6:x13_1 < (l0.length:Int)
      ·rw [if_pos c6] at H
       have c6b0:decide (x13_1 < (l0.length:Int))=true:=dT5 c6
       clear c6
       by_cases c7:x13_1 < (l1.length:Int)
       ·rw [if_pos c7] at H
        have c7b0:decide (x13_1 < (l1.length:Int))=true:=dT5 c7
        clear c7
        by_cases c8:(rd l0 x13_1)=(rd l1 x13_1)
        ·rw [if_pos c8] at H
         have c8b0:((rd l0 x13_1) == (rd l1 x13_1))=true:=beq_iff_eq.mpr c8
         have c8b1:((rd l0 x13_1) != (rd l1 x13_1))=false:=bne_eq_false_iff_eq.mpr c8
         clear c8
         have H':=aM5 H
         clear H
         have p481:0≤(x13_1:Int):=oD5 (zsx5_18)
         have q481:x13_1 < (l0.length:Int):=oD5 (zsx5_18)
         obtain ⟨ad481,e481,hx481_0⟩:=Kd.at_int HR0.out x13_1 p481 q481
         cases e481
         replace p481:=eq_true p481
         replace q481:=eq_true q481
         have p482:0≤(x13_1:Int):=oD5 (zsx5_18)
         have q482:x13_1 < (l1.length:Int):=oD5 (zsx5_18)
         obtain ⟨ad482,e482,hx482_0⟩:=Kd.at_int HR1.out x13_1 p482 q482
         cases e482
         replace p482:=eq_true p482
         replace q482:=eq_true q482
         go_wp2
         repeat (go_quiet (fail);try go_wp2)
         go_roundg k1
         case measure=>have:=HK1.out;omega
         case rel=>exact ⟨(wrap64 (x13_1 + 1)),(zsx5_3),H',⟨zsx5_17⟩,zsx5_20⟩
        ·rw [if_neg c8] at H
         have c8b0:((rd l0 x13_1) == (rd l1 x13_1))=false:=beq_eq_false_iff_ne.mpr c8
         have c8b1:((rd l0 x13_1) != (rd l1 x13_1))=true:=bne_iff_ne.mpr c8
         obtain rfl:=Option.some.inj H
         have p481:0≤(x13_1:Int):=oD5 (zsx5_18)
         have q481:x13_1 < (l0.length:Int):=oD5 (zsx5_18)
         obtain ⟨ad481,e481,hx481_0⟩:=Kd.at_int HR0.out x13_1 p481 q481
         cases e481
         replace p481:=eq_true p481
         replace q481:=eq_true q481
         have p482:0≤(x13_1:Int):=oD5 (zsx5_18)
         have q482:x13_1 < (l1.length:Int):=oD5 (zsx5_18)
         obtain ⟨ad482,e482,hx482_0⟩:=Kd.at_int HR1.out x13_1 p482 q482
         cases e482
         replace p482:=eq_true p482
         replace q482:=eq_true q482
         go_wp2
         repeat (go_quiet (fail);try go_wp2)
         go_ret
         exact ⟨zsx5_3,zsx5_20⟩
       ·rw [if_neg c7] at H
        exact absurd H (by simp)
      ·rw [if_neg c6] at H
       exact absurd H (by simp)
     ·rw [if_neg c5] at H
      exact absurd H (by simp)
    ·rw [if_neg c4] at H
     have c4b0:decide (x13_1 < (l0.length:Int))=false:=decide_eq_false c4
     clear c4
     obtain rfl:=Option.some.inj H
     go_wp2
     repeat (go_quiet (fail);try go_wp2)
     go_ret
     exact ⟨zsx5_3,zsx5_20⟩
 ·rw [if_neg c3] at H
  have c3b0:((l0.length:Int) == (l1.length:Int))=false:=beq_eq_false_iff_ne.mpr c3
  have c3b1:((l0.length:Int) != (l1.length:Int))=true:=bne_iff_ne.mpr c3
  have c3b2:(l0.length == l1.length)=false:=by first|simpa using c3|(simp at c3 ⊢;omega)
  obtain rfl:=Option.some.inj H
  go_enter Try.func17,Try.ntmps17
  go_wp2
  repeat (go_quiet (fail);try go_wp2)
  go_ret
  exact ⟨zsx5_3,zsx5_20⟩
def laws_sameLists.l0:Nat→List (List Int)→List (List Int)→Int→Int→Option (Bool)
 | 0,_,_,_,_=>none
 | k + 1,x0,x1,x12,x13=>if x13 < x12 then (if 0≤x13 then (if x13 < (x0.length:Int) then (if x13 < (x1.length:Int) then ((laws_sameInts.f k (rd_L5 x0 x13) (rd_L5 x1 x13)).bind fun t545=>(if t545=true then (laws_sameLists.l0 k x0 x1 x12 (wrap64 (x13 + 1))) else (some false))) else (none)) else (none)) else (none)) else (some true)
def laws_sameLists.f (k:Nat) (l0:List (List Int)) (l1:List (List Int)):Option (Bool):=if (l0.length:Int)=(l1.length:Int) then (laws_sameLists.l0 k l0 l1 (l0.length:Int) 0) else (some false)
set_option maxHeartbeats 8000000 in
set_option maxRecDepth 100000 in
theorem laws_sameLists.calls (k:Nat) (A0:Option Addr) (c0:Nat) (l0:List (List Int)) (A1:Option Addr) (c1:Nat) (l1:List (List Int)) (r:Bool) (w:World) (hr0:Kd.C (Kd.slice 3 (Kd.int .i64)) w A0 l0.length l0) (hc0:l0.length≤c0) (hr1:Kd.C (Kd.slice 3 (Kd.int .i64)) w A1 l1.length l1) (hc1:l1.length≤c1) (h:laws_sameLists.f k l0 l1=some r) :
  Calls Try.prog 25 #[.slice A0 l0.length c0,.slice A1 l1.length c1] w fun e w'=>e=.returned (.bool r)∧Drawn0 w w':=by
 have HR0:=aM5 hr0
 have HC0:=aM5 hc0
 clear hr0 hc0
 have HR1:=aM5 hr1
 have HC1:=aM5 hc1
 clear hr1 hc1
 have H:(if (l0.length:Int)=(l1.length:Int) then (laws_sameLists.l0 k l0 l1 (l0.length:Int) 0) else (some false))=some r:=h
 clear h
 by_cases c3:(l0.length:Int)=(l1.length:Int)
 ·rw [if_pos c3] at H
  have c3b0:((l0.length:Int) == (l1.length:Int))=true:=beq_iff_eq.mpr c3
  have c3b1:((l0.length:Int) != (l1.length:Int))=false:=bne_eq_false_iff_eq.mpr c3
  have c3b2:(l0.length == l1.length)=true:=by first|simpa using c3|(simp at c3 ⊢;omega)
  clear c3
  have H':=aM5 H
  clear H
  go_enter Try.func25,Try.ntmps25
  go_wp2
  repeat (go_quiet (fail);try go_wp2)
  go_loopg [13] k (fun kq v13 w'=>∃ (x13_1:Int),v13=.int .i64 x13_1∧Aside0 (laws_sameLists.l0 kq l0 l1 (l0.length:Int) x13_1=some r)∧Aside0 (kq≤k)∧Drawn0 w w')
  case atStart=>exact ⟨(0),(zsx5_3),H',⟨Nat.le_refl _⟩,zsx5_20⟩
  case round =>
   clear H'
   try clear c1
   try clear c2
   try clear p2
   try clear c3
   try clear c3b0
   try clear c3b1
   try clear c3b2
   obtain ⟨x13_1,rfl,HA,HK1,⟨m1,rfl⟩⟩:=hrel
   cases gk with
   | zero=>exact absurd HA.out (by simp [laws_sameLists.l0])
   | succ k1 =>
    have H:=HA.out
    clear HA
    simp only [laws_sameLists.l0] at H
    by_cases c4:x13_1 < (l0.length:Int)
    ·rw [if_pos c4] at H
     have c4b0:decide (x13_1 < (l0.length:Int))=true:=dT5 c4
     clear c4
     by_cases c5:0≤x13_1
     ·rw [if_pos c5] at H
      have c5b0:decide (0≤x13_1)=true:=dT5 c5
      clear c5
      by_cases c6:x13_1 < (l0.length:Int)
      ·rw [if_pos c6] at H
       have c6b0:decide (x13_1 < (l0.length:Int))=true:=dT5 c6
       clear c6
       by_cases c7:x13_1 < (l1.length:Int)
       ·rw [if_pos c7] at H
        have c7b0:decide (x13_1 < (l1.length:Int))=true:=dT5 c7
        clear c7
        replace H:=bI5.mp H
        obtain ⟨t545,A80,H⟩:=H
        replace H:(if t545=true then (laws_sameLists.l0 k1 l0 l1 (l0.length:Int) (wrap64 (x13_1 + 1))) else (some false))=some r:=H
        have A8:=aM5 A80
        clear A80
        by_cases c9:t545=true
        ·subst c9
         have H1:(laws_sameLists.l0 k1 l0 l1 (l0.length:Int) (wrap64 (x13_1 + 1)))=some r:=by rw [if_pos rfl] at H;exact H
         clear H
         have H:=H1
         clear H1
         have H':=aM5 H
         clear H
         have p543:0≤(x13_1:Int):=oD5 (zsx5_18)
         have q543:x13_1 < (l0.length:Int):=oD5 (zsx5_18)
         obtain ⟨ad543,A543_0,c543_0,e543,hx543_0,hl543_0,hi543_0⟩:=at_L5 HR0.out x13_1 p543 q543
         cases e543
         have HR543_0:=aM5 hi543_0
         have HC543_0:=aM5 hl543_0
         clear hi543_0 hl543_0
         replace p543:=eq_true p543
         replace q543:=eq_true q543
         have p544:0≤(x13_1:Int):=oD5 (zsx5_18)
         have q544:x13_1 < (l1.length:Int):=oD5 (zsx5_18)
         obtain ⟨ad544,A544_0,c544_0,e544,hx544_0,hl544_0,hi544_0⟩:=at_L5 HR1.out x13_1 p544 q544
         cases e544
         have HR544_0:=aM5 hi544_0
         have HC544_0:=aM5 hl544_0
         clear hi544_0 hl544_0
         replace p544:=eq_true p544
         replace q544:=eq_true q544
         go_wp2_with (first|(go_at_call 17;(with_reducible refine (laws_sameInts.calls k1 _ _ (rd_L5 l0 x13_1) _ _ (rd_L5 l1 x13_1) true _ ?side1 ?side2 ?side3 ?side4 A8.out).mono ?_);(case side1=>exact zsx5_24);(case side2=>exact HC543_0.out);(case side3=>exact zsx5_25);(case side4=>exact HC544_0.out);rintro e w' ⟨rfl,⟨nd,rfl⟩⟩;(try first|exact ⟨rfl,_,World.drewN_drewN _ _ _⟩|exact ⟨rfl,_,Eq.trans (World.drewN_drewN _ _ _) (congrArg (World.drewN _) (Nat.add_assoc _ _ _))⟩)))
         repeat (go_quiet (first|(go_at_call 17;(with_reducible refine (laws_sameInts.calls k1 _ _ (rd_L5 l0 x13_1) _ _ (rd_L5 l1 x13_1) true _ ?side1 ?side2 ?side3 ?side4 A8.out).mono ?_);(case side1=>exact zsx5_24);(case side2=>exact HC543_0.out);(case side3=>exact zsx5_25);(case side4=>exact HC544_0.out);rintro e w' ⟨rfl,⟨nd,rfl⟩⟩;(try first|exact ⟨rfl,_,World.drewN_drewN _ _ _⟩|exact ⟨rfl,_,Eq.trans (World.drewN_drewN _ _ _) (congrArg (World.drewN _) (Nat.add_assoc _ _ _))⟩)));try go_wp2_with (first|(go_at_call 17;(with_reducible refine (laws_sameInts.calls k1 _ _ (rd_L5 l0 x13_1) _ _ (rd_L5 l1 x13_1) true _ ?side1 ?side2 ?side3 ?side4 A8.out).mono ?_);(case side1=>exact zsx5_24);(case side2=>exact HC543_0.out);(case side3=>exact zsx5_25);(case side4=>exact HC544_0.out);rintro e w' ⟨rfl,⟨nd,rfl⟩⟩;(try first|exact ⟨rfl,_,World.drewN_drewN _ _ _⟩|exact ⟨rfl,_,Eq.trans (World.drewN_drewN _ _ _) (congrArg (World.drewN _) (Nat.add_assoc _ _ _))⟩))))
         go_roundg k1
         case measure=>have:=HK1.out;omega
         case rel=>exact ⟨(wrap64 (x13_1 + 1)),(zsx5_3),H',⟨zsx5_17⟩,zsx5_20⟩
        ·replace c9:=Bool.eq_false_iff.mpr c9
         subst c9
         have H1:(some false)=some r:=by rw [if_neg (show ¬ (false=true) by decide)] at H;exact H
         clear H
         have H:=H1
         clear H1
         obtain rfl:=Option.some.inj H
         have p543:0≤(x13_1:Int):=oD5 (zsx5_18)
         have q543:x13_1 < (l0.length:Int):=oD5 (zsx5_18)
         obtain ⟨ad543,A543_0,c543_0,e543,hx543_0,hl543_0,hi543_0⟩:=at_L5 HR0.out x13_1 p543 q543
         cases e543
         have HR543_0:=aM5 hi543_0
         have HC543_0:=aM5 hl543_0
         clear hi543_0 hl543_0
         replace p543:=eq_true p543
         replace q543:=eq_true q543
         have p544:0≤(x13_1:Int):=oD5 (zsx5_18)
         have q544:x13_1 < (l1.length:Int):=oD5 (zsx5_18)
         obtain ⟨ad544,A544_0,c544_0,e544,hx544_0,hl544_0,hi544_0⟩:=at_L5 HR1.out x13_1 p544 q544
         cases e544
         have HR544_0:=aM5 hi544_0
         have HC544_0:=aM5 hl544_0
         clear hi544_0 hl544_0
         replace p544:=eq_true p544
         replace q544:=eq_true q544
         go_wp2_with (first|(go_at_call 17;(with_reducible refine (laws_sameInts.calls k1 _ _ (rd_L5 l0 x13_1) _ _ (rd_L5 l1 x13_1) false _ ?side1 ?side2 ?side3 ?side4 A8.out).mono ?_);(case side1=>exact zsx5_24);(case side2=>exact HC543_0.out);(case side3=>exact zsx5_25);(case side4=>exact HC544_0.out);rintro e w' ⟨rfl,⟨nd,rfl⟩⟩;(try first|exact ⟨rfl,_,World.drewN_drewN _ _ _⟩|exact ⟨rfl,_,Eq.trans (World.drewN_drewN _ _ _) (congrArg (World.drewN _) (Nat.add_assoc _ _ _))⟩)))
         repeat (go_quiet (first|(go_at_call 17;(with_reducible refine (laws_sameInts.calls k1 _ _ (rd_L5 l0 x13_1) _ _ (rd_L5 l1 x13_1) false _ ?side1 ?side2 ?side3 ?side4 A8.out).mono ?_);(case side1=>exact zsx5_24);(case side2=>exact HC543_0.out);(case side3=>exact zsx5_25);(case side4=>exact HC544_0.out);rintro e w' ⟨rfl,⟨nd,rfl⟩⟩;(try first|exact ⟨rfl,_,World.drewN_drewN _ _ _⟩|exact ⟨rfl,_,Eq.trans (World.drewN_drewN _ _ _) (congrArg (World.drewN _) (Nat.add_assoc _ _ _))⟩)));try go_wp2_with (first|(go_at_call 17;(with_reducible refine (laws_sameInts.calls k1 _ _ (rd_L5 l0 x13_1) _ _ (rd_L5 l1 x13_1) false _ ?side1 ?side2 ?side3 ?side4 A8.out).mono ?_);(case side1=>exact zsx5_24);(case side2=>exact HC543_0.out);(case side3=>exact zsx5_25);(case side4=>exact HC544_0.out);rintro e w' ⟨rfl,⟨nd,rfl⟩⟩;(try first|exact ⟨rfl,_,World.drewN_drewN _ _ _⟩|exact ⟨rfl,_,Eq.trans (World.drewN_drewN _ _ _) (congrArg (World.drewN _) (Nat.add_assoc _ _ _))⟩))))
         go_ret
         exact ⟨zsx5_3,zsx5_20⟩
       ·rw [if_neg c7] at H
        exact absurd H (by simp)
      ·rw [if_neg c6] at H
       exact absurd H (by simp)
     ·rw [if_neg c5] at H
      exact absurd H (by simp)
    ·rw [if_neg c4] at H
     have c4b0:decide (x13_1 < (l0.length:Int))=false:=decide_eq_false c4
     clear c4
     obtain rfl:=Option.some.inj H
     go_wp2
     repeat (go_quiet (fail);try go_wp2)
     go_ret
     exact ⟨zsx5_3,zsx5_20⟩
 ·rw [if_neg c3] at H
  have c3b0:((l0.length:Int) == (l1.length:Int))=false:=beq_eq_false_iff_ne.mpr c3
  have c3b1:((l0.length:Int) != (l1.length:Int))=true:=bne_iff_ne.mpr c3
  have c3b2:(l0.length == l1.length)=false:=by first|simpa using c3|(simp at c3 ⊢;omega)
  obtain rfl:=Option.some.inj H
  go_enter Try.func25,Try.ntmps25
  go_wp2
  repeat (go_quiet (fail);try go_wp2)
  go_ret
  exact ⟨zsx5_3,zsx5_20⟩
def laws_pIn.l0:Nat→Int→List Int→Int→Int→Option (Bool)
 | 0,_,_,_,_=>none
 | k + 1,x1,x7,x8,x9=>if x9 < x8 then (if 0≤x9 then (if x9 < (x7.length:Int) then (if (rd x7 x9)=x1 then (some true) else (laws_pIn.l0 k x1 x7 x8 (wrap64 (x9 + 1)))) else (none)) else (none)) else (some false)
def laws_pIn.f (k:Nat) (l0:List Int) (a1:Int):Option (Bool):=laws_pIn.l0 k a1 l0 (l0.length:Int) 0
set_option maxHeartbeats 8000000 in
set_option maxRecDepth 100000 in
theorem laws_pIn.calls (k:Nat) (A0:Option Addr) (c0:Nat) (l0:List Int) (a1:Int) (r:Bool) (w:World) (hr0:Kd.C (Kd.int .i64) w A0 l0.length l0) (hc0:l0.length≤c0) (h:laws_pIn.f k l0 a1=some r) :
  Calls Try.prog 22 #[.slice A0 l0.length c0,.int .i64 a1] w fun e w'=>e=.returned (.bool r)∧Drawn0 w w':=by
 have HR0:=aM5 hr0
 have HC0:=aM5 hc0
 clear hr0 hc0
 have H:(laws_pIn.l0 k a1 l0 (l0.length:Int) 0)=some r:=h
 clear h
 have H':=aM5 H
 clear H
 go_enter Try.func22,Try.ntmps22
 go_wp2
 go_loopg [9] k (fun kq v9 w'=>∃ (x9_1:Int),v9=.int .i64 x9_1∧Aside0 (laws_pIn.l0 kq a1 l0 (l0.length:Int) x9_1=some r)∧Aside0 (kq≤k)∧Drawn0 w w')
 case atStart=>exact ⟨(0),(zsx5_3),H',⟨Nat.le_refl _⟩,zsx5_20⟩
 case round =>
  clear H'
  try clear c2
  try clear p2
  obtain ⟨x9_1,rfl,HA,HK1,⟨m1,rfl⟩⟩:=hrel
  cases gk with
  | zero=>exact absurd HA.out (by simp [laws_pIn.l0])
  | succ k1 =>
   have H:=HA.out
   clear HA
   simp only [laws_pIn.l0] at H
   by_cases c3:x9_1 < (l0.length:Int)
   ·rw [if_pos c3] at H
    have c3b0:decide (x9_1 < (l0.length:Int))=true:=dT5 c3
    clear c3
    by_cases c4:0≤x9_1
    ·rw [if_pos c4] at H
     have c4b0:decide (0≤x9_1)=true:=dT5 c4
     clear c4
     by_cases c5:x9_1 < (l0.length:Int)
     ·rw [if_pos c5] at H
      have c5b0:decide (x9_1 < (l0.length:Int))=true:=dT5 c5
      clear c5
      by_cases c6:(rd l0 x9_1)=a1
      ·rw [if_pos c6] at H
       have c6b0:((rd l0 x9_1) == a1)=true:=beq_iff_eq.mpr c6
       have c6b1:((rd l0 x9_1) != a1)=false:=bne_eq_false_iff_eq.mpr c6
       clear c6
       obtain rfl:=Option.some.inj H
       have p503:0≤(x9_1:Int):=oD5 (zsx5_18)
       have q503:x9_1 < (l0.length:Int):=oD5 (zsx5_18)
       obtain ⟨ad503,e503,hx503_0⟩:=Kd.at_int HR0.out x9_1 p503 q503
       cases e503
       replace p503:=eq_true p503
       replace q503:=eq_true q503
       go_wp2
       go_ret
       exact ⟨zsx5_3,zsx5_20⟩
      ·rw [if_neg c6] at H
       have c6b0:((rd l0 x9_1) == a1)=false:=beq_eq_false_iff_ne.mpr c6
       have c6b1:((rd l0 x9_1) != a1)=true:=bne_iff_ne.mpr c6
       have H':=aM5 H
       clear H
       have p503:0≤(x9_1:Int):=oD5 (zsx5_18)
       have q503:x9_1 < (l0.length:Int):=oD5 (zsx5_18)
       obtain ⟨ad503,e503,hx503_0⟩:=Kd.at_int HR0.out x9_1 p503 q503
       cases e503
       replace p503:=eq_true p503
       replace q503:=eq_true q503
       go_wp2
       go_roundg k1
       case measure=>have:=HK1.out;omega
       case rel=>exact ⟨(wrap64 (x9_1 + 1)),(zsx5_3),H',⟨zsx5_17⟩,zsx5_20⟩
     ·rw [if_neg c5] at H
      exact absurd H (by simp)
    ·rw [if_neg c4] at H
     exact absurd H (by simp)
   ·rw [if_neg c3] at H
    have c3b0:decide (x9_1 < (l0.length:Int))=false:=decide_eq_false c3
    clear c3
    obtain rfl:=Option.some.inj H
    go_wp2
    go_ret
    exact ⟨zsx5_3,zsx5_20⟩
def impl_areBlocks.l0:Nat→List Int→Int→List Int→Int→Int→Option (Bool)
 | 0,_,_,_,_,_=>none
 | k + 1,x0,x1,x7,x8,x9=>if x9 < x8 then (if 0≤x9 then (if x9 < (x7.length:Int) then (if (rd x7 x9) < 0 then (some false) else (if (rd x7 x9) ≥ x1 then (some false) else (if x9 > 0 then (if 0≤(wrap64 (x9 - 1)) then (if (wrap64 (x9 - 1)) < (x0.length:Int) then (if (rd x7 x9)≤(rd x0 (wrap64 (x9 - 1))) then (some false) else (impl_areBlocks.l0 k x0 x1 x7 x8 (wrap64 (x9 + 1)))) else (none)) else (none)) else (impl_areBlocks.l0 k x0 x1 x7 x8 (wrap64 (x9 + 1)))))) else (none)) else (none)) else (some true)
def impl_areBlocks.f (k:Nat) (l0:List Int) (a1:Int):Option (Bool):=impl_areBlocks.l0 k l0 a1 l0 (l0.length:Int) 0
set_option maxHeartbeats 8000000 in
set_option maxRecDepth 100000 in
theorem impl_areBlocks.calls (k:Nat) (A0:Option Addr) (c0:Nat) (l0:List Int) (a1:Int) (r:Bool) (w:World) (hr0:Kd.C (Kd.int .i64) w A0 l0.length l0) (hc0:l0.length≤c0) (h:impl_areBlocks.f k l0 a1=some r) :
  Calls Try.prog 61 #[.slice A0 l0.length c0,.int .i64 a1] w fun e w'=>e=.returned (.bool r)∧Drawn0 w w':=by
 have HR0:=aM5 hr0
 have HC0:=aM5 hc0
 clear hr0 hc0
 have H:(impl_areBlocks.l0 k l0 a1 l0 (l0.length:Int) 0)=some r:=h
 clear h
 have H':=aM5 H
 clear H
 go_enter Try.func61,Try.ntmps61
 go_wp2
 go_loopg [9] k (fun kq v9 w'=>∃ (x9_1:Int),v9=.int .i64 x9_1∧Aside0 (impl_areBlocks.l0 kq l0 a1 l0 (l0.length:Int) x9_1=some r)∧Aside0 (kq≤k)∧Drawn0 w w')
 case atStart=>exact ⟨(0),(zsx5_3),H',⟨Nat.le_refl _⟩,zsx5_20⟩
 case round =>
  clear H'
  try clear p2
  obtain ⟨x9_1,rfl,HA,HK1,⟨m1,rfl⟩⟩:=hrel
  cases gk with
  | zero=>exact absurd HA.out (by simp [impl_areBlocks.l0])
  | succ k1 =>
   have H:=HA.out
   clear HA
   simp only [impl_areBlocks.l0] at H
   by_cases c3:x9_1 < (l0.length:Int)
   ·rw [if_pos c3] at H
    have c3b0:decide (x9_1 < (l0.length:Int))=true:=dT5 c3
    clear c3
    by_cases c4:0≤x9_1
    ·rw [if_pos c4] at H
     have c4b0:decide (0≤x9_1)=true:=dT5 c4
     clear c4
     by_cases c5:x9_1 < (l0.length:Int)
     ·rw [if_pos c5] at H
      have c5b0:decide (x9_1 < (l0.length:Int))=true:=dT5 c5
      clear c5
      by_cases c6:(rd l0 x9_1) < 0
      ·rw [if_pos c6] at H
       have c6b0:decide ((rd l0 x9_1) < 0)=true:=dT5 c6
       clear c6
       obtain rfl:=Option.some.inj H
       have p376:0≤(x9_1:Int):=oD5 (zsx5_18)
       have q376:x9_1 < (l0.length:Int):=oD5 (zsx5_18)
       obtain ⟨ad376,e376,hx376_0⟩:=Kd.at_int HR0.out x9_1 p376 q376
       cases e376
       replace p376:=eq_true p376
       replace q376:=eq_true q376
       go_wp2
       go_ret
       exact ⟨zsx5_3,zsx5_20⟩
      ·rw [if_neg c6] at H
       have c6b0:decide ((rd l0 x9_1) < 0)=false:=decide_eq_false c6
       clear c6
       by_cases c7:(rd l0 x9_1) ≥ a1
       ·rw [if_pos c7] at H
        have c7b0:decide (a1≤(rd l0 x9_1))=true:=dT5 c7
        clear c7
        obtain rfl:=Option.some.inj H
        have p376:0≤(x9_1:Int):=oD5 (zsx5_18)
        have q376:x9_1 < (l0.length:Int):=oD5 (zsx5_18)
        obtain ⟨ad376,e376,hx376_0⟩:=Kd.at_int HR0.out x9_1 p376 q376
        cases e376
        replace p376:=eq_true p376
        replace q376:=eq_true q376
        go_wp2
        go_ret
        exact ⟨zsx5_3,zsx5_20⟩
       ·rw [if_neg c7] at H
        have c7b0:decide (a1≤(rd l0 x9_1))=false:=decide_eq_false c7
        clear c7
        by_cases c8:x9_1 > 0
        ·rw [if_pos c8] at H
         have c8b0:decide (0 < x9_1)=true:=dT5 c8
         clear c8
         obtain ⟨ji9,hji9⟩:∃ j_:Int,(wrap64 (x9_1 - 1))=j_:=⟨_,rfl⟩
         replace H:(if 0≤(ji9) then (if (ji9) < (l0.length:Int) then (if (rd l0 x9_1)≤(rd l0 (ji9)) then (some false) else (impl_areBlocks.l0 k1 l0 a1 l0 (l0.length:Int) (wrap64 (x9_1 + 1)))) else (none)) else (none))=some r:=by first|(rw [hji9] at H;exact H)|(simp only [hji9] at H ⊢;exact H)
         have hji9w:(IntKind.i64.wrap (x9_1 - 1))=ji9:=(i64_w _).trans hji9
         by_cases c10:0≤(ji9)
         ·rw [if_pos c10] at H
          have c10b0:decide (0≤(ji9))=true:=dT5 c10
          clear c10
          by_cases c11:(ji9) < (l0.length:Int)
          ·rw [if_pos c11] at H
           have c11b0:decide ((ji9) < (l0.length:Int))=true:=dT5 c11
           clear c11
           by_cases c12:(rd l0 x9_1)≤(rd l0 (ji9))
           ·rw [if_pos c12] at H
            have c12b0:decide ((rd l0 x9_1)≤(rd l0 (ji9)))=true:=dT5 c12
            clear c12
            obtain rfl:=Option.some.inj H
            have p376:0≤(x9_1:Int):=oD5 (zsx5_18)
            have q376:x9_1 < (l0.length:Int):=oD5 (zsx5_18)
            obtain ⟨ad376,e376,hx376_0⟩:=Kd.at_int HR0.out x9_1 p376 q376
            cases e376
            replace p376:=eq_true p376
            replace q376:=eq_true q376
            have p377:0≤((ji9):Int):=oD5 (zsx5_18)
            have q377:(ji9) < (l0.length:Int):=oD5 (zsx5_18)
            obtain ⟨ad377,e377,hx377_0⟩:=Kd.at_int HR0.out (ji9) p377 q377
            obtain rfl:ad376=ad377:=(by injection e377)
            replace p377:=eq_true p377
            replace q377:=eq_true q377
            go_wp2
            go_ret
            exact ⟨by first|rfl|(simp;done)|(simp only [← hji9] <;> (first|rfl|simp))|(simp [*];done),zsx5_20⟩
           ·rw [if_neg c12] at H
            have c12b0:decide ((rd l0 x9_1)≤(rd l0 (ji9)))=false:=decide_eq_false c12
            clear c12
            have H':=aM5 H
            clear H
            have p376:0≤(x9_1:Int):=oD5 (zsx5_18)
            have q376:x9_1 < (l0.length:Int):=oD5 (zsx5_18)
            obtain ⟨ad376,e376,hx376_0⟩:=Kd.at_int HR0.out x9_1 p376 q376
            cases e376
            replace p376:=eq_true p376
            replace q376:=eq_true q376
            have p377:0≤((ji9):Int):=oD5 (zsx5_18)
            have q377:(ji9) < (l0.length:Int):=oD5 (zsx5_18)
            obtain ⟨ad377,e377,hx377_0⟩:=Kd.at_int HR0.out (ji9) p377 q377
            obtain rfl:ad376=ad377:=(by injection e377)
            replace p377:=eq_true p377
            replace q377:=eq_true q377
            go_wp2
            go_roundg k1
            case measure=>have:=HK1.out;omega
            case rel=>exact ⟨(wrap64 (x9_1 + 1)),(zsx5_3),H',⟨zsx5_17⟩,zsx5_20⟩
          ·rw [if_neg c11] at H
           exact absurd H (by simp)
         ·rw [if_neg c10] at H
          exact absurd H (by simp)
        ·rw [if_neg c8] at H
         have c8b0:decide (0 < x9_1)=false:=decide_eq_false c8
         clear c8
         have H':=aM5 H
         clear H
         have p376:0≤(x9_1:Int):=oD5 (zsx5_18)
         have q376:x9_1 < (l0.length:Int):=oD5 (zsx5_18)
         obtain ⟨ad376,e376,hx376_0⟩:=Kd.at_int HR0.out x9_1 p376 q376
         cases e376
         replace p376:=eq_true p376
         replace q376:=eq_true q376
         go_wp2
         go_roundg k1
         case measure=>have:=HK1.out;omega
         case rel=>exact ⟨(wrap64 (x9_1 + 1)),(zsx5_3),H',⟨zsx5_17⟩,zsx5_20⟩
     ·rw [if_neg c5] at H
      exact absurd H (by simp)
    ·rw [if_neg c4] at H
     exact absurd H (by simp)
   ·rw [if_neg c3] at H
    have c3b0:decide (x9_1 < (l0.length:Int))=false:=decide_eq_false c3
    clear c3
    obtain rfl:=Option.some.inj H
    go_wp2
    go_ret
    exact ⟨zsx5_3,zsx5_20⟩
mutual
def impl_AreArcs.j0:Nat→List (List Int)→Bool→Option (Bool)
 | 0,_,_=>none
 | k + 1,x0,x12=>if x12=true then (some false) else (impl_AreArcs.l0 k x0 (x0.length:Int) 0)
def impl_AreArcs.l0:Nat→List (List Int)→Int→Int→Option (Bool)
 | 0,_,_,_=>none
 | k + 1,x13,x14,x15=>if x15 < x14 then (if 0≤x15 then (if x15 < (x13.length:Int) then ((impl_areBlocks.f k (rd_L5 x13 x15) x15).bind fun t379=>(if t379=true then (impl_AreArcs.l0 k x13 x14 (wrap64 (x15 + 1))) else (some false))) else (none)) else (none)) else (some true)
end
def impl_AreArcs.f (k:Nat) (l0:List (List Int)):Option (Bool):=if (l0.length:Int) < 1 then (impl_AreArcs.j0 k l0 true) else (impl_AreArcs.j0 k l0 (decide ((l0.length:Int) > 120)))
set_option maxHeartbeats 8000000 in
set_option maxRecDepth 100000 in
theorem impl_AreArcs.calls (k:Nat) (A0:Option Addr) (c0:Nat) (l0:List (List Int)) (r:Bool) (w:World) (hr0:Kd.C (Kd.slice 3 (Kd.int .i64)) w A0 l0.length l0) (hc0:l0.length≤c0) (h:impl_AreArcs.f k l0=some r) :
  Calls Try.prog 18 #[.slice A0 l0.length c0] w fun e w'=>e=.returned (.bool r)∧Drawn0 w w':=by
 have HR0:=aM5 hr0
 have HC0:=aM5 hc0
 clear hr0 hc0
 have H:(if (l0.length:Int) < 1 then (impl_AreArcs.j0 k l0 true) else (impl_AreArcs.j0 k l0 (decide ((l0.length:Int) > 120))))=some r:=h
 clear h
 have HC2:=aM5 H
 clear H
 go_enter Try.func18,Try.ntmps18
 go_upto_region 1 with (fail)
 go_cut [12] (fun v12 wc=>∃ (kq:Nat) (x12_1:Bool),v12=.bool x12_1∧Aside0 (impl_AreArcs.j0 kq l0 x12_1=some r)∧Aside0 (kq≤k)∧Drawn0 w wc)
 case first =>
  have H:=HC2.out
  clear HC2
  by_cases c3:(l0.length:Int) < 1
  ·rw [if_pos c3] at H
   have c3b0:decide ((l0.length:Int) < 1)=true:=dT5 c3
   have c3b1:decide (l0.length < 1)=true:=dT5 (by omega)
   clear c3
   (first|rw [c3b0]|(simp only [i64_w,i32_w];rw [c3b0])|skip)
   have H':=aM5 H
   clear H
   go_wp2
   go_meet
   case rel=>exact ⟨_,(true),(zsx5_3),H',⟨by first|omega|exact Nat.le_refl _⟩,zsx5_20⟩
  ·rw [if_neg c3] at H
   have c3b0:decide ((l0.length:Int) < 1)=false:=decide_eq_false c3
   have c3b1:decide (l0.length < 1)=false:=decide_eq_false (by omega)
   clear c3
   (first|rw [c3b0]|(simp only [i64_w,i32_w];rw [c3b0])|skip)
   have H':=aM5 H
   clear H
   go_wp2
   go_meet
   case rel=>exact ⟨_,(decide ((l0.length:Int) > 120)),(zsx5_3),H',⟨by first|omega|exact Nat.le_refl _⟩,zsx5_20⟩
 case rest =>
  clear HC2
  try clear c1
  try clear p2
  try clear c3
  try clear c3b0
  try clear c3b1
  obtain ⟨kq,x12_1,rfl,HA,HJ1,⟨mc1,rfl⟩⟩:=hcut
  cases kq with
  | zero=>exact absurd HA.out (by simp [impl_AreArcs.j0])
  | succ kj1 =>
   have H:=HA.out
   clear HA
   simp only [impl_AreArcs.j0] at H
   by_cases c4:x12_1=true
   ·subst c4
    have H1:(some false)=some r:=by rw [if_pos rfl] at H;exact H
    clear H
    have H:=H1
    clear H1
    obtain rfl:=Option.some.inj H
    go_wp2
    go_ret
    exact ⟨zsx5_3,zsx5_20⟩
   ·replace c4:=Bool.eq_false_iff.mpr c4
    subst c4
    have H1:(impl_AreArcs.l0 kj1 l0 (l0.length:Int) 0)=some r:=by rw [if_neg (show ¬ (false=true) by decide)] at H;exact H
    clear H
    have H:=H1
    clear H1
    have H':=aM5 H
    clear H
    go_wp2
    go_loopg [15] kj1 (fun kq v15 w'=>∃ (x15_2:Int),v15=.int .i64 x15_2∧Aside0 (impl_AreArcs.l0 kq l0 (l0.length:Int) x15_2=some r)∧Aside0 (kq≤kj1)∧Drawn0 w w')
    case atStart=>exact ⟨(0),(zsx5_3),H',⟨Nat.le_refl _⟩,zsx5_20⟩
    case round =>
     clear H'
     try clear c1
     try clear p2
     try clear c3
     try clear c3b0
     try clear c3b1
     try clear c4
     try clear p2
     obtain ⟨x15_2,rfl,HA,HK2,⟨m2,rfl⟩⟩:=hrel
     cases gk with
     | zero=>exact absurd HA.out (by simp [impl_AreArcs.l0])
     | succ k2 =>
      have H:=HA.out
      clear HA
      simp only [impl_AreArcs.l0] at H
      by_cases c5:x15_2 < (l0.length:Int)
      ·rw [if_pos c5] at H
       have c5b0:decide (x15_2 < (l0.length:Int))=true:=dT5 c5
       clear c5
       by_cases c6:0≤x15_2
       ·rw [if_pos c6] at H
        have c6b0:decide (0≤x15_2)=true:=dT5 c6
        clear c6
        by_cases c7:x15_2 < (l0.length:Int)
        ·rw [if_pos c7] at H
         have c7b0:decide (x15_2 < (l0.length:Int))=true:=dT5 c7
         clear c7
         replace H:=bI5.mp H
         obtain ⟨t379,A80,H⟩:=H
         replace H:(if t379=true then (impl_AreArcs.l0 k2 l0 (l0.length:Int) (wrap64 (x15_2 + 1))) else (some false))=some r:=H
         have A8:=aM5 A80
         clear A80
         by_cases c9:t379=true
         ·subst c9
          have H1:(impl_AreArcs.l0 k2 l0 (l0.length:Int) (wrap64 (x15_2 + 1)))=some r:=by rw [if_pos rfl] at H;exact H
          clear H
          have H:=H1
          clear H1
          have H':=aM5 H
          clear H
          have p378:0≤(x15_2:Int):=oD5 (zsx5_18)
          have q378:x15_2 < (l0.length:Int):=oD5 (zsx5_18)
          obtain ⟨ad378,A378_0,c378_0,e378,hx378_0,hl378_0,hi378_0⟩:=at_L5 HR0.out x15_2 p378 q378
          cases e378
          have HR378_0:=aM5 hi378_0
          have HC378_0:=aM5 hl378_0
          clear hi378_0 hl378_0
          replace p378:=eq_true p378
          replace q378:=eq_true q378
          go_wp2_with (first|((with_reducible refine gate_callee (f:=61) rfl ?_);refine goesL_ (some 22) rfl rfl Try.func61 (zsx5_0) rfl #[.slice A378_0 (rd_L5 l0 x15_2).length c378_0,.int .i64 x15_2] rfl (zsx5_1) ?_;(with_reducible refine (impl_areBlocks.calls k2 _ _ (rd_L5 l0 x15_2) x15_2 true _ ?side1 ?side2 A8.out).mono ?_);(case side1=>exact zsx5_26);(case side2=>exact HC378_0.out);rintro e w' ⟨rfl,⟨nd,rfl⟩⟩;refine ⟨_,rfl,?_⟩))
          go_roundg k2
          case measure=>have:=HJ1.out;have:=HK2.out;omega
          case rel=>exact ⟨(wrap64 (x15_2 + 1)),(zsx5_3),H',⟨by have:=HJ1.out;have:=HK2.out;omega⟩,zsx5_20⟩
         ·replace c9:=Bool.eq_false_iff.mpr c9
          subst c9
          have H1:(some false)=some r:=by rw [if_neg (show ¬ (false=true) by decide)] at H;exact H
          clear H
          have H:=H1
          clear H1
          obtain rfl:=Option.some.inj H
          have p378:0≤(x15_2:Int):=oD5 (zsx5_18)
          have q378:x15_2 < (l0.length:Int):=oD5 (zsx5_18)
          obtain ⟨ad378,A378_0,c378_0,e378,hx378_0,hl378_0,hi378_0⟩:=at_L5 HR0.out x15_2 p378 q378
          cases e378
          have HR378_0:=aM5 hi378_0
          have HC378_0:=aM5 hl378_0
          clear hi378_0 hl378_0
          replace p378:=eq_true p378
          replace q378:=eq_true q378
          go_wp2_with (first|((with_reducible refine gate_callee (f:=61) rfl ?_);refine goesL_ (some 22) rfl rfl Try.func61 (zsx5_0) rfl #[.slice A378_0 (rd_L5 l0 x15_2).length c378_0,.int .i64 x15_2] rfl (zsx5_1) ?_;(with_reducible refine (impl_areBlocks.calls k2 _ _ (rd_L5 l0 x15_2) x15_2 false _ ?side1 ?side2 A8.out).mono ?_);(case side1=>exact zsx5_26);(case side2=>exact HC378_0.out);rintro e w' ⟨rfl,⟨nd,rfl⟩⟩;refine ⟨_,rfl,?_⟩))
          go_ret
          exact ⟨zsx5_3,zsx5_20⟩
        ·rw [if_neg c7] at H
         exact absurd H (by simp)
       ·rw [if_neg c6] at H
        exact absurd H (by simp)
      ·rw [if_neg c5] at H
       have c5b0:decide (x15_2 < (l0.length:Int))=false:=decide_eq_false c5
       clear c5
       obtain rfl:=Option.some.inj H
       go_wp2
       go_ret
       exact ⟨zsx5_3,zsx5_20⟩
def impl_listOf.l0:Nat→List Int→List Bool→Int→Int→Option (List Int)
 | 0,_,_,_,_=>none
 | k + 1,x3,x7,x8,x9=>if x9 < x8 then (if 0≤x9 then (if x9 < (x7.length:Int) then (if rdOf false x7 x9=true then (if x3.length < 17592186044416 then (impl_listOf.l0 k (x3 ++ [x9]) x7 x8 (wrap64 (x9 + 1))) else (none)) else (impl_listOf.l0 k x3 x7 x8 (wrap64 (x9 + 1)))) else (none)) else (none)) else (some x3)
def impl_listOf.f (k:Nat) (l0:List Bool):Option (List Int):=impl_listOf.l0 k (([]:List Int)) l0 (l0.length:Int) 0
set_option maxHeartbeats 8000000 in
set_option maxRecDepth 100000 in
theorem impl_listOf.calls (k:Nat) (A0:Option Addr) (c0:Nat) (l0:List Bool) (r:List Int) (w:World) (hr0:Kd.C Kd.bool w A0 l0.length l0) (hc0:l0.length≤c0) (h:impl_listOf.f k l0=some r) :
  Calls Try.prog 54 #[.slice A0 l0.length c0] w fun e w'=>∃ v0_:Value,e=.returned (v0_)∧Kd.R (Kd.int .i64) 3 w' w.heap.size (fun _=>True) v0_ r∧Below w.heap.size w w':=by
 have HR0:=aM5 hr0
 have HC0:=aM5 hc0
 clear hr0 hc0
 have HB:=aM5 (Below.refl w.heap.size w)
 have H:(impl_listOf.l0 k (([]:List Int)) l0 (l0.length:Int) 0)=some r:=h
 clear h
 obtain ⟨y380,hy380⟩:∃ y_:List Int,y_=(([]:List Int)):=⟨_,rfl⟩
 replace H:(impl_listOf.l0 k y380 l0 (l0.length:Int) 0)=some r:=by first|(rw [hy380];with_reducible exact H)|(have H2_:=(Option.bind_some _ _).symm.trans H;rw [hy380];with_reducible exact H2_)|(have H2_:=(Option.bind_some _ _).symm.trans H;with_reducible exact H2_)|with_reducible exact H|(rw [hy380];exact H)|exact H
 have Ny380:=aM5 hy380
 clear hy380
 have H':=aM5 H
 clear H
 go_enter Try.func54,Try.ntmps54
 go_wp2_with (first|((with_reducible refine gate_dst (N:=6) rfl ?_);refine Kd.R_lit (Kd.int .i64) _ 3 ?hg (N:=6) ?hd (xs:=([]:List Int)) (inner:=[]) (ok:=fun _=>True) (okp:=fun _=>True) ?hr ?hp (fun _ hk=>hk) trivial (Below.refl _ _) (Nat.le_refl _) (by simp) ?_;(case hd=>rfl);(case hg=>rfl);(case hr=>exact zsx5_23);(case hp=>exact (Reps.none _ _));intro v381 w2 ho3 hb hg_ hnew_;clear hg_ hnew_;(first|rw [← Ny380.out] at ho3|(simp only [Int.reduceToNat] at ho3;rw [← Ny380.out] at ho3));have n0_:=aM5 (Kd.R_lower ho3 (below_size (zsx5_21)));have n1_:=aM5 (below_step (zsx5_21) hb);clear HB;have HO382:=n0_;have HB:=n1_;clear n0_ n1_ hb ho3))
 go_loopg [3,9] k (fun kq v3 v9 w'=>∃ (x3_1:List Int) (x9_1:Int),v9=.int .i64 x9_1∧Aside0 (impl_listOf.l0 kq x3_1 l0 (l0.length:Int) x9_1=some r)∧Aside0 (kq≤k)∧Aside0 (Kd.R (Kd.int .i64) 3 w' w.heap.size (fun _=>True) v3 x3_1)∧Aside0 (Below w.heap.size w w'))
 case atStart=>exact ⟨(y380),(0),(zsx5_3),H',⟨Nat.le_refl _⟩,⟨by (with_reducible repeat (first|apply Kd.R_alloc|apply Kd.R_drewN|apply Kd.R_drew));exact HO382.out⟩,⟨zsx5_21⟩⟩
 case round =>
  clear H'
  try clear p2
  obtain ⟨x3_1,x9_1,rfl,HA,HK1,HO_3,HB⟩:=hrel
  cases gk with
  | zero=>exact absurd HA.out (by simp [impl_listOf.l0])
  | succ k1 =>
   have H:=HA.out
   clear HA
   simp only [impl_listOf.l0] at H
   by_cases c4:x9_1 < (l0.length:Int)
   ·rw [if_pos c4] at H
    have c4b0:decide (x9_1 < (l0.length:Int))=true:=dT5 c4
    clear c4
    by_cases c5:0≤x9_1
    ·rw [if_pos c5] at H
     have c5b0:decide (0≤x9_1)=true:=dT5 c5
     clear c5
     by_cases c6:x9_1 < (l0.length:Int)
     ·rw [if_pos c6] at H
      have c6b0:decide (x9_1 < (l0.length:Int))=true:=dT5 c6
      clear c6
      obtain ⟨bq7,hbq7⟩:∃ b_:Bool,b_=(rdOf false l0 x9_1):=⟨_,rfl⟩
      replace H:(if bq7=true then (if x3_1.length < 17592186044416 then (impl_listOf.l0 k1 (x3_1 ++ [x9_1]) l0 (l0.length:Int) (wrap64 (x9_1 + 1))) else (none)) else (impl_listOf.l0 k1 x3_1 l0 (l0.length:Int) (wrap64 (x9_1 + 1))))=some r:=by rw [← hbq7] at H;exact H
      have Nbq7:=aM5 hbq7
      clear hbq7
      by_cases c8:bq7=true
      ·subst c8
       have H1:(if x3_1.length < 17592186044416 then (impl_listOf.l0 k1 (x3_1 ++ [x9_1]) l0 (l0.length:Int) (wrap64 (x9_1 + 1))) else (none))=some r:=by rw [if_pos rfl] at H;exact H
       clear H
       have H:=H1
       clear H1
       by_cases c9:x3_1.length < 17592186044416
       ·rw [if_pos c9] at H
        have LMc9:=aM5 c9
        clear c9
        obtain ⟨y384,hy384⟩:∃ y_:List Int,y_=(x3_1 ++ [x9_1]):=⟨_,rfl⟩
        replace H:(impl_listOf.l0 k1 y384 l0 (l0.length:Int) (wrap64 (x9_1 + 1)))=some r:=by first|(rw [hy384];with_reducible exact H)|(have H2_:=(Option.bind_some _ _).symm.trans H;rw [hy384];with_reducible exact H2_)|(have H2_:=(Option.bind_some _ _).symm.trans H;with_reducible exact H2_)|with_reducible exact H|(rw [hy384];exact H)|exact H
        have Ny384:=aM5 hy384
        clear hy384
        have H':=aM5 H
        clear H
        have p383:0≤(x9_1:Int):=oD5 (zsx5_18)
        have q383:x9_1 < (l0.length:Int):=oD5 (zsx5_18)
        obtain ⟨ad383,e383,hx383_0⟩:=Kd.at_bool HR0.out x9_1 p383 q383
        (try rw [← Nbq7.out] at hx383_0)
        cases e383
        replace hx383_0:=(HB.out.cell (World.block_lt_of_cell? w _ hx383_0)).trans hx383_0
        replace p383:=eq_true p383
        replace q383:=eq_true q383
        go_wp2_with (first|((with_reducible refine gate_builtin (b:=.append) (xs:=#[.tmp 15,.tmp 17]) rfl ?_);at_builtin;refine Kd.R_append (Kd.int .i64) (w0:=w) w.heap.size rfl (.tmp 15) (.tmp 17) 33 3 (.int .i64 0) 8 rfl Try.underlying33 info3 rfl (by decide) (by omega) u3 x3_1 x9_1 [.int .i64 x9_1] (fun _=>True) (fun _=>False) rfl rfl ?aP (fun _ hk=>hk.elim) ?aF ?aO ?aB ?aS ?aL ?_;(case aP=>exact rfl);(case aB=>exact (zsx5_21));(case aF=>exact (fun _ _=>trivial));(case aO=>exact (zsx5_22));(case aS=>exact (below_size (zsx5_21)));(case aL=>have:=LMc9.out;omega);intro v385 w10 ho hb hg hat;rw [← Ny384.out] at ho;have n0_:=aM5 (hb);have n1_:=aM5 (ho);clear HB HO_3;have HB:=n0_;have HO386:=n1_;clear n0_ n1_ ho hb hg hat))
        go_roundg k1
        case measure=>have:=HK1.out;omega
        case rel=>exact ⟨(y384),(wrap64 (x9_1 + 1)),(zsx5_3),H',⟨zsx5_17⟩,⟨by (with_reducible repeat (first|apply Kd.R_alloc|apply Kd.R_drewN|apply Kd.R_drew));exact HO386.out⟩,⟨zsx5_21⟩⟩
       ·rw [if_neg c9] at H
        exact absurd H (by simp)
      ·replace c8:=Bool.eq_false_iff.mpr c8
       subst c8
       have H1:(impl_listOf.l0 k1 x3_1 l0 (l0.length:Int) (wrap64 (x9_1 + 1)))=some r:=by rw [if_neg (show ¬ (false=true) by decide)] at H;exact H
       clear H
       have H:=H1
       clear H1
       have H':=aM5 H
       clear H
       have p383:0≤(x9_1:Int):=oD5 (zsx5_18)
       have q383:x9_1 < (l0.length:Int):=oD5 (zsx5_18)
       obtain ⟨ad383,e383,hx383_0⟩:=Kd.at_bool HR0.out x9_1 p383 q383
       (try rw [← Nbq7.out] at hx383_0)
       cases e383
       replace hx383_0:=(HB.out.cell (World.block_lt_of_cell? w _ hx383_0)).trans hx383_0
       replace p383:=eq_true p383
       replace q383:=eq_true q383
       go_wp2
       go_roundg k1
       case measure=>have:=HK1.out;omega
       case rel=>exact ⟨(x3_1),(wrap64 (x9_1 + 1)),(zsx5_3),H',⟨zsx5_17⟩,⟨zsx5_22⟩,⟨zsx5_21⟩⟩
     ·rw [if_neg c6] at H
      exact absurd H (by simp)
    ·rw [if_neg c5] at H
     exact absurd H (by simp)
   ·rw [if_neg c4] at H
    have c4b0:decide (x9_1 < (l0.length:Int))=false:=decide_eq_false c4
    clear c4
    obtain rfl:=Option.some.inj H
    go_wp2
    go_ret
    exact ⟨_,zsx5_8,zsx5_22,zsx5_21⟩
def impl_markOf.l0:Nat→List Bool→List Int→Int→Int→Option (List Bool)
 | 0,_,_,_,_=>none
 | k + 1,x5,x10,x11,x12=>if x12 < x11 then (if 0≤x12 then (if x12 < (x10.length:Int) then (if 0≤(rd x10 x12) then (if (rd x10 x12) < (x5.length:Int) then (impl_markOf.l0 k (x5.set ((rd x10 x12):Int).toNat true) x10 x11 (wrap64 (x12 + 1))) else (none)) else (none)) else (none)) else (none)) else (some x5)
def impl_markOf.f (k:Nat) (a0:Int) (l1:List Int):Option (List Bool):=if 0≤a0 then (if (a0:Int).toNat≤281474976710656 then (impl_markOf.l0 k (List.replicate (a0:Int).toNat false) l1 (l1.length:Int) 0) else (none)) else (none)
set_option maxHeartbeats 8000000 in
set_option maxRecDepth 100000 in
theorem impl_markOf.calls (k:Nat) (a0:Int) (A1:Option Addr) (c1:Nat) (l1:List Int) (r:List Bool) (w:World) (hr1:Kd.C (Kd.int .i64) w A1 l1.length l1) (hc1:l1.length≤c1) (h:impl_markOf.f k a0 l1=some r) :
  Calls Try.prog 81 #[.int .i64 a0,.slice A1 l1.length c1] w fun e w'=>∃ v0_:Value,e=.returned (v0_)∧Kd.R Kd.bool 4 w' w.heap.size (fun _=>True) v0_ r∧Below w.heap.size w w':=by
 have HR1:=aM5 hr1
 have HC1:=aM5 hc1
 clear hr1 hc1
 have HB:=aM5 (Below.refl w.heap.size w)
 have H:(if 0≤a0 then (if (a0:Int).toNat≤281474976710656 then (impl_markOf.l0 k (List.replicate (a0:Int).toNat false) l1 (l1.length:Int) 0) else (none)) else (none))=some r:=h
 clear h
 by_cases c3:0≤a0
 ·rw [if_pos c3] at H
  have c3b0:=eq_true c3
  have c3b1:decide (0≤a0)=true:=dT5 c3
  clear c3
  by_cases c4:(a0:Int).toNat≤281474976710656
  ·rw [if_pos c4] at H
   have c4b0:=eq_true c4
   have c4b1:decide ((a0:Int).toNat≤281474976710656)=true:=dT5 c4
   clear c4
   obtain ⟨y387,hy387⟩:∃ y_:List Bool,y_=(List.replicate (a0:Int).toNat false):=⟨_,rfl⟩
   replace H:(impl_markOf.l0 k y387 l1 (l1.length:Int) 0)=some r:=by first|(rw [hy387];with_reducible exact H)|(have H2_:=(Option.bind_some _ _).symm.trans H;rw [hy387];with_reducible exact H2_)|(have H2_:=(Option.bind_some _ _).symm.trans H;with_reducible exact H2_)|with_reducible exact H|(rw [hy387];exact H)|exact H
   have Ny387:=aM5 hy387
   clear hy387
   have H':=aM5 H
   clear H
   go_enter Try.func81,Try.ntmps81
   go_wp2_with (first|((with_reducible refine gate_dst (N:=9) rfl ?_);refine Kd.R_make Kd.bool _ 4 rfl (N:=9) rfl 55 _ _ rfl a0 rfl rfl Try.underlying55 (.bool false) 1 info4 rfl (by decide) (by omega) false (ok:=fun _=>True) (okp:=fun _=>True) rfl (fun _ hk=>hk) trivial (oD5 (zsx5_18)) (Nat.le_trans (Nat.mul_le_mul_right _ (oD5 (zsx5_18):a0.toNat≤281474976710656)) (by omega)) (Below.refl _ _) (Nat.le_refl _) ?_;intro v388 w5 ho6 hb hg_ hnew_;clear hg_ hnew_;(first|rw [← Ny387.out] at ho6|(simp only [Int.reduceToNat] at ho6;rw [← Ny387.out] at ho6));have n0_:=aM5 (Kd.R_lower ho6 (below_size (zsx5_21)));have n1_:=aM5 (below_step (zsx5_21) hb);clear HB;have HO389:=n0_;have HB:=n1_;clear n0_ n1_ hb ho6))
   go_loopg [12] k (fun kq v12 w'=>∃ (x5_1:List Bool) (x12_1:Int),v12=.int .i64 x12_1∧Aside0 (impl_markOf.l0 kq x5_1 l1 (l1.length:Int) x12_1=some r)∧Aside0 (kq≤k)∧Aside0 (Kd.R Kd.bool 4 w' w.heap.size (fun _=>True) v388 x5_1)∧Aside0 (Below w.heap.size w w'))
   case atStart=>exact ⟨(y387),(0),(zsx5_3),H',⟨Nat.le_refl _⟩,⟨by (with_reducible repeat (first|apply Kd.R_alloc|apply Kd.R_drewN|apply Kd.R_drew));exact HO389.out⟩,⟨zsx5_21⟩⟩
   case round =>
    clear H'
    try clear c1
    try clear p2
    try clear c3
    try clear c3b0
    try clear c3b1
    try clear c4
    try clear c4b0
    try clear c4b1
    obtain ⟨x5_1,x12_1,rfl,HA,HK1,HO_5,HB⟩:=hrel
    cases gk with
    | zero=>exact absurd HA.out (by simp [impl_markOf.l0])
    | succ k1 =>
     have H:=HA.out
     clear HA
     simp only [impl_markOf.l0] at H
     by_cases c7:x12_1 < (l1.length:Int)
     ·rw [if_pos c7] at H
      have c7b0:decide (x12_1 < (l1.length:Int))=true:=dT5 c7
      clear c7
      by_cases c8:0≤x12_1
      ·rw [if_pos c8] at H
       have c8b0:decide (0≤x12_1)=true:=dT5 c8
       clear c8
       by_cases c9:x12_1 < (l1.length:Int)
       ·rw [if_pos c9] at H
        have c9b0:decide (x12_1 < (l1.length:Int))=true:=dT5 c9
        clear c9
        by_cases c10:0≤(rd l1 x12_1)
        ·rw [if_pos c10] at H
         have c10b0:decide (0≤(rd l1 x12_1))=true:=dT5 c10
         clear c10
         by_cases c11:(rd l1 x12_1) < (x5_1.length:Int)
         ·rw [if_pos c11] at H
          have c11b0:decide ((rd l1 x12_1) < (x5_1.length:Int))=true:=dT5 c11
          clear c11
          obtain ⟨y391,hy391⟩:∃ y_:List Bool,y_=(x5_1.set ((rd l1 x12_1):Int).toNat true):=⟨_,rfl⟩
          replace H:(impl_markOf.l0 k1 y391 l1 (l1.length:Int) (wrap64 (x12_1 + 1)))=some r:=by first|(rw [hy391];with_reducible exact H)|(have H2_:=(Option.bind_some _ _).symm.trans H;rw [hy391];with_reducible exact H2_)|(have H2_:=(Option.bind_some _ _).symm.trans H;with_reducible exact H2_)|with_reducible exact H|(rw [hy391];exact H)|exact H
          have Ny391:=aM5 hy391
          clear hy391
          have H':=aM5 H
          clear H
          have p390:0≤(x12_1:Int):=oD5 (zsx5_18)
          have q390:x12_1 < (l1.length:Int):=oD5 (zsx5_18)
          obtain ⟨ad390,e390,hx390_0⟩:=Kd.at_int HR1.out x12_1 p390 q390
          cases e390
          replace hx390_0:=(HB.out.cell (World.block_lt_of_cell? w _ hx390_0)).trans hx390_0
          replace p390:=eq_true p390
          replace q390:=eq_true q390
          have p12:0≤((rd l1 x12_1):Int):=oD5 (zsx5_18)
          have q12:((rd l1 x12_1):Int) < ((x5_1.length:Int):Int):=oD5 (zsx5_18)
          obtain ⟨go12,co12,eo12,gb12,gl12,cl12,HG12⟩:=Kd.R_form HO_5.out (by omega)
          (first|cases eo12|(injection eo12 with ea_ en_ ec_;(first|subst ea_|(injection ea_ with ea_;subst ea_));subst ec_;clear en_))
          have GB12:=aM5 gb12
          have GG12:=aM5 HG12
          clear gb12 gl12 HG12
          obtain ⟨hx12_0,hf12_0⟩:=Kd.R_celln false HO_5.out ((rd l1 x12_1):Int) p12 q12
          replace p12:=eq_true p12
          replace q12:=eq_true q12
          have HP13:=Kd.R_putg HO_5.out ((rd l1 x12_1):Int) true
          go_wp2_with (first|((with_reducible refine gate_store (t:=4) (p:=18) rfl ?_);refine store_event (t:=4) (p:=18) (v:=?vo_w14) (w1:=(wr.setCell ⟨go12,((rd l1 x12_1):Int).toNat,none⟩ (.bool true))) ?hg ?ho ?hn ?hr ?_;(case ho=>rfl);(case hg=>rfl);(case hn=>rfl);(case hr=>exact zsx5_23);intro w14 hw;have hg:wr.grownBy w14 (some go12):=(by rw [hw];exact HP13.2);have hp_:Kd.R Kd.bool 4 w14 w.heap.size (fun _=>True) (.slice (some ⟨go12,0,none⟩) x5_1.length co12) y391:=(by rw [hw,Ny391.out];exact HP13.1);clear HP13;have n0_:=aM5 (hp_);have n1_:=aM5 ((by rw [hw];exact below_set (HB.out) GB12.out:Below w.heap.size w w14));clear HO_5 HB;have HO_5:=n0_;have HB:=n1_;clear n0_ n1_ hg hw hp_))
          go_roundg k1
          case measure=>have:=HK1.out;omega
          case rel=>exact ⟨(y391),(wrap64 (x12_1 + 1)),(zsx5_3),H',⟨zsx5_17⟩,⟨zsx5_15⟩,⟨zsx5_21⟩⟩
         ·rw [if_neg c11] at H
          exact absurd H (by simp)
        ·rw [if_neg c10] at H
         exact absurd H (by simp)
       ·rw [if_neg c9] at H
        exact absurd H (by simp)
      ·rw [if_neg c8] at H
       exact absurd H (by simp)
     ·rw [if_neg c7] at H
      have c7b0:decide (x12_1 < (l1.length:Int))=false:=decide_eq_false c7
      clear c7
      obtain rfl:=Option.some.inj H
      go_wp2
      go_ret
      exact ⟨_,zsx5_8,zsx5_15,zsx5_21⟩
  ·rw [if_neg c4] at H
   exact absurd H (by simp)
 ·rw [if_neg c3] at H
  exact absurd H (by simp)
end Go.Proofs.Ytbhlffakpneecaa.PFnCones
end
