/- Texts that print.sh has printed for the law FnCones,one function each,put together in one file: contracts of its functions. -/
import Derived.Test.YtbhlffakpneecaaTMFnConesx0
import Derived.Test.YtbhlffakpneecaaTMFnConesx1
section
namespace Go.Proofs.Ytbhlffakpneecaa.PFnCones
open Go.RowKit Go.Proofs.YtbhlffakpneecaaW.PrintWords Go.Proofs.YtbhlffakpneecaaW.PrintLast Go.Proofs.YtbhlffakpneecaaW.PrintMore
attribute [local go_sem] max2_int min2_int max_two min_two max_three min_three max_four min_four   -- for this text's walks alone
set_option linter.unusedVariables false
set_option linter.unusedSimpArgs false
theorem aM2:type_of% @Aside0.mk:=@Aside0.mk
theorem oD2:type_of% @of_decide_eq_true:=@of_decide_eq_true
theorem bI2:type_of% @Option.bind_eq_some_iff.{0,0}:=@Option.bind_eq_some_iff.{0,0}
theorem kT2:type_of% @KeepBut.trans:=@KeepBut.trans
theorem bC2:type_of% @blk_cell:=@blk_cell
theorem kB2:type_of% @KeepBut.of_below:=@KeepBut.of_below
theorem zsx2_0 {P:Prop} (h:P:=by kernel_rfl):P:=h
theorem zsx2_1 {P:Prop} (h:P:=by (try simp only [List.map_toArray,List.map_cons,List.map_nil]);first|done|rfl|(simp only [List.length_drop,List.length_take];rfl)):P:=h
theorem zsx2_2 {P:Prop} (h:P:=by repeat (first|(with_reducible first|exact HK.out|apply KeepBut.set_|apply keep_drewN|apply keep_drew|apply keep_alloc)|exact HK.out)):P:=h
theorem zsx2_3 {P:Prop} (h:P:=by repeat (first|(with_reducible first|exact HI0.out|apply IsS61.alloc|apply IsS61.drewN|apply IsS61.drew|apply IsS61.set_1|apply IsS61.set_2)|exact HI0.out)):P:=h
theorem zsx2_4 {P:Prop} (h:P:=by repeat (first|(with_reducible first|exact HB.out|apply below_alloc|apply pw_below_drewN|apply below_drew1|refine below_set ?_ (IsS61.ge HI0.out))|exact HB.out)):P:=h
theorem zsx2_5 {P:Prop} (h:P:=by (with_reducible repeat (first|apply Kd.R_alloc|apply Kd.R_drewN|apply Kd.R_drew));exact HO227.out):P:=h
theorem zsx2_6 {P:Prop} (h:P:=by first|rfl|(simp [errW_none,errW_some] <;> rfl)|(simp [*,errW_none,errW_some] <;> rfl)):P:=h
theorem zsx2_7 {P:Prop} (h:P:=by first|(with_reducible assumption)|assumption):P:=h
theorem zsx2_8 {P:Prop} (h:P:=by first|exact Kd.R_nil _ _ _ _ _|exact Kd.N_nil _ _ _ _ _|exact Kd.V_nil _ _ _ _ _|exact Kd.Q_nil _ _ _ _ _|exact Kd.S_nil _ _ _ _ _):P:=h
theorem zsx2_9 {P:Prop} (h:P:=by repeat (first|(with_reducible first|exact HB.out|apply below_alloc|apply pw_below_drewN|apply below_drew1)|exact HB.out)):P:=h
theorem zsx2_10 {P:Prop} (h:P:=by (with_reducible repeat (first|refine blk_drewN ?_ _|refine blk_drew ?_|refine blk_alloc ?_ _));exact BK281.out):P:=h
theorem zsx2_11 {P:Prop} (h:P:=by repeat (first|(with_reducible first|exact HB.out|apply below_alloc|apply pw_below_drewN|apply below_drew1|refine below_set ?_ GE281.out)|exact HB.out)):P:=h
theorem zsx2_12 {P:Prop} (h:P:=by repeat (first|(with_reducible first|exact HB.out|apply below_alloc|apply pw_below_drewN|apply below_drew1|refine below_set ?_ GE281.out|refine below_set ?_ GE282.out)|exact HB.out)):P:=h
theorem zsx2_13 {P:Prop} (h:P:=by first|(go_simp;done)|(go_simp;rfl)):P:=h
theorem zsx2_14 {P:Prop} (h:P:=by rw [hg];exact (below_size (zsx2_9))):P:=h
theorem zsx2_15 {P:Prop} (h:P:=by rw [hg];exact (below_size (zsx2_11))):P:=h
theorem zsx2_16 {P:Prop} (h:P:=by rw [hg];exact Nat.ne_of_lt (blk_lt (g:=gb281) (o:=.cells #[.int .i64 a0_0,.int .i64 a0_1,.int .i64 a0_2] 96 (0,0)) (zsx2_10))):P:=h
theorem zsx2_17 {P:Prop} (h:P:=by rw [hg];exact Nat.ne_of_gt (blk_lt (g:=gb281) (o:=.cells #[.int .i64 a0_0,.int .i64 a0_1,.int .i64 a0_2] 96 (0,0)) (zsx2_10))):P:=h
def spec_l1Cur_template.l0:Nat→List (S96)→Int→List Int→Int→Int→Option ((List (S96)) × Int × Int)
 | 0,_,_,_,_,_=>none
 | k + 1,x3,x4,x1000,x1001,x1002=>if x4 > 0 then (if x3.length < 5864062014805 then (spec_l1Cur_template.l0 k (x3 ++ [(⟨((x3.length:Int) % 5) - 2,wrap64 ((wrap64 ((x3.length:Int) / 5)) - 2),1⟩:S96)]) (wrap64 (x4 - 1)) x1000 x1001 x1002) else (none)) else (some (x3,x1001,x1002))
def spec_l1Cur_template.f (k:Nat) (s0_0:List Int) (s0_1:Int) (s0_2:Int):Option ((List (S96)) × Int × Int):=(spec_l1Cur_pick.f s0_0 s0_1 s0_2 4).bind fun bt222=>((spec_slStandard.f k (wrap64 (1 + bt222.1))).bind fun t225=>((spec_l1Cur_pick.f s0_0 bt222.2.1 bt222.2.2 10).bind fun bt228=>(if bt228.1=0 then ((spec_l1Cur_pick.f s0_0 bt228.2.1 bt228.2.2 5).bind fun bt231=>(if t225.length < 5864062014805 then (some ((t225 ++ [(⟨wrap64 (bt231.1 - 2),2,2⟩:S96)]),bt231.2.1,bt231.2.2)) else (none))) else (if bt228.1=1 then ((spec_l1Cur_pick.f s0_0 bt228.2.1 bt228.2.2 (t225.length:Int)).bind fun bt237=>(if 0≤bt237.1 then (if bt237.1≤(t225.length:Int) then (some ((t225.drop (bt237.1:Int).toNat),bt237.2.1,bt237.2.2)) else (none)) else (none))) else (if bt228.1=2 then ((spec_l1Cur_one.f s0_0 bt228.2.1 bt228.2.2 3).bind fun bt243=>(if bt243.1=true then ((spec_l1Cur_pick.f s0_0 bt243.2.1 bt243.2.2 (t225.length:Int)).bind fun bt246=>((spec_l1Cur_among.f s0_0 bt246.2.1 bt246.2.2 (([(-3),(-2),2,3]:List Int))).bind fun bt252=>(if 0≤bt246.1 then (if bt246.1 < (t225.length:Int) then (some ((t225.set (bt246.1:Int).toNat (⟨bt252.1,(rd_T96 t225 bt246.1).f1,(rd_T96 t225 bt246.1).f2⟩:S96)),bt252.2.1,bt252.2.2)) else (none)) else (none)))) else (some (t225,bt243.2.1,bt243.2.2)))) else (if bt228.1=3 then ((spec_l1Cur_one.f s0_0 bt228.2.1 bt228.2.2 3).bind fun bt256=>(if bt256.1=true then ((spec_l1Cur_pick.f s0_0 bt256.2.1 bt256.2.2 (t225.length:Int)).bind fun bt259=>((spec_l1Cur_among.f s0_0 bt259.2.1 bt259.2.2 (([0,1,2,3]:List Int))).bind fun bt265=>(if 0≤bt259.1 then (if bt259.1 < (t225.length:Int) then (some ((t225.set (bt259.1:Int).toNat (⟨(rd_T96 t225 bt259.1).f0,(rd_T96 t225 bt259.1).f1,bt265.1⟩:S96)),bt265.2.1,bt265.2.2)) else (none)) else (none)))) else (some (t225,bt256.2.1,bt256.2.2)))) else (if bt228.1=4 then ((spec_l1Cur_one.f s0_0 bt228.2.1 bt228.2.2 3).bind fun bt269=>(if bt269.1=true then ((spec_l1Cur_pick.f s0_0 bt269.2.1 bt269.2.2 2).bind fun bt272=>(spec_l1Cur_template.l0 k ([]:List (S96)) (wrap64 (12 + bt272.1)) s0_0 bt272.2.1 bt272.2.2)) else (some (t225,bt269.2.1,bt269.2.2)))) else (if bt228.1=5 then ((spec_l1Cur_one.f s0_0 bt228.2.1 bt228.2.2 3).bind fun bt278=>(if bt278.1=true then (some (([]:List (S96)),bt278.2.1,bt278.2.2)) else (some (t225,bt278.2.1,bt278.2.2)))) else (some (t225,bt228.2.1,bt228.2.2))))))))))
set_option maxHeartbeats 8000000 in
set_option maxRecDepth 100000 in
theorem spec_l1Cur_template.calls (k:Nat) (g:Nat) (s0_0:List Int) (s0_1:Int) (s0_2:Int) (r1:List (S96)) (r2:Int) (r3:Int) (w0 w:World) (hI:IsS61 w0 w g s0_0 s0_1 s0_2) (hB:Below w0.heap.size w0 w) (h:spec_l1Cur_template.f k s0_0 s0_1 s0_2=some (r1,r2,r3)) :
  Calls Try.prog 98 #[.pointer (some ⟨g,0,none⟩)] w fun e w'=>∃ v0_:Value,e=.returned (v0_)∧Kd.Q k96 96 w' w.heap.size (fun _=>True) v0_ r1∧IsS61 w0 w' g s0_0 r2 r3∧Below w0.heap.size w0 w'∧KeepBut w w' g none:=by
 have hu96:=Try.underlying96
 have HI0:=aM2 hI
 have HK:=aM2 (KeepBut.refl w g none)
 have HL:=aM2 hB.size
 clear hI
 have HW0:=aM2 hB.size
 have HB:=aM2 hB
 clear hB
 have H:((spec_l1Cur_pick.f s0_0 s0_1 s0_2 4).bind fun bt222=>((spec_slStandard.f k (wrap64 (1 + bt222.1))).bind fun t225=>((spec_l1Cur_pick.f s0_0 bt222.2.1 bt222.2.2 10).bind fun bt228=>(if bt228.1=0 then ((spec_l1Cur_pick.f s0_0 bt228.2.1 bt228.2.2 5).bind fun bt231=>(if t225.length < 5864062014805 then (some ((t225 ++ [(⟨wrap64 (bt231.1 - 2),2,2⟩:S96)]),bt231.2.1,bt231.2.2)) else (none))) else (if bt228.1=1 then ((spec_l1Cur_pick.f s0_0 bt228.2.1 bt228.2.2 (t225.length:Int)).bind fun bt237=>(if 0≤bt237.1 then (if bt237.1≤(t225.length:Int) then (some ((t225.drop (bt237.1:Int).toNat),bt237.2.1,bt237.2.2)) else (none)) else (none))) else (if bt228.1=2 then ((spec_l1Cur_one.f s0_0 bt228.2.1 bt228.2.2 3).bind fun bt243=>(if bt243.1=true then ((spec_l1Cur_pick.f s0_0 bt243.2.1 bt243.2.2 (t225.length:Int)).bind fun bt246=>((spec_l1Cur_among.f s0_0 bt246.2.1 bt246.2.2 (([(-3),(-2),2,3]:List Int))).bind fun bt252=>(if 0≤bt246.1 then (if bt246.1 < (t225.length:Int) then (some ((t225.set (bt246.1:Int).toNat (⟨bt252.1,(rd_T96 t225 bt246.1).f1,(rd_T96 t225 bt246.1).f2⟩:S96)),bt252.2.1,bt252.2.2)) else (none)) else (none)))) else (some (t225,bt243.2.1,bt243.2.2)))) else (if bt228.1=3 then ((spec_l1Cur_one.f s0_0 bt228.2.1 bt228.2.2 3).bind fun bt256=>(if bt256.1=true then ((spec_l1Cur_pick.f s0_0 bt256.2.1 bt256.2.2 (t225.length:Int)).bind fun bt259=>((spec_l1Cur_among.f s0_0 bt259.2.1 bt259.2.2 (([0,1,2,3]:List Int))).bind fun bt265=>(if 0≤bt259.1 then (if bt259.1 < (t225.length:Int) then (some ((t225.set (bt259.1:Int).toNat (⟨(rd_T96 t225 bt259.1).f0,(rd_T96 t225 bt259.1).f1,bt265.1⟩:S96)),bt265.2.1,bt265.2.2)) else (none)) else (none)))) else (some (t225,bt256.2.1,bt256.2.2)))) else (if bt228.1=4 then ((spec_l1Cur_one.f s0_0 bt228.2.1 bt228.2.2 3).bind fun bt269=>(if bt269.1=true then ((spec_l1Cur_pick.f s0_0 bt269.2.1 bt269.2.2 2).bind fun bt272=>(spec_l1Cur_template.l0 k ([]:List (S96)) (wrap64 (12 + bt272.1)) s0_0 bt272.2.1 bt272.2.2)) else (some (t225,bt269.2.1,bt269.2.2)))) else (if bt228.1=5 then ((spec_l1Cur_one.f s0_0 bt228.2.1 bt228.2.2 3).bind fun bt278=>(if bt278.1=true then (some (([]:List (S96)),bt278.2.1,bt278.2.2)) else (some (t225,bt278.2.1,bt278.2.2)))) else (some (t225,bt228.2.1,bt228.2.2)))))))))))=some (r1,r2,r3):=h
 clear h
 replace H:=bI2.mp H
 obtain ⟨⟨t222,t223,t224⟩,A20,H⟩:=H
 replace H:((spec_slStandard.f k (wrap64 (1 + t222))).bind fun t225=>((spec_l1Cur_pick.f s0_0 t223 t224 10).bind fun bt228=>(if bt228.1=0 then ((spec_l1Cur_pick.f s0_0 bt228.2.1 bt228.2.2 5).bind fun bt231=>(if t225.length < 5864062014805 then (some ((t225 ++ [(⟨wrap64 (bt231.1 - 2),2,2⟩:S96)]),bt231.2.1,bt231.2.2)) else (none))) else (if bt228.1=1 then ((spec_l1Cur_pick.f s0_0 bt228.2.1 bt228.2.2 (t225.length:Int)).bind fun bt237=>(if 0≤bt237.1 then (if bt237.1≤(t225.length:Int) then (some ((t225.drop (bt237.1:Int).toNat),bt237.2.1,bt237.2.2)) else (none)) else (none))) else (if bt228.1=2 then ((spec_l1Cur_one.f s0_0 bt228.2.1 bt228.2.2 3).bind fun bt243=>(if bt243.1=true then ((spec_l1Cur_pick.f s0_0 bt243.2.1 bt243.2.2 (t225.length:Int)).bind fun bt246=>((spec_l1Cur_among.f s0_0 bt246.2.1 bt246.2.2 (([(-3),(-2),2,3]:List Int))).bind fun bt252=>(if 0≤bt246.1 then (if bt246.1 < (t225.length:Int) then (some ((t225.set (bt246.1:Int).toNat (⟨bt252.1,(rd_T96 t225 bt246.1).f1,(rd_T96 t225 bt246.1).f2⟩:S96)),bt252.2.1,bt252.2.2)) else (none)) else (none)))) else (some (t225,bt243.2.1,bt243.2.2)))) else (if bt228.1=3 then ((spec_l1Cur_one.f s0_0 bt228.2.1 bt228.2.2 3).bind fun bt256=>(if bt256.1=true then ((spec_l1Cur_pick.f s0_0 bt256.2.1 bt256.2.2 (t225.length:Int)).bind fun bt259=>((spec_l1Cur_among.f s0_0 bt259.2.1 bt259.2.2 (([0,1,2,3]:List Int))).bind fun bt265=>(if 0≤bt259.1 then (if bt259.1 < (t225.length:Int) then (some ((t225.set (bt259.1:Int).toNat (⟨(rd_T96 t225 bt259.1).f0,(rd_T96 t225 bt259.1).f1,bt265.1⟩:S96)),bt265.2.1,bt265.2.2)) else (none)) else (none)))) else (some (t225,bt256.2.1,bt256.2.2)))) else (if bt228.1=4 then ((spec_l1Cur_one.f s0_0 bt228.2.1 bt228.2.2 3).bind fun bt269=>(if bt269.1=true then ((spec_l1Cur_pick.f s0_0 bt269.2.1 bt269.2.2 2).bind fun bt272=>(spec_l1Cur_template.l0 k ([]:List (S96)) (wrap64 (12 + bt272.1)) s0_0 bt272.2.1 bt272.2.2)) else (some (t225,bt269.2.1,bt269.2.2)))) else (if bt228.1=5 then ((spec_l1Cur_one.f s0_0 bt228.2.1 bt228.2.2 3).bind fun bt278=>(if bt278.1=true then (some (([]:List (S96)),bt278.2.1,bt278.2.2)) else (some (t225,bt278.2.1,bt278.2.2)))) else (some (t225,bt228.2.1,bt228.2.2))))))))))=some (r1,r2,r3):=H
 have A2:=aM2 A20
 clear A20
 replace H:=bI2.mp H
 obtain ⟨t225,A30,H⟩:=H
 replace H:((spec_l1Cur_pick.f s0_0 t223 t224 10).bind fun bt228=>(if bt228.1=0 then ((spec_l1Cur_pick.f s0_0 bt228.2.1 bt228.2.2 5).bind fun bt231=>(if t225.length < 5864062014805 then (some ((t225 ++ [(⟨wrap64 (bt231.1 - 2),2,2⟩:S96)]),bt231.2.1,bt231.2.2)) else (none))) else (if bt228.1=1 then ((spec_l1Cur_pick.f s0_0 bt228.2.1 bt228.2.2 (t225.length:Int)).bind fun bt237=>(if 0≤bt237.1 then (if bt237.1≤(t225.length:Int) then (some ((t225.drop (bt237.1:Int).toNat),bt237.2.1,bt237.2.2)) else (none)) else (none))) else (if bt228.1=2 then ((spec_l1Cur_one.f s0_0 bt228.2.1 bt228.2.2 3).bind fun bt243=>(if bt243.1=true then ((spec_l1Cur_pick.f s0_0 bt243.2.1 bt243.2.2 (t225.length:Int)).bind fun bt246=>((spec_l1Cur_among.f s0_0 bt246.2.1 bt246.2.2 (([(-3),(-2),2,3]:List Int))).bind fun bt252=>(if 0≤bt246.1 then (if bt246.1 < (t225.length:Int) then (some ((t225.set (bt246.1:Int).toNat (⟨bt252.1,(rd_T96 t225 bt246.1).f1,(rd_T96 t225 bt246.1).f2⟩:S96)),bt252.2.1,bt252.2.2)) else (none)) else (none)))) else (some (t225,bt243.2.1,bt243.2.2)))) else (if bt228.1=3 then ((spec_l1Cur_one.f s0_0 bt228.2.1 bt228.2.2 3).bind fun bt256=>(if bt256.1=true then ((spec_l1Cur_pick.f s0_0 bt256.2.1 bt256.2.2 (t225.length:Int)).bind fun bt259=>((spec_l1Cur_among.f s0_0 bt259.2.1 bt259.2.2 (([0,1,2,3]:List Int))).bind fun bt265=>(if 0≤bt259.1 then (if bt259.1 < (t225.length:Int) then (some ((t225.set (bt259.1:Int).toNat (⟨(rd_T96 t225 bt259.1).f0,(rd_T96 t225 bt259.1).f1,bt265.1⟩:S96)),bt265.2.1,bt265.2.2)) else (none)) else (none)))) else (some (t225,bt256.2.1,bt256.2.2)))) else (if bt228.1=4 then ((spec_l1Cur_one.f s0_0 bt228.2.1 bt228.2.2 3).bind fun bt269=>(if bt269.1=true then ((spec_l1Cur_pick.f s0_0 bt269.2.1 bt269.2.2 2).bind fun bt272=>(spec_l1Cur_template.l0 k ([]:List (S96)) (wrap64 (12 + bt272.1)) s0_0 bt272.2.1 bt272.2.2)) else (some (t225,bt269.2.1,bt269.2.2)))) else (if bt228.1=5 then ((spec_l1Cur_one.f s0_0 bt228.2.1 bt228.2.2 3).bind fun bt278=>(if bt278.1=true then (some (([]:List (S96)),bt278.2.1,bt278.2.2)) else (some (t225,bt278.2.1,bt278.2.2)))) else (some (t225,bt228.2.1,bt228.2.2)))))))))=some (r1,r2,r3):=H
 have A3:=aM2 A30
 clear A30
 replace H:=bI2.mp H
 obtain ⟨⟨t228,t229,t230⟩,A40,H⟩:=H
 replace H:(if t228=0 then ((spec_l1Cur_pick.f s0_0 t229 t230 5).bind fun bt231=>(if t225.length < 5864062014805 then (some ((t225 ++ [(⟨wrap64 (bt231.1 - 2),2,2⟩:S96)]),bt231.2.1,bt231.2.2)) else (none))) else (if t228=1 then ((spec_l1Cur_pick.f s0_0 t229 t230 (t225.length:Int)).bind fun bt237=>(if 0≤bt237.1 then (if bt237.1≤(t225.length:Int) then (some ((t225.drop (bt237.1:Int).toNat),bt237.2.1,bt237.2.2)) else (none)) else (none))) else (if t228=2 then ((spec_l1Cur_one.f s0_0 t229 t230 3).bind fun bt243=>(if bt243.1=true then ((spec_l1Cur_pick.f s0_0 bt243.2.1 bt243.2.2 (t225.length:Int)).bind fun bt246=>((spec_l1Cur_among.f s0_0 bt246.2.1 bt246.2.2 (([(-3),(-2),2,3]:List Int))).bind fun bt252=>(if 0≤bt246.1 then (if bt246.1 < (t225.length:Int) then (some ((t225.set (bt246.1:Int).toNat (⟨bt252.1,(rd_T96 t225 bt246.1).f1,(rd_T96 t225 bt246.1).f2⟩:S96)),bt252.2.1,bt252.2.2)) else (none)) else (none)))) else (some (t225,bt243.2.1,bt243.2.2)))) else (if t228=3 then ((spec_l1Cur_one.f s0_0 t229 t230 3).bind fun bt256=>(if bt256.1=true then ((spec_l1Cur_pick.f s0_0 bt256.2.1 bt256.2.2 (t225.length:Int)).bind fun bt259=>((spec_l1Cur_among.f s0_0 bt259.2.1 bt259.2.2 (([0,1,2,3]:List Int))).bind fun bt265=>(if 0≤bt259.1 then (if bt259.1 < (t225.length:Int) then (some ((t225.set (bt259.1:Int).toNat (⟨(rd_T96 t225 bt259.1).f0,(rd_T96 t225 bt259.1).f1,bt265.1⟩:S96)),bt265.2.1,bt265.2.2)) else (none)) else (none)))) else (some (t225,bt256.2.1,bt256.2.2)))) else (if t228=4 then ((spec_l1Cur_one.f s0_0 t229 t230 3).bind fun bt269=>(if bt269.1=true then ((spec_l1Cur_pick.f s0_0 bt269.2.1 bt269.2.2 2).bind fun bt272=>(spec_l1Cur_template.l0 k ([]:List (S96)) (wrap64 (12 + bt272.1)) s0_0 bt272.2.1 bt272.2.2)) else (some (t225,bt269.2.1,bt269.2.2)))) else (if t228=5 then ((spec_l1Cur_one.f s0_0 t229 t230 3).bind fun bt278=>(if bt278.1=true then (some (([]:List (S96)),bt278.2.1,bt278.2.2)) else (some (t225,bt278.2.1,bt278.2.2)))) else (some (t225,t229,t230))))))))=some (r1,r2,r3):=H
 have A4:=aM2 A40
 clear A40
 by_cases c5:t228=0
 ·rw [if_pos c5] at H
  have c5b0:(t228 == 0)=true:=beq_iff_eq.mpr c5
  have c5b1:(t228 != 0)=false:=bne_eq_false_iff_eq.mpr c5
  clear c5
  replace H:=bI2.mp H
  obtain ⟨⟨t231,t232,t233⟩,A60,H⟩:=H
  replace H:(if t225.length < 5864062014805 then (some ((t225 ++ [(⟨wrap64 (t231 - 2),2,2⟩:S96)]),t232,t233)) else (none))=some (r1,r2,r3):=H
  have A6:=aM2 A60
  clear A60
  by_cases c7:t225.length < 5864062014805
  ·rw [if_pos c7] at H
   have LMc7:=aM2 c7
   clear c7
   obtain ⟨y234,hy234⟩:∃ y_:List (S96),y_=(t225 ++ [(⟨wrap64 (t231 - 2),2,2⟩:S96)]):=⟨_,rfl⟩
   replace H:(some (y234,t232,t233))=some (r1,r2,r3):=by first|(rw [hy234];with_reducible exact H)|(have H2_:=(Option.bind_some _ _).symm.trans H;rw [hy234];with_reducible exact H2_)|(have H2_:=(Option.bind_some _ _).symm.trans H;with_reducible exact H2_)|with_reducible exact H|(rw [hy234];exact H)|exact H
   have Ny234:=aM2 hy234
   clear hy234
   simp only [Option.some.injEq,Prod.mk.injEq] at H
   obtain ⟨rfl,rfl,rfl⟩:=H
   go_enter Try.func98,Try.ntmps98
   go_wp2_with (first|((with_reducible refine gate_callee (f:=53) rfl ?_);refine goesL_ (some 6) rfl rfl Try.func53 (zsx2_0) rfl #[.pointer (some ⟨g,0,none⟩),.int .i64 4] rfl (zsx2_1) ?_;(with_reducible refine (spec_l1Cur_pick.calls g s0_0 s0_1 s0_2 4 t222 t223 t224 w0 _ ?side1 ?side2 A2.out).mono ?_);(case side1=>exact zsx2_3);(case side2=>exact zsx2_4);rintro e w8 ⟨rfl,hi,hb,hk⟩;refine ⟨_,rfl,?_⟩;have n0_:=aM2 (kT2 (zsx2_2) hk (.inl rfl));have n1_:=aM2 (hb);have n2_:=aM2 (hi);clear HK HB HI0;have HK:=n0_;have HB:=n1_;have HI0:=n2_;clear n0_ n1_ n2_;(try clear hb);(try clear hb2);(try clear hk);(try clear hi))|((with_reducible refine gate_callee (f:=100) rfl ?_);refine goesL_ (some 8) rfl rfl Try.func100 (zsx2_0) rfl #[.int .i64 (wrap64 (1 + t222))] rfl (zsx2_1) ?_;(with_reducible refine (spec_slStandard.calls k (wrap64 (1 + t222)) t225 _ A3.out).mono ?_);rintro e w9 ⟨v226,rfl,ho0,hb⟩;refine ⟨_,rfl,?_⟩;have n0_:=aM2 (Kd.R_lower ho0 (keep_size (w:=w) (g:=g) (row:=none) (zsx2_2)));have n1_:=aM2 (IsS61.below (zsx2_3) hb);have n2_:=aM2 (kT2 (zsx2_2) (kB2 hb g none) (.inl rfl));have n3_:=aM2 (below_step (zsx2_4) hb);clear HI0 HK HB;have HO227:=n0_;have HI0:=n1_;have HK:=n2_;have HB:=n3_;clear n0_ n1_ n2_ n3_;(try clear hb);(try clear hb2);(try clear hk);(try clear hi);(try clear ho0))|((with_reducible refine gate_callee (f:=53) rfl ?_);refine goesL_ (some 10) rfl rfl Try.func53 (zsx2_0) rfl #[.pointer (some ⟨g,0,none⟩),.int .i64 10] rfl (zsx2_1) ?_;(with_reducible refine (spec_l1Cur_pick.calls g s0_0 t223 t224 10 t228 t229 t230 w0 _ ?side1 ?side2 A4.out).mono ?_);(case side1=>exact zsx2_3);(case side2=>exact zsx2_4);rintro e w10 ⟨rfl,hi,hb,hk⟩;refine ⟨_,rfl,?_⟩;have n0_:=aM2 (Kd.R_mono (Kd.R_keep (IsS61.apart (show IsS61 w0 _ g s0_0 t223 t224 from zsx2_3) (zsx2_5) (by decide)) hk (fun _ h=>h.2)) (fun _ h=>h.1));have n1_:=aM2 (kT2 (zsx2_2) hk (.inl rfl));have n2_:=aM2 (hb);have n3_:=aM2 (hi);clear HO227 HK HB HI0;have HO227:=n0_;have HK:=n1_;have HB:=n2_;have HI0:=n3_;clear n0_ n1_ n2_ n3_;(try clear hb);(try clear hb2);(try clear hk);(try clear hi))|((with_reducible refine gate_callee (f:=53) rfl ?_);refine goesL_ (some 15) rfl rfl Try.func53 (zsx2_0) rfl #[.pointer (some ⟨g,0,none⟩),.int .i64 5] rfl (zsx2_1) ?_;(with_reducible refine (spec_l1Cur_pick.calls g s0_0 t229 t230 5 t231 t232 t233 w0 _ ?side1 ?side2 A6.out).mono ?_);(case side1=>exact zsx2_3);(case side2=>exact zsx2_4);rintro e w11 ⟨rfl,hi,hb,hk⟩;refine ⟨_,rfl,?_⟩;have n0_:=aM2 (Kd.R_mono (Kd.R_keep (IsS61.apart (show IsS61 w0 _ g s0_0 t229 t230 from zsx2_3) (zsx2_5) (by decide)) hk (fun _ h=>h.2)) (fun _ h=>h.1));have n1_:=aM2 (kT2 (zsx2_2) hk (.inl rfl));have n2_:=aM2 (hb);have n3_:=aM2 (hi);clear HO227 HK HB HI0;have HO227:=n0_;have HK:=n1_;have HB:=n2_;have HI0:=n3_;clear n0_ n1_ n2_ n3_;(try clear hb);(try clear hb2);(try clear hk);(try clear hi))|((with_reducible refine gate_builtin (b:=.append) (xs:=#[.tmp 13,.tmp 18]) rfl ?_);at_builtin;refine Kd.R_append k96 w.heap.size rfl (.tmp 13) (.tmp 18) 94 96 (.agg #[(.int .i64 0),(.int .i64 0),(.int .i64 0)]) 24 rfl Try.underlying94 info96 rfl (by decide) (by omega) v226 t225 (⟨wrap64 (t231 - 2),2,2⟩:S96) [.int .i64 (wrap64 (t231 - 2)),.int .i64 2,.int .i64 2] (fun _=>True) (fun _=>False) rfl rfl ?aP (fun _ hk=>hk.elim) ?aF ?aO (Below.refl _ _) ?aS ?aL ?_;(case aP=>exact k96_mkM _ _ _ (⟨wrap64 (t231 - 2),2,2⟩:S96));(case aF=>exact (fun _ _=>trivial));(case aO=>exact (zsx2_5));(case aS=>exact (keep_size (w:=w) (g:=g) (row:=none) (zsx2_2)));(case aL=>have:=LMc7.out;omega);intro v235 w12 ho hb hg hat;rw [← Ny234.out] at ho;have n0_:=aM2 (IsS61.grown (zsx2_3) hg (IsS61.own_ne HI0.out HO227.out (by decide)));have n1_:=aM2 (below_weaken (zsx2_4) HL.out hb);have n2_:=aM2 (kT2 (zsx2_2) (KeepBut.of_grown hg g) (Kd.R_base2 HO227.out));have n3_:=aM2 (ho);clear HI0 HB HK HO227;have HI0:=n0_;have HB:=n1_;have HK:=n2_;have HO236:=n3_;clear n0_ n1_ n2_ n3_ ho hb hg hat))
   go_ret
   exact ⟨_,zsx2_6,Kd.Q_of_R (by (with_reducible repeat (first|apply Kd.R_alloc|apply Kd.R_drewN|apply Kd.R_drew));exact HO236.out),zsx2_3,zsx2_4,zsx2_2⟩
  ·rw [if_neg c7] at H
   exact absurd H (by simp)
 ·rw [if_neg c5] at H
  have c5b0:(t228 == 0)=false:=beq_eq_false_iff_ne.mpr c5
  have c5b1:(t228 != 0)=true:=bne_iff_ne.mpr c5
  by_cases c13:t228=1
  ·rw [if_pos c13] at H
   have c13b0:(t228 == 1)=true:=beq_iff_eq.mpr c13
   have c13b1:(t228 != 1)=false:=bne_eq_false_iff_eq.mpr c13
   clear c13
   replace H:=bI2.mp H
   obtain ⟨⟨t237,t238,t239⟩,A140,H⟩:=H
   replace H:(if 0≤t237 then (if t237≤(t225.length:Int) then (some ((t225.drop (t237:Int).toNat),t238,t239)) else (none)) else (none))=some (r1,r2,r3):=H
   have A14:=aM2 A140
   clear A140
   by_cases c15:0≤t237
   ·rw [if_pos c15] at H
    have c15b0:=eq_true c15
    have c15b1:decide (0≤t237)=true:=decide_eq_true c15
    clear c15
    by_cases c16:t237≤(t225.length:Int)
    ·rw [if_pos c16] at H
     have c16b0:=eq_true c16
     have c16b1:decide (t237≤(t225.length:Int))=true:=decide_eq_true c16
     clear c16
     obtain ⟨y240,hy240⟩:∃ y_:List (S96),y_=(t225.drop (t237:Int).toNat):=⟨_,rfl⟩
     replace H:(some (y240,t238,t239))=some (r1,r2,r3):=by first|(rw [hy240];with_reducible exact H)|(have H2_:=(Option.bind_some _ _).symm.trans H;rw [hy240];with_reducible exact H2_)|(have H2_:=(Option.bind_some _ _).symm.trans H;with_reducible exact H2_)|with_reducible exact H|(rw [hy240];exact H)|exact H
     have Ny240:=aM2 hy240
     clear hy240
     simp only [Option.some.injEq,Prod.mk.injEq] at H
     obtain ⟨rfl,rfl,rfl⟩:=H
     go_enter Try.func98,Try.ntmps98
     go_wp2_with (first|((with_reducible refine gate_callee (f:=53) rfl ?_);refine goesL_ (some 6) rfl rfl Try.func53 (zsx2_0) rfl #[.pointer (some ⟨g,0,none⟩),.int .i64 4] rfl (zsx2_1) ?_;(with_reducible refine (spec_l1Cur_pick.calls g s0_0 s0_1 s0_2 4 t222 t223 t224 w0 _ ?side1 ?side2 A2.out).mono ?_);(case side1=>exact zsx2_3);(case side2=>exact zsx2_4);rintro e w17 ⟨rfl,hi,hb,hk⟩;refine ⟨_,rfl,?_⟩;have n0_:=aM2 (kT2 (zsx2_2) hk (.inl rfl));have n1_:=aM2 (hb);have n2_:=aM2 (hi);clear HK HB HI0;have HK:=n0_;have HB:=n1_;have HI0:=n2_;clear n0_ n1_ n2_;(try clear hb);(try clear hb2);(try clear hk);(try clear hi))|((with_reducible refine gate_callee (f:=100) rfl ?_);refine goesL_ (some 8) rfl rfl Try.func100 (zsx2_0) rfl #[.int .i64 (wrap64 (1 + t222))] rfl (zsx2_1) ?_;(with_reducible refine (spec_slStandard.calls k (wrap64 (1 + t222)) t225 _ A3.out).mono ?_);rintro e w18 ⟨v226,rfl,ho0,hb⟩;refine ⟨_,rfl,?_⟩;have n0_:=aM2 (Kd.R_lower ho0 (keep_size (w:=w) (g:=g) (row:=none) (zsx2_2)));have n1_:=aM2 (IsS61.below (zsx2_3) hb);have n2_:=aM2 (kT2 (zsx2_2) (kB2 hb g none) (.inl rfl));have n3_:=aM2 (below_step (zsx2_4) hb);clear HI0 HK HB;have HO227:=n0_;have HI0:=n1_;have HK:=n2_;have HB:=n3_;clear n0_ n1_ n2_ n3_;(try clear hb);(try clear hb2);(try clear hk);(try clear hi);(try clear ho0))|((with_reducible refine gate_callee (f:=53) rfl ?_);refine goesL_ (some 10) rfl rfl Try.func53 (zsx2_0) rfl #[.pointer (some ⟨g,0,none⟩),.int .i64 10] rfl (zsx2_1) ?_;(with_reducible refine (spec_l1Cur_pick.calls g s0_0 t223 t224 10 t228 t229 t230 w0 _ ?side1 ?side2 A4.out).mono ?_);(case side1=>exact zsx2_3);(case side2=>exact zsx2_4);rintro e w19 ⟨rfl,hi,hb,hk⟩;refine ⟨_,rfl,?_⟩;have n0_:=aM2 (Kd.R_mono (Kd.R_keep (IsS61.apart (show IsS61 w0 _ g s0_0 t223 t224 from zsx2_3) (zsx2_5) (by decide)) hk (fun _ h=>h.2)) (fun _ h=>h.1));have n1_:=aM2 (kT2 (zsx2_2) hk (.inl rfl));have n2_:=aM2 (hb);have n3_:=aM2 (hi);clear HO227 HK HB HI0;have HO227:=n0_;have HK:=n1_;have HB:=n2_;have HI0:=n3_;clear n0_ n1_ n2_ n3_;(try clear hb);(try clear hb2);(try clear hk);(try clear hi);obtain ⟨Ao20,co20,eo20⟩:=Kd.R_slice HO227.out;subst eo20)|((with_reducible refine gate_callee (f:=53) rfl ?_);refine goesL_ (some 26) rfl rfl Try.func53 (zsx2_0) rfl #[.pointer (some ⟨g,0,none⟩),.int .i64 (t225.length:Int)] rfl (zsx2_1) ?_;(with_reducible refine (spec_l1Cur_pick.calls g s0_0 t229 t230 (t225.length:Int) t237 t238 t239 w0 _ ?side1 ?side2 A14.out).mono ?_);(case side1=>exact zsx2_3);(case side2=>exact zsx2_4);rintro e w21 ⟨rfl,hi,hb,hk⟩;refine ⟨_,rfl,?_⟩;have n0_:=aM2 (Kd.R_mono (Kd.R_keep (IsS61.apart (show IsS61 w0 _ g s0_0 t229 t230 from zsx2_3) (zsx2_5) (by decide)) hk (fun _ h=>h.2)) (fun _ h=>h.1));have n1_:=aM2 (kT2 (zsx2_2) hk (.inl rfl));have n2_:=aM2 (hb);have n3_:=aM2 (hi);clear HO227 HK HB HI0;have HO227:=n0_;have HK:=n1_;have HB:=n2_;have HI0:=n3_;clear n0_ n1_ n2_ n3_;(try clear hb);(try clear hb2);(try clear hk);(try clear hi);have q22:(t237:Int)≤((t225.length:Int):Int):=oD2 (zsx2_7);obtain ⟨i022,hi022,_,hsz22,_⟩:=info_parts info96;have hcut22:=cut_from (P:=Try.prog) 94 96 .i64 Try.underlying94 hi022 3 hsz22 Ao20 t225.length co20 t237 (oD2 (zsx2_7)) q22;have hr22:=Kd.Q_drop (k:=(t237:Int).toNat) (Kd.Q_of_R HO227.out) (by omega);obtain ⟨A22,hA22⟩:∃ A1,A1=(if co20=(t237:Int).toNat then Ao20 else (Ao20:Option Addr).map (·.add ((t237:Int).toNat * 3))):=⟨_,rfl⟩;obtain ⟨c22,hc22⟩:∃ c1,c1=co20 - (t237:Int).toNat:=⟨_,rfl⟩;have hy22:y240.length=t225.length - (t237:Int).toNat:=(by rw [Ny240.out,List.length_drop]);rw [← Ny240.out] at hr22;rw [← hy22,← hA22,← hc22] at hcut22;replace hr22:Kd.Q k96 96 w21 w.heap.size (fun _=>True) (.slice A22 y240.length c22) y240:=(by rw [hA22,hc22,hy22];exact hr22);have HE22:Aside0 ((Value.slice A22 y240.length c22).ownBlock=(.slice Ao20 t225.length co20:Value).ownBlock):=⟨by rw [hA22];split <;> (cases (Ao20:Option Addr) <;> first|rfl|(simp only [Value.ownBlock,Option.map_some,Addr.add] <;> split <;> rfl))⟩;clear hy22 hi022 hsz22 HO227 hA22 hc22;have HO242:=aM2 hr22;clear hr22;replace q22:=eq_true q22))
     go_ret
     exact ⟨_,zsx2_6,by (with_reducible repeat (first|apply Kd.Q_alloc|apply Kd.Q_drewN|apply Kd.Q_drew));exact HO242.out,zsx2_3,zsx2_4,zsx2_2⟩
    ·rw [if_neg c16] at H
     exact absurd H (by simp)
   ·rw [if_neg c15] at H
    exact absurd H (by simp)
  ·rw [if_neg c13] at H
   have c13b0:(t228 == 1)=false:=beq_eq_false_iff_ne.mpr c13
   have c13b1:(t228 != 1)=true:=bne_iff_ne.mpr c13
   by_cases c23:t228=2
   ·rw [if_pos c23] at H
    have c23b0:(t228 == 2)=true:=beq_iff_eq.mpr c23
    have c23b1:(t228 != 2)=false:=bne_eq_false_iff_eq.mpr c23
    clear c23
    replace H:=bI2.mp H
    obtain ⟨⟨t243,t244,t245⟩,A240,H⟩:=H
    replace H:(if t243=true then ((spec_l1Cur_pick.f s0_0 t244 t245 (t225.length:Int)).bind fun bt246=>((spec_l1Cur_among.f s0_0 bt246.2.1 bt246.2.2 (([(-3),(-2),2,3]:List Int))).bind fun bt252=>(if 0≤bt246.1 then (if bt246.1 < (t225.length:Int) then (some ((t225.set (bt246.1:Int).toNat (⟨bt252.1,(rd_T96 t225 bt246.1).f1,(rd_T96 t225 bt246.1).f2⟩:S96)),bt252.2.1,bt252.2.2)) else (none)) else (none)))) else (some (t225,t244,t245)))=some (r1,r2,r3):=H
    have A24:=aM2 A240
    clear A240
    by_cases c25:t243=true
    ·subst c25
     have H1:((spec_l1Cur_pick.f s0_0 t244 t245 (t225.length:Int)).bind fun bt246=>((spec_l1Cur_among.f s0_0 bt246.2.1 bt246.2.2 (([(-3),(-2),2,3]:List Int))).bind fun bt252=>(if 0≤bt246.1 then (if bt246.1 < (t225.length:Int) then (some ((t225.set (bt246.1:Int).toNat (⟨bt252.1,(rd_T96 t225 bt246.1).f1,(rd_T96 t225 bt246.1).f2⟩:S96)),bt252.2.1,bt252.2.2)) else (none)) else (none))))=some (r1,r2,r3):=by rw [if_pos rfl] at H;exact H
     clear H
     have H:=H1
     clear H1
     replace H:=bI2.mp H
     obtain ⟨⟨t246,t247,t248⟩,A260,H⟩:=H
     replace H:((spec_l1Cur_among.f s0_0 t247 t248 (([(-3),(-2),2,3]:List Int))).bind fun bt252=>(if 0≤t246 then (if t246 < (t225.length:Int) then (some ((t225.set (t246:Int).toNat (⟨bt252.1,(rd_T96 t225 t246).f1,(rd_T96 t225 t246).f2⟩:S96)),bt252.2.1,bt252.2.2)) else (none)) else (none)))=some (r1,r2,r3):=H
     have A26:=aM2 A260
     clear A260
     obtain ⟨y249,hy249⟩:∃ y_:List Int,y_=(([(-3),(-2),2,3]:List Int)):=⟨_,rfl⟩
     replace H:((spec_l1Cur_among.f s0_0 t247 t248 y249).bind fun bt252=>(if 0≤t246 then (if t246 < (t225.length:Int) then (some ((t225.set (t246:Int).toNat (⟨bt252.1,(rd_T96 t225 t246).f1,(rd_T96 t225 t246).f2⟩:S96)),bt252.2.1,bt252.2.2)) else (none)) else (none)))=some (r1,r2,r3):=by first|(rw [hy249];with_reducible exact H)|(have H2_:=(Option.bind_some _ _).symm.trans H;rw [hy249];with_reducible exact H2_)|(have H2_:=(Option.bind_some _ _).symm.trans H;with_reducible exact H2_)|with_reducible exact H|(rw [hy249];exact H)|exact H
     have Ny249:=aM2 hy249
     clear hy249
     replace H:=bI2.mp H
     obtain ⟨⟨t252,t253,t254⟩,A270,H⟩:=H
     replace H:(if 0≤t246 then (if t246 < (t225.length:Int) then (some ((t225.set (t246:Int).toNat (⟨t252,(rd_T96 t225 t246).f1,(rd_T96 t225 t246).f2⟩:S96)),t253,t254)) else (none)) else (none))=some (r1,r2,r3):=H
     have A27:=aM2 A270
     clear A270
     by_cases c28:0≤t246
     ·rw [if_pos c28] at H
      have c28b0:decide (0≤t246)=true:=decide_eq_true c28
      clear c28
      by_cases c29:t246 < (t225.length:Int)
      ·rw [if_pos c29] at H
       have c29b0:decide (t246 < (t225.length:Int))=true:=decide_eq_true c29
       clear c29
       obtain ⟨y255,hy255⟩:∃ y_:List (S96),y_=(t225.set (t246:Int).toNat (⟨t252,(rd_T96 t225 t246).f1,(rd_T96 t225 t246).f2⟩:S96)):=⟨_,rfl⟩
       replace H:(some (y255,t253,t254))=some (r1,r2,r3):=by first|(rw [hy255];with_reducible exact H)|(have H2_:=(Option.bind_some _ _).symm.trans H;rw [hy255];with_reducible exact H2_)|(have H2_:=(Option.bind_some _ _).symm.trans H;with_reducible exact H2_)|with_reducible exact H|(rw [hy255];exact H)|exact H
       have Ny255:=aM2 hy255
       clear hy255
       simp only [Option.some.injEq,Prod.mk.injEq] at H
       obtain ⟨rfl,rfl,rfl⟩:=H
       go_enter Try.func98,Try.ntmps98
       go_wp2_with (first|((with_reducible refine gate_callee (f:=53) rfl ?_);refine goesL_ (some 6) rfl rfl Try.func53 (zsx2_0) rfl #[.pointer (some ⟨g,0,none⟩),.int .i64 4] rfl (zsx2_1) ?_;(with_reducible refine (spec_l1Cur_pick.calls g s0_0 s0_1 s0_2 4 t222 t223 t224 w0 _ ?side1 ?side2 A2.out).mono ?_);(case side1=>exact zsx2_3);(case side2=>exact zsx2_4);rintro e w31 ⟨rfl,hi,hb,hk⟩;refine ⟨_,rfl,?_⟩;have n0_:=aM2 (kT2 (zsx2_2) hk (.inl rfl));have n1_:=aM2 (hb);have n2_:=aM2 (hi);clear HK HB HI0;have HK:=n0_;have HB:=n1_;have HI0:=n2_;clear n0_ n1_ n2_;(try clear hb);(try clear hb2);(try clear hk);(try clear hi))|((with_reducible refine gate_callee (f:=100) rfl ?_);refine goesL_ (some 8) rfl rfl Try.func100 (zsx2_0) rfl #[.int .i64 (wrap64 (1 + t222))] rfl (zsx2_1) ?_;(with_reducible refine (spec_slStandard.calls k (wrap64 (1 + t222)) t225 _ A3.out).mono ?_);rintro e w32 ⟨v226,rfl,ho0,hb⟩;refine ⟨_,rfl,?_⟩;have n0_:=aM2 (Kd.R_lower ho0 (keep_size (w:=w) (g:=g) (row:=none) (zsx2_2)));have n1_:=aM2 (IsS61.below (zsx2_3) hb);have n2_:=aM2 (kT2 (zsx2_2) (kB2 hb g none) (.inl rfl));have n3_:=aM2 (below_step (zsx2_4) hb);clear HI0 HK HB;have HO227:=n0_;have HI0:=n1_;have HK:=n2_;have HB:=n3_;clear n0_ n1_ n2_ n3_;(try clear hb);(try clear hb2);(try clear hk);(try clear hi);(try clear ho0))|((with_reducible refine gate_callee (f:=53) rfl ?_);refine goesL_ (some 10) rfl rfl Try.func53 (zsx2_0) rfl #[.pointer (some ⟨g,0,none⟩),.int .i64 10] rfl (zsx2_1) ?_;(with_reducible refine (spec_l1Cur_pick.calls g s0_0 t223 t224 10 t228 t229 t230 w0 _ ?side1 ?side2 A4.out).mono ?_);(case side1=>exact zsx2_3);(case side2=>exact zsx2_4);rintro e w33 ⟨rfl,hi,hb,hk⟩;refine ⟨_,rfl,?_⟩;have n0_:=aM2 (Kd.R_mono (Kd.R_keep (IsS61.apart (show IsS61 w0 _ g s0_0 t223 t224 from zsx2_3) (zsx2_5) (by decide)) hk (fun _ h=>h.2)) (fun _ h=>h.1));have n1_:=aM2 (kT2 (zsx2_2) hk (.inl rfl));have n2_:=aM2 (hb);have n3_:=aM2 (hi);clear HO227 HK HB HI0;have HO227:=n0_;have HK:=n1_;have HB:=n2_;have HI0:=n3_;clear n0_ n1_ n2_ n3_;(try clear hb);(try clear hb2);(try clear hk);(try clear hi))|((with_reducible refine gate_callee (f:=86) rfl ?_);refine goesL_ (some 31) rfl rfl Try.func86 (zsx2_0) rfl #[.pointer (some ⟨g,0,none⟩),.int .i64 3] rfl (zsx2_1) ?_;(with_reducible refine (spec_l1Cur_one.calls g s0_0 t229 t230 3 true t244 t245 w0 _ ?side1 ?side2 A24.out).mono ?_);(case side1=>exact zsx2_3);(case side2=>exact zsx2_4);rintro e w34 ⟨rfl,hi,hb,hk⟩;refine ⟨_,rfl,?_⟩;have n0_:=aM2 (Kd.R_mono (Kd.R_keep (IsS61.apart (show IsS61 w0 _ g s0_0 t229 t230 from zsx2_3) (zsx2_5) (by decide)) hk (fun _ h=>h.2)) (fun _ h=>h.1));have n1_:=aM2 (kT2 (zsx2_2) hk (.inl rfl));have n2_:=aM2 (hb);have n3_:=aM2 (hi);clear HO227 HK HB HI0;have HO227:=n0_;have HK:=n1_;have HB:=n2_;have HI0:=n3_;clear n0_ n1_ n2_ n3_;(try clear hb);(try clear hb2);(try clear hk);(try clear hi);obtain ⟨Ao35,co35,eo35⟩:=Kd.R_slice HO227.out;subst eo35)|((with_reducible refine gate_callee (f:=53) rfl ?_);refine goesL_ (some 36) rfl rfl Try.func53 (zsx2_0) rfl #[.pointer (some ⟨g,0,none⟩),.int .i64 (t225.length:Int)] rfl (zsx2_1) ?_;(with_reducible refine (spec_l1Cur_pick.calls g s0_0 t244 t245 (t225.length:Int) t246 t247 t248 w0 _ ?side1 ?side2 A26.out).mono ?_);(case side1=>exact zsx2_3);(case side2=>exact zsx2_4);rintro e w36 ⟨rfl,hi,hb,hk⟩;refine ⟨_,rfl,?_⟩;have n0_:=aM2 (Kd.R_mono (Kd.R_keep (IsS61.apart (show IsS61 w0 _ g s0_0 t244 t245 from zsx2_3) (zsx2_5) (by decide)) hk (fun _ h=>h.2)) (fun _ h=>h.1));have n1_:=aM2 (kT2 (zsx2_2) hk (.inl rfl));have n2_:=aM2 (hb);have n3_:=aM2 (hi);clear HO227 HK HB HI0;have HO227:=n0_;have HK:=n1_;have HB:=n2_;have HI0:=n3_;clear n0_ n1_ n2_ n3_;(try clear hb);(try clear hb2);(try clear hk);(try clear hi))|((with_reducible refine gate_dst (N:=38) rfl ?_);refine Kd.R_lit (Kd.int .i64) _ 3 ?hg (N:=38) ?hd (xs:=([(-3),(-2),2,3]:List Int)) (inner:=[.int .i64 (-3),.int .i64 (-2),.int .i64 2,.int .i64 3]) (ok:=fun _=>True) (okp:=fun _=>True) ?hr ?hp (fun _ hk=>hk) trivial (Below.refl _ _) (Nat.le_refl _) (by simp) ?_;(case hd=>rfl);(case hg=>rfl);(case hr=>exact zsx2_13);(case hp=>exact (Reps.one (show Kd.M (Kd.int .i64) _ _ _ (-3) [.int .i64 (-3)] from rfl) (Reps.one (show Kd.M (Kd.int .i64) _ _ _ (-2) [.int .i64 (-2)] from rfl) (Reps.one (show Kd.M (Kd.int .i64) _ _ _ 2 [.int .i64 2] from rfl) (Reps.one (show Kd.M (Kd.int .i64) _ _ _ 3 [.int .i64 3] from rfl) (Reps.none _ _))))));intro v250 w37 ho38 hb hg_ hnew_;clear hg_ hnew_;(first|rw [← Ny249.out] at ho38|(simp only [Int.reduceToNat] at ho38;rw [← Ny249.out] at ho38));have n0_:=aM2 (Kd.R_below (zsx2_5) hb);have n1_:=aM2 (Kd.R_lower ho38 (keep_size (w:=w) (g:=g) (row:=none) (zsx2_2)));have n2_:=aM2 (IsS61.below (zsx2_3) hb);have n3_:=aM2 (kT2 (zsx2_2) (kB2 hb g none) (.inl rfl));have n4_:=aM2 (below_step (zsx2_4) hb);clear HO227 HI0 HK HB;have HO227:=n0_;have HO251:=n1_;have HI0:=n2_;have HK:=n3_;have HB:=n4_;clear n0_ n1_ n2_ n3_ n4_ hb ho38;obtain ⟨Ao39,co39,eo39⟩:=Kd.R_slice HO251.out;subst eo39)|((with_reducible refine gate_callee (f:=66) rfl ?_);refine goesL_ (some 39) rfl rfl Try.func66 (zsx2_0) rfl #[.pointer (some ⟨g,0,none⟩),.slice Ao39 y249.length co39] rfl (zsx2_1) ?_;(with_reducible refine (spec_l1Cur_among.calls g s0_0 t247 t248 _ _ y249 t252 t253 t254 w0 _ ?side1 ?side2 ?side3 ?side4 ?side5 A27.out).mono ?_);(case side1=>exact zsx2_3);(case side2=>exact zsx2_4);(case side3=>repeat (first|exact (Kd.R_reads' HO251.out).2.2|(with_reducible refine Kd.C_alloc ?_ _)|(with_reducible refine Kd.C_drewN ?_ _)|(with_reducible refine Kd.C_drew ?_)));(case side4=>exact (Kd.R_reads' HO251.out).2.1);(case side5=>exact far_slice (IsS61.own_ne HI0.out HO251.out (by decide)));rintro e w40 ⟨rfl,hi,hb,hk⟩;refine ⟨_,rfl,?_⟩;have n0_:=aM2 (Kd.R_mono (Kd.R_keep (IsS61.apart (show IsS61 w0 _ g s0_0 t247 t248 from zsx2_3) (zsx2_5) (by decide)) hk (fun _ h=>h.2)) (fun _ h=>h.1));have n1_:=aM2 (Kd.R_mono (Kd.R_keep (IsS61.apart (show IsS61 w0 _ g s0_0 t247 t248 from zsx2_3) (by (with_reducible repeat (first|apply Kd.R_alloc|apply Kd.R_drewN|apply Kd.R_drew));exact HO251.out) (by decide)) hk (fun _ h=>h.2)) (fun _ h=>h.1));have n2_:=aM2 (kT2 (zsx2_2) hk (.inl rfl));have n3_:=aM2 (hb);have n4_:=aM2 (hi);clear HO227 HO251 HK HB HI0;have HO227:=n0_;have HO251:=n1_;have HK:=n2_;have HB:=n3_;have HI0:=n4_;clear n0_ n1_ n2_ n3_ n4_;(try clear hb);(try clear hb2);(try clear hk);(try clear hi);have p30:0≤(t246:Int):=oD2 (zsx2_7);have q30:(t246:Int) < ((t225.length:Int):Int):=oD2 (zsx2_7);obtain ⟨go30,co30,eo30,gb30,gl30,cl30,HG30⟩:=Kd.R_form HO227.out (by omega);(first|cases eo30|(injection eo30 with ea_ en_ ec_;(first|subst ea_|(injection ea_ with ea_;subst ea_));subst ec_;clear en_));have GB30:=aM2 gb30;have GG30:=aM2 HG30;clear gb30 gl30 HG30;obtain ⟨ce30,hcl30,hM30,hcc30,hfr30⟩:=Kd.R_elem HO227.out z96 (t246:Int) p30 q30;obtain rfl:=k96_openM hM30;have hx30_0:w40.cell? ⟨go30,(t246:Int).toNat * 3,none⟩=some (.int .i64 ((rd_T96 t225 t246).f0)):=hcc30 0 _ rfl;have hx30_1:w40.cell? ⟨go30,(t246:Int).toNat * 3 + 1,none⟩=some (.int .i64 ((rd_T96 t225 t246).f1)):=hcc30 1 _ rfl;have hx30_2:w40.cell? ⟨go30,(t246:Int).toNat * 3 + 2,none⟩=some (.int .i64 ((rd_T96 t225 t246).f2)):=hcc30 2 _ rfl;have hf30_0:w40.frozen? ⟨go30,(t246:Int).toNat * 3,none⟩=false:=hfr30 0;have hf30_1:w40.frozen? ⟨go30,(t246:Int).toNat * 3 + 1,none⟩=false:=hfr30 1;have hf30_2:w40.frozen? ⟨go30,(t246:Int).toNat * 3 + 2,none⟩=false:=hfr30 2;clear hcl30 hcc30 hfr30 hM30;replace p30:=eq_true p30;replace q30:=eq_true q30;have HX41:=aM2 (show Kd.R k96 96 w40 w.heap.size (fun _=>True) (.slice (some ⟨go30,0,none⟩) t225.length co35) t225 from (zsx2_5));obtain ⟨ce41,hcl41,hM41,hcc41,hfr41⟩:=Kd.R_elem HX41.out z96 (t246:Int) (oD2 (zsx2_7)) (by have h_:(t246:Int) < ((t225.length:Int):Int):=oD2 (zsx2_7);first|exact h_|(have e_:=(Kd.R_reads' HO227.out).1;omega)|simpa using h_);obtain rfl:=k96_openM hM41;have HP41:=Kd.R_seg HX41.out (t246:Int) (oD2 (zsx2_7)) (by have h_:(t246:Int) < ((t225.length:Int):Int):=oD2 (zsx2_7);first|exact h_|(have e_:=(Kd.R_reads' HO227.out).1;omega)|simpa using h_) (seg:=[.int .i64 t252]) (j:=0) hcl41 hcc41 (show 1≤3 from by decide) (x':=(⟨t252,(rd_T96 t225 t246).f1,(rd_T96 t225 t246).f2⟩:S96)) (k96_mkM _ _ _ (⟨t252,(rd_T96 t225 t246).f1,(rd_T96 t225 t246).f2⟩:S96) ) (fun _ hk=>hk);have hx41_0:=hcc41 0 _ rfl;(try simp only [show (k96).sz=3 from rfl,Nat.mul_one,Nat.add_zero] at hx41_0);have hf41_0:=hfr41 0;(try simp only [show (k96).sz=3 from rfl,Nat.mul_one,Nat.add_zero] at hf41_0);clear hcl41 hcc41 hfr41 hM41)|((with_reducible refine gate_store (t:=3) (p:=41) rfl ?_);refine store_event (t:=3) (p:=41) (v:=?vo_w42) (w1:=(w40.setCell ⟨go30,(t246:Int).toNat * 3,none⟩ (.int .i64 t252))) ?hg ?ho ?hn ?hr ?_;(case ho=>rfl);(case hg=>rfl);(case hn=>rfl);(case hr=>exact zsx2_13);intro w42 hw;have hg:w40.grownBy w42 (some go30):=(by rw [hw];exact HP41.2);have hp_:Kd.R k96 96 w42 w.heap.size (fun _=>True) (.slice (some ⟨go30,0,none⟩) t225.length co35) y255:=(by rw [hw,Ny255.out];exact HP41.1);clear HP41;have n0_:=aM2 (IsS61.grown (zsx2_3) hg (IsS61.own_ne HI0.out HO227.out (by decide)));have n1_:=aM2 (hp_);have n2_:=aM2 (Kd.R_over' (v:=(.slice (some ⟨go30,0,none⟩) t225.length co35)) (by (with_reducible repeat (first|apply Kd.R_alloc|apply Kd.R_drewN|apply Kd.R_drew));exact HO251.out) (Kd.R_typed HO227.out) (by decide) hg);have n3_:=aM2 ((by rw [hw];exact below_set (HB.out) (Nat.le_trans HL.out GB30.out):Below w0.heap.size w0 w42));have n4_:=aM2 (kT2 (zsx2_2) (KeepBut.of_grown hg g) (Kd.R_base2 HO227.out));clear HI0 HO227 HO251 HB HK;have HI0:=n0_;have HO227:=n1_;have HO251:=n2_;have HB:=n3_;have HK:=n4_;clear n0_ n1_ n2_ n3_ n4_ hg hw hp_))
       go_ret
       exact ⟨_,zsx2_6,Kd.Q_of_R (zsx2_5),zsx2_3,zsx2_4,zsx2_2⟩
      ·rw [if_neg c29] at H
       exact absurd H (by simp)
     ·rw [if_neg c28] at H
      exact absurd H (by simp)
    ·replace c25:=Bool.eq_false_iff.mpr c25
     subst c25
     have H1:(some (t225,t244,t245))=some (r1,r2,r3):=by rw [if_neg (show ¬ (false=true) by decide)] at H;exact H
     clear H
     have H:=H1
     clear H1
     simp only [Option.some.injEq,Prod.mk.injEq] at H
     obtain ⟨rfl,rfl,rfl⟩:=H
     go_enter Try.func98,Try.ntmps98
     go_wp2_with (first|((with_reducible refine gate_callee (f:=53) rfl ?_);refine goesL_ (some 6) rfl rfl Try.func53 (zsx2_0) rfl #[.pointer (some ⟨g,0,none⟩),.int .i64 4] rfl (zsx2_1) ?_;(with_reducible refine (spec_l1Cur_pick.calls g s0_0 s0_1 s0_2 4 t222 t223 t224 w0 _ ?side1 ?side2 A2.out).mono ?_);(case side1=>exact zsx2_3);(case side2=>exact zsx2_4);rintro e w43 ⟨rfl,hi,hb,hk⟩;refine ⟨_,rfl,?_⟩;have n0_:=aM2 (kT2 (zsx2_2) hk (.inl rfl));have n1_:=aM2 (hb);have n2_:=aM2 (hi);clear HK HB HI0;have HK:=n0_;have HB:=n1_;have HI0:=n2_;clear n0_ n1_ n2_;(try clear hb);(try clear hb2);(try clear hk);(try clear hi))|((with_reducible refine gate_callee (f:=100) rfl ?_);refine goesL_ (some 8) rfl rfl Try.func100 (zsx2_0) rfl #[.int .i64 (wrap64 (1 + t222))] rfl (zsx2_1) ?_;(with_reducible refine (spec_slStandard.calls k (wrap64 (1 + t222)) t225 _ A3.out).mono ?_);rintro e w44 ⟨v226,rfl,ho0,hb⟩;refine ⟨_,rfl,?_⟩;have n0_:=aM2 (Kd.R_lower ho0 (keep_size (w:=w) (g:=g) (row:=none) (zsx2_2)));have n1_:=aM2 (IsS61.below (zsx2_3) hb);have n2_:=aM2 (kT2 (zsx2_2) (kB2 hb g none) (.inl rfl));have n3_:=aM2 (below_step (zsx2_4) hb);clear HI0 HK HB;have HO227:=n0_;have HI0:=n1_;have HK:=n2_;have HB:=n3_;clear n0_ n1_ n2_ n3_;(try clear hb);(try clear hb2);(try clear hk);(try clear hi);(try clear ho0))|((with_reducible refine gate_callee (f:=53) rfl ?_);refine goesL_ (some 10) rfl rfl Try.func53 (zsx2_0) rfl #[.pointer (some ⟨g,0,none⟩),.int .i64 10] rfl (zsx2_1) ?_;(with_reducible refine (spec_l1Cur_pick.calls g s0_0 t223 t224 10 t228 t229 t230 w0 _ ?side1 ?side2 A4.out).mono ?_);(case side1=>exact zsx2_3);(case side2=>exact zsx2_4);rintro e w45 ⟨rfl,hi,hb,hk⟩;refine ⟨_,rfl,?_⟩;have n0_:=aM2 (Kd.R_mono (Kd.R_keep (IsS61.apart (show IsS61 w0 _ g s0_0 t223 t224 from zsx2_3) (zsx2_5) (by decide)) hk (fun _ h=>h.2)) (fun _ h=>h.1));have n1_:=aM2 (kT2 (zsx2_2) hk (.inl rfl));have n2_:=aM2 (hb);have n3_:=aM2 (hi);clear HO227 HK HB HI0;have HO227:=n0_;have HK:=n1_;have HB:=n2_;have HI0:=n3_;clear n0_ n1_ n2_ n3_;(try clear hb);(try clear hb2);(try clear hk);(try clear hi))|((with_reducible refine gate_callee (f:=86) rfl ?_);refine goesL_ (some 31) rfl rfl Try.func86 (zsx2_0) rfl #[.pointer (some ⟨g,0,none⟩),.int .i64 3] rfl (zsx2_1) ?_;(with_reducible refine (spec_l1Cur_one.calls g s0_0 t229 t230 3 false t244 t245 w0 _ ?side1 ?side2 A24.out).mono ?_);(case side1=>exact zsx2_3);(case side2=>exact zsx2_4);rintro e w46 ⟨rfl,hi,hb,hk⟩;refine ⟨_,rfl,?_⟩;have n0_:=aM2 (Kd.R_mono (Kd.R_keep (IsS61.apart (show IsS61 w0 _ g s0_0 t229 t230 from zsx2_3) (zsx2_5) (by decide)) hk (fun _ h=>h.2)) (fun _ h=>h.1));have n1_:=aM2 (kT2 (zsx2_2) hk (.inl rfl));have n2_:=aM2 (hb);have n3_:=aM2 (hi);clear HO227 HK HB HI0;have HO227:=n0_;have HK:=n1_;have HB:=n2_;have HI0:=n3_;clear n0_ n1_ n2_ n3_;(try clear hb);(try clear hb2);(try clear hk);(try clear hi)))
     go_ret
     exact ⟨_,zsx2_6,Kd.Q_of_R (zsx2_5),zsx2_3,zsx2_4,zsx2_2⟩
   ·rw [if_neg c23] at H
    have c23b0:(t228 == 2)=false:=beq_eq_false_iff_ne.mpr c23
    have c23b1:(t228 != 2)=true:=bne_iff_ne.mpr c23
    by_cases c47:t228=3
    ·rw [if_pos c47] at H
     have c47b0:(t228 == 3)=true:=beq_iff_eq.mpr c47
     have c47b1:(t228 != 3)=false:=bne_eq_false_iff_eq.mpr c47
     clear c47
     replace H:=bI2.mp H
     obtain ⟨⟨t256,t257,t258⟩,A480,H⟩:=H
     replace H:(if t256=true then ((spec_l1Cur_pick.f s0_0 t257 t258 (t225.length:Int)).bind fun bt259=>((spec_l1Cur_among.f s0_0 bt259.2.1 bt259.2.2 (([0,1,2,3]:List Int))).bind fun bt265=>(if 0≤bt259.1 then (if bt259.1 < (t225.length:Int) then (some ((t225.set (bt259.1:Int).toNat (⟨(rd_T96 t225 bt259.1).f0,(rd_T96 t225 bt259.1).f1,bt265.1⟩:S96)),bt265.2.1,bt265.2.2)) else (none)) else (none)))) else (some (t225,t257,t258)))=some (r1,r2,r3):=H
     have A48:=aM2 A480
     clear A480
     by_cases c49:t256=true
     ·subst c49
      have H1:((spec_l1Cur_pick.f s0_0 t257 t258 (t225.length:Int)).bind fun bt259=>((spec_l1Cur_among.f s0_0 bt259.2.1 bt259.2.2 (([0,1,2,3]:List Int))).bind fun bt265=>(if 0≤bt259.1 then (if bt259.1 < (t225.length:Int) then (some ((t225.set (bt259.1:Int).toNat (⟨(rd_T96 t225 bt259.1).f0,(rd_T96 t225 bt259.1).f1,bt265.1⟩:S96)),bt265.2.1,bt265.2.2)) else (none)) else (none))))=some (r1,r2,r3):=by rw [if_pos rfl] at H;exact H
      clear H
      have H:=H1
      clear H1
      replace H:=bI2.mp H
      obtain ⟨⟨t259,t260,t261⟩,A500,H⟩:=H
      replace H:((spec_l1Cur_among.f s0_0 t260 t261 (([0,1,2,3]:List Int))).bind fun bt265=>(if 0≤t259 then (if t259 < (t225.length:Int) then (some ((t225.set (t259:Int).toNat (⟨(rd_T96 t225 t259).f0,(rd_T96 t225 t259).f1,bt265.1⟩:S96)),bt265.2.1,bt265.2.2)) else (none)) else (none)))=some (r1,r2,r3):=H
      have A50:=aM2 A500
      clear A500
      obtain ⟨y262,hy262⟩:∃ y_:List Int,y_=(([0,1,2,3]:List Int)):=⟨_,rfl⟩
      replace H:((spec_l1Cur_among.f s0_0 t260 t261 y262).bind fun bt265=>(if 0≤t259 then (if t259 < (t225.length:Int) then (some ((t225.set (t259:Int).toNat (⟨(rd_T96 t225 t259).f0,(rd_T96 t225 t259).f1,bt265.1⟩:S96)),bt265.2.1,bt265.2.2)) else (none)) else (none)))=some (r1,r2,r3):=by first|(rw [hy262];with_reducible exact H)|(have H2_:=(Option.bind_some _ _).symm.trans H;rw [hy262];with_reducible exact H2_)|(have H2_:=(Option.bind_some _ _).symm.trans H;with_reducible exact H2_)|with_reducible exact H|(rw [hy262];exact H)|exact H
      have Ny262:=aM2 hy262
      clear hy262
      replace H:=bI2.mp H
      obtain ⟨⟨t265,t266,t267⟩,A510,H⟩:=H
      replace H:(if 0≤t259 then (if t259 < (t225.length:Int) then (some ((t225.set (t259:Int).toNat (⟨(rd_T96 t225 t259).f0,(rd_T96 t225 t259).f1,t265⟩:S96)),t266,t267)) else (none)) else (none))=some (r1,r2,r3):=H
      have A51:=aM2 A510
      clear A510
      by_cases c52:0≤t259
      ·rw [if_pos c52] at H
       have c52b0:decide (0≤t259)=true:=decide_eq_true c52
       clear c52
       by_cases c53:t259 < (t225.length:Int)
       ·rw [if_pos c53] at H
        have c53b0:decide (t259 < (t225.length:Int))=true:=decide_eq_true c53
        clear c53
        obtain ⟨y268,hy268⟩:∃ y_:List (S96),y_=(t225.set (t259:Int).toNat (⟨(rd_T96 t225 t259).f0,(rd_T96 t225 t259).f1,t265⟩:S96)):=⟨_,rfl⟩
        replace H:(some (y268,t266,t267))=some (r1,r2,r3):=by first|(rw [hy268];with_reducible exact H)|(have H2_:=(Option.bind_some _ _).symm.trans H;rw [hy268];with_reducible exact H2_)|(have H2_:=(Option.bind_some _ _).symm.trans H;with_reducible exact H2_)|with_reducible exact H|(rw [hy268];exact H)|exact H
        have Ny268:=aM2 hy268
        clear hy268
        simp only [Option.some.injEq,Prod.mk.injEq] at H
        obtain ⟨rfl,rfl,rfl⟩:=H
        go_enter Try.func98,Try.ntmps98
        go_wp2_with (first|((with_reducible refine gate_callee (f:=53) rfl ?_);refine goesL_ (some 6) rfl rfl Try.func53 (zsx2_0) rfl #[.pointer (some ⟨g,0,none⟩),.int .i64 4] rfl (zsx2_1) ?_;(with_reducible refine (spec_l1Cur_pick.calls g s0_0 s0_1 s0_2 4 t222 t223 t224 w0 _ ?side1 ?side2 A2.out).mono ?_);(case side1=>exact zsx2_3);(case side2=>exact zsx2_4);rintro e w55 ⟨rfl,hi,hb,hk⟩;refine ⟨_,rfl,?_⟩;have n0_:=aM2 (kT2 (zsx2_2) hk (.inl rfl));have n1_:=aM2 (hb);have n2_:=aM2 (hi);clear HK HB HI0;have HK:=n0_;have HB:=n1_;have HI0:=n2_;clear n0_ n1_ n2_;(try clear hb);(try clear hb2);(try clear hk);(try clear hi))|((with_reducible refine gate_callee (f:=100) rfl ?_);refine goesL_ (some 8) rfl rfl Try.func100 (zsx2_0) rfl #[.int .i64 (wrap64 (1 + t222))] rfl (zsx2_1) ?_;(with_reducible refine (spec_slStandard.calls k (wrap64 (1 + t222)) t225 _ A3.out).mono ?_);rintro e w56 ⟨v226,rfl,ho0,hb⟩;refine ⟨_,rfl,?_⟩;have n0_:=aM2 (Kd.R_lower ho0 (keep_size (w:=w) (g:=g) (row:=none) (zsx2_2)));have n1_:=aM2 (IsS61.below (zsx2_3) hb);have n2_:=aM2 (kT2 (zsx2_2) (kB2 hb g none) (.inl rfl));have n3_:=aM2 (below_step (zsx2_4) hb);clear HI0 HK HB;have HO227:=n0_;have HI0:=n1_;have HK:=n2_;have HB:=n3_;clear n0_ n1_ n2_ n3_;(try clear hb);(try clear hb2);(try clear hk);(try clear hi);(try clear ho0))|((with_reducible refine gate_callee (f:=53) rfl ?_);refine goesL_ (some 10) rfl rfl Try.func53 (zsx2_0) rfl #[.pointer (some ⟨g,0,none⟩),.int .i64 10] rfl (zsx2_1) ?_;(with_reducible refine (spec_l1Cur_pick.calls g s0_0 t223 t224 10 t228 t229 t230 w0 _ ?side1 ?side2 A4.out).mono ?_);(case side1=>exact zsx2_3);(case side2=>exact zsx2_4);rintro e w57 ⟨rfl,hi,hb,hk⟩;refine ⟨_,rfl,?_⟩;have n0_:=aM2 (Kd.R_mono (Kd.R_keep (IsS61.apart (show IsS61 w0 _ g s0_0 t223 t224 from zsx2_3) (zsx2_5) (by decide)) hk (fun _ h=>h.2)) (fun _ h=>h.1));have n1_:=aM2 (kT2 (zsx2_2) hk (.inl rfl));have n2_:=aM2 (hb);have n3_:=aM2 (hi);clear HO227 HK HB HI0;have HO227:=n0_;have HK:=n1_;have HB:=n2_;have HI0:=n3_;clear n0_ n1_ n2_ n3_;(try clear hb);(try clear hb2);(try clear hk);(try clear hi))|((with_reducible refine gate_callee (f:=86) rfl ?_);refine goesL_ (some 45) rfl rfl Try.func86 (zsx2_0) rfl #[.pointer (some ⟨g,0,none⟩),.int .i64 3] rfl (zsx2_1) ?_;(with_reducible refine (spec_l1Cur_one.calls g s0_0 t229 t230 3 true t257 t258 w0 _ ?side1 ?side2 A48.out).mono ?_);(case side1=>exact zsx2_3);(case side2=>exact zsx2_4);rintro e w58 ⟨rfl,hi,hb,hk⟩;refine ⟨_,rfl,?_⟩;have n0_:=aM2 (Kd.R_mono (Kd.R_keep (IsS61.apart (show IsS61 w0 _ g s0_0 t229 t230 from zsx2_3) (zsx2_5) (by decide)) hk (fun _ h=>h.2)) (fun _ h=>h.1));have n1_:=aM2 (kT2 (zsx2_2) hk (.inl rfl));have n2_:=aM2 (hb);have n3_:=aM2 (hi);clear HO227 HK HB HI0;have HO227:=n0_;have HK:=n1_;have HB:=n2_;have HI0:=n3_;clear n0_ n1_ n2_ n3_;(try clear hb);(try clear hb2);(try clear hk);(try clear hi);obtain ⟨Ao59,co59,eo59⟩:=Kd.R_slice HO227.out;subst eo59)|((with_reducible refine gate_callee (f:=53) rfl ?_);refine goesL_ (some 50) rfl rfl Try.func53 (zsx2_0) rfl #[.pointer (some ⟨g,0,none⟩),.int .i64 (t225.length:Int)] rfl (zsx2_1) ?_;(with_reducible refine (spec_l1Cur_pick.calls g s0_0 t257 t258 (t225.length:Int) t259 t260 t261 w0 _ ?side1 ?side2 A50.out).mono ?_);(case side1=>exact zsx2_3);(case side2=>exact zsx2_4);rintro e w60 ⟨rfl,hi,hb,hk⟩;refine ⟨_,rfl,?_⟩;have n0_:=aM2 (Kd.R_mono (Kd.R_keep (IsS61.apart (show IsS61 w0 _ g s0_0 t257 t258 from zsx2_3) (zsx2_5) (by decide)) hk (fun _ h=>h.2)) (fun _ h=>h.1));have n1_:=aM2 (kT2 (zsx2_2) hk (.inl rfl));have n2_:=aM2 (hb);have n3_:=aM2 (hi);clear HO227 HK HB HI0;have HO227:=n0_;have HK:=n1_;have HB:=n2_;have HI0:=n3_;clear n0_ n1_ n2_ n3_;(try clear hb);(try clear hb2);(try clear hk);(try clear hi))|((with_reducible refine gate_dst (N:=52) rfl ?_);refine Kd.R_lit (Kd.int .i64) _ 3 ?hg (N:=52) ?hd (xs:=([0,1,2,3]:List Int)) (inner:=[.int .i64 0,.int .i64 1,.int .i64 2,.int .i64 3]) (ok:=fun _=>True) (okp:=fun _=>True) ?hr ?hp (fun _ hk=>hk) trivial (Below.refl _ _) (Nat.le_refl _) (by simp) ?_;(case hd=>rfl);(case hg=>rfl);(case hr=>exact zsx2_13);(case hp=>exact (Reps.one (show Kd.M (Kd.int .i64) _ _ _ 0 [.int .i64 0] from rfl) (Reps.one (show Kd.M (Kd.int .i64) _ _ _ 1 [.int .i64 1] from rfl) (Reps.one (show Kd.M (Kd.int .i64) _ _ _ 2 [.int .i64 2] from rfl) (Reps.one (show Kd.M (Kd.int .i64) _ _ _ 3 [.int .i64 3] from rfl) (Reps.none _ _))))));intro v263 w61 ho62 hb hg_ hnew_;clear hg_ hnew_;(first|rw [← Ny262.out] at ho62|(simp only [Int.reduceToNat] at ho62;rw [← Ny262.out] at ho62));have n0_:=aM2 (Kd.R_below (zsx2_5) hb);have n1_:=aM2 (Kd.R_lower ho62 (keep_size (w:=w) (g:=g) (row:=none) (zsx2_2)));have n2_:=aM2 (IsS61.below (zsx2_3) hb);have n3_:=aM2 (kT2 (zsx2_2) (kB2 hb g none) (.inl rfl));have n4_:=aM2 (below_step (zsx2_4) hb);clear HO227 HI0 HK HB;have HO227:=n0_;have HO264:=n1_;have HI0:=n2_;have HK:=n3_;have HB:=n4_;clear n0_ n1_ n2_ n3_ n4_ hb ho62;obtain ⟨Ao63,co63,eo63⟩:=Kd.R_slice HO264.out;subst eo63)|((with_reducible refine gate_callee (f:=66) rfl ?_);refine goesL_ (some 53) rfl rfl Try.func66 (zsx2_0) rfl #[.pointer (some ⟨g,0,none⟩),.slice Ao63 y262.length co63] rfl (zsx2_1) ?_;(with_reducible refine (spec_l1Cur_among.calls g s0_0 t260 t261 _ _ y262 t265 t266 t267 w0 _ ?side1 ?side2 ?side3 ?side4 ?side5 A51.out).mono ?_);(case side1=>exact zsx2_3);(case side2=>exact zsx2_4);(case side3=>repeat (first|exact (Kd.R_reads' HO264.out).2.2|(with_reducible refine Kd.C_alloc ?_ _)|(with_reducible refine Kd.C_drewN ?_ _)|(with_reducible refine Kd.C_drew ?_)));(case side4=>exact (Kd.R_reads' HO264.out).2.1);(case side5=>exact far_slice (IsS61.own_ne HI0.out HO264.out (by decide)));rintro e w64 ⟨rfl,hi,hb,hk⟩;refine ⟨_,rfl,?_⟩;have n0_:=aM2 (Kd.R_mono (Kd.R_keep (IsS61.apart (show IsS61 w0 _ g s0_0 t260 t261 from zsx2_3) (zsx2_5) (by decide)) hk (fun _ h=>h.2)) (fun _ h=>h.1));have n1_:=aM2 (Kd.R_mono (Kd.R_keep (IsS61.apart (show IsS61 w0 _ g s0_0 t260 t261 from zsx2_3) (by (with_reducible repeat (first|apply Kd.R_alloc|apply Kd.R_drewN|apply Kd.R_drew));exact HO264.out) (by decide)) hk (fun _ h=>h.2)) (fun _ h=>h.1));have n2_:=aM2 (kT2 (zsx2_2) hk (.inl rfl));have n3_:=aM2 (hb);have n4_:=aM2 (hi);clear HO227 HO264 HK HB HI0;have HO227:=n0_;have HO264:=n1_;have HK:=n2_;have HB:=n3_;have HI0:=n4_;clear n0_ n1_ n2_ n3_ n4_;(try clear hb);(try clear hb2);(try clear hk);(try clear hi);have p54:0≤(t259:Int):=oD2 (zsx2_7);have q54:(t259:Int) < ((t225.length:Int):Int):=oD2 (zsx2_7);obtain ⟨go54,co54,eo54,gb54,gl54,cl54,HG54⟩:=Kd.R_form HO227.out (by omega);(first|cases eo54|(injection eo54 with ea_ en_ ec_;(first|subst ea_|(injection ea_ with ea_;subst ea_));subst ec_;clear en_));have GB54:=aM2 gb54;have GG54:=aM2 HG54;clear gb54 gl54 HG54;obtain ⟨ce54,hcl54,hM54,hcc54,hfr54⟩:=Kd.R_elem HO227.out z96 (t259:Int) p54 q54;obtain rfl:=k96_openM hM54;have hx54_0:w64.cell? ⟨go54,(t259:Int).toNat * 3,none⟩=some (.int .i64 ((rd_T96 t225 t259).f0)):=hcc54 0 _ rfl;have hx54_1:w64.cell? ⟨go54,(t259:Int).toNat * 3 + 1,none⟩=some (.int .i64 ((rd_T96 t225 t259).f1)):=hcc54 1 _ rfl;have hx54_2:w64.cell? ⟨go54,(t259:Int).toNat * 3 + 2,none⟩=some (.int .i64 ((rd_T96 t225 t259).f2)):=hcc54 2 _ rfl;have hf54_0:w64.frozen? ⟨go54,(t259:Int).toNat * 3,none⟩=false:=hfr54 0;have hf54_1:w64.frozen? ⟨go54,(t259:Int).toNat * 3 + 1,none⟩=false:=hfr54 1;have hf54_2:w64.frozen? ⟨go54,(t259:Int).toNat * 3 + 2,none⟩=false:=hfr54 2;clear hcl54 hcc54 hfr54 hM54;replace p54:=eq_true p54;replace q54:=eq_true q54;have HX65:=aM2 (show Kd.R k96 96 w64 w.heap.size (fun _=>True) (.slice (some ⟨go54,0,none⟩) t225.length co59) t225 from (zsx2_5));obtain ⟨ce65,hcl65,hM65,hcc65,hfr65⟩:=Kd.R_elem HX65.out z96 (t259:Int) (oD2 (zsx2_7)) (by have h_:(t259:Int) < ((t225.length:Int):Int):=oD2 (zsx2_7);first|exact h_|(have e_:=(Kd.R_reads' HO227.out).1;omega)|simpa using h_);obtain rfl:=k96_openM hM65;have HP65:=Kd.R_seg HX65.out (t259:Int) (oD2 (zsx2_7)) (by have h_:(t259:Int) < ((t225.length:Int):Int):=oD2 (zsx2_7);first|exact h_|(have e_:=(Kd.R_reads' HO227.out).1;omega)|simpa using h_) (seg:=[.int .i64 t265]) (j:=2) hcl65 hcc65 (show 3≤3 from by decide) (x':=(⟨(rd_T96 t225 t259).f0,(rd_T96 t225 t259).f1,t265⟩:S96)) (k96_mkM _ _ _ (⟨(rd_T96 t225 t259).f0,(rd_T96 t225 t259).f1,t265⟩:S96) ) (fun _ hk=>hk);have hx65_2:=hcc65 2 _ rfl;(try simp only [show (k96).sz=3 from rfl,Nat.mul_one,Nat.add_zero] at hx65_2);have hf65_2:=hfr65 2;(try simp only [show (k96).sz=3 from rfl,Nat.mul_one,Nat.add_zero] at hf65_2);clear hcl65 hcc65 hfr65 hM65)|((with_reducible refine gate_store (t:=3) (p:=55) rfl ?_);refine store_event (t:=3) (p:=55) (v:=?vo_w66) (w1:=(w64.setCell ⟨go54,(t259:Int).toNat * 3 + 2,none⟩ (.int .i64 t265))) ?hg ?ho ?hn ?hr ?_;(case ho=>rfl);(case hg=>rfl);(case hn=>rfl);(case hr=>exact zsx2_13);intro w66 hw;have hg:w64.grownBy w66 (some go54):=(by rw [hw];exact HP65.2);have hp_:Kd.R k96 96 w66 w.heap.size (fun _=>True) (.slice (some ⟨go54,0,none⟩) t225.length co59) y268:=(by rw [hw,Ny268.out];exact HP65.1);clear HP65;have n0_:=aM2 (IsS61.grown (zsx2_3) hg (IsS61.own_ne HI0.out HO227.out (by decide)));have n1_:=aM2 (hp_);have n2_:=aM2 (Kd.R_over' (v:=(.slice (some ⟨go54,0,none⟩) t225.length co59)) (by (with_reducible repeat (first|apply Kd.R_alloc|apply Kd.R_drewN|apply Kd.R_drew));exact HO264.out) (Kd.R_typed HO227.out) (by decide) hg);have n3_:=aM2 ((by rw [hw];exact below_set (HB.out) (Nat.le_trans HL.out GB54.out):Below w0.heap.size w0 w66));have n4_:=aM2 (kT2 (zsx2_2) (KeepBut.of_grown hg g) (Kd.R_base2 HO227.out));clear HI0 HO227 HO264 HB HK;have HI0:=n0_;have HO227:=n1_;have HO264:=n2_;have HB:=n3_;have HK:=n4_;clear n0_ n1_ n2_ n3_ n4_ hg hw hp_))
        go_ret
        exact ⟨_,zsx2_6,Kd.Q_of_R (zsx2_5),zsx2_3,zsx2_4,zsx2_2⟩
       ·rw [if_neg c53] at H
        exact absurd H (by simp)
      ·rw [if_neg c52] at H
       exact absurd H (by simp)
     ·replace c49:=Bool.eq_false_iff.mpr c49
      subst c49
      have H1:(some (t225,t257,t258))=some (r1,r2,r3):=by rw [if_neg (show ¬ (false=true) by decide)] at H;exact H
      clear H
      have H:=H1
      clear H1
      simp only [Option.some.injEq,Prod.mk.injEq] at H
      obtain ⟨rfl,rfl,rfl⟩:=H
      go_enter Try.func98,Try.ntmps98
      go_wp2_with (first|((with_reducible refine gate_callee (f:=53) rfl ?_);refine goesL_ (some 6) rfl rfl Try.func53 (zsx2_0) rfl #[.pointer (some ⟨g,0,none⟩),.int .i64 4] rfl (zsx2_1) ?_;(with_reducible refine (spec_l1Cur_pick.calls g s0_0 s0_1 s0_2 4 t222 t223 t224 w0 _ ?side1 ?side2 A2.out).mono ?_);(case side1=>exact zsx2_3);(case side2=>exact zsx2_4);rintro e w67 ⟨rfl,hi,hb,hk⟩;refine ⟨_,rfl,?_⟩;have n0_:=aM2 (kT2 (zsx2_2) hk (.inl rfl));have n1_:=aM2 (hb);have n2_:=aM2 (hi);clear HK HB HI0;have HK:=n0_;have HB:=n1_;have HI0:=n2_;clear n0_ n1_ n2_;(try clear hb);(try clear hb2);(try clear hk);(try clear hi))|((with_reducible refine gate_callee (f:=100) rfl ?_);refine goesL_ (some 8) rfl rfl Try.func100 (zsx2_0) rfl #[.int .i64 (wrap64 (1 + t222))] rfl (zsx2_1) ?_;(with_reducible refine (spec_slStandard.calls k (wrap64 (1 + t222)) t225 _ A3.out).mono ?_);rintro e w68 ⟨v226,rfl,ho0,hb⟩;refine ⟨_,rfl,?_⟩;have n0_:=aM2 (Kd.R_lower ho0 (keep_size (w:=w) (g:=g) (row:=none) (zsx2_2)));have n1_:=aM2 (IsS61.below (zsx2_3) hb);have n2_:=aM2 (kT2 (zsx2_2) (kB2 hb g none) (.inl rfl));have n3_:=aM2 (below_step (zsx2_4) hb);clear HI0 HK HB;have HO227:=n0_;have HI0:=n1_;have HK:=n2_;have HB:=n3_;clear n0_ n1_ n2_ n3_;(try clear hb);(try clear hb2);(try clear hk);(try clear hi);(try clear ho0))|((with_reducible refine gate_callee (f:=53) rfl ?_);refine goesL_ (some 10) rfl rfl Try.func53 (zsx2_0) rfl #[.pointer (some ⟨g,0,none⟩),.int .i64 10] rfl (zsx2_1) ?_;(with_reducible refine (spec_l1Cur_pick.calls g s0_0 t223 t224 10 t228 t229 t230 w0 _ ?side1 ?side2 A4.out).mono ?_);(case side1=>exact zsx2_3);(case side2=>exact zsx2_4);rintro e w69 ⟨rfl,hi,hb,hk⟩;refine ⟨_,rfl,?_⟩;have n0_:=aM2 (Kd.R_mono (Kd.R_keep (IsS61.apart (show IsS61 w0 _ g s0_0 t223 t224 from zsx2_3) (zsx2_5) (by decide)) hk (fun _ h=>h.2)) (fun _ h=>h.1));have n1_:=aM2 (kT2 (zsx2_2) hk (.inl rfl));have n2_:=aM2 (hb);have n3_:=aM2 (hi);clear HO227 HK HB HI0;have HO227:=n0_;have HK:=n1_;have HB:=n2_;have HI0:=n3_;clear n0_ n1_ n2_ n3_;(try clear hb);(try clear hb2);(try clear hk);(try clear hi))|((with_reducible refine gate_callee (f:=86) rfl ?_);refine goesL_ (some 45) rfl rfl Try.func86 (zsx2_0) rfl #[.pointer (some ⟨g,0,none⟩),.int .i64 3] rfl (zsx2_1) ?_;(with_reducible refine (spec_l1Cur_one.calls g s0_0 t229 t230 3 false t257 t258 w0 _ ?side1 ?side2 A48.out).mono ?_);(case side1=>exact zsx2_3);(case side2=>exact zsx2_4);rintro e w70 ⟨rfl,hi,hb,hk⟩;refine ⟨_,rfl,?_⟩;have n0_:=aM2 (Kd.R_mono (Kd.R_keep (IsS61.apart (show IsS61 w0 _ g s0_0 t229 t230 from zsx2_3) (zsx2_5) (by decide)) hk (fun _ h=>h.2)) (fun _ h=>h.1));have n1_:=aM2 (kT2 (zsx2_2) hk (.inl rfl));have n2_:=aM2 (hb);have n3_:=aM2 (hi);clear HO227 HK HB HI0;have HO227:=n0_;have HK:=n1_;have HB:=n2_;have HI0:=n3_;clear n0_ n1_ n2_ n3_;(try clear hb);(try clear hb2);(try clear hk);(try clear hi)))
      go_ret
      exact ⟨_,zsx2_6,Kd.Q_of_R (zsx2_5),zsx2_3,zsx2_4,zsx2_2⟩
    ·rw [if_neg c47] at H
     have c47b0:(t228 == 3)=false:=beq_eq_false_iff_ne.mpr c47
     have c47b1:(t228 != 3)=true:=bne_iff_ne.mpr c47
     by_cases c71:t228=4
     ·rw [if_pos c71] at H
      have c71b0:(t228 == 4)=true:=beq_iff_eq.mpr c71
      have c71b1:(t228 != 4)=false:=bne_eq_false_iff_eq.mpr c71
      clear c71
      replace H:=bI2.mp H
      obtain ⟨⟨t269,t270,t271⟩,A720,H⟩:=H
      replace H:(if t269=true then ((spec_l1Cur_pick.f s0_0 t270 t271 2).bind fun bt272=>(spec_l1Cur_template.l0 k ([]:List (S96)) (wrap64 (12 + bt272.1)) s0_0 bt272.2.1 bt272.2.2)) else (some (t225,t270,t271)))=some (r1,r2,r3):=H
      have A72:=aM2 A720
      clear A720
      by_cases c73:t269=true
      ·subst c73
       have H1:((spec_l1Cur_pick.f s0_0 t270 t271 2).bind fun bt272=>(spec_l1Cur_template.l0 k ([]:List (S96)) (wrap64 (12 + bt272.1)) s0_0 bt272.2.1 bt272.2.2))=some (r1,r2,r3):=by rw [if_pos rfl] at H;exact H
       clear H
       have H:=H1
       clear H1
       replace H:=bI2.mp H
       obtain ⟨⟨t272,t273,t274⟩,A740,H⟩:=H
       replace H:(spec_l1Cur_template.l0 k ([]:List (S96)) (wrap64 (12 + t272)) s0_0 t273 t274)=some (r1,r2,r3):=H
       have A74:=aM2 A740
       clear A740
       have H':=aM2 H
       clear H
       go_enter Try.func98,Try.ntmps98
       go_wp2_with (first|((with_reducible refine gate_callee (f:=53) rfl ?_);refine goesL_ (some 6) rfl rfl Try.func53 (zsx2_0) rfl #[.pointer (some ⟨g,0,none⟩),.int .i64 4] rfl (zsx2_1) ?_;(with_reducible refine (spec_l1Cur_pick.calls g s0_0 s0_1 s0_2 4 t222 t223 t224 w0 _ ?side1 ?side2 A2.out).mono ?_);(case side1=>exact zsx2_3);(case side2=>exact zsx2_4);rintro e w75 ⟨rfl,hi,hb,hk⟩;refine ⟨_,rfl,?_⟩;have n0_:=aM2 (kT2 (zsx2_2) hk (.inl rfl));have n1_:=aM2 (hb);have n2_:=aM2 (hi);clear HK HB HI0;have HK:=n0_;have HB:=n1_;have HI0:=n2_;clear n0_ n1_ n2_;(try clear hb);(try clear hb2);(try clear hk);(try clear hi))|((with_reducible refine gate_callee (f:=100) rfl ?_);refine goesL_ (some 8) rfl rfl Try.func100 (zsx2_0) rfl #[.int .i64 (wrap64 (1 + t222))] rfl (zsx2_1) ?_;(with_reducible refine (spec_slStandard.calls k (wrap64 (1 + t222)) t225 _ A3.out).mono ?_);rintro e w76 ⟨v226,rfl,ho0,hb⟩;refine ⟨_,rfl,?_⟩;have n0_:=aM2 (Kd.R_lower ho0 (keep_size (w:=w) (g:=g) (row:=none) (zsx2_2)));have n1_:=aM2 (IsS61.below (zsx2_3) hb);have n2_:=aM2 (kT2 (zsx2_2) (kB2 hb g none) (.inl rfl));have n3_:=aM2 (below_step (zsx2_4) hb);clear HI0 HK HB;have HO227:=n0_;have HI0:=n1_;have HK:=n2_;have HB:=n3_;clear n0_ n1_ n2_ n3_;(try clear hb);(try clear hb2);(try clear hk);(try clear hi);(try clear ho0))|((with_reducible refine gate_callee (f:=53) rfl ?_);refine goesL_ (some 10) rfl rfl Try.func53 (zsx2_0) rfl #[.pointer (some ⟨g,0,none⟩),.int .i64 10] rfl (zsx2_1) ?_;(with_reducible refine (spec_l1Cur_pick.calls g s0_0 t223 t224 10 t228 t229 t230 w0 _ ?side1 ?side2 A4.out).mono ?_);(case side1=>exact zsx2_3);(case side2=>exact zsx2_4);rintro e w77 ⟨rfl,hi,hb,hk⟩;refine ⟨_,rfl,?_⟩;have n0_:=aM2 (Kd.R_mono (Kd.R_keep (IsS61.apart (show IsS61 w0 _ g s0_0 t223 t224 from zsx2_3) (zsx2_5) (by decide)) hk (fun _ h=>h.2)) (fun _ h=>h.1));have n1_:=aM2 (kT2 (zsx2_2) hk (.inl rfl));have n2_:=aM2 (hb);have n3_:=aM2 (hi);clear HO227 HK HB HI0;have HO227:=n0_;have HK:=n1_;have HB:=n2_;have HI0:=n3_;clear n0_ n1_ n2_ n3_;(try clear hb);(try clear hb2);(try clear hk);(try clear hi))|((with_reducible refine gate_callee (f:=86) rfl ?_);refine goesL_ (some 59) rfl rfl Try.func86 (zsx2_0) rfl #[.pointer (some ⟨g,0,none⟩),.int .i64 3] rfl (zsx2_1) ?_;(with_reducible refine (spec_l1Cur_one.calls g s0_0 t229 t230 3 true t270 t271 w0 _ ?side1 ?side2 A72.out).mono ?_);(case side1=>exact zsx2_3);(case side2=>exact zsx2_4);rintro e w78 ⟨rfl,hi,hb,hk⟩;refine ⟨_,rfl,?_⟩;have n0_:=aM2 (Kd.R_mono (Kd.R_keep (IsS61.apart (show IsS61 w0 _ g s0_0 t229 t230 from zsx2_3) (zsx2_5) (by decide)) hk (fun _ h=>h.2)) (fun _ h=>h.1));have n1_:=aM2 (kT2 (zsx2_2) hk (.inl rfl));have n2_:=aM2 (hb);have n3_:=aM2 (hi);clear HO227 HK HB HI0;have HO227:=n0_;have HK:=n1_;have HB:=n2_;have HI0:=n3_;clear n0_ n1_ n2_ n3_;(try clear hb);(try clear hb2);(try clear hk);(try clear hi))|((with_reducible refine gate_callee (f:=53) rfl ?_);refine goesL_ (some 61) rfl rfl Try.func53 (zsx2_0) rfl #[.pointer (some ⟨g,0,none⟩),.int .i64 2] rfl (zsx2_1) ?_;(with_reducible refine (spec_l1Cur_pick.calls g s0_0 t270 t271 2 t272 t273 t274 w0 _ ?side1 ?side2 A74.out).mono ?_);(case side1=>exact zsx2_3);(case side2=>exact zsx2_4);rintro e w79 ⟨rfl,hi,hb,hk⟩;refine ⟨_,rfl,?_⟩;have n0_:=aM2 (Kd.R_mono (Kd.R_keep (IsS61.apart (show IsS61 w0 _ g s0_0 t270 t271 from zsx2_3) (zsx2_5) (by decide)) hk (fun _ h=>h.2)) (fun _ h=>h.1));have n1_:=aM2 (kT2 (zsx2_2) hk (.inl rfl));have n2_:=aM2 (hb);have n3_:=aM2 (hi);clear HO227 HK HB HI0;have HO227:=n0_;have HK:=n1_;have HB:=n2_;have HI0:=n3_;clear n0_ n1_ n2_ n3_;(try clear hb);(try clear hb2);(try clear hk);(try clear hi)))
       go_loopg [3,4] k (fun kq v3 v4 w'=>∃ (x3_1:List (S96)) (x4_1:Int),v4=.int .i64 x4_1∧Aside0 (spec_l1Cur_template.l0 kq x3_1 x4_1 s0_0 t273 t274=some (r1,r2,r3))∧Aside0 (kq≤k)∧Aside0 (Kd.Q k96 96 w' w.heap.size (fun _=>True) v3 x3_1)∧Aside0 (IsS61 w0 w' g s0_0 t273 t274)∧Aside0 (KeepBut w w' g none)∧Aside0 (Below w0.heap.size w0 w'))
       case atStart=>exact ⟨(([]:List (S96))),(wrap64 (12 + t272)),(by first|rfl|(simp;done)|(simp [*];done)),H',⟨Nat.le_refl _⟩,⟨Kd.Q_of_R (zsx2_8)⟩,⟨zsx2_3⟩,⟨zsx2_2⟩,⟨zsx2_4⟩⟩
       case round =>
        clear H'
        try clear c1
        try clear c2
        try clear p2
        try clear q2
        try clear c3
        try clear p3
        try clear q3
        try clear hx3
        try clear hf3
        try clear c4
        try clear hx4
        try clear hf4
        try clear c5
        try clear c5b0
        try clear c5b1
        try clear p5
        try clear q5
        try clear hx5
        try clear hf5
        try clear c6
        try clear p6
        try clear hx6
        try clear hf6
        try clear c7
        try clear c8
        try clear c9
        try clear c10
        try clear c13
        try clear c13b0
        try clear c13b1
        try clear c15
        try clear c15b0
        try clear c15b1
        try clear c16
        try clear c16b0
        try clear c16b1
        try clear c22
        try clear q22
        try clear c23
        try clear c23b0
        try clear c23b1
        try clear c25
        try clear c28
        try clear c28b0
        try clear c29
        try clear c29b0
        try clear c30
        try clear p30
        try clear q30
        try clear hx30
        try clear hf30
        try clear c41
        try clear hx41
        try clear hf41
        try clear c47
        try clear c47b0
        try clear c47b1
        try clear c49
        try clear c52
        try clear c52b0
        try clear c53
        try clear c53b0
        try clear c54
        try clear p54
        try clear q54
        try clear hx54
        try clear hf54
        try clear p64
        try clear c65
        try clear hx65
        try clear hf65
        try clear c66
        try clear c71
        try clear c71b0
        try clear c71b1
        try clear c73
        try clear hx30_0
        try clear hx30_1
        try clear hx30_2
        try clear hx41_0
        try clear hx54_0
        try clear hx54_1
        try clear hx54_2
        try clear hx65_2
        try clear p30
        try clear p54
        try clear q22
        try clear q30
        try clear q54
        obtain ⟨x3_1,x4_1,rfl,HA,HK1,HO_3,HI0,HK,HB⟩:=hrel
        cases gk with
        | zero=>exact absurd HA.out (by simp [spec_l1Cur_template.l0])
        | succ k1 =>
         have H:=HA.out
         clear HA
         simp only [spec_l1Cur_template.l0] at H
         by_cases c80:x4_1 > 0
         ·rw [if_pos c80] at H
          have c80b0:decide (0 < x4_1)=true:=decide_eq_true c80
          clear c80
          by_cases c81:x3_1.length < 5864062014805
          ·rw [if_pos c81] at H
           have LMc81:=aM2 c81
           clear c81
           obtain ⟨y275,hy275⟩:∃ y_:List (S96),y_=(x3_1 ++ [(⟨((x3_1.length:Int) % 5) - 2,wrap64 ((wrap64 ((x3_1.length:Int) / 5)) - 2),1⟩:S96)]):=⟨_,rfl⟩
           replace H:(spec_l1Cur_template.l0 k1 y275 (wrap64 (x4_1 - 1)) s0_0 t273 t274)=some (r1,r2,r3):=by first|(rw [hy275];with_reducible exact H)|(have H2_:=(Option.bind_some _ _).symm.trans H;rw [hy275];with_reducible exact H2_)|(have H2_:=(Option.bind_some _ _).symm.trans H;with_reducible exact H2_)|with_reducible exact H|(rw [hy275];exact H)|exact H
           have Ny275:=aM2 hy275
           clear hy275
           have H':=aM2 H
           clear H
           obtain ⟨Ao82,co82,eo82,_⟩:=Kd.Q_slice HO_3.out
           subst eo82
           go_wp2_with (first|((with_reducible refine gate_builtin (b:=.append) (xs:=#[.tmp 67,.tmp 77]) rfl ?_);at_builtin;refine Kd.Q_append k96 w.heap.size rfl (.tmp 67) (.tmp 77) 94 96 (.agg #[(.int .i64 0),(.int .i64 0),(.int .i64 0)]) 24 rfl Try.underlying94 info96 rfl (by decide) (by omega) (.slice Ao82 x3_1.length co82) x3_1 (⟨((x3_1.length:Int) % 5) - 2,wrap64 ((wrap64 ((x3_1.length:Int) / 5)) - 2),1⟩:S96) [.int .i64 (((x3_1.length:Int) % 5) - 2),.int .i64 (wrap64 ((wrap64 ((x3_1.length:Int) / 5)) - 2)),.int .i64 1] (fun _=>True) (fun _=>False) rfl rfl ?aP (fun _ hk=>hk.elim) ?aF ?aO (Below.refl _ _) ?aS ?aL ?_;(case aP=>exact k96_mkM _ _ _ (⟨((x3_1.length:Int) % 5) - 2,wrap64 ((wrap64 ((x3_1.length:Int) / 5)) - 2),1⟩:S96));(case aF=>exact (fun _ _=>trivial));(case aO=>exact (by (with_reducible repeat (first|apply Kd.Q_alloc|apply Kd.Q_drewN|apply Kd.Q_drew));exact HO_3.out));(case aS=>exact (keep_size (w:=w) (g:=g) (row:=none) (zsx2_2)));(case aL=>have:=LMc81.out;omega);intro v276 w83 ho hb hg hat;rw [← Ny275.out] at ho;have n0_:=aM2 (IsS61.grown (zsx2_3) hg (IsS61.own_neQ HI0.out HO_3.out (by decide)));have n1_:=aM2 (below_weaken (zsx2_4) HL.out hb);have n2_:=aM2 (kT2 (zsx2_2) (KeepBut.of_grown hg g) (Kd.Q_base2 HO_3.out));have n3_:=aM2 (ho);clear HI0 HB HK HO_3;have HI0:=n0_;have HB:=n1_;have HK:=n2_;have HO277:=n3_;clear n0_ n1_ n2_ n3_ ho hb hg hat))
           go_roundg k1
           case measure=>have:=HK1.out;omega
           case rel=>exact ⟨(y275),(wrap64 (x4_1 - 1)),(by first|rfl|(simp;done)|(simp [*];done)),H',⟨by have:=HK1.out;omega⟩,⟨by (with_reducible repeat (first|apply Kd.Q_alloc|apply Kd.Q_drewN|apply Kd.Q_drew));exact HO277.out⟩,⟨zsx2_3⟩,⟨zsx2_2⟩,⟨zsx2_4⟩⟩
          ·rw [if_neg c81] at H
           exact absurd H (by simp)
         ·rw [if_neg c80] at H
          have c80b0:decide (0 < x4_1)=false:=decide_eq_false c80
          clear c80
          simp only [Option.some.injEq,Prod.mk.injEq] at H
          obtain ⟨rfl,rfl,rfl⟩:=H
          go_wp2
          go_ret
          exact ⟨_,zsx2_6,by (with_reducible repeat (first|apply Kd.Q_alloc|apply Kd.Q_drewN|apply Kd.Q_drew));exact HO_3.out,zsx2_3,zsx2_4,zsx2_2⟩
      ·replace c73:=Bool.eq_false_iff.mpr c73
       subst c73
       have H1:(some (t225,t270,t271))=some (r1,r2,r3):=by rw [if_neg (show ¬ (false=true) by decide)] at H;exact H
       clear H
       have H:=H1
       clear H1
       simp only [Option.some.injEq,Prod.mk.injEq] at H
       obtain ⟨rfl,rfl,rfl⟩:=H
       go_enter Try.func98,Try.ntmps98
       go_wp2_with (first|((with_reducible refine gate_callee (f:=53) rfl ?_);refine goesL_ (some 6) rfl rfl Try.func53 (zsx2_0) rfl #[.pointer (some ⟨g,0,none⟩),.int .i64 4] rfl (zsx2_1) ?_;(with_reducible refine (spec_l1Cur_pick.calls g s0_0 s0_1 s0_2 4 t222 t223 t224 w0 _ ?side1 ?side2 A2.out).mono ?_);(case side1=>exact zsx2_3);(case side2=>exact zsx2_4);rintro e w84 ⟨rfl,hi,hb,hk⟩;refine ⟨_,rfl,?_⟩;have n0_:=aM2 (kT2 (zsx2_2) hk (.inl rfl));have n1_:=aM2 (hb);have n2_:=aM2 (hi);clear HK HB HI0;have HK:=n0_;have HB:=n1_;have HI0:=n2_;clear n0_ n1_ n2_;(try clear hb);(try clear hb2);(try clear hk);(try clear hi))|((with_reducible refine gate_callee (f:=100) rfl ?_);refine goesL_ (some 8) rfl rfl Try.func100 (zsx2_0) rfl #[.int .i64 (wrap64 (1 + t222))] rfl (zsx2_1) ?_;(with_reducible refine (spec_slStandard.calls k (wrap64 (1 + t222)) t225 _ A3.out).mono ?_);rintro e w85 ⟨v226,rfl,ho0,hb⟩;refine ⟨_,rfl,?_⟩;have n0_:=aM2 (Kd.R_lower ho0 (keep_size (w:=w) (g:=g) (row:=none) (zsx2_2)));have n1_:=aM2 (IsS61.below (zsx2_3) hb);have n2_:=aM2 (kT2 (zsx2_2) (kB2 hb g none) (.inl rfl));have n3_:=aM2 (below_step (zsx2_4) hb);clear HI0 HK HB;have HO227:=n0_;have HI0:=n1_;have HK:=n2_;have HB:=n3_;clear n0_ n1_ n2_ n3_;(try clear hb);(try clear hb2);(try clear hk);(try clear hi);(try clear ho0))|((with_reducible refine gate_callee (f:=53) rfl ?_);refine goesL_ (some 10) rfl rfl Try.func53 (zsx2_0) rfl #[.pointer (some ⟨g,0,none⟩),.int .i64 10] rfl (zsx2_1) ?_;(with_reducible refine (spec_l1Cur_pick.calls g s0_0 t223 t224 10 t228 t229 t230 w0 _ ?side1 ?side2 A4.out).mono ?_);(case side1=>exact zsx2_3);(case side2=>exact zsx2_4);rintro e w86 ⟨rfl,hi,hb,hk⟩;refine ⟨_,rfl,?_⟩;have n0_:=aM2 (Kd.R_mono (Kd.R_keep (IsS61.apart (show IsS61 w0 _ g s0_0 t223 t224 from zsx2_3) (zsx2_5) (by decide)) hk (fun _ h=>h.2)) (fun _ h=>h.1));have n1_:=aM2 (kT2 (zsx2_2) hk (.inl rfl));have n2_:=aM2 (hb);have n3_:=aM2 (hi);clear HO227 HK HB HI0;have HO227:=n0_;have HK:=n1_;have HB:=n2_;have HI0:=n3_;clear n0_ n1_ n2_ n3_;(try clear hb);(try clear hb2);(try clear hk);(try clear hi))|((with_reducible refine gate_callee (f:=86) rfl ?_);refine goesL_ (some 59) rfl rfl Try.func86 (zsx2_0) rfl #[.pointer (some ⟨g,0,none⟩),.int .i64 3] rfl (zsx2_1) ?_;(with_reducible refine (spec_l1Cur_one.calls g s0_0 t229 t230 3 false t270 t271 w0 _ ?side1 ?side2 A72.out).mono ?_);(case side1=>exact zsx2_3);(case side2=>exact zsx2_4);rintro e w87 ⟨rfl,hi,hb,hk⟩;refine ⟨_,rfl,?_⟩;have n0_:=aM2 (Kd.R_mono (Kd.R_keep (IsS61.apart (show IsS61 w0 _ g s0_0 t229 t230 from zsx2_3) (zsx2_5) (by decide)) hk (fun _ h=>h.2)) (fun _ h=>h.1));have n1_:=aM2 (kT2 (zsx2_2) hk (.inl rfl));have n2_:=aM2 (hb);have n3_:=aM2 (hi);clear HO227 HK HB HI0;have HO227:=n0_;have HK:=n1_;have HB:=n2_;have HI0:=n3_;clear n0_ n1_ n2_ n3_;(try clear hb);(try clear hb2);(try clear hk);(try clear hi)))
       go_ret
       exact ⟨_,zsx2_6,Kd.Q_of_R (zsx2_5),zsx2_3,zsx2_4,zsx2_2⟩
     ·rw [if_neg c71] at H
      have c71b0:(t228 == 4)=false:=beq_eq_false_iff_ne.mpr c71
      have c71b1:(t228 != 4)=true:=bne_iff_ne.mpr c71
      by_cases c88:t228=5
      ·rw [if_pos c88] at H
       have c88b0:(t228 == 5)=true:=beq_iff_eq.mpr c88
       have c88b1:(t228 != 5)=false:=bne_eq_false_iff_eq.mpr c88
       clear c88
       replace H:=bI2.mp H
       obtain ⟨⟨t278,t279,t280⟩,A890,H⟩:=H
       replace H:(if t278=true then (some (([]:List (S96)),t279,t280)) else (some (t225,t279,t280)))=some (r1,r2,r3):=H
       have A89:=aM2 A890
       clear A890
       by_cases c90:t278=true
       ·subst c90
        have H1:(some (([]:List (S96)),t279,t280))=some (r1,r2,r3):=by rw [if_pos rfl] at H;exact H
        clear H
        have H:=H1
        clear H1
        simp only [Option.some.injEq,Prod.mk.injEq] at H
        obtain ⟨rfl,rfl,rfl⟩:=H
        go_enter Try.func98,Try.ntmps98
        go_wp2_with (first|((with_reducible refine gate_callee (f:=53) rfl ?_);refine goesL_ (some 6) rfl rfl Try.func53 (zsx2_0) rfl #[.pointer (some ⟨g,0,none⟩),.int .i64 4] rfl (zsx2_1) ?_;(with_reducible refine (spec_l1Cur_pick.calls g s0_0 s0_1 s0_2 4 t222 t223 t224 w0 _ ?side1 ?side2 A2.out).mono ?_);(case side1=>exact zsx2_3);(case side2=>exact zsx2_4);rintro e w91 ⟨rfl,hi,hb,hk⟩;refine ⟨_,rfl,?_⟩;have n0_:=aM2 (kT2 (zsx2_2) hk (.inl rfl));have n1_:=aM2 (hb);have n2_:=aM2 (hi);clear HK HB HI0;have HK:=n0_;have HB:=n1_;have HI0:=n2_;clear n0_ n1_ n2_;(try clear hb);(try clear hb2);(try clear hk);(try clear hi))|((with_reducible refine gate_callee (f:=100) rfl ?_);refine goesL_ (some 8) rfl rfl Try.func100 (zsx2_0) rfl #[.int .i64 (wrap64 (1 + t222))] rfl (zsx2_1) ?_;(with_reducible refine (spec_slStandard.calls k (wrap64 (1 + t222)) t225 _ A3.out).mono ?_);rintro e w92 ⟨v226,rfl,ho0,hb⟩;refine ⟨_,rfl,?_⟩;have n0_:=aM2 (Kd.R_lower ho0 (keep_size (w:=w) (g:=g) (row:=none) (zsx2_2)));have n1_:=aM2 (IsS61.below (zsx2_3) hb);have n2_:=aM2 (kT2 (zsx2_2) (kB2 hb g none) (.inl rfl));have n3_:=aM2 (below_step (zsx2_4) hb);clear HI0 HK HB;have HO227:=n0_;have HI0:=n1_;have HK:=n2_;have HB:=n3_;clear n0_ n1_ n2_ n3_;(try clear hb);(try clear hb2);(try clear hk);(try clear hi);(try clear ho0))|((with_reducible refine gate_callee (f:=53) rfl ?_);refine goesL_ (some 10) rfl rfl Try.func53 (zsx2_0) rfl #[.pointer (some ⟨g,0,none⟩),.int .i64 10] rfl (zsx2_1) ?_;(with_reducible refine (spec_l1Cur_pick.calls g s0_0 t223 t224 10 t228 t229 t230 w0 _ ?side1 ?side2 A4.out).mono ?_);(case side1=>exact zsx2_3);(case side2=>exact zsx2_4);rintro e w93 ⟨rfl,hi,hb,hk⟩;refine ⟨_,rfl,?_⟩;have n0_:=aM2 (Kd.R_mono (Kd.R_keep (IsS61.apart (show IsS61 w0 _ g s0_0 t223 t224 from zsx2_3) (zsx2_5) (by decide)) hk (fun _ h=>h.2)) (fun _ h=>h.1));have n1_:=aM2 (kT2 (zsx2_2) hk (.inl rfl));have n2_:=aM2 (hb);have n3_:=aM2 (hi);clear HO227 HK HB HI0;have HO227:=n0_;have HK:=n1_;have HB:=n2_;have HI0:=n3_;clear n0_ n1_ n2_ n3_;(try clear hb);(try clear hb2);(try clear hk);(try clear hi))|((with_reducible refine gate_callee (f:=86) rfl ?_);refine goesL_ (some 82) rfl rfl Try.func86 (zsx2_0) rfl #[.pointer (some ⟨g,0,none⟩),.int .i64 3] rfl (zsx2_1) ?_;(with_reducible refine (spec_l1Cur_one.calls g s0_0 t229 t230 3 true t279 t280 w0 _ ?side1 ?side2 A89.out).mono ?_);(case side1=>exact zsx2_3);(case side2=>exact zsx2_4);rintro e w94 ⟨rfl,hi,hb,hk⟩;refine ⟨_,rfl,?_⟩;have n0_:=aM2 (Kd.R_mono (Kd.R_keep (IsS61.apart (show IsS61 w0 _ g s0_0 t229 t230 from zsx2_3) (zsx2_5) (by decide)) hk (fun _ h=>h.2)) (fun _ h=>h.1));have n1_:=aM2 (kT2 (zsx2_2) hk (.inl rfl));have n2_:=aM2 (hb);have n3_:=aM2 (hi);clear HO227 HK HB HI0;have HO227:=n0_;have HK:=n1_;have HB:=n2_;have HI0:=n3_;clear n0_ n1_ n2_ n3_;(try clear hb);(try clear hb2);(try clear hk);(try clear hi)))
        go_ret
        exact ⟨_,zsx2_6,Kd.Q_of_R (zsx2_8),zsx2_3,zsx2_4,zsx2_2⟩
       ·replace c90:=Bool.eq_false_iff.mpr c90
        subst c90
        have H1:(some (t225,t279,t280))=some (r1,r2,r3):=by rw [if_neg (show ¬ (false=true) by decide)] at H;exact H
        clear H
        have H:=H1
        clear H1
        simp only [Option.some.injEq,Prod.mk.injEq] at H
        obtain ⟨rfl,rfl,rfl⟩:=H
        go_enter Try.func98,Try.ntmps98
        go_wp2_with (first|((with_reducible refine gate_callee (f:=53) rfl ?_);refine goesL_ (some 6) rfl rfl Try.func53 (zsx2_0) rfl #[.pointer (some ⟨g,0,none⟩),.int .i64 4] rfl (zsx2_1) ?_;(with_reducible refine (spec_l1Cur_pick.calls g s0_0 s0_1 s0_2 4 t222 t223 t224 w0 _ ?side1 ?side2 A2.out).mono ?_);(case side1=>exact zsx2_3);(case side2=>exact zsx2_4);rintro e w95 ⟨rfl,hi,hb,hk⟩;refine ⟨_,rfl,?_⟩;have n0_:=aM2 (kT2 (zsx2_2) hk (.inl rfl));have n1_:=aM2 (hb);have n2_:=aM2 (hi);clear HK HB HI0;have HK:=n0_;have HB:=n1_;have HI0:=n2_;clear n0_ n1_ n2_;(try clear hb);(try clear hb2);(try clear hk);(try clear hi))|((with_reducible refine gate_callee (f:=100) rfl ?_);refine goesL_ (some 8) rfl rfl Try.func100 (zsx2_0) rfl #[.int .i64 (wrap64 (1 + t222))] rfl (zsx2_1) ?_;(with_reducible refine (spec_slStandard.calls k (wrap64 (1 + t222)) t225 _ A3.out).mono ?_);rintro e w96 ⟨v226,rfl,ho0,hb⟩;refine ⟨_,rfl,?_⟩;have n0_:=aM2 (Kd.R_lower ho0 (keep_size (w:=w) (g:=g) (row:=none) (zsx2_2)));have n1_:=aM2 (IsS61.below (zsx2_3) hb);have n2_:=aM2 (kT2 (zsx2_2) (kB2 hb g none) (.inl rfl));have n3_:=aM2 (below_step (zsx2_4) hb);clear HI0 HK HB;have HO227:=n0_;have HI0:=n1_;have HK:=n2_;have HB:=n3_;clear n0_ n1_ n2_ n3_;(try clear hb);(try clear hb2);(try clear hk);(try clear hi);(try clear ho0))|((with_reducible refine gate_callee (f:=53) rfl ?_);refine goesL_ (some 10) rfl rfl Try.func53 (zsx2_0) rfl #[.pointer (some ⟨g,0,none⟩),.int .i64 10] rfl (zsx2_1) ?_;(with_reducible refine (spec_l1Cur_pick.calls g s0_0 t223 t224 10 t228 t229 t230 w0 _ ?side1 ?side2 A4.out).mono ?_);(case side1=>exact zsx2_3);(case side2=>exact zsx2_4);rintro e w97 ⟨rfl,hi,hb,hk⟩;refine ⟨_,rfl,?_⟩;have n0_:=aM2 (Kd.R_mono (Kd.R_keep (IsS61.apart (show IsS61 w0 _ g s0_0 t223 t224 from zsx2_3) (zsx2_5) (by decide)) hk (fun _ h=>h.2)) (fun _ h=>h.1));have n1_:=aM2 (kT2 (zsx2_2) hk (.inl rfl));have n2_:=aM2 (hb);have n3_:=aM2 (hi);clear HO227 HK HB HI0;have HO227:=n0_;have HK:=n1_;have HB:=n2_;have HI0:=n3_;clear n0_ n1_ n2_ n3_;(try clear hb);(try clear hb2);(try clear hk);(try clear hi))|((with_reducible refine gate_callee (f:=86) rfl ?_);refine goesL_ (some 82) rfl rfl Try.func86 (zsx2_0) rfl #[.pointer (some ⟨g,0,none⟩),.int .i64 3] rfl (zsx2_1) ?_;(with_reducible refine (spec_l1Cur_one.calls g s0_0 t229 t230 3 false t279 t280 w0 _ ?side1 ?side2 A89.out).mono ?_);(case side1=>exact zsx2_3);(case side2=>exact zsx2_4);rintro e w98 ⟨rfl,hi,hb,hk⟩;refine ⟨_,rfl,?_⟩;have n0_:=aM2 (Kd.R_mono (Kd.R_keep (IsS61.apart (show IsS61 w0 _ g s0_0 t229 t230 from zsx2_3) (zsx2_5) (by decide)) hk (fun _ h=>h.2)) (fun _ h=>h.1));have n1_:=aM2 (kT2 (zsx2_2) hk (.inl rfl));have n2_:=aM2 (hb);have n3_:=aM2 (hi);clear HO227 HK HB HI0;have HO227:=n0_;have HK:=n1_;have HB:=n2_;have HI0:=n3_;clear n0_ n1_ n2_ n3_;(try clear hb);(try clear hb2);(try clear hk);(try clear hi)))
        go_ret
        exact ⟨_,zsx2_6,Kd.Q_of_R (zsx2_5),zsx2_3,zsx2_4,zsx2_2⟩
      ·rw [if_neg c88] at H
       have c88b0:(t228 == 5)=false:=beq_eq_false_iff_ne.mpr c88
       have c88b1:(t228 != 5)=true:=bne_iff_ne.mpr c88
       simp only [Option.some.injEq,Prod.mk.injEq] at H
       obtain ⟨rfl,rfl,rfl⟩:=H
       go_enter Try.func98,Try.ntmps98
       go_wp2_with (first|((with_reducible refine gate_callee (f:=53) rfl ?_);refine goesL_ (some 6) rfl rfl Try.func53 (zsx2_0) rfl #[.pointer (some ⟨g,0,none⟩),.int .i64 4] rfl (zsx2_1) ?_;(with_reducible refine (spec_l1Cur_pick.calls g s0_0 s0_1 s0_2 4 t222 t223 t224 w0 _ ?side1 ?side2 A2.out).mono ?_);(case side1=>exact zsx2_3);(case side2=>exact zsx2_4);rintro e w99 ⟨rfl,hi,hb,hk⟩;refine ⟨_,rfl,?_⟩;have n0_:=aM2 (kT2 (zsx2_2) hk (.inl rfl));have n1_:=aM2 (hb);have n2_:=aM2 (hi);clear HK HB HI0;have HK:=n0_;have HB:=n1_;have HI0:=n2_;clear n0_ n1_ n2_;(try clear hb);(try clear hb2);(try clear hk);(try clear hi))|((with_reducible refine gate_callee (f:=100) rfl ?_);refine goesL_ (some 8) rfl rfl Try.func100 (zsx2_0) rfl #[.int .i64 (wrap64 (1 + t222))] rfl (zsx2_1) ?_;(with_reducible refine (spec_slStandard.calls k (wrap64 (1 + t222)) t225 _ A3.out).mono ?_);rintro e w100 ⟨v226,rfl,ho0,hb⟩;refine ⟨_,rfl,?_⟩;have n0_:=aM2 (Kd.R_lower ho0 (keep_size (w:=w) (g:=g) (row:=none) (zsx2_2)));have n1_:=aM2 (IsS61.below (zsx2_3) hb);have n2_:=aM2 (kT2 (zsx2_2) (kB2 hb g none) (.inl rfl));have n3_:=aM2 (below_step (zsx2_4) hb);clear HI0 HK HB;have HO227:=n0_;have HI0:=n1_;have HK:=n2_;have HB:=n3_;clear n0_ n1_ n2_ n3_;(try clear hb);(try clear hb2);(try clear hk);(try clear hi);(try clear ho0))|((with_reducible refine gate_callee (f:=53) rfl ?_);refine goesL_ (some 10) rfl rfl Try.func53 (zsx2_0) rfl #[.pointer (some ⟨g,0,none⟩),.int .i64 10] rfl (zsx2_1) ?_;(with_reducible refine (spec_l1Cur_pick.calls g s0_0 t223 t224 10 t228 t229 t230 w0 _ ?side1 ?side2 A4.out).mono ?_);(case side1=>exact zsx2_3);(case side2=>exact zsx2_4);rintro e w101 ⟨rfl,hi,hb,hk⟩;refine ⟨_,rfl,?_⟩;have n0_:=aM2 (Kd.R_mono (Kd.R_keep (IsS61.apart (show IsS61 w0 _ g s0_0 t223 t224 from zsx2_3) (zsx2_5) (by decide)) hk (fun _ h=>h.2)) (fun _ h=>h.1));have n1_:=aM2 (kT2 (zsx2_2) hk (.inl rfl));have n2_:=aM2 (hb);have n3_:=aM2 (hi);clear HO227 HK HB HI0;have HO227:=n0_;have HK:=n1_;have HB:=n2_;have HI0:=n3_;clear n0_ n1_ n2_ n3_;(try clear hb);(try clear hb2);(try clear hk);(try clear hi)))
       go_ret
       exact ⟨_,zsx2_6,Kd.Q_of_R (zsx2_5),zsx2_3,zsx2_4,zsx2_2⟩
def spec_slBefore.f (a0_0:Int) (a0_1:Int) (a0_2:Int) (a1_0:Int) (a1_1:Int) (a1_2:Int):Option (Bool):=if a0_2=a1_2 then (if a0_1=a1_1 then (some (decide (a0_0 < a1_0))) else (some (decide (a0_1 < a1_1)))) else (some (decide (a0_2 < a1_2)))
set_option maxHeartbeats 8000000 in
set_option maxRecDepth 100000 in
theorem spec_slBefore.calls (a0_0:Int) (a0_1:Int) (a0_2:Int) (a1_0:Int) (a1_1:Int) (a1_2:Int) (r:Bool) (w:World) (h:spec_slBefore.f a0_0 a0_1 a0_2 a1_0 a1_1 a1_2=some r) :
  Calls Try.prog 101 #[.agg #[.int .i64 a0_0,.int .i64 a0_1,.int .i64 a0_2],.agg #[.int .i64 a1_0,.int .i64 a1_1,.int .i64 a1_2]] w fun e w'=>e=.returned (.bool r)∧Below w.heap.size w w':=by
 have hu96:=Try.underlying96
 have HB:=aM2 (Below.refl w.heap.size w)
 have H:(if a0_2=a1_2 then (if a0_1=a1_1 then (some (decide (a0_0 < a1_0))) else (some (decide (a0_1 < a1_1)))) else (some (decide (a0_2 < a1_2))))=some r:=h
 clear h
 by_cases c3:a0_2=a1_2
 ·rw [if_pos c3] at H
  have c3b0:(a0_2 == a1_2)=true:=beq_iff_eq.mpr c3
  have c3b1:(a0_2 != a1_2)=false:=bne_eq_false_iff_eq.mpr c3
  clear c3
  by_cases c4:a0_1=a1_1
  ·rw [if_pos c4] at H
   have c4b0:(a0_1 == a1_1)=true:=beq_iff_eq.mpr c4
   have c4b1:(a0_1 != a1_1)=false:=bne_eq_false_iff_eq.mpr c4
   clear c4
   obtain rfl:=Option.some.inj H
   go_enter Try.func101,Try.ntmps101
   go_wp2_with (first|((with_reducible refine gate_dst (N:=2) rfl ?_);refine box_event ?hg (N:=2) ?hd (cs:=#[.int .i64 a0_0,.int .i64 a0_1,.int .i64 a0_2]) (t:=96) ?hr ?_;(case hd=>rfl);(case hg=>rfl);(case hr=>exact zsx2_13);intro gb281 hg w5 hbox hb;have n0_:=aM2 (below_step (zsx2_9) hb);have n1_:=aM2 (hbox);have n2_:=aM2 ((zsx2_14:w.heap.size≤gb281));have n3_:=aM2 ((zsx2_14:w.heap.size≤gb281));clear HB;have HB:=n0_;have BK281:=n1_;have GW281:=n2_;have GE281:=n3_;clear n0_ n1_ n2_ n3_ hb hbox hg)|((with_reducible refine gate_dst (N:=3) rfl ?_);refine box_event ?hg (N:=3) ?hd (cs:=#[.int .i64 a1_0,.int .i64 a1_1,.int .i64 a1_2]) (t:=96) ?hr ?_;(case hd=>rfl);(case hg=>rfl);(case hr=>exact zsx2_13);intro gb282 hg w6 hbox hb;have n0_:=aM2 (blk_below (g:=gb281) (o:=.cells #[.int .i64 a0_0,.int .i64 a0_1,.int .i64 a0_2] 96 (0,0)) (zsx2_10) hb);have n1_:=aM2 (below_step (zsx2_11) hb);have n2_:=aM2 (hbox);have n3_:=aM2 ((zsx2_15:w.heap.size≤gb282));have n4_:=aM2 ((zsx2_15:w.heap.size≤gb282));have n5_:=aM2 ((zsx2_16:gb281≠gb282));have n6_:=aM2 ((zsx2_17:gb282≠gb281));clear BK281 HB;have BK281:=n0_;have HB:=n1_;have BK282:=n2_;have GW282:=n3_;have GE282:=n4_;have NB281_282:=n5_;have NB282_281:=n6_;clear n0_ n1_ n2_ n3_ n4_ n5_ n6_ hb hbox hg;have hnb7:=NB281_282.out;have hnc7:=NB282_281.out;have hcz8_0:w6.cell? ⟨gb281,0,none⟩=some (.int .i64 a0_0):=(bC2 BK281.out 0).trans rfl;have hcz8_1:w6.cell? ⟨gb281,1,none⟩=some (.int .i64 a0_1):=(bC2 BK281.out 1).trans rfl;have hcz8_2:w6.cell? ⟨gb281,2,none⟩=some (.int .i64 a0_2):=(bC2 BK281.out 2).trans rfl;have hfz8_0:=blk_frozen BK281.out 0;have hfz8_1:=blk_frozen BK281.out 1;have hfz8_2:=blk_frozen BK281.out 2;have hcz9_0:w6.cell? ⟨gb282,0,none⟩=some (.int .i64 a1_0):=(bC2 BK282.out 0).trans rfl;have hcz9_1:w6.cell? ⟨gb282,1,none⟩=some (.int .i64 a1_1):=(bC2 BK282.out 1).trans rfl;have hcz9_2:w6.cell? ⟨gb282,2,none⟩=some (.int .i64 a1_2):=(bC2 BK282.out 2).trans rfl;have hfz9_0:=blk_frozen BK282.out 0;have hfz9_1:=blk_frozen BK282.out 1;have hfz9_2:=blk_frozen BK282.out 2))
   go_ret
   exact ⟨zsx2_6,zsx2_12⟩
  ·rw [if_neg c4] at H
   have c4b0:(a0_1 == a1_1)=false:=beq_eq_false_iff_ne.mpr c4
   have c4b1:(a0_1 != a1_1)=true:=bne_iff_ne.mpr c4
   obtain rfl:=Option.some.inj H
   go_enter Try.func101,Try.ntmps101
   go_wp2_with (first|((with_reducible refine gate_dst (N:=2) rfl ?_);refine box_event ?hg (N:=2) ?hd (cs:=#[.int .i64 a0_0,.int .i64 a0_1,.int .i64 a0_2]) (t:=96) ?hr ?_;(case hd=>rfl);(case hg=>rfl);(case hr=>exact zsx2_13);intro gb281 hg w10 hbox hb;have n0_:=aM2 (below_step (zsx2_9) hb);have n1_:=aM2 (hbox);have n2_:=aM2 ((zsx2_14:w.heap.size≤gb281));have n3_:=aM2 ((zsx2_14:w.heap.size≤gb281));clear HB;have HB:=n0_;have BK281:=n1_;have GW281:=n2_;have GE281:=n3_;clear n0_ n1_ n2_ n3_ hb hbox hg)|((with_reducible refine gate_dst (N:=3) rfl ?_);refine box_event ?hg (N:=3) ?hd (cs:=#[.int .i64 a1_0,.int .i64 a1_1,.int .i64 a1_2]) (t:=96) ?hr ?_;(case hd=>rfl);(case hg=>rfl);(case hr=>exact zsx2_13);intro gb282 hg w11 hbox hb;have n0_:=aM2 (blk_below (g:=gb281) (o:=.cells #[.int .i64 a0_0,.int .i64 a0_1,.int .i64 a0_2] 96 (0,0)) (zsx2_10) hb);have n1_:=aM2 (below_step (zsx2_11) hb);have n2_:=aM2 (hbox);have n3_:=aM2 ((zsx2_15:w.heap.size≤gb282));have n4_:=aM2 ((zsx2_15:w.heap.size≤gb282));have n5_:=aM2 ((zsx2_16:gb281≠gb282));have n6_:=aM2 ((zsx2_17:gb282≠gb281));clear BK281 HB;have BK281:=n0_;have HB:=n1_;have BK282:=n2_;have GW282:=n3_;have GE282:=n4_;have NB281_282:=n5_;have NB282_281:=n6_;clear n0_ n1_ n2_ n3_ n4_ n5_ n6_ hb hbox hg;have hnb12:=NB281_282.out;have hnc12:=NB282_281.out;have hcz13_0:w11.cell? ⟨gb281,0,none⟩=some (.int .i64 a0_0):=(bC2 BK281.out 0).trans rfl;have hcz13_1:w11.cell? ⟨gb281,1,none⟩=some (.int .i64 a0_1):=(bC2 BK281.out 1).trans rfl;have hcz13_2:w11.cell? ⟨gb281,2,none⟩=some (.int .i64 a0_2):=(bC2 BK281.out 2).trans rfl;have hfz13_0:=blk_frozen BK281.out 0;have hfz13_1:=blk_frozen BK281.out 1;have hfz13_2:=blk_frozen BK281.out 2;have hcz14_0:w11.cell? ⟨gb282,0,none⟩=some (.int .i64 a1_0):=(bC2 BK282.out 0).trans rfl;have hcz14_1:w11.cell? ⟨gb282,1,none⟩=some (.int .i64 a1_1):=(bC2 BK282.out 1).trans rfl;have hcz14_2:w11.cell? ⟨gb282,2,none⟩=some (.int .i64 a1_2):=(bC2 BK282.out 2).trans rfl;have hfz14_0:=blk_frozen BK282.out 0;have hfz14_1:=blk_frozen BK282.out 1;have hfz14_2:=blk_frozen BK282.out 2))
   go_ret
   exact ⟨zsx2_6,zsx2_12⟩
 ·rw [if_neg c3] at H
  have c3b0:(a0_2 == a1_2)=false:=beq_eq_false_iff_ne.mpr c3
  have c3b1:(a0_2 != a1_2)=true:=bne_iff_ne.mpr c3
  obtain rfl:=Option.some.inj H
  go_enter Try.func101,Try.ntmps101
  go_wp2_with (first|((with_reducible refine gate_dst (N:=2) rfl ?_);refine box_event ?hg (N:=2) ?hd (cs:=#[.int .i64 a0_0,.int .i64 a0_1,.int .i64 a0_2]) (t:=96) ?hr ?_;(case hd=>rfl);(case hg=>rfl);(case hr=>exact zsx2_13);intro gb281 hg w15 hbox hb;have n0_:=aM2 (below_step (zsx2_9) hb);have n1_:=aM2 (hbox);have n2_:=aM2 ((zsx2_14:w.heap.size≤gb281));have n3_:=aM2 ((zsx2_14:w.heap.size≤gb281));clear HB;have HB:=n0_;have BK281:=n1_;have GW281:=n2_;have GE281:=n3_;clear n0_ n1_ n2_ n3_ hb hbox hg)|((with_reducible refine gate_dst (N:=3) rfl ?_);refine box_event ?hg (N:=3) ?hd (cs:=#[.int .i64 a1_0,.int .i64 a1_1,.int .i64 a1_2]) (t:=96) ?hr ?_;(case hd=>rfl);(case hg=>rfl);(case hr=>exact zsx2_13);intro gb282 hg w16 hbox hb;have n0_:=aM2 (blk_below (g:=gb281) (o:=.cells #[.int .i64 a0_0,.int .i64 a0_1,.int .i64 a0_2] 96 (0,0)) (zsx2_10) hb);have n1_:=aM2 (below_step (zsx2_11) hb);have n2_:=aM2 (hbox);have n3_:=aM2 ((zsx2_15:w.heap.size≤gb282));have n4_:=aM2 ((zsx2_15:w.heap.size≤gb282));have n5_:=aM2 ((zsx2_16:gb281≠gb282));have n6_:=aM2 ((zsx2_17:gb282≠gb281));clear BK281 HB;have BK281:=n0_;have HB:=n1_;have BK282:=n2_;have GW282:=n3_;have GE282:=n4_;have NB281_282:=n5_;have NB282_281:=n6_;clear n0_ n1_ n2_ n3_ n4_ n5_ n6_ hb hbox hg;have hnb17:=NB281_282.out;have hnc17:=NB282_281.out;have hcz18_0:w16.cell? ⟨gb281,0,none⟩=some (.int .i64 a0_0):=(bC2 BK281.out 0).trans rfl;have hcz18_1:w16.cell? ⟨gb281,1,none⟩=some (.int .i64 a0_1):=(bC2 BK281.out 1).trans rfl;have hcz18_2:w16.cell? ⟨gb281,2,none⟩=some (.int .i64 a0_2):=(bC2 BK281.out 2).trans rfl;have hfz18_0:=blk_frozen BK281.out 0;have hfz18_1:=blk_frozen BK281.out 1;have hfz18_2:=blk_frozen BK281.out 2;have hcz19_0:w16.cell? ⟨gb282,0,none⟩=some (.int .i64 a1_0):=(bC2 BK282.out 0).trans rfl;have hcz19_1:w16.cell? ⟨gb282,1,none⟩=some (.int .i64 a1_1):=(bC2 BK282.out 1).trans rfl;have hcz19_2:w16.cell? ⟨gb282,2,none⟩=some (.int .i64 a1_2):=(bC2 BK282.out 2).trans rfl;have hfz19_0:=blk_frozen BK282.out 0;have hfz19_1:=blk_frozen BK282.out 1;have hfz19_2:=blk_frozen BK282.out 2))
  go_ret
  exact ⟨zsx2_6,zsx2_12⟩
end Go.Proofs.Ytbhlffakpneecaa.PFnCones
end
