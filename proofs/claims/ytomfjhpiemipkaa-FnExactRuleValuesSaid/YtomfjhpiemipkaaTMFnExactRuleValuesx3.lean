/- Texts that print.sh has printed for the law FnExactRuleValues,one function each,put together in one file: contracts of its functions. -/
import Derived.Test.YtomfjhpiemipkaaTMFnExactRuleValuesx0
import Derived.Test.YtomfjhpiemipkaaTMFnExactRuleValuesx1
import Derived.Test.YtomfjhpiemipkaaTMFnExactRuleValuesx2
section
namespace Go.Proofs.Ytomfjhpiemipkaa.PFnExactRuleValues
open Go.RowKit Go.Proofs.YtomfjhpiemipkaaW.PrintWords Go.Proofs.YtomfjhpiemipkaaW.PrintLast Go.Proofs.YtomfjhpiemipkaaW.PrintMore
attribute [local go_sem] max2_int min2_int max_two min_two max_three min_three max_four min_four   -- for this text's walks alone
set_option linter.unusedVariables false
set_option linter.unusedSimpArgs false
def laws_toModel.f (k : Nat) (a0_0 : Int) (a0_1 : Int) (a0_2 : Int) (l0_3 : List Int) (l0_4 : List Int) (l0_5 : List Int) : Option (Int × Int × Int × List Int × List Int × List Int) := (laws_toGrid.f a0_0 a0_1 a0_2).bind fun bt116 => ((laws_toIntS.f k l0_3).bind fun t119 => ((laws_toIntS.f k l0_4).bind fun t122 => ((laws_toIntS.f k l0_5).bind fun t125 => (some (bt116.1,bt116.2.1,bt116.2.2,t119,t122,t125)))))
set_option maxHeartbeats 8000000 in
set_option maxRecDepth 100000 in
theorem laws_toModel.calls (k : Nat) (a0_0 : Int) (a0_1 : Int) (a0_2 : Int) (A0_3 : Option Addr) (c0_3 : Nat) (l0_3 : List Int) (A0_4 : Option Addr) (c0_4 : Nat) (l0_4 : List Int) (A0_5 : Option Addr) (c0_5 : Nat) (l0_5 : List Int) (r1 : Int) (r2 : Int) (r3 : Int) (r4 : List Int) (r5 : List Int) (r6 : List Int) (w : World) (hr0_3 : Kd.C (Kd.int .i64) w A0_3 l0_3.length l0_3) (hc0_3 : l0_3.length ≤ c0_3) (hr0_4 : Kd.C (Kd.int .i64) w A0_4 l0_4.length l0_4) (hc0_4 : l0_4.length ≤ c0_4) (hr0_5 : Kd.C (Kd.int .i64) w A0_5 l0_5.length l0_5) (hc0_5 : l0_5.length ≤ c0_5) (h : laws_toModel.f k a0_0 a0_1 a0_2 l0_3 l0_4 l0_5 = some (r1,r2,r3,r4,r5,r6)) :
  Calls Try.prog 16 #[.agg #[.int .i64 a0_0,.int .i64 a0_1,.int .i64 a0_2,.slice A0_3 l0_3.length c0_3,.slice A0_4 l0_4.length c0_4,.slice A0_5 l0_5.length c0_5]] w fun e w' => ∃ v3_ v4_ v5_ : Value,e = .returned (.agg #[.int .i64 r1,.int .i64 r2,.int .i64 r3,v3_,v4_,v5_]) ∧ Kd.R (Kd.int .i64) 3 w' w.heap.size (fun k_ => some k_ ≠ (v4_ : Value).ownBlock ∧ some k_ ≠ (v5_ : Value).ownBlock) v3_ r4 ∧ Kd.R (Kd.int .i64) 3 w' w.heap.size (fun k_ => some k_ ≠ (v3_ : Value).ownBlock ∧ some k_ ≠ (v5_ : Value).ownBlock) v4_ r5 ∧ Kd.R (Kd.int .i64) 3 w' w.heap.size (fun k_ => some k_ ≠ (v3_ : Value).ownBlock ∧ some k_ ≠ (v4_ : Value).ownBlock) v5_ r6 ∧ Below w.heap.size w w' := by
 have hu26 := Try.underlying26
 have hu34 := Try.underlying34
 have hu23 := Try.underlying23
 have hu32 := Try.underlying32
 have HR0_3 := Aside0.mk hr0_3
 have HC0_3 := Aside0.mk hc0_3
 clear hr0_3 hc0_3
 have HR0_4 := Aside0.mk hr0_4
 have HC0_4 := Aside0.mk hc0_4
 clear hr0_4 hc0_4
 have HR0_5 := Aside0.mk hr0_5
 have HC0_5 := Aside0.mk hc0_5
 clear hr0_5 hc0_5
 have HB := Aside0.mk (Below.refl w.heap.size w)
 have H : ((laws_toGrid.f a0_0 a0_1 a0_2).bind fun bt116 => ((laws_toIntS.f k l0_3).bind fun t119 => ((laws_toIntS.f k l0_4).bind fun t122 => ((laws_toIntS.f k l0_5).bind fun t125 => (some (bt116.1,bt116.2.1,bt116.2.2,t119,t122,t125)))))) = some (r1,r2,r3,r4,r5,r6) := h
 clear h
 replace H := Option.bind_eq_some_iff.mp H
 obtain ⟨⟨t116,t117,t118⟩,A20,H⟩ := H
 replace H : ((laws_toIntS.f k l0_3).bind fun t119 => ((laws_toIntS.f k l0_4).bind fun t122 => ((laws_toIntS.f k l0_5).bind fun t125 => (some (t116,t117,t118,t119,t122,t125))))) = some (r1,r2,r3,r4,r5,r6) := H
 have A2 := Aside0.mk A20
 clear A20
 replace H := Option.bind_eq_some_iff.mp H
 obtain ⟨t119,A30,H⟩ := H
 replace H : ((laws_toIntS.f k l0_4).bind fun t122 => ((laws_toIntS.f k l0_5).bind fun t125 => (some (t116,t117,t118,t119,t122,t125)))) = some (r1,r2,r3,r4,r5,r6) := H
 have A3 := Aside0.mk A30
 clear A30
 replace H := Option.bind_eq_some_iff.mp H
 obtain ⟨t122,A40,H⟩ := H
 replace H : ((laws_toIntS.f k l0_5).bind fun t125 => (some (t116,t117,t118,t119,t122,t125))) = some (r1,r2,r3,r4,r5,r6) := H
 have A4 := Aside0.mk A40
 clear A40
 replace H := Option.bind_eq_some_iff.mp H
 obtain ⟨t125,A50,H⟩ := H
 replace H : (some (t116,t117,t118,t119,t122,t125)) = some (r1,r2,r3,r4,r5,r6) := H
 have A5 := Aside0.mk A50
 clear A50
 simp only [Option.some.injEq,Prod.mk.injEq] at H
 obtain ⟨rfl,rfl,rfl,rfl,rfl,rfl⟩ := H
 go_enter Try.func16,Try.ntmps16
 go_wp2_with (first | ((with_reducible refine gate_dst (N := 1) rfl ?_);refine box_event ?hg (N := 1) ?hd (cs := #[.int .i64 a0_0,.int .i64 a0_1,.int .i64 a0_2,.slice A0_3 l0_3.length c0_3,.slice A0_4 l0_4.length c0_4,.slice A0_5 l0_5.length c0_5]) (t := 26) ?hr ?_;(case hd => rfl);(case hg => rfl);(case hr => first | (go_simp;done) | (go_simp;rfl));intro gb113 hg w6 hbox hb;have n0_ := Aside0.mk (below_step (by repeat (first | (with_reducible first | exact HB.out | apply below_alloc | apply pw_below_drewN | apply below_drew1) | exact HB.out)) hb);have n1_ := Aside0.mk (hbox);have n2_ := Aside0.mk ((by rw [hg];exact (below_size (by repeat (first | (with_reducible first | exact HB.out | apply below_alloc | apply pw_below_drewN | apply below_drew1) | exact HB.out))) : w.heap.size ≤ gb113));have n3_ := Aside0.mk ((by rw [hg];exact (below_size (by repeat (first | (with_reducible first | exact HB.out | apply below_alloc | apply pw_below_drewN | apply below_drew1) | exact HB.out))) : w.heap.size ≤ gb113));clear HB;have HB := n0_;have BK113 := n1_;have GW113 := n2_;have GE113 := n3_;clear n0_ n1_ n2_ n3_;clear hb hbox hg) | ((with_reducible refine gate_dst (N := 2) rfl ?_);refine box_event ?hg (N := 2) ?hd (cs := #[.int .i64 0,.int .i64 0,.int .i64 0,.slice none 0 0,.slice none 0 0,.slice none 0 0]) (t := 34) ?hr ?_;(case hd => rfl);(case hg => rfl);(case hr => first | (go_simp;done) | (go_simp;rfl));intro gb114 hg w7 hbox hb;have n0_ := Aside0.mk (blk_below (g := gb113) (o := .cells #[.int .i64 a0_0,.int .i64 a0_1,.int .i64 a0_2,.slice A0_3 l0_3.length c0_3,.slice A0_4 l0_4.length c0_4,.slice A0_5 l0_5.length c0_5] 26 (0,0)) (by (with_reducible repeat (first | refine blk_drewN ?_ _ | refine blk_drew ?_ | refine blk_alloc ?_ _));exact BK113.out) hb);have n1_ := Aside0.mk (below_step (by repeat (first | (with_reducible first | exact HB.out | apply below_alloc | apply pw_below_drewN | apply below_drew1 | refine below_set ?_ GE113.out) | exact HB.out)) hb);have n2_ := Aside0.mk (hbox);have n3_ := Aside0.mk ((by rw [hg];exact (below_size (by repeat (first | (with_reducible first | exact HB.out | apply below_alloc | apply pw_below_drewN | apply below_drew1 | refine below_set ?_ GE113.out) | exact HB.out))) : w.heap.size ≤ gb114));have n4_ := Aside0.mk ((by rw [hg];exact (below_size (by repeat (first | (with_reducible first | exact HB.out | apply below_alloc | apply pw_below_drewN | apply below_drew1 | refine below_set ?_ GE113.out) | exact HB.out))) : w.heap.size ≤ gb114));have n5_ := Aside0.mk ((by rw [hg];exact Nat.ne_of_lt (blk_lt (g := gb113) (o := .cells #[.int .i64 a0_0,.int .i64 a0_1,.int .i64 a0_2,.slice A0_3 l0_3.length c0_3,.slice A0_4 l0_4.length c0_4,.slice A0_5 l0_5.length c0_5] 26 (0,0)) (by (with_reducible repeat (first | refine blk_drewN ?_ _ | refine blk_drew ?_ | refine blk_alloc ?_ _));exact BK113.out)) : gb113 ≠ gb114));have n6_ := Aside0.mk ((by rw [hg];exact Nat.ne_of_gt (blk_lt (g := gb113) (o := .cells #[.int .i64 a0_0,.int .i64 a0_1,.int .i64 a0_2,.slice A0_3 l0_3.length c0_3,.slice A0_4 l0_4.length c0_4,.slice A0_5 l0_5.length c0_5] 26 (0,0)) (by (with_reducible repeat (first | refine blk_drewN ?_ _ | refine blk_drew ?_ | refine blk_alloc ?_ _));exact BK113.out)) : gb114 ≠ gb113));clear BK113;clear HB;have BK113 := n0_;have HB := n1_;have BK114 := n2_;have GW114 := n3_;have GE114 := n4_;have NB113_114 := n5_;have NB114_113 := n6_;clear n0_ n1_ n2_ n3_ n4_ n5_ n6_;clear hb hbox hg) | ((with_reducible refine gate_dst (N := 3) rfl ?_);refine box_event ?hg (N := 3) ?hd (cs := #[.int .i64 0,.int .i64 0,.int .i64 0,.slice none 0 0,.slice none 0 0,.slice none 0 0]) (t := 34) ?hr ?_;(case hd => rfl);(case hg => rfl);(case hr => first | (go_simp;done) | (go_simp;rfl));intro gb115 hg w8 hbox hb;have n0_ := Aside0.mk (blk_below (g := gb113) (o := .cells #[.int .i64 a0_0,.int .i64 a0_1,.int .i64 a0_2,.slice A0_3 l0_3.length c0_3,.slice A0_4 l0_4.length c0_4,.slice A0_5 l0_5.length c0_5] 26 (0,0)) (by (with_reducible repeat (first | refine blk_drewN ?_ _ | refine blk_drew ?_ | refine blk_alloc ?_ _));exact BK113.out) hb);have n1_ := Aside0.mk (blk_below (g := gb114) (o := .cells #[.int .i64 0,.int .i64 0,.int .i64 0,.slice none 0 0,.slice none 0 0,.slice none 0 0] 34 (0,0)) (by (with_reducible repeat (first | refine blk_drewN ?_ _ | refine blk_drew ?_ | refine blk_alloc ?_ _));exact BK114.out) hb);have n2_ := Aside0.mk (below_step (by repeat (first | (with_reducible first | exact HB.out | apply below_alloc | apply pw_below_drewN | apply below_drew1 | refine below_set ?_ GE113.out | refine below_set ?_ GE114.out) | exact HB.out)) hb);have n3_ := Aside0.mk (hbox);have n4_ := Aside0.mk ((by rw [hg];exact (below_size (by repeat (first | (with_reducible first | exact HB.out | apply below_alloc | apply pw_below_drewN | apply below_drew1 | refine below_set ?_ GE113.out | refine below_set ?_ GE114.out) | exact HB.out))) : w.heap.size ≤ gb115));have n5_ := Aside0.mk ((by rw [hg];exact (below_size (by repeat (first | (with_reducible first | exact HB.out | apply below_alloc | apply pw_below_drewN | apply below_drew1 | refine below_set ?_ GE113.out | refine below_set ?_ GE114.out) | exact HB.out))) : w.heap.size ≤ gb115));have n6_ := Aside0.mk ((by rw [hg];exact Nat.ne_of_lt (blk_lt (g := gb113) (o := .cells #[.int .i64 a0_0,.int .i64 a0_1,.int .i64 a0_2,.slice A0_3 l0_3.length c0_3,.slice A0_4 l0_4.length c0_4,.slice A0_5 l0_5.length c0_5] 26 (0,0)) (by (with_reducible repeat (first | refine blk_drewN ?_ _ | refine blk_drew ?_ | refine blk_alloc ?_ _));exact BK113.out)) : gb113 ≠ gb115));have n7_ := Aside0.mk ((by rw [hg];exact Nat.ne_of_gt (blk_lt (g := gb113) (o := .cells #[.int .i64 a0_0,.int .i64 a0_1,.int .i64 a0_2,.slice A0_3 l0_3.length c0_3,.slice A0_4 l0_4.length c0_4,.slice A0_5 l0_5.length c0_5] 26 (0,0)) (by (with_reducible repeat (first | refine blk_drewN ?_ _ | refine blk_drew ?_ | refine blk_alloc ?_ _));exact BK113.out)) : gb115 ≠ gb113));have n8_ := Aside0.mk ((by rw [hg];exact Nat.ne_of_lt (blk_lt (g := gb114) (o := .cells #[.int .i64 0,.int .i64 0,.int .i64 0,.slice none 0 0,.slice none 0 0,.slice none 0 0] 34 (0,0)) (by (with_reducible repeat (first | refine blk_drewN ?_ _ | refine blk_drew ?_ | refine blk_alloc ?_ _));exact BK114.out)) : gb114 ≠ gb115));have n9_ := Aside0.mk ((by rw [hg];exact Nat.ne_of_gt (blk_lt (g := gb114) (o := .cells #[.int .i64 0,.int .i64 0,.int .i64 0,.slice none 0 0,.slice none 0 0,.slice none 0 0] 34 (0,0)) (by (with_reducible repeat (first | refine blk_drewN ?_ _ | refine blk_drew ?_ | refine blk_alloc ?_ _));exact BK114.out)) : gb115 ≠ gb114));clear BK113;clear BK114;clear HB;have BK113 := n0_;have BK114 := n1_;have HB := n2_;have BK115 := n3_;have GW115 := n4_;have GE115 := n5_;have NB113_115 := n6_;have NB115_113 := n7_;have NB114_115 := n8_;have NB115_114 := n9_;clear n0_ n1_ n2_ n3_ n4_ n5_ n6_ n7_ n8_ n9_;clear hb hbox hg;have hnb9 := NB113_114.out;have hnc9 := NB114_113.out;have hnb10 := NB113_115.out;have hnc10 := NB115_113.out;have hcz11_0 : w8.cell? ⟨gb113,0,none⟩ = some (.int .i64 a0_0) := (blk_cell BK113.out 0).trans rfl;have hcz11_1 : w8.cell? ⟨gb113,1,none⟩ = some (.int .i64 a0_1) := (blk_cell BK113.out 1).trans rfl;have hcz11_2 : w8.cell? ⟨gb113,2,none⟩ = some (.int .i64 a0_2) := (blk_cell BK113.out 2).trans rfl;have hcz11_3 : w8.cell? ⟨gb113,3,none⟩ = some (.slice A0_3 l0_3.length c0_3) := (blk_cell BK113.out 3).trans rfl;have hcz11_4 : w8.cell? ⟨gb113,4,none⟩ = some (.slice A0_4 l0_4.length c0_4) := (blk_cell BK113.out 4).trans rfl;have hcz11_5 : w8.cell? ⟨gb113,5,none⟩ = some (.slice A0_5 l0_5.length c0_5) := (blk_cell BK113.out 5).trans rfl;have hfz11_0 := blk_frozen BK113.out 0;have hfz11_1 := blk_frozen BK113.out 1;have hfz11_2 := blk_frozen BK113.out 2;have hfz11_3 := blk_frozen BK113.out 3;have hfz11_4 := blk_frozen BK113.out 4;have hfz11_5 := blk_frozen BK113.out 5) | ((with_reducible refine gate_callee (f := 30) rfl ?_);refine goesL_ (some 6) rfl rfl Try.func30 (by kernel_rfl) rfl #[.agg #[.int .i64 a0_0,.int .i64 a0_1,.int .i64 a0_2]] rfl (by (try simp only [List.map_toArray,List.map_cons,List.map_nil]);first | done | rfl | (simp only [List.length_drop,List.length_take];rfl)) ?_;(with_reducible refine (laws_toGrid.calls a0_0 a0_1 a0_2 t116 t117 t118 _ A2.out).mono ?_);rintro e w12 ⟨rfl,hb⟩;refine ⟨_,rfl,?_⟩;have n0_ := Aside0.mk (blk_below (g := gb113) (o := .cells #[.int .i64 a0_0,.int .i64 a0_1,.int .i64 a0_2,.slice A0_3 l0_3.length c0_3,.slice A0_4 l0_4.length c0_4,.slice A0_5 l0_5.length c0_5] 26 (0,0)) (by (with_reducible repeat (first | refine blk_drewN ?_ _ | refine blk_drew ?_ | refine blk_alloc ?_ _));exact BK113.out) hb);have n1_ := Aside0.mk (blk_below (g := gb114) (o := .cells #[.int .i64 0,.int .i64 0,.int .i64 0,.slice none 0 0,.slice none 0 0,.slice none 0 0] 34 (0,0)) (by (with_reducible repeat (first | refine blk_drewN ?_ _ | refine blk_drew ?_ | refine blk_alloc ?_ _));exact BK114.out) hb);have n2_ := Aside0.mk (blk_below (g := gb115) (o := .cells #[.int .i64 0,.int .i64 0,.int .i64 0,.slice none 0 0,.slice none 0 0,.slice none 0 0] 34 (0,0)) (by (with_reducible repeat (first | refine blk_drewN ?_ _ | refine blk_drew ?_ | refine blk_alloc ?_ _));exact BK115.out) hb);have n3_ := Aside0.mk (below_step (by repeat (first | (with_reducible first | exact HB.out | apply below_alloc | apply pw_below_drewN | apply below_drew1 | refine below_set ?_ GE113.out | refine below_set ?_ GE114.out | refine below_set ?_ GE115.out) | exact HB.out)) hb);clear BK113;clear BK114;clear BK115;clear HB;have BK113 := n0_;have BK114 := n1_;have BK115 := n2_;have HB := n3_;clear n0_ n1_ n2_ n3_;(try clear hb);(try clear hb2);(try clear hk);(try clear hi);have hnb13 := NB115_114.out;have hnc13 := NB114_115.out;have hcz14_0 : w12.cell? ⟨gb115,0,none⟩ = some (.int .i64 0) := (blk_cell BK115.out 0).trans rfl;have hcz14_1 : w12.cell? ⟨gb115,1,none⟩ = some (.int .i64 0) := (blk_cell BK115.out 1).trans rfl;have hcz14_2 : w12.cell? ⟨gb115,2,none⟩ = some (.int .i64 0) := (blk_cell BK115.out 2).trans rfl;have hcz14_3 : w12.cell? ⟨gb115,3,none⟩ = some (.slice none 0 0) := (blk_cell BK115.out 3).trans rfl;have hcz14_4 : w12.cell? ⟨gb115,4,none⟩ = some (.slice none 0 0) := (blk_cell BK115.out 4).trans rfl;have hcz14_5 : w12.cell? ⟨gb115,5,none⟩ = some (.slice none 0 0) := (blk_cell BK115.out 5).trans rfl;have hfz14_0 := blk_frozen BK115.out 0;have hfz14_1 := blk_frozen BK115.out 1;have hfz14_2 := blk_frozen BK115.out 2;have hfz14_3 := blk_frozen BK115.out 3;have hfz14_4 := blk_frozen BK115.out 4;have hfz14_5 := blk_frozen BK115.out 5;have hcz15_0 : w12.cell? ⟨gb113,0,none⟩ = some (.int .i64 a0_0) := (blk_cell BK113.out 0).trans rfl;have hcz15_1 : w12.cell? ⟨gb113,1,none⟩ = some (.int .i64 a0_1) := (blk_cell BK113.out 1).trans rfl;have hcz15_2 : w12.cell? ⟨gb113,2,none⟩ = some (.int .i64 a0_2) := (blk_cell BK113.out 2).trans rfl;have hcz15_3 : w12.cell? ⟨gb113,3,none⟩ = some (.slice A0_3 l0_3.length c0_3) := (blk_cell BK113.out 3).trans rfl;have hcz15_4 : w12.cell? ⟨gb113,4,none⟩ = some (.slice A0_4 l0_4.length c0_4) := (blk_cell BK113.out 4).trans rfl;have hcz15_5 : w12.cell? ⟨gb113,5,none⟩ = some (.slice A0_5 l0_5.length c0_5) := (blk_cell BK113.out 5).trans rfl;have hfz15_0 := blk_frozen BK113.out 0;have hfz15_1 := blk_frozen BK113.out 1;have hfz15_2 := blk_frozen BK113.out 2;have hfz15_3 := blk_frozen BK113.out 3;have hfz15_4 := blk_frozen BK113.out 4;have hfz15_5 := blk_frozen BK113.out 5) | ((with_reducible refine gate_callee (f := 21) rfl ?_);refine goesL_ (some 10) rfl rfl Try.func21 (by kernel_rfl) rfl #[.slice A0_3 l0_3.length c0_3] rfl (by (try simp only [List.map_toArray,List.map_cons,List.map_nil]);first | done | rfl | (simp only [List.length_drop,List.length_take];rfl)) ?_;(with_reducible refine (laws_toIntS.calls k _ _ l0_3 t119 _ ?side1 ?side2 A3.out).mono ?_);(case side1 => exact Kd.C_below HR0_3.out (by repeat (first | (with_reducible first | exact HB.out | apply below_alloc | apply pw_below_drewN | apply below_drew1 | refine below_set ?_ GE113.out | refine below_set ?_ GE114.out | refine below_set ?_ GE115.out) | exact HB.out)));(case side2 => exact HC0_3.out);rintro e w16 ⟨v120,rfl,ho0,hb⟩;refine ⟨_,rfl,?_⟩;have n0_ := Aside0.mk (Kd.R_lower ho0 (below_size (by repeat (first | (with_reducible first | exact HB.out | apply below_alloc | apply pw_below_drewN | apply below_drew1 | refine below_set ?_ GE113.out | refine below_set ?_ GE114.out | refine below_set ?_ GE115.out) | exact HB.out))));have n1_ := Aside0.mk (blk_below (g := gb113) (o := .cells #[.int .i64 a0_0,.int .i64 a0_1,.int .i64 a0_2,.slice A0_3 l0_3.length c0_3,.slice A0_4 l0_4.length c0_4,.slice A0_5 l0_5.length c0_5] 26 (0,0)) (by (with_reducible repeat (first | refine blk_drewN ?_ _ | refine blk_drew ?_ | refine blk_alloc ?_ _));refine blk_far ?_ NB113_115.out _;(with_reducible repeat (first | refine blk_drewN ?_ _ | refine blk_drew ?_ | refine blk_alloc ?_ _));refine blk_far ?_ NB113_115.out _;(with_reducible repeat (first | refine blk_drewN ?_ _ | refine blk_drew ?_ | refine blk_alloc ?_ _));refine blk_far ?_ NB113_115.out _;(with_reducible repeat (first | refine blk_drewN ?_ _ | refine blk_drew ?_ | refine blk_alloc ?_ _));exact BK113.out) hb);have n2_ := Aside0.mk (blk_below (g := gb114) (o := .cells #[.int .i64 0,.int .i64 0,.int .i64 0,.slice none 0 0,.slice none 0 0,.slice none 0 0] 34 (0,0)) (by (with_reducible repeat (first | refine blk_drewN ?_ _ | refine blk_drew ?_ | refine blk_alloc ?_ _));refine blk_far ?_ NB114_115.out _;(with_reducible repeat (first | refine blk_drewN ?_ _ | refine blk_drew ?_ | refine blk_alloc ?_ _));refine blk_far ?_ NB114_115.out _;(with_reducible repeat (first | refine blk_drewN ?_ _ | refine blk_drew ?_ | refine blk_alloc ?_ _));refine blk_far ?_ NB114_115.out _;(with_reducible repeat (first | refine blk_drewN ?_ _ | refine blk_drew ?_ | refine blk_alloc ?_ _));exact BK114.out) hb);have n3_ := Aside0.mk (blk_below (g := gb115) (o := .cells #[.int .i64 t116,.int .i64 t117,.int .i64 t118,.slice none 0 0,.slice none 0 0,.slice none 0 0] 34 (0,0)) (by (with_reducible repeat (first | refine blk_drewN ?_ _ | refine blk_drew ?_ | refine blk_alloc ?_ _));refine blk_put (cs := #[.int .i64 t116,.int .i64 t117,.int .i64 0,.slice none 0 0,.slice none 0 0,.slice none 0 0]) ?_ 2 _ rfl;(with_reducible repeat (first | refine blk_drewN ?_ _ | refine blk_drew ?_ | refine blk_alloc ?_ _));refine blk_put (cs := #[.int .i64 t116,.int .i64 0,.int .i64 0,.slice none 0 0,.slice none 0 0,.slice none 0 0]) ?_ 1 _ rfl;(with_reducible repeat (first | refine blk_drewN ?_ _ | refine blk_drew ?_ | refine blk_alloc ?_ _));refine blk_put (cs := #[.int .i64 0,.int .i64 0,.int .i64 0,.slice none 0 0,.slice none 0 0,.slice none 0 0]) ?_ 0 _ rfl;(with_reducible repeat (first | refine blk_drewN ?_ _ | refine blk_drew ?_ | refine blk_alloc ?_ _));exact BK115.out) hb);have n4_ := Aside0.mk (below_step (by repeat (first | (with_reducible first | exact HB.out | apply below_alloc | apply pw_below_drewN | apply below_drew1 | refine below_set ?_ GE113.out | refine below_set ?_ GE114.out | refine below_set ?_ GE115.out) | exact HB.out)) hb);clear BK113;clear BK114;clear BK115;clear HB;have HO121 := n0_;have BK113 := n1_;have BK114 := n2_;have BK115 := n3_;have HB := n4_;clear n0_ n1_ n2_ n3_ n4_;(try clear hb);(try clear hb2);(try clear hk);(try clear hi);(try clear ho0);obtain ⟨Ao17,co17,eo17⟩ := Kd.R_slice HO121.out;subst eo17;have hcz18_0 : w16.cell? ⟨gb115,0,none⟩ = some (.int .i64 t116) := (blk_cell BK115.out 0).trans rfl;have hcz18_1 : w16.cell? ⟨gb115,1,none⟩ = some (.int .i64 t117) := (blk_cell BK115.out 1).trans rfl;have hcz18_2 : w16.cell? ⟨gb115,2,none⟩ = some (.int .i64 t118) := (blk_cell BK115.out 2).trans rfl;have hcz18_3 : w16.cell? ⟨gb115,3,none⟩ = some (.slice none 0 0) := (blk_cell BK115.out 3).trans rfl;have hcz18_4 : w16.cell? ⟨gb115,4,none⟩ = some (.slice none 0 0) := (blk_cell BK115.out 4).trans rfl;have hcz18_5 : w16.cell? ⟨gb115,5,none⟩ = some (.slice none 0 0) := (blk_cell BK115.out 5).trans rfl;have hfz18_0 := blk_frozen BK115.out 0;have hfz18_1 := blk_frozen BK115.out 1;have hfz18_2 := blk_frozen BK115.out 2;have hfz18_3 := blk_frozen BK115.out 3;have hfz18_4 := blk_frozen BK115.out 4;have hfz18_5 := blk_frozen BK115.out 5;have hcz19_0 : w16.cell? ⟨gb113,0,none⟩ = some (.int .i64 a0_0) := (blk_cell BK113.out 0).trans rfl;have hcz19_1 : w16.cell? ⟨gb113,1,none⟩ = some (.int .i64 a0_1) := (blk_cell BK113.out 1).trans rfl;have hcz19_2 : w16.cell? ⟨gb113,2,none⟩ = some (.int .i64 a0_2) := (blk_cell BK113.out 2).trans rfl;have hcz19_3 : w16.cell? ⟨gb113,3,none⟩ = some (.slice A0_3 l0_3.length c0_3) := (blk_cell BK113.out 3).trans rfl;have hcz19_4 : w16.cell? ⟨gb113,4,none⟩ = some (.slice A0_4 l0_4.length c0_4) := (blk_cell BK113.out 4).trans rfl;have hcz19_5 : w16.cell? ⟨gb113,5,none⟩ = some (.slice A0_5 l0_5.length c0_5) := (blk_cell BK113.out 5).trans rfl;have hfz19_0 := blk_frozen BK113.out 0;have hfz19_1 := blk_frozen BK113.out 1;have hfz19_2 := blk_frozen BK113.out 2;have hfz19_3 := blk_frozen BK113.out 3;have hfz19_4 := blk_frozen BK113.out 4;have hfz19_5 := blk_frozen BK113.out 5) | ((with_reducible refine gate_callee (f := 21) rfl ?_);refine goesL_ (some 14) rfl rfl Try.func21 (by kernel_rfl) rfl #[.slice A0_4 l0_4.length c0_4] rfl (by (try simp only [List.map_toArray,List.map_cons,List.map_nil]);first | done | rfl | (simp only [List.length_drop,List.length_take];rfl)) ?_;(with_reducible refine (laws_toIntS.calls k _ _ l0_4 t122 _ ?side1 ?side2 A4.out).mono ?_);(case side1 => exact Kd.C_below HR0_4.out (by repeat (first | (with_reducible first | exact HB.out | apply below_alloc | apply pw_below_drewN | apply below_drew1 | refine below_set ?_ GE113.out | refine below_set ?_ GE114.out | refine below_set ?_ GE115.out) | exact HB.out)));(case side2 => exact HC0_4.out);rintro e w20 ⟨v123,rfl,ho0,hb⟩;refine ⟨_,rfl,?_⟩;have n0_ := Aside0.mk (Kd.R_elder' (by (with_reducible repeat (first | apply Kd.R_alloc | apply Kd.R_drewN | apply Kd.R_drew));exact (Kd.R_mono (Kd.R_far (p := ⟨gb115,3,none⟩) (Kd.R_types HO121.out BK115.out (by decide)) (fun _ hk => hk.2) (.slice Ao17 t119.length co17)) (fun _ h_ => h_.1))) (Kd.R_base ho0) hb);have n1_ := Aside0.mk (Kd.R_lower (Kd.R_new' ho0 (Kd.R_lt (by (with_reducible repeat (first | apply Kd.R_alloc | apply Kd.R_drewN | apply Kd.R_drew));exact (Kd.R_mono (Kd.R_far (p := ⟨gb115,3,none⟩) (Kd.R_types HO121.out BK115.out (by decide)) (fun _ hk => hk.2) (.slice Ao17 t119.length co17)) (fun _ h_ => h_.1))))) (below_size (by repeat (first | (with_reducible first | exact HB.out | apply below_alloc | apply pw_below_drewN | apply below_drew1 | refine below_set ?_ GE113.out | refine below_set ?_ GE114.out | refine below_set ?_ GE115.out) | exact HB.out))));have n2_ := Aside0.mk (blk_below (g := gb113) (o := .cells #[.int .i64 a0_0,.int .i64 a0_1,.int .i64 a0_2,.slice A0_3 l0_3.length c0_3,.slice A0_4 l0_4.length c0_4,.slice A0_5 l0_5.length c0_5] 26 (0,0)) (by (with_reducible repeat (first | refine blk_drewN ?_ _ | refine blk_drew ?_ | refine blk_alloc ?_ _));refine blk_far ?_ NB113_115.out _;(with_reducible repeat (first | refine blk_drewN ?_ _ | refine blk_drew ?_ | refine blk_alloc ?_ _));exact BK113.out) hb);have n3_ := Aside0.mk (blk_below (g := gb114) (o := .cells #[.int .i64 0,.int .i64 0,.int .i64 0,.slice none 0 0,.slice none 0 0,.slice none 0 0] 34 (0,0)) (by (with_reducible repeat (first | refine blk_drewN ?_ _ | refine blk_drew ?_ | refine blk_alloc ?_ _));refine blk_far ?_ NB114_115.out _;(with_reducible repeat (first | refine blk_drewN ?_ _ | refine blk_drew ?_ | refine blk_alloc ?_ _));exact BK114.out) hb);have n4_ := Aside0.mk (blk_below (g := gb115) (o := .cells #[.int .i64 t116,.int .i64 t117,.int .i64 t118,.slice Ao17 t119.length co17,.slice none 0 0,.slice none 0 0] 34 (0,0)) (by (with_reducible repeat (first | refine blk_drewN ?_ _ | refine blk_drew ?_ | refine blk_alloc ?_ _));refine blk_put (cs := #[.int .i64 t116,.int .i64 t117,.int .i64 t118,.slice none 0 0,.slice none 0 0,.slice none 0 0]) ?_ 3 _ rfl;(with_reducible repeat (first | refine blk_drewN ?_ _ | refine blk_drew ?_ | refine blk_alloc ?_ _));exact BK115.out) hb);have n5_ := Aside0.mk (below_step (by repeat (first | (with_reducible first | exact HB.out | apply below_alloc | apply pw_below_drewN | apply below_drew1 | refine below_set ?_ GE113.out | refine below_set ?_ GE114.out | refine below_set ?_ GE115.out) | exact HB.out)) hb);clear HO121;clear BK113;clear BK114;clear BK115;clear HB;have HO121 := n0_;have HO124 := n1_;have BK113 := n2_;have BK114 := n3_;have BK115 := n4_;have HB := n5_;clear n0_ n1_ n2_ n3_ n4_ n5_;(try clear hb);(try clear hb2);(try clear hk);(try clear hi);(try clear ho0);obtain ⟨Ao21,co21,eo21⟩ := Kd.R_slice HO124.out;subst eo21;have hcz22_0 : w20.cell? ⟨gb115,0,none⟩ = some (.int .i64 t116) := (blk_cell BK115.out 0).trans rfl;have hcz22_1 : w20.cell? ⟨gb115,1,none⟩ = some (.int .i64 t117) := (blk_cell BK115.out 1).trans rfl;have hcz22_2 : w20.cell? ⟨gb115,2,none⟩ = some (.int .i64 t118) := (blk_cell BK115.out 2).trans rfl;have hcz22_3 : w20.cell? ⟨gb115,3,none⟩ = some (.slice Ao17 t119.length co17) := (blk_cell BK115.out 3).trans rfl;have hcz22_4 : w20.cell? ⟨gb115,4,none⟩ = some (.slice none 0 0) := (blk_cell BK115.out 4).trans rfl;have hcz22_5 : w20.cell? ⟨gb115,5,none⟩ = some (.slice none 0 0) := (blk_cell BK115.out 5).trans rfl;have hfz22_0 := blk_frozen BK115.out 0;have hfz22_1 := blk_frozen BK115.out 1;have hfz22_2 := blk_frozen BK115.out 2;have hfz22_3 := blk_frozen BK115.out 3;have hfz22_4 := blk_frozen BK115.out 4;have hfz22_5 := blk_frozen BK115.out 5;have hcz23_0 : w20.cell? ⟨gb113,0,none⟩ = some (.int .i64 a0_0) := (blk_cell BK113.out 0).trans rfl;have hcz23_1 : w20.cell? ⟨gb113,1,none⟩ = some (.int .i64 a0_1) := (blk_cell BK113.out 1).trans rfl;have hcz23_2 : w20.cell? ⟨gb113,2,none⟩ = some (.int .i64 a0_2) := (blk_cell BK113.out 2).trans rfl;have hcz23_3 : w20.cell? ⟨gb113,3,none⟩ = some (.slice A0_3 l0_3.length c0_3) := (blk_cell BK113.out 3).trans rfl;have hcz23_4 : w20.cell? ⟨gb113,4,none⟩ = some (.slice A0_4 l0_4.length c0_4) := (blk_cell BK113.out 4).trans rfl;have hcz23_5 : w20.cell? ⟨gb113,5,none⟩ = some (.slice A0_5 l0_5.length c0_5) := (blk_cell BK113.out 5).trans rfl;have hfz23_0 := blk_frozen BK113.out 0;have hfz23_1 := blk_frozen BK113.out 1;have hfz23_2 := blk_frozen BK113.out 2;have hfz23_3 := blk_frozen BK113.out 3;have hfz23_4 := blk_frozen BK113.out 4;have hfz23_5 := blk_frozen BK113.out 5) | ((with_reducible refine gate_callee (f := 21) rfl ?_);refine goesL_ (some 18) rfl rfl Try.func21 (by kernel_rfl) rfl #[.slice A0_5 l0_5.length c0_5] rfl (by (try simp only [List.map_toArray,List.map_cons,List.map_nil]);first | done | rfl | (simp only [List.length_drop,List.length_take];rfl)) ?_;(with_reducible refine (laws_toIntS.calls k _ _ l0_5 t125 _ ?side1 ?side2 A5.out).mono ?_);(case side1 => exact Kd.C_below HR0_5.out (by repeat (first | (with_reducible first | exact HB.out | apply below_alloc | apply pw_below_drewN | apply below_drew1 | refine below_set ?_ GE113.out | refine below_set ?_ GE114.out | refine below_set ?_ GE115.out) | exact HB.out)));(case side2 => exact HC0_5.out);rintro e w24 ⟨v126,rfl,ho0,hb⟩;refine ⟨_,rfl,?_⟩;have n0_ := Aside0.mk (Kd.R_elder' (by (with_reducible repeat (first | apply Kd.R_alloc | apply Kd.R_drewN | apply Kd.R_drew));exact (Kd.R_mono (Kd.R_far (p := ⟨gb115,4,none⟩) (Kd.R_types HO121.out BK115.out (by decide)) (fun _ hk => hk.2) (.slice Ao21 t122.length co21)) (fun _ h_ => h_.1))) (Kd.R_base ho0) hb);have n1_ := Aside0.mk (Kd.R_elder' (by (with_reducible repeat (first | apply Kd.R_alloc | apply Kd.R_drewN | apply Kd.R_drew));exact (Kd.R_mono (Kd.R_far (p := ⟨gb115,4,none⟩) (Kd.R_types HO124.out BK115.out (by decide)) (fun _ hk => hk.2) (.slice Ao21 t122.length co21)) (fun _ h_ => h_.1))) (Kd.R_base ho0) hb);have n2_ := Aside0.mk (Kd.R_lower (Kd.R_new' (Kd.R_new' ho0 (Kd.R_lt (by (with_reducible repeat (first | apply Kd.R_alloc | apply Kd.R_drewN | apply Kd.R_drew));exact (Kd.R_mono (Kd.R_far (p := ⟨gb115,4,none⟩) (Kd.R_types HO121.out BK115.out (by decide)) (fun _ hk => hk.2) (.slice Ao21 t122.length co21)) (fun _ h_ => h_.1))))) (Kd.R_lt (by (with_reducible repeat (first | apply Kd.R_alloc | apply Kd.R_drewN | apply Kd.R_drew));exact (Kd.R_mono (Kd.R_far (p := ⟨gb115,4,none⟩) (Kd.R_types HO124.out BK115.out (by decide)) (fun _ hk => hk.2) (.slice Ao21 t122.length co21)) (fun _ h_ => h_.1))))) (below_size (by repeat (first | (with_reducible first | exact HB.out | apply below_alloc | apply pw_below_drewN | apply below_drew1 | refine below_set ?_ GE113.out | refine below_set ?_ GE114.out | refine below_set ?_ GE115.out) | exact HB.out))));have n3_ := Aside0.mk (blk_below (g := gb113) (o := .cells #[.int .i64 a0_0,.int .i64 a0_1,.int .i64 a0_2,.slice A0_3 l0_3.length c0_3,.slice A0_4 l0_4.length c0_4,.slice A0_5 l0_5.length c0_5] 26 (0,0)) (by (with_reducible repeat (first | refine blk_drewN ?_ _ | refine blk_drew ?_ | refine blk_alloc ?_ _));refine blk_far ?_ NB113_115.out _;(with_reducible repeat (first | refine blk_drewN ?_ _ | refine blk_drew ?_ | refine blk_alloc ?_ _));exact BK113.out) hb);have n4_ := Aside0.mk (blk_below (g := gb114) (o := .cells #[.int .i64 0,.int .i64 0,.int .i64 0,.slice none 0 0,.slice none 0 0,.slice none 0 0] 34 (0,0)) (by (with_reducible repeat (first | refine blk_drewN ?_ _ | refine blk_drew ?_ | refine blk_alloc ?_ _));refine blk_far ?_ NB114_115.out _;(with_reducible repeat (first | refine blk_drewN ?_ _ | refine blk_drew ?_ | refine blk_alloc ?_ _));exact BK114.out) hb);have n5_ := Aside0.mk (blk_below (g := gb115) (o := .cells #[.int .i64 t116,.int .i64 t117,.int .i64 t118,.slice Ao17 t119.length co17,.slice Ao21 t122.length co21,.slice none 0 0] 34 (0,0)) (by (with_reducible repeat (first | refine blk_drewN ?_ _ | refine blk_drew ?_ | refine blk_alloc ?_ _));refine blk_put (cs := #[.int .i64 t116,.int .i64 t117,.int .i64 t118,.slice Ao17 t119.length co17,.slice none 0 0,.slice none 0 0]) ?_ 4 _ rfl;(with_reducible repeat (first | refine blk_drewN ?_ _ | refine blk_drew ?_ | refine blk_alloc ?_ _));exact BK115.out) hb);have n6_ := Aside0.mk (below_step (by repeat (first | (with_reducible first | exact HB.out | apply below_alloc | apply pw_below_drewN | apply below_drew1 | refine below_set ?_ GE113.out | refine below_set ?_ GE114.out | refine below_set ?_ GE115.out) | exact HB.out)) hb);clear HO121;clear HO124;clear BK113;clear BK114;clear BK115;clear HB;have HO121 := n0_;have HO124 := n1_;have HO127 := n2_;have BK113 := n3_;have BK114 := n4_;have BK115 := n5_;have HB := n6_;clear n0_ n1_ n2_ n3_ n4_ n5_ n6_;(try clear hb);(try clear hb2);(try clear hk);(try clear hi);(try clear ho0);obtain ⟨Ao25,co25,eo25⟩ := Kd.R_slice HO127.out;subst eo25;have hcz26_0 : w24.cell? ⟨gb115,0,none⟩ = some (.int .i64 t116) := (blk_cell BK115.out 0).trans rfl;have hcz26_1 : w24.cell? ⟨gb115,1,none⟩ = some (.int .i64 t117) := (blk_cell BK115.out 1).trans rfl;have hcz26_2 : w24.cell? ⟨gb115,2,none⟩ = some (.int .i64 t118) := (blk_cell BK115.out 2).trans rfl;have hcz26_3 : w24.cell? ⟨gb115,3,none⟩ = some (.slice Ao17 t119.length co17) := (blk_cell BK115.out 3).trans rfl;have hcz26_4 : w24.cell? ⟨gb115,4,none⟩ = some (.slice Ao21 t122.length co21) := (blk_cell BK115.out 4).trans rfl;have hcz26_5 : w24.cell? ⟨gb115,5,none⟩ = some (.slice none 0 0) := (blk_cell BK115.out 5).trans rfl;have hfz26_0 := blk_frozen BK115.out 0;have hfz26_1 := blk_frozen BK115.out 1;have hfz26_2 := blk_frozen BK115.out 2;have hfz26_3 := blk_frozen BK115.out 3;have hfz26_4 := blk_frozen BK115.out 4;have hfz26_5 := blk_frozen BK115.out 5;have hcz27_0 : w24.cell? ⟨gb114,0,none⟩ = some (.int .i64 0) := (blk_cell BK114.out 0).trans rfl;have hcz27_1 : w24.cell? ⟨gb114,1,none⟩ = some (.int .i64 0) := (blk_cell BK114.out 1).trans rfl;have hcz27_2 : w24.cell? ⟨gb114,2,none⟩ = some (.int .i64 0) := (blk_cell BK114.out 2).trans rfl;have hcz27_3 : w24.cell? ⟨gb114,3,none⟩ = some (.slice none 0 0) := (blk_cell BK114.out 3).trans rfl;have hcz27_4 : w24.cell? ⟨gb114,4,none⟩ = some (.slice none 0 0) := (blk_cell BK114.out 4).trans rfl;have hcz27_5 : w24.cell? ⟨gb114,5,none⟩ = some (.slice none 0 0) := (blk_cell BK114.out 5).trans rfl;have hfz27_0 := blk_frozen BK114.out 0;have hfz27_1 := blk_frozen BK114.out 1;have hfz27_2 := blk_frozen BK114.out 2;have hfz27_3 := blk_frozen BK114.out 3;have hfz27_4 := blk_frozen BK114.out 4;have hfz27_5 := blk_frozen BK114.out 5))
 refine bodyPost_ret (results_cell_row rfl _ _ gb114 34 #[.int .i64 t116,.int .i64 t117,.int .i64 t118,.slice Ao17 t119.length co17,.slice Ao21 t122.length co21,.slice Ao25 t125.length co25] (0,0) _ rfl (by (with_reducible repeat (first | refine blk_drewN ?_ _ | refine blk_drew ?_ | refine blk_alloc ?_ _));refine blk_put (cs := #[.int .i64 t116,.int .i64 t117,.int .i64 t118,.slice Ao17 t119.length co17,.slice Ao21 t122.length co21,.slice none 0 0]) ?_ 5 _ rfl;(with_reducible repeat (first | refine blk_drewN ?_ _ | refine blk_drew ?_ | refine blk_alloc ?_ _));refine blk_put (cs := #[.int .i64 t116,.int .i64 t117,.int .i64 t118,.slice Ao17 t119.length co17,.slice none 0 0,.slice none 0 0]) ?_ 4 _ rfl;(with_reducible repeat (first | refine blk_drewN ?_ _ | refine blk_drew ?_ | refine blk_alloc ?_ _));refine blk_put (cs := #[.int .i64 t116,.int .i64 t117,.int .i64 t118,.slice none 0 0,.slice none 0 0,.slice none 0 0]) ?_ 3 _ rfl;(with_reducible repeat (first | refine blk_drewN ?_ _ | refine blk_drew ?_ | refine blk_alloc ?_ _));refine blk_put (cs := #[.int .i64 t116,.int .i64 t117,.int .i64 0,.slice none 0 0,.slice none 0 0,.slice none 0 0]) ?_ 2 _ rfl;(with_reducible repeat (first | refine blk_drewN ?_ _ | refine blk_drew ?_ | refine blk_alloc ?_ _));refine blk_put (cs := #[.int .i64 t116,.int .i64 0,.int .i64 0,.slice none 0 0,.slice none 0 0,.slice none 0 0]) ?_ 1 _ rfl;(with_reducible repeat (first | refine blk_drewN ?_ _ | refine blk_drew ?_ | refine blk_alloc ?_ _));refine blk_put (cs := #[.int .i64 0,.int .i64 0,.int .i64 0,.slice none 0 0,.slice none 0 0,.slice none 0 0]) ?_ 0 _ rfl;(with_reducible repeat (first | refine blk_drewN ?_ _ | refine blk_drew ?_ | refine blk_alloc ?_ _));refine blk_far ?_ NB114_115.out _;(with_reducible repeat (first | refine blk_drewN ?_ _ | refine blk_drew ?_ | refine blk_alloc ?_ _));exact BK114.out) Try.underlying34 rfl (by kernel_rfl)) rfl ?_
 exact ⟨_,_,_,by first | rfl | (simp [errW_none,errW_some] <;> rfl) | (simp [*,errW_none,errW_some] <;> rfl),by (with_reducible repeat (first | apply Kd.R_alloc | apply Kd.R_drewN | apply Kd.R_drew));exact Kd.R_mono (Kd.R_far (p := ⟨gb114,5,none⟩) (Kd.R_far (p := ⟨gb114,4,none⟩) (Kd.R_far (p := ⟨gb114,3,none⟩) (Kd.R_far (p := ⟨gb114,2,none⟩) (Kd.R_far (p := ⟨gb114,1,none⟩) (Kd.R_far (p := ⟨gb114,0,none⟩) (Kd.R_far (p := ⟨gb115,5,none⟩) (Kd.R_types (Kd.R_types HO121.out BK115.out (by decide)) BK114.out (by decide)) (fun _ hk => hk.1.2) (.slice Ao25 t125.length co25)) (fun _ hk => hk.2) (.int .i64 t116)) (fun _ hk => hk.2) (.int .i64 t117)) (fun _ hk => hk.2) (.int .i64 t118)) (fun _ hk => hk.2) (.slice Ao17 t119.length co17)) (fun _ hk => hk.2) (.slice Ao21 t122.length co21)) (fun _ hk => hk.2) (.slice Ao25 t125.length co25)) (fun _ hk => ⟨hk.1.1.1.2,hk.1.1.2⟩),by (with_reducible repeat (first | apply Kd.R_alloc | apply Kd.R_drewN | apply Kd.R_drew));exact Kd.R_mono (Kd.R_far (p := ⟨gb114,5,none⟩) (Kd.R_far (p := ⟨gb114,4,none⟩) (Kd.R_far (p := ⟨gb114,3,none⟩) (Kd.R_far (p := ⟨gb114,2,none⟩) (Kd.R_far (p := ⟨gb114,1,none⟩) (Kd.R_far (p := ⟨gb114,0,none⟩) (Kd.R_far (p := ⟨gb115,5,none⟩) (Kd.R_types (Kd.R_types HO124.out BK115.out (by decide)) BK114.out (by decide)) (fun _ hk => hk.1.2) (.slice Ao25 t125.length co25)) (fun _ hk => hk.2) (.int .i64 t116)) (fun _ hk => hk.2) (.int .i64 t117)) (fun _ hk => hk.2) (.int .i64 t118)) (fun _ hk => hk.2) (.slice Ao17 t119.length co17)) (fun _ hk => hk.2) (.slice Ao21 t122.length co21)) (fun _ hk => hk.2) (.slice Ao25 t125.length co25)) (fun _ hk => ⟨hk.1.1.1.2,hk.1.1.2⟩),by (with_reducible repeat (first | apply Kd.R_alloc | apply Kd.R_drewN | apply Kd.R_drew));exact Kd.R_mono (Kd.R_far (p := ⟨gb114,5,none⟩) (Kd.R_far (p := ⟨gb114,4,none⟩) (Kd.R_far (p := ⟨gb114,3,none⟩) (Kd.R_far (p := ⟨gb114,2,none⟩) (Kd.R_far (p := ⟨gb114,1,none⟩) (Kd.R_far (p := ⟨gb114,0,none⟩) (Kd.R_far (p := ⟨gb115,5,none⟩) (Kd.R_types (Kd.R_types HO127.out BK115.out (by decide)) BK114.out (by decide)) (fun _ hk => hk.1.2) (.slice Ao25 t125.length co25)) (fun _ hk => hk.2) (.int .i64 t116)) (fun _ hk => hk.2) (.int .i64 t117)) (fun _ hk => hk.2) (.int .i64 t118)) (fun _ hk => hk.2) (.slice Ao17 t119.length co17)) (fun _ hk => hk.2) (.slice Ao21 t122.length co21)) (fun _ hk => hk.2) (.slice Ao25 t125.length co25)) (fun _ hk => ⟨hk.1.1.1.2,hk.1.1.2⟩),by repeat (first | (with_reducible first | exact HB.out | apply below_alloc | apply pw_below_drewN | apply below_drew1 | refine below_set ?_ GE113.out | refine below_set ?_ GE114.out | refine below_set ?_ GE115.out) | exact HB.out)⟩
end Go.Proofs.Ytomfjhpiemipkaa.PFnExactRuleValues
end
section
namespace Go.Proofs.Ytomfjhpiemipkaa.PFnExactRuleValues
open Go.RowKit Go.Proofs.YtomfjhpiemipkaaW.PrintWords Go.Proofs.YtomfjhpiemipkaaW.PrintLast Go.Proofs.YtomfjhpiemipkaaW.PrintMore
attribute [local go_sem] max2_int min2_int max_two min_two max_three min_three max_four min_four   -- for this text's walks alone
set_option linter.unusedVariables false
set_option linter.unusedSimpArgs false
def impl_partNeeds.l0 : Nat → List (S139) → List Int → Int → Int → Option (List Int)
 | 0,_,_,_,_ => none
 | k + 1,x0,x5,x6,x7 => if x7 ≥ 0 then (if 0 ≤ x7 then (if x7 < (x5.length : Int) then ((impl_partSize.f k x0 x6).bind fun t330 => (impl_partNeeds.l0 k x0 (x5.set (x7 : Int).toNat x6) (wrap64 (x6 - t330)) (wrap64 (x7 - 1)))) else (none)) else (none)) else (some x5)
def impl_partNeeds.f (k : Nat) (l0 : List (S139)) (a1 : Int) : Option (List Int) := if 0 ≤ a1 then (if a1 < (l0.length : Int) then ((impl_needsOf.f k ((rd_T139 l0 a1).f0)).bind fun t325 => (if 0 ≤ t325 then (if (t325 : Int).toNat ≤ 35184372088832 then ((some (List.replicate (t325 : Int).toNat 0 : List Int)).bind fun y326 => (impl_partNeeds.l0 k l0 y326 (wrap64 (a1 - 1)) (wrap64 ((y326.length : Int) - 1)))) else (none)) else (none))) else (none)) else (none)
set_option maxHeartbeats 8000000 in
set_option maxRecDepth 100000 in
theorem impl_partNeeds.calls (k : Nat) (A0 : Option Addr) (c0 : Nat) (l0 : List (S139)) (a1 : Int) (r : List Int) (w : World) (hr0 : Kd.C k139 w A0 l0.length l0) (hc0 : l0.length ≤ c0) (h : impl_partNeeds.f k l0 a1 = some r) :
  Calls Try.prog 204 #[.slice A0 l0.length c0,.int .i64 a1] w fun e w' => ∃ v0_ : Value,e = .returned (v0_) ∧ Kd.R (Kd.int .i64) 3 w' w.heap.size (fun _ => True) v0_ r ∧ Below w.heap.size w w' := by
 have HR0 := Aside0.mk hr0
 have HC0 := Aside0.mk hc0
 clear hr0 hc0
 have HB := Aside0.mk (Below.refl w.heap.size w)
 have H : (if 0 ≤ a1 then (if a1 < (l0.length : Int) then ((impl_needsOf.f k ((rd_T139 l0 a1).f0)).bind fun t325 => (if 0 ≤ t325 then (if (t325 : Int).toNat ≤ 35184372088832 then ((some (List.replicate (t325 : Int).toNat 0 : List Int)).bind fun y326 => (impl_partNeeds.l0 k l0 y326 (wrap64 (a1 - 1)) (wrap64 ((y326.length : Int) - 1)))) else (none)) else (none))) else (none)) else (none)) = some r := h
 clear h
 by_cases c3 : 0 ≤ a1
 ·rw [if_pos c3] at H
  have c3b0 : decide (0 ≤ a1) = true := decide_eq_true c3
  clear c3
  by_cases c4 : a1 < (l0.length : Int)
  ·rw [if_pos c4] at H
   have c4b0 : decide (a1 < (l0.length : Int)) = true := decide_eq_true c4
   clear c4
   replace H := Option.bind_eq_some_iff.mp H
   obtain ⟨t325,A50,H⟩ := H
   replace H : (if 0 ≤ t325 then (if (t325 : Int).toNat ≤ 35184372088832 then ((some (List.replicate (t325 : Int).toNat 0 : List Int)).bind fun y326 => (impl_partNeeds.l0 k l0 y326 (wrap64 (a1 - 1)) (wrap64 ((y326.length : Int) - 1)))) else (none)) else (none)) = some r := H
   have A5 := Aside0.mk A50
   clear A50
   by_cases c6 : 0 ≤ t325
   ·rw [if_pos c6] at H
    have c6b0 := eq_true c6
    have c6b1 : decide (0 ≤ t325) = true := decide_eq_true c6
    clear c6
    by_cases c7 : (t325 : Int).toNat ≤ 35184372088832
    ·rw [if_pos c7] at H
     have c7b0 := eq_true c7
     have c7b1 : decide ((t325 : Int).toNat ≤ 35184372088832) = true := decide_eq_true c7
     clear c7
     obtain ⟨y326,hy326⟩ : ∃ y_ : List Int,y_ = (List.replicate (t325 : Int).toNat 0) := ⟨_,rfl⟩
     replace H : (impl_partNeeds.l0 k l0 y326 (wrap64 (a1 - 1)) (wrap64 ((y326.length : Int) - 1))) = some r := by first | (rw [hy326];with_reducible exact H) | (have H2_ := (Option.bind_some _ _).symm.trans H;rw [hy326];with_reducible exact H2_) | (have H2_ := (Option.bind_some _ _).symm.trans H;with_reducible exact H2_) | with_reducible exact H | (rw [hy326];exact H) | exact H
     have Ny326 := Aside0.mk hy326
     clear hy326
     have H' := Aside0.mk H
     clear H
     have p324 : 0 ≤ (a1 : Int) := of_decide_eq_true (by first | (with_reducible assumption) | assumption)
     have q324 : a1 < (l0.length : Int) := of_decide_eq_true (by first | (with_reducible assumption) | assumption)
     obtain ⟨ad324,e324,hx324_0,hx324_1⟩ := at_T139 HR0.out a1 p324 q324
     cases e324
     replace p324 := eq_true p324
     replace q324 := eq_true q324
     go_enter Try.func204,Try.ntmps204
     go_wp2_with (first | ((with_reducible refine gate_callee (f := 203) rfl ?_);refine goesL_ (some 13) rfl rfl Try.func203 (by kernel_rfl) rfl #[.int .i64 ((rd_T139 l0 a1).f0)] rfl (by (try simp only [List.map_toArray,List.map_cons,List.map_nil]);first | done | rfl | (simp only [List.length_drop,List.length_take];rfl)) ?_;(with_reducible refine (impl_needsOf.calls k ((rd_T139 l0 a1).f0) t325 _ A5.out).mono ?_);rintro e w' ⟨rfl,⟨nd,rfl⟩⟩;refine ⟨_,rfl,?_⟩) | ((with_reducible refine gate_dst (N := 14) rfl ?_);refine Kd.R_make (Kd.int .i64) _ 3 rfl (N := 14) rfl 24 _ _ rfl t325 rfl rfl Try.underlying24 (.int .i64 0) 8 info3 rfl (by decide) (by omega) 0 (ok := fun _ => True) (okp := fun _ => True) rfl (fun _ hk => hk) trivial (of_decide_eq_true (by first | (with_reducible assumption) | assumption)) (Nat.le_trans (Nat.mul_le_mul_right _ (of_decide_eq_true (by first | (with_reducible assumption) | assumption) : t325.toNat ≤ 35184372088832)) (by omega)) (Below.refl _ _) (Nat.le_refl _) ?_;intro v327 w8 ho9 hb hg_ hnew_;clear hg_ hnew_;(first | rw [← Ny326.out] at ho9 | (simp only [Int.reduceToNat] at ho9;rw [← Ny326.out] at ho9));have n0_ := Aside0.mk (Kd.R_lower ho9 (below_size (by repeat (first | (with_reducible first | exact HB.out | apply below_alloc | apply pw_below_drewN | apply below_drew1) | exact HB.out))));have n1_ := Aside0.mk (below_step (by repeat (first | (with_reducible first | exact HB.out | apply below_alloc | apply pw_below_drewN | apply below_drew1) | exact HB.out)) hb);clear HB;have HO328 := n0_;have HB := n1_;clear n0_ n1_;clear hb ho9;obtain ⟨Ao10,co10,eo10⟩ := Kd.R_slice HO328.out;subst eo10))
     go_loopg [6,7] k (fun kq v6 v7 w' => ∃ (x5_1 : List Int) (x6_1 : Int) (x7_1 : Int),v6 = .int .i64 x6_1 ∧ v7 = .int .i64 x7_1 ∧ Aside0 (impl_partNeeds.l0 kq l0 x5_1 x6_1 x7_1 = some r) ∧ Aside0 (kq ≤ k) ∧ Aside0 (Kd.R (Kd.int .i64) 3 w' w.heap.size (fun _ => True) (.slice Ao10 y326.length co10) x5_1) ∧ Aside0 (Below w.heap.size w w'))
     case atStart => exact ⟨(y326),(wrap64 (a1 - 1)),(wrap64 ((y326.length : Int) - 1)),(by first | rfl | (simp;done) | (simp [*];done)),(by first | rfl | (simp;done) | (simp [*];done)),H',⟨Nat.le_refl _⟩,⟨by (with_reducible repeat (first | apply Kd.R_alloc | apply Kd.R_drewN | apply Kd.R_drew));exact HO328.out⟩,⟨by repeat (first | (with_reducible first | exact HB.out | apply below_alloc | apply pw_below_drewN | apply below_drew1) | exact HB.out)⟩⟩
     case round =>
      clear H'
      try clear c2
      try clear p2
      try clear c3
      try clear c3b0
      try clear p3
      try clear q3
      try clear hx3
      try clear c4
      try clear c4b0
      try clear c6
      try clear c6b0
      try clear c6b1
      try clear p6
      try clear c7
      try clear c7b0
      try clear c7b1
      try clear hx324_0
      try clear hx324_1
      try clear p324
      try clear q324
      obtain ⟨x5_1,x6_1,x7_1,rfl,rfl,HA,HK1,HO_5,HB⟩ := hrel
      have hl5_1 := (Kd.R_reads' HO_5.out).1
      rw [hl5_1] at HO_5
      (try simp only [hl5_1])
      cases gk with
      | zero => exact absurd HA.out (by simp [impl_partNeeds.l0])
      | succ k1 =>
       have H := HA.out
       clear HA
       simp only [impl_partNeeds.l0] at H
       by_cases c11 : x7_1 ≥ 0
       ·rw [if_pos c11] at H
        have c11b0 : decide (0 ≤ x7_1) = true := decide_eq_true c11
        clear c11
        by_cases c12 : 0 ≤ x7_1
        ·rw [if_pos c12] at H
         have c12b0 : decide (0 ≤ x7_1) = true := decide_eq_true c12
         clear c12
         by_cases c13 : x7_1 < (x5_1.length : Int)
         ·rw [if_pos c13] at H
          have c13b0 : decide (x7_1 < (x5_1.length : Int)) = true := decide_eq_true c13
          clear c13
          obtain ⟨y329,hy329⟩ : ∃ y_ : List Int,y_ = (x5_1.set (x7_1 : Int).toNat x6_1) := ⟨_,rfl⟩
          replace H : ((impl_partSize.f k1 l0 x6_1).bind fun t330 => (impl_partNeeds.l0 k1 l0 y329 (wrap64 (x6_1 - t330)) (wrap64 (x7_1 - 1)))) = some r := by first | (rw [hy329];with_reducible exact H) | (have H2_ := (Option.bind_some _ _).symm.trans H;rw [hy329];with_reducible exact H2_) | (have H2_ := (Option.bind_some _ _).symm.trans H;with_reducible exact H2_) | with_reducible exact H | (rw [hy329];exact H) | exact H
          have Ny329 := Aside0.mk hy329
          clear hy329
          replace H := Option.bind_eq_some_iff.mp H
          obtain ⟨t330,A150,H⟩ := H
          replace H : (impl_partNeeds.l0 k1 l0 y329 (wrap64 (x6_1 - t330)) (wrap64 (x7_1 - 1))) = some r := H
          have A15 := Aside0.mk A150
          clear A150
          have H' := Aside0.mk H
          clear H
          have p14 : 0 ≤ (x7_1 : Int) := of_decide_eq_true (by first | (with_reducible assumption) | assumption)
          have q14 : (x7_1 : Int) < ((x5_1.length : Int) : Int) := of_decide_eq_true (by first | (with_reducible assumption) | assumption)
          obtain ⟨go14,co14,eo14,gb14,gl14,cl14,HG14⟩ := Kd.R_form HO_5.out (by omega)
          (first | cases eo14 | (injection eo14 with ea_ en_ ec_;(first | subst ea_ | (injection ea_ with ea_;subst ea_));subst ec_;clear en_))
          have GB14 := Aside0.mk gb14
          have GG14 := Aside0.mk HG14
          clear gb14 gl14 HG14
          obtain ⟨hx14_0,hf14_0⟩ := Kd.R_celln 0 HO_5.out (x7_1 : Int) p14 q14
          replace p14 := eq_true p14
          replace q14 := eq_true q14
          have HP16 := Kd.R_putg HO_5.out (x7_1 : Int) x6_1
          go_wp2_with (first | ((with_reducible refine gate_store (t := 3) (p := 27) rfl ?_);refine store_event (t := 3) (p := 27) (v := ?vo_w17) (w1 := (wr.setCell ⟨go14,(x7_1 : Int).toNat,none⟩ (.int .i64 x6_1))) ?hg ?ho ?hn ?hr ?_;(case ho => rfl);(case hg => rfl);(case hn => rfl);(case hr => first | (go_simp;done) | (go_simp;rfl));intro w17 hw;have hg : wr.grownBy w17 (some go14) := (by rw [hw];exact HP16.2);have hp_ : Kd.R (Kd.int .i64) 3 w17 w.heap.size (fun _ => True) (.slice (some ⟨go14,0,none⟩) x5_1.length co10) y329 := (by rw [hw,Ny329.out];exact HP16.1);clear HP16;have n0_ := Aside0.mk (hp_);have n1_ := Aside0.mk ((by rw [hw];exact below_set (HB.out) GB14.out : Below w.heap.size w w17));clear HO_5;clear HB;have HO_5 := n0_;have HB := n1_;clear n0_ n1_;clear hg hw hp_) | ((with_reducible refine gate_callee (f := 211) rfl ?_);refine goesL_ (some 31) rfl rfl Try.func211 (by kernel_rfl) rfl #[.slice (some ad324) l0.length c0,.int .i64 x6_1] rfl (by (try simp only [List.map_toArray,List.map_cons,List.map_nil]);first | done | rfl | (simp only [List.length_drop,List.length_take];rfl)) ?_;(with_reducible refine (impl_partSize.calls k1 _ _ l0 x6_1 t330 _ ?side1 ?side2 A15.out).mono ?_);(case side1 => repeat (first | exact (Kd.C_below HR0.out HB.out) | (with_reducible refine Kd.C_alloc ?_ _) | (with_reducible refine Kd.C_drewN ?_ _) | (with_reducible refine Kd.C_drew ?_)));(case side2 => exact HC0.out);rintro e w' ⟨rfl,⟨nd,rfl⟩⟩;refine ⟨_,rfl,?_⟩))
          (try simp only [← hl5_1])
          go_roundg k1
          case measure => have := HK1.out;omega
          case rel => exact ⟨(y329),(wrap64 (x6_1 - t330)),(wrap64 (x7_1 - 1)),(by first | rfl | (simp;done) | (simp [*];done)),(by first | rfl | (simp;done) | (simp [*];done)),H',⟨by have := HK1.out;omega⟩,⟨by (try simp only [hl5_1]);(with_reducible repeat (first | apply Kd.R_alloc | apply Kd.R_drewN | apply Kd.R_drew));exact HO_5.out⟩,⟨by repeat (first | (with_reducible first | exact HB.out | apply below_alloc | apply pw_below_drewN | apply below_drew1) | exact HB.out)⟩⟩
         ·rw [if_neg c13] at H
          exact absurd H (by simp)
        ·rw [if_neg c12] at H
         exact absurd H (by simp)
       ·rw [if_neg c11] at H
        have c11b0 : decide (0 ≤ x7_1) = false := decide_eq_false c11
        clear c11
        obtain rfl := Option.some.inj H
        go_wp2
        go_ret
        exact ⟨_,by first | rfl | (simp [errW_none,errW_some] <;> rfl) | (simp [*,errW_none,errW_some] <;> rfl),by (with_reducible repeat (first | apply Kd.R_alloc | apply Kd.R_drewN | apply Kd.R_drew));exact HO_5.out,by repeat (first | (with_reducible first | exact HB.out | apply below_alloc | apply pw_below_drewN | apply below_drew1) | exact HB.out)⟩
    ·rw [if_neg c7] at H
     exact absurd H (by simp)
   ·rw [if_neg c6] at H
    exact absurd H (by simp)
  ·rw [if_neg c4] at H
   exact absurd H (by simp)
 ·rw [if_neg c3] at H
  exact absurd H (by simp)
end Go.Proofs.Ytomfjhpiemipkaa.PFnExactRuleValues
end
section
namespace Go.Proofs.Ytomfjhpiemipkaa.PFnExactRuleValues
open Go.RowKit Go.Proofs.YtomfjhpiemipkaaW.PrintWords Go.Proofs.YtomfjhpiemipkaaW.PrintLast Go.Proofs.YtomfjhpiemipkaaW.PrintMore
attribute [local go_sem] max2_int min2_int max_two min_two max_three min_three max_four min_four   -- for this text's walks alone
set_option linter.unusedVariables false
set_option linter.unusedSimpArgs false
mutual
def impl_evalPart.j0 : Nat → List (S139) → List Int → List Int → Int → Int → Bool → Int → Int → Option (Int × Bool)
 | 0,_,_,_,_,_,_,_,_ => none
 | k + 1,x0,x2,x9,x10,x12,x59,x333000,x333001 => if x59 = true then (some (0,false)) else (if x333000 = 2 then ((impl_abs.f (wrap64 (x10 + x12))).bind fun t343 => (if t343 > 1000000000 then (some (0,false)) else (some (wrap64 (x10 + x12),true)))) else (if x333000 = 3 then ((impl_abs.f (wrap64 (x10 - x12))).bind fun t344 => (if t344 > 1000000000 then (some (0,false)) else (some (wrap64 (x10 - x12),true)))) else (if x333000 = 4 then ((impl_abs.f (wrap64 (x10 * x12))).bind fun t345 => (if t345 > 1000000000 then (some (0,false)) else (some (wrap64 (x10 * x12),true)))) else (if x333000 = 5 then (if x12 = 0 then (some (0,false)) else (if x12 < 0 then (impl_evalPart.j1 k (wrap64 (-x10)) (wrap64 (-x12))) else (impl_evalPart.j1 k x10 x12))) else (if x333000 = 6 then (if x10 < x12 then (impl_evalPart.j2 k x0 x2 x9 true) else (if x333000 = 7 then (if x10 = x12 then (impl_evalPart.j2 k x0 x2 x9 true) else (if x333000 = 8 then (impl_evalPart.j2 k x0 x2 x9 (decide (x10 > x12))) else (impl_evalPart.j2 k x0 x2 x9 false))) else (if x333000 = 8 then (impl_evalPart.j2 k x0 x2 x9 (decide (x10 > x12))) else (impl_evalPart.j2 k x0 x2 x9 false)))) else (if x333000 = 7 then (if x10 = x12 then (impl_evalPart.j2 k x0 x2 x9 true) else (if x333000 = 8 then (impl_evalPart.j2 k x0 x2 x9 (decide (x10 > x12))) else (impl_evalPart.j2 k x0 x2 x9 false))) else (if x333000 = 8 then (impl_evalPart.j2 k x0 x2 x9 (decide (x10 > x12))) else (impl_evalPart.j2 k x0 x2 x9 false))))))))
def impl_evalPart.j1 : Nat → Int → Int → Option (Int × Bool)
 | 0,_,_ => none
 | k + 1,x10,x12 => (impl_floorDiv.f x10 x12).bind fun t346 => ((impl_abs.f t346).bind fun t347 => (if t347 > 1000000000 then (some (0,false)) else (some (t346,true))))
def impl_evalPart.j2 : Nat → List (S139) → List Int → List Int → Bool → Option (Int × Bool)
 | 0,_,_,_,_ => none
 | k + 1,x0,x2,x9,x15 => if x15 = true then (if 2 < (x9.length : Int) then ((impl_evalPart.f k x0 (rd x9 2) x2).bind fun bt349 => (some (bt349.1,bt349.2))) else (none)) else (if 3 < (x9.length : Int) then ((impl_evalPart.f k x0 (rd x9 3) x2).bind fun bt352 => (some (bt352.1,bt352.2))) else (none))
def impl_evalPart.f : Nat → List (S139) → Int → List Int → Option (Int × Bool)
 | 0,_,_,_ => none
 | k + 1,l0,a1,l2 => if 0 ≤ a1 then (if a1 < (l0.length : Int) then (if ((rd_T139 l0 a1).f0) = 0 then (some ((rd_T139 l0 a1).f1,true)) else (if ((rd_T139 l0 a1).f0) = 1 then (if 0 ≤ ((rd_T139 l0 a1).f1) then (if ((rd_T139 l0 a1).f1) < (l2.length : Int) then (some (rd l2 ((rd_T139 l0 a1).f1),true)) else (none)) else (none)) else ((impl_partNeeds.f k l0 a1).bind fun t334 => (if 0 < (t334.length : Int) then ((impl_evalPart.f k l0 (rd t334 0) l2).bind fun bt338 => (if 1 < (t334.length : Int) then ((impl_evalPart.f k l0 (rd t334 1) l2).bind fun bt341 => (if bt338.2 = true then (impl_evalPart.j0 k l0 l2 t334 bt338.1 bt341.1 (!bt341.2) ((rd_T139 l0 a1).f0) ((rd_T139 l0 a1).f1)) else (impl_evalPart.j0 k l0 l2 t334 bt338.1 bt341.1 true ((rd_T139 l0 a1).f0) ((rd_T139 l0 a1).f1)))) else (none))) else (none))))) else (none)) else (none)
end
set_option maxHeartbeats 8000000 in
set_option maxRecDepth 100000 in
theorem impl_evalPart.calls (k : Nat) : ∀ (A0 : Option Addr) (c0 : Nat) (l0 : List (S139)) (a1 : Int) (A2 : Option Addr) (c2 : Nat) (l2 : List Int) (r1 : Int) (r2 : Bool) (w : World) (hr0 : Kd.C k139 w A0 l0.length l0) (hc0 : l0.length ≤ c0) (hr2 : Kd.C (Kd.int .i64) w A2 l2.length l2) (hc2 : l2.length ≤ c2) (h : impl_evalPart.f k l0 a1 l2 = some (r1,r2)),
  Calls Try.prog 182 #[.slice A0 l0.length c0,.int .i64 a1,.slice A2 l2.length c2] w fun e w' => e = .returned (.tuple #[.int .i64 r1,.bool r2]) ∧ Below w.heap.size w w' := by
 induction k using Nat.strongRecOn with
 | _ k ih =>
 intro A0 c0 l0 a1 A2 c2 l2 r1 r2 w hr0 hc0 hr2 hc2 h
 cases k with
 | zero => exact absurd h (by simp [impl_evalPart.f])
 | succ k =>
 simp only [impl_evalPart.f] at h
 have hu139 := Try.underlying139
 have HR0 := Aside0.mk hr0
 have HC0 := Aside0.mk hc0
 clear hr0 hc0
 have HR2 := Aside0.mk hr2
 have HC2 := Aside0.mk hc2
 clear hr2 hc2
 have HB := Aside0.mk (Below.refl w.heap.size w)
 have H : (if 0 ≤ a1 then (if a1 < (l0.length : Int) then (if ((rd_T139 l0 a1).f0) = 0 then (some ((rd_T139 l0 a1).f1,true)) else (if ((rd_T139 l0 a1).f0) = 1 then (if 0 ≤ ((rd_T139 l0 a1).f1) then (if ((rd_T139 l0 a1).f1) < (l2.length : Int) then (some (rd l2 ((rd_T139 l0 a1).f1),true)) else (none)) else (none)) else ((impl_partNeeds.f k l0 a1).bind fun t334 => (if 0 < (t334.length : Int) then ((impl_evalPart.f k l0 (rd t334 0) l2).bind fun bt338 => (if 1 < (t334.length : Int) then ((impl_evalPart.f k l0 (rd t334 1) l2).bind fun bt341 => (if bt338.2 = true then (impl_evalPart.j0 k l0 l2 t334 bt338.1 bt341.1 (!bt341.2) ((rd_T139 l0 a1).f0) ((rd_T139 l0 a1).f1)) else (impl_evalPart.j0 k l0 l2 t334 bt338.1 bt341.1 true ((rd_T139 l0 a1).f0) ((rd_T139 l0 a1).f1)))) else (none))) else (none))))) else (none)) else (none)) = some (r1,r2) := h
 clear h
 by_cases c4 : 0 ≤ a1
 ·rw [if_pos c4] at H
  have c4b0 : decide (0 ≤ a1) = true := decide_eq_true c4
  clear c4
  by_cases c5 : a1 < (l0.length : Int)
  ·rw [if_pos c5] at H
   have c5b0 : decide (a1 < (l0.length : Int)) = true := decide_eq_true c5
   clear c5
   by_cases c6 : ((rd_T139 l0 a1).f0) = 0
   ·rw [if_pos c6] at H
    have c6b0 : (((rd_T139 l0 a1).f0) == 0) = true := beq_iff_eq.mpr c6
    have c6b1 : (((rd_T139 l0 a1).f0) != 0) = false := bne_eq_false_iff_eq.mpr c6
    clear c6
    simp only [Option.some.injEq,Prod.mk.injEq] at H
    obtain ⟨rfl,rfl⟩ := H
    have p331 : 0 ≤ (a1 : Int) := of_decide_eq_true (by first | (with_reducible assumption) | assumption)
    have q331 : a1 < (l0.length : Int) := of_decide_eq_true (by first | (with_reducible assumption) | assumption)
    obtain ⟨ad331,e331,hx331_0,hx331_1⟩ := at_T139 HR0.out a1 p331 q331
    cases e331
    replace p331 := eq_true p331
    replace q331 := eq_true q331
    go_enter Try.func182,Try.ntmps182
    go_wp2_with (first | ((with_reducible refine gate_dst (N := 8) rfl ?_);refine box_event ?hg (N := 8) ?hd (cs := #[.int .i64 0,.int .i64 0]) (t := 139) ?hr ?_;(case hd => rfl);(case hg => rfl);(case hr => first | (go_simp;done) | (go_simp;rfl));intro gb332 hg w7 hbox hb;have n0_ := Aside0.mk (below_step (by repeat (first | (with_reducible first | exact HB.out | apply below_alloc | apply pw_below_drewN | apply below_drew1) | exact HB.out)) hb);have n1_ := Aside0.mk (hbox);have n2_ := Aside0.mk ((by rw [hg];exact (below_size (by repeat (first | (with_reducible first | exact HB.out | apply below_alloc | apply pw_below_drewN | apply below_drew1) | exact HB.out))) : w.heap.size ≤ gb332));have n3_ := Aside0.mk ((by rw [hg];exact (below_size (by repeat (first | (with_reducible first | exact HB.out | apply below_alloc | apply pw_below_drewN | apply below_drew1) | exact HB.out))) : w.heap.size ≤ gb332));clear HB;have HB := n0_;have BK332 := n1_;have GW332 := n2_;have GE332 := n3_;clear n0_ n1_ n2_ n3_;clear hb hbox hg;have hcz8_0 : w7.cell? ⟨gb332,0,none⟩ = some (.int .i64 0) := (blk_cell BK332.out 0).trans rfl;have hcz8_1 : w7.cell? ⟨gb332,1,none⟩ = some (.int .i64 0) := (blk_cell BK332.out 1).trans rfl;have hfz8_0 := blk_frozen BK332.out 0;have hfz8_1 := blk_frozen BK332.out 1))
    go_ret2
    exact ⟨by first | rfl | (simp [errW_none,errW_some] <;> rfl) | (simp [*,errW_none,errW_some] <;> rfl),by repeat (first | (with_reducible first | exact HB.out | apply below_alloc | apply pw_below_drewN | apply below_drew1 | refine below_set ?_ GE332.out) | exact HB.out)⟩
   ·rw [if_neg c6] at H
    have c6b0 : (((rd_T139 l0 a1).f0) == 0) = false := beq_eq_false_iff_ne.mpr c6
    have c6b1 : (((rd_T139 l0 a1).f0) != 0) = true := bne_iff_ne.mpr c6
    by_cases c9 : ((rd_T139 l0 a1).f0) = 1
    ·rw [if_pos c9] at H
     have c9b0 : (((rd_T139 l0 a1).f0) == 1) = true := beq_iff_eq.mpr c9
     have c9b1 : (((rd_T139 l0 a1).f0) != 1) = false := bne_eq_false_iff_eq.mpr c9
     clear c9
     by_cases c10 : 0 ≤ ((rd_T139 l0 a1).f1)
     ·rw [if_pos c10] at H
      have c10b0 : decide (0 ≤ ((rd_T139 l0 a1).f1)) = true := decide_eq_true c10
      clear c10
      by_cases c11 : ((rd_T139 l0 a1).f1) < (l2.length : Int)
      ·rw [if_pos c11] at H
       have c11b0 : decide (((rd_T139 l0 a1).f1) < (l2.length : Int)) = true := decide_eq_true c11
       clear c11
       simp only [Option.some.injEq,Prod.mk.injEq] at H
       obtain ⟨rfl,rfl⟩ := H
       have p331 : 0 ≤ (a1 : Int) := of_decide_eq_true (by first | (with_reducible assumption) | assumption)
       have q331 : a1 < (l0.length : Int) := of_decide_eq_true (by first | (with_reducible assumption) | assumption)
       obtain ⟨ad331,e331,hx331_0,hx331_1⟩ := at_T139 HR0.out a1 p331 q331
       cases e331
       replace p331 := eq_true p331
       replace q331 := eq_true q331
       go_enter Try.func182,Try.ntmps182
       go_wp2_with (first | ((with_reducible refine gate_dst (N := 8) rfl ?_);refine box_event ?hg (N := 8) ?hd (cs := #[.int .i64 0,.int .i64 0]) (t := 139) ?hr ?_;(case hd => rfl);(case hg => rfl);(case hr => first | (go_simp;done) | (go_simp;rfl));intro gb332 hg w12 hbox hb;have n0_ := Aside0.mk (below_step (by repeat (first | (with_reducible first | exact HB.out | apply below_alloc | apply pw_below_drewN | apply below_drew1) | exact HB.out)) hb);have n1_ := Aside0.mk (hbox);have n2_ := Aside0.mk ((by rw [hg];exact (below_size (by repeat (first | (with_reducible first | exact HB.out | apply below_alloc | apply pw_below_drewN | apply below_drew1) | exact HB.out))) : w.heap.size ≤ gb332));have n3_ := Aside0.mk ((by rw [hg];exact (below_size (by repeat (first | (with_reducible first | exact HB.out | apply below_alloc | apply pw_below_drewN | apply below_drew1) | exact HB.out))) : w.heap.size ≤ gb332));clear HB;have HB := n0_;have BK332 := n1_;have GW332 := n2_;have GE332 := n3_;clear n0_ n1_ n2_ n3_;clear hb hbox hg;have hcz13_0 : w12.cell? ⟨gb332,0,none⟩ = some (.int .i64 0) := (blk_cell BK332.out 0).trans rfl;have hcz13_1 : w12.cell? ⟨gb332,1,none⟩ = some (.int .i64 0) := (blk_cell BK332.out 1).trans rfl;have hfz13_0 := blk_frozen BK332.out 0;have hfz13_1 := blk_frozen BK332.out 1;have p333 : 0 ≤ (((rd_T139 l0 a1).f1) : Int) := of_decide_eq_true (by first | (with_reducible assumption) | assumption);have q333 : ((rd_T139 l0 a1).f1) < (l2.length : Int) := of_decide_eq_true (by first | (with_reducible assumption) | assumption);obtain ⟨ad333,e333,hx333_0⟩ := Kd.at_int HR2.out ((rd_T139 l0 a1).f1) p333 q333;cases e333;have hn333_0 : ad333.block ≠ gb332 := Nat.ne_of_lt (Nat.lt_of_lt_of_le (by have := World.block_lt_of_cell? _ _ hx333_0;first | rwa [add_block] at this | exact this) GW332.out);have hn333_1 : ad333.block ≠ gb332 := Nat.ne_of_lt (Nat.lt_of_lt_of_le (by have := World.block_lt_of_cell? _ _ hx333_0;first | rwa [add_block] at this | exact this) GW332.out);replace hx333_0 := (HB.out.cell (World.block_lt_of_cell? w _ hx333_0)).trans hx333_0;replace hx333_0 := (cell_far (p := ⟨gb332,0,none⟩) (by first | (rw [add_block];exact hn333_0) | (show (Addr.add _ _).block ≠ _;rw [add_block];exact hn333_0) | exact hn333_0) (.int .i64 ((rd_T139 l0 a1).f0))).trans hx333_0;replace hx333_0 := (cell_far (p := ⟨gb332,1,none⟩) (by first | (rw [add_block];exact hn333_1) | (show (Addr.add _ _).block ≠ _;rw [add_block];exact hn333_1) | exact hn333_1) (.int .i64 ((rd_T139 l0 a1).f1))).trans hx333_0;clear hn333_0;clear hn333_1;replace p333 := eq_true p333;replace q333 := eq_true q333))
       go_ret2
       exact ⟨by first | rfl | (simp [errW_none,errW_some] <;> rfl) | (simp [*,errW_none,errW_some] <;> rfl),by repeat (first | (with_reducible first | exact HB.out | apply below_alloc | apply pw_below_drewN | apply below_drew1 | refine below_set ?_ GE332.out) | exact HB.out)⟩
      ·rw [if_neg c11] at H
       exact absurd H (by simp)
     ·rw [if_neg c10] at H
      exact absurd H (by simp)
    ·rw [if_neg c9] at H
     have c9b0 : (((rd_T139 l0 a1).f0) == 1) = false := beq_eq_false_iff_ne.mpr c9
     have c9b1 : (((rd_T139 l0 a1).f0) != 1) = true := bne_iff_ne.mpr c9
     replace H := Option.bind_eq_some_iff.mp H
     obtain ⟨t334,A140,H⟩ := H
     replace H : (if 0 < (t334.length : Int) then ((impl_evalPart.f k l0 (rd t334 0) l2).bind fun bt338 => (if 1 < (t334.length : Int) then ((impl_evalPart.f k l0 (rd t334 1) l2).bind fun bt341 => (if bt338.2 = true then (impl_evalPart.j0 k l0 l2 t334 bt338.1 bt341.1 (!bt341.2) ((rd_T139 l0 a1).f0) ((rd_T139 l0 a1).f1)) else (impl_evalPart.j0 k l0 l2 t334 bt338.1 bt341.1 true ((rd_T139 l0 a1).f0) ((rd_T139 l0 a1).f1)))) else (none))) else (none)) = some (r1,r2) := H
     have A14 := Aside0.mk A140
     clear A140
     by_cases c15 : 0 < (t334.length : Int)
     ·rw [if_pos c15] at H
      have c15b0 : decide (0 < (t334.length : Int)) = true := decide_eq_true c15
      have c15b1 : decide (0 < t334.length) = true := decide_eq_true (by omega)
      clear c15
      replace H := Option.bind_eq_some_iff.mp H
      obtain ⟨⟨t338,t339⟩,A160,H⟩ := H
      replace H : (if 1 < (t334.length : Int) then ((impl_evalPart.f k l0 (rd t334 1) l2).bind fun bt341 => (if t339 = true then (impl_evalPart.j0 k l0 l2 t334 t338 bt341.1 (!bt341.2) ((rd_T139 l0 a1).f0) ((rd_T139 l0 a1).f1)) else (impl_evalPart.j0 k l0 l2 t334 t338 bt341.1 true ((rd_T139 l0 a1).f0) ((rd_T139 l0 a1).f1)))) else (none)) = some (r1,r2) := H
      have A16 := Aside0.mk A160
      clear A160
      by_cases c17 : 1 < (t334.length : Int)
      ·rw [if_pos c17] at H
       have c17b0 : decide (1 < (t334.length : Int)) = true := decide_eq_true c17
       have c17b1 : decide (1 < t334.length) = true := decide_eq_true (by omega)
       clear c17
       replace H := Option.bind_eq_some_iff.mp H
       obtain ⟨⟨t341,t342⟩,A180,H⟩ := H
       replace H : (if t339 = true then (impl_evalPart.j0 k l0 l2 t334 t338 t341 (!t342) ((rd_T139 l0 a1).f0) ((rd_T139 l0 a1).f1)) else (impl_evalPart.j0 k l0 l2 t334 t338 t341 true ((rd_T139 l0 a1).f0) ((rd_T139 l0 a1).f1))) = some (r1,r2) := H
       have A18 := Aside0.mk A180
       clear A180
       have HC19 := Aside0.mk H
       clear H
       have p331 : 0 ≤ (a1 : Int) := of_decide_eq_true (by first | (with_reducible assumption) | assumption)
       have q331 : a1 < (l0.length : Int) := of_decide_eq_true (by first | (with_reducible assumption) | assumption)
       obtain ⟨ad331,e331,hx331_0,hx331_1⟩ := at_T139 HR0.out a1 p331 q331
       cases e331
       replace p331 := eq_true p331
       replace q331 := eq_true q331
       go_enter Try.func182,Try.ntmps182
       go_upto_region 10 with (first | ((with_reducible refine gate_dst (N := 8) rfl ?_);refine box_event ?hg (N := 8) ?hd (cs := #[.int .i64 0,.int .i64 0]) (t := 139) ?hr ?_;(case hd => rfl);(case hg => rfl);(case hr => first | (go_simp;done) | (go_simp;rfl));intro gb332 hg w20 hbox hb;have n0_ := Aside0.mk (below_step (by repeat (first | (with_reducible first | exact HB.out | apply below_alloc | apply pw_below_drewN | apply below_drew1) | exact HB.out)) hb);have n1_ := Aside0.mk (hbox);have n2_ := Aside0.mk ((by rw [hg];exact (below_size (by repeat (first | (with_reducible first | exact HB.out | apply below_alloc | apply pw_below_drewN | apply below_drew1) | exact HB.out))) : w.heap.size ≤ gb332));have n3_ := Aside0.mk ((by rw [hg];exact (below_size (by repeat (first | (with_reducible first | exact HB.out | apply below_alloc | apply pw_below_drewN | apply below_drew1) | exact HB.out))) : w.heap.size ≤ gb332));clear HB;have HB := n0_;have BK332 := n1_;have GW332 := n2_;have GE332 := n3_;clear n0_ n1_ n2_ n3_;clear hb hbox hg;have hcz21_0 : w20.cell? ⟨gb332,0,none⟩ = some (.int .i64 0) := (blk_cell BK332.out 0).trans rfl;have hcz21_1 : w20.cell? ⟨gb332,1,none⟩ = some (.int .i64 0) := (blk_cell BK332.out 1).trans rfl;have hfz21_0 := blk_frozen BK332.out 0;have hfz21_1 := blk_frozen BK332.out 1) | ((with_reducible refine gate_callee (f := 204) rfl ?_);refine goesL_ (some 35) rfl rfl Try.func204 (by kernel_rfl) rfl #[.slice (some ad331) l0.length c0,.int .i64 a1] rfl (by (try simp only [List.map_toArray,List.map_cons,List.map_nil]);first | done | rfl | (simp only [List.length_drop,List.length_take];rfl)) ?_;(with_reducible refine (impl_partNeeds.calls k _ _ l0 a1 t334 _ ?side1 ?side2 A14.out).mono ?_);(case side1 => exact Kd.C_below HR0.out (by repeat (first | (with_reducible first | exact HB.out | apply below_alloc | apply pw_below_drewN | apply below_drew1 | refine below_set ?_ GE332.out) | exact HB.out)));(case side2 => exact HC0.out);rintro e w22 ⟨v335,rfl,ho0,hb⟩;refine ⟨_,rfl,?_⟩;have n0_ := Aside0.mk (Kd.R_lower ho0 (below_size (by repeat (first | (with_reducible first | exact HB.out | apply below_alloc | apply pw_below_drewN | apply below_drew1 | refine below_set ?_ GE332.out) | exact HB.out))));have n1_ := Aside0.mk (blk_below (g := gb332) (o := .cells #[.int .i64 ((rd_T139 l0 a1).f0),.int .i64 ((rd_T139 l0 a1).f1)] 139 (0,0)) (by (with_reducible repeat (first | refine blk_drewN ?_ _ | refine blk_drew ?_ | refine blk_alloc ?_ _));refine blk_put (cs := #[.int .i64 ((rd_T139 l0 a1).f0),.int .i64 0]) ?_ 1 _ rfl;(with_reducible repeat (first | refine blk_drewN ?_ _ | refine blk_drew ?_ | refine blk_alloc ?_ _));refine blk_put (cs := #[.int .i64 0,.int .i64 0]) ?_ 0 _ rfl;(with_reducible repeat (first | refine blk_drewN ?_ _ | refine blk_drew ?_ | refine blk_alloc ?_ _));exact BK332.out) hb);have n2_ := Aside0.mk (below_step (by repeat (first | (with_reducible first | exact HB.out | apply below_alloc | apply pw_below_drewN | apply below_drew1 | refine below_set ?_ GE332.out) | exact HB.out)) hb);clear BK332;clear HB;have HO336 := n0_;have BK332 := n1_;have HB := n2_;clear n0_ n1_ n2_;(try clear hb);(try clear hb2);(try clear hk);(try clear hi);(try clear ho0);obtain ⟨Ao23,co23,eo23⟩ := Kd.R_slice HO336.out;subst eo23;have p337 : 0 ≤ (0 : Int) := (by omega);have q337 : 0 < (t334.length : Int) := of_decide_eq_true (by first | (with_reducible assumption) | assumption);obtain ⟨ad337,e337,hx337_0⟩ := Kd.at_int (Kd.R_reads' HO336.out).2.2 0 p337 q337;cases e337;have qi337 : (0 < t334.length) = True := eq_true (by omega);(try rw [show ((0 : Int)).toNat = 0 from rfl] at hx337_0);(try rw [Addr.add_zero'] at hx337_0);replace p337 := eq_true p337;replace q337 := eq_true q337) | ((with_reducible refine gate_callee (f := 182) rfl ?_);refine goesL_ (some 42) rfl rfl Try.func182 (by kernel_rfl) rfl #[.slice (some ad331) l0.length c0,.int .i64 (rd t334 0),.slice A2 l2.length c2] rfl (by (try simp only [List.map_toArray,List.map_cons,List.map_nil]);first | done | rfl | (simp only [List.length_drop,List.length_take];rfl)) ?_;(with_reducible refine (ih k (by omega) _ _ l0 (rd t334 0) _ _ l2 t338 t339 _ ?side1 ?side2 ?side3 ?side4 A16.out).mono ?_);(case side1 => repeat (first | exact (Kd.C_below HR0.out HB.out) | (with_reducible refine Kd.C_alloc ?_ _) | (with_reducible refine Kd.C_drewN ?_ _) | (with_reducible refine Kd.C_drew ?_)));(case side2 => exact HC0.out);(case side3 => repeat (first | exact (Kd.C_below HR2.out HB.out) | (with_reducible refine Kd.C_alloc ?_ _) | (with_reducible refine Kd.C_drewN ?_ _) | (with_reducible refine Kd.C_drew ?_)));(case side4 => exact HC2.out);rintro e w24 ⟨rfl,hb⟩;refine ⟨_,rfl,?_⟩;have n0_ := Aside0.mk (Kd.R_below (by (with_reducible repeat (first | apply Kd.R_alloc | apply Kd.R_drewN | apply Kd.R_drew));exact HO336.out) hb);have n1_ := Aside0.mk (blk_below (g := gb332) (o := .cells #[.int .i64 ((rd_T139 l0 a1).f0),.int .i64 ((rd_T139 l0 a1).f1)] 139 (0,0)) (by (with_reducible repeat (first | refine blk_drewN ?_ _ | refine blk_drew ?_ | refine blk_alloc ?_ _));exact BK332.out) hb);have n2_ := Aside0.mk (below_step (by repeat (first | (with_reducible first | exact HB.out | apply below_alloc | apply pw_below_drewN | apply below_drew1 | refine below_set ?_ GE332.out) | exact HB.out)) hb);clear HO336;clear BK332;clear HB;have HO336 := n0_;have BK332 := n1_;have HB := n2_;clear n0_ n1_ n2_;(try clear hb);(try clear hb2);(try clear hk);(try clear hi);have p340 : 0 ≤ (1 : Int) := (by omega);have q340 : 1 < (t334.length : Int) := of_decide_eq_true (by first | (with_reducible assumption) | assumption);obtain ⟨ad340,e340,hx340_0⟩ := Kd.at_int (Kd.R_reads' HO336.out).2.2 1 p340 q340;obtain rfl : ad337 = ad340 := (by injection e340);(try simp only [show (1 : Int).toNat = 1 from rfl,Nat.reduceMul,Nat.reduceEqDiff,Go.Addr.add,↓reduceIte] at hx340_0);have qi340 : (1 < t334.length) = True := eq_true (by omega);(try rw [show ((1 : Int)).toNat = 1 from rfl] at hx340_0);replace p340 := eq_true p340;replace q340 := eq_true q340) | ((with_reducible refine gate_callee (f := 182) rfl ?_);refine goesL_ (some 51) rfl rfl Try.func182 (by kernel_rfl) rfl #[.slice (some ad331) l0.length c0,.int .i64 (rd t334 1),.slice A2 l2.length c2] rfl (by (try simp only [List.map_toArray,List.map_cons,List.map_nil]);first | done | rfl | (simp only [List.length_drop,List.length_take];rfl)) ?_;(with_reducible refine (ih k (by omega) _ _ l0 (rd t334 1) _ _ l2 t341 t342 _ ?side1 ?side2 ?side3 ?side4 A18.out).mono ?_);(case side1 => repeat (first | exact (Kd.C_below HR0.out HB.out) | (with_reducible refine Kd.C_alloc ?_ _) | (with_reducible refine Kd.C_drewN ?_ _) | (with_reducible refine Kd.C_drew ?_)));(case side2 => exact HC0.out);(case side3 => repeat (first | exact (Kd.C_below HR2.out HB.out) | (with_reducible refine Kd.C_alloc ?_ _) | (with_reducible refine Kd.C_drewN ?_ _) | (with_reducible refine Kd.C_drew ?_)));(case side4 => exact HC2.out);rintro e w25 ⟨rfl,hb⟩;refine ⟨_,rfl,?_⟩;have n0_ := Aside0.mk (Kd.R_below (by (with_reducible repeat (first | apply Kd.R_alloc | apply Kd.R_drewN | apply Kd.R_drew));exact HO336.out) hb);have n1_ := Aside0.mk (blk_below (g := gb332) (o := .cells #[.int .i64 ((rd_T139 l0 a1).f0),.int .i64 ((rd_T139 l0 a1).f1)] 139 (0,0)) (by (with_reducible repeat (first | refine blk_drewN ?_ _ | refine blk_drew ?_ | refine blk_alloc ?_ _));exact BK332.out) hb);have n2_ := Aside0.mk (below_step (by repeat (first | (with_reducible first | exact HB.out | apply below_alloc | apply pw_below_drewN | apply below_drew1 | refine below_set ?_ GE332.out) | exact HB.out)) hb);clear HO336;clear BK332;clear HB;have HO336 := n0_;have BK332 := n1_;have HB := n2_;clear n0_ n1_ n2_;(try clear hb);(try clear hb2);(try clear hk);(try clear hi)))
       (try simp only [Act.put,List.setIfInBounds_toArray,List.set_cons_zero,List.set_cons_succ])
       go_cut [59] (fun v59 wc => ∃ (kq : Nat) (x59_18 : Bool),v59 = .bool x59_18 ∧ Aside0 (impl_evalPart.j0 kq l0 l2 t334 t338 t341 x59_18 ((rd_T139 l0 a1).f0) ((rd_T139 l0 a1).f1) = some (r1,r2)) ∧ Aside0 (kq ≤ k) ∧ Aside0 (Kd.R (Kd.int .i64) 3 wc w.heap.size (fun _ => True) (.slice (some ad337) t334.length co23) t334) ∧ Aside0 (wc.heap[gb332]? = some (.cells #[.int .i64 ((rd_T139 l0 a1).f0),.int .i64 ((rd_T139 l0 a1).f1)] 139 (0,0))) ∧ Aside0 (Below w.heap.size w wc))
       case first =>
        have H := HC19.out
        clear HC19
        by_cases c26 : t339 = true
        ·subst c26
         have H1 : (impl_evalPart.j0 k l0 l2 t334 t338 t341 (!t342) ((rd_T139 l0 a1).f0) ((rd_T139 l0 a1).f1)) = some (r1,r2) := by rw [if_pos rfl] at H;exact H
         clear H
         have H := H1
         clear H1
         have H' := Aside0.mk H
         clear H
         go_wp2
         go_meet
         case rel => exact ⟨_,(!t342),(by first | rfl | (simp;done) | (simp [*];done)),H',⟨by first | omega | exact Nat.le_refl _⟩,⟨by (with_reducible repeat (first | apply Kd.R_alloc | apply Kd.R_drewN | apply Kd.R_drew));exact HO336.out⟩,⟨by (with_reducible repeat (first | refine blk_drewN ?_ _ | refine blk_drew ?_ | refine blk_alloc ?_ _));exact BK332.out⟩,⟨by repeat (first | (with_reducible first | exact HB.out | apply below_alloc | apply pw_below_drewN | apply below_drew1 | refine below_set ?_ GE332.out) | exact HB.out)⟩⟩
        ·replace c26 := Bool.eq_false_iff.mpr c26
         subst c26
         have H1 : (impl_evalPart.j0 k l0 l2 t334 t338 t341 true ((rd_T139 l0 a1).f0) ((rd_T139 l0 a1).f1)) = some (r1,r2) := by rw [if_neg (show ¬ (false = true) by decide)] at H;exact H
         clear H
         have H := H1
         clear H1
         have H' := Aside0.mk H
         clear H
         go_wp2
         go_meet
         case rel => exact ⟨_,(true),(by first | rfl | (simp;done) | (simp [*];done)),H',⟨by first | omega | exact Nat.le_refl _⟩,⟨by (with_reducible repeat (first | apply Kd.R_alloc | apply Kd.R_drewN | apply Kd.R_drew));exact HO336.out⟩,⟨by (with_reducible repeat (first | refine blk_drewN ?_ _ | refine blk_drew ?_ | refine blk_alloc ?_ _));exact BK332.out⟩,⟨by repeat (first | (with_reducible first | exact HB.out | apply below_alloc | apply pw_below_drewN | apply below_drew1 | refine below_set ?_ GE332.out) | exact HB.out)⟩⟩
       case rest =>
        clear HC19
        try clear c1
        try clear c2
        try clear p2
        try clear p3
        try clear q3
        try clear hx3
        try clear qi3
        try clear c4
        try clear c4b0
        try clear c5
        try clear c5b0
        try clear c6
        try clear c6b0
        try clear c6b1
        try clear c9
        try clear c9b0
        try clear c9b1
        try clear c10
        try clear c10b0
        try clear c11
        try clear c11b0
        try clear c15
        try clear c15b0
        try clear c15b1
        try clear c17
        try clear c17b0
        try clear c17b1
        try clear c18
        try clear c20
        try clear c26
        try clear hcz13_0
        try clear hcz13_1
        try clear hcz21_0
        try clear hcz21_1
        try clear hcz8_0
        try clear hcz8_1
        try clear hfz13_0
        try clear hfz13_1
        try clear hfz21_0
        try clear hfz21_1
        try clear hfz8_0
        try clear hfz8_1
        try clear hx331_0
        try clear hx331_1
        try clear hx333_0
        try clear hx337_0
        try clear hx340_0
        try clear p331
        try clear p333
        try clear p337
        try clear p340
        try clear q331
        try clear q333
        try clear q337
        try clear q340
        obtain ⟨kq,x59_18,rfl,HA,HJ18,HO_9,BK332,HB⟩ := hcut
        cases kq with
        | zero => exact absurd HA.out (by simp [impl_evalPart.j0])
        | succ kj18 =>
         have H := HA.out
         clear HA
         simp only [impl_evalPart.j0] at H
         by_cases c27 : x59_18 = true
         ·subst c27
          have H1 : (some (0,false)) = some (r1,r2) := by rw [if_pos rfl] at H;exact H
          clear H
          have H := H1
          clear H1
          simp only [Option.some.injEq,Prod.mk.injEq] at H
          obtain ⟨rfl,rfl⟩ := H
          go_wp2
          go_ret2
          exact ⟨by first | rfl | (simp [errW_none,errW_some] <;> rfl) | (simp [*,errW_none,errW_some] <;> rfl),by repeat (first | (with_reducible first | exact HB.out | apply below_alloc | apply pw_below_drewN | apply below_drew1 | refine below_set ?_ GE332.out) | exact HB.out)⟩
         ·replace c27 := Bool.eq_false_iff.mpr c27
          subst c27
          have H1 : (if ((rd_T139 l0 a1).f0) = 2 then ((impl_abs.f (wrap64 (t338 + t341))).bind fun t343 => (if t343 > 1000000000 then (some (0,false)) else (some (wrap64 (t338 + t341),true)))) else (if ((rd_T139 l0 a1).f0) = 3 then ((impl_abs.f (wrap64 (t338 - t341))).bind fun t344 => (if t344 > 1000000000 then (some (0,false)) else (some (wrap64 (t338 - t341),true)))) else (if ((rd_T139 l0 a1).f0) = 4 then ((impl_abs.f (wrap64 (t338 * t341))).bind fun t345 => (if t345 > 1000000000 then (some (0,false)) else (some (wrap64 (t338 * t341),true)))) else (if ((rd_T139 l0 a1).f0) = 5 then (if t341 = 0 then (some (0,false)) else (if t341 < 0 then (impl_evalPart.j1 kj18 (wrap64 (-t338)) (wrap64 (-t341))) else (impl_evalPart.j1 kj18 t338 t341))) else (if ((rd_T139 l0 a1).f0) = 6 then (if t338 < t341 then (impl_evalPart.j2 kj18 l0 l2 t334 true) else (if ((rd_T139 l0 a1).f0) = 7 then (if t338 = t341 then (impl_evalPart.j2 kj18 l0 l2 t334 true) else (if ((rd_T139 l0 a1).f0) = 8 then (impl_evalPart.j2 kj18 l0 l2 t334 (decide (t338 > t341))) else (impl_evalPart.j2 kj18 l0 l2 t334 false))) else (if ((rd_T139 l0 a1).f0) = 8 then (impl_evalPart.j2 kj18 l0 l2 t334 (decide (t338 > t341))) else (impl_evalPart.j2 kj18 l0 l2 t334 false)))) else (if ((rd_T139 l0 a1).f0) = 7 then (if t338 = t341 then (impl_evalPart.j2 kj18 l0 l2 t334 true) else (if ((rd_T139 l0 a1).f0) = 8 then (impl_evalPart.j2 kj18 l0 l2 t334 (decide (t338 > t341))) else (impl_evalPart.j2 kj18 l0 l2 t334 false))) else (if ((rd_T139 l0 a1).f0) = 8 then (impl_evalPart.j2 kj18 l0 l2 t334 (decide (t338 > t341))) else (impl_evalPart.j2 kj18 l0 l2 t334 false)))))))) = some (r1,r2) := by rw [if_neg (show ¬ (false = true) by decide)] at H;exact H
          clear H
          have H := H1
          clear H1
          by_cases c28 : ((rd_T139 l0 a1).f0) = 2
          ·rw [if_pos c28] at H
           have c28b0 : (((rd_T139 l0 a1).f0) == 2) = true := beq_iff_eq.mpr c28
           have c28b1 : (((rd_T139 l0 a1).f0) != 2) = false := bne_eq_false_iff_eq.mpr c28
           clear c28
           replace H := Option.bind_eq_some_iff.mp H
           obtain ⟨t343,A290,H⟩ := H
           replace H : (if t343 > 1000000000 then (some (0,false)) else (some (wrap64 (t338 + t341),true))) = some (r1,r2) := H
           have A29 := Aside0.mk A290
           clear A290
           by_cases c30 : t343 > 1000000000
           ·rw [if_pos c30] at H
            have c30b0 : decide (1000000000 < t343) = true := decide_eq_true c30
            clear c30
            simp only [Option.some.injEq,Prod.mk.injEq] at H
            obtain ⟨rfl,rfl⟩ := H
            have hcz31_0 : wc.cell? ⟨gb332,0,none⟩ = some (.int .i64 ((rd_T139 l0 a1).f0)) := (blk_cell BK332.out 0).trans rfl
            have hcz31_1 : wc.cell? ⟨gb332,1,none⟩ = some (.int .i64 ((rd_T139 l0 a1).f1)) := (blk_cell BK332.out 1).trans rfl
            have hfz31_0 := blk_frozen BK332.out 0
            have hfz31_1 := blk_frozen BK332.out 1
            go_wp2_with (first | ((with_reducible refine gate_callee (f := 167) rfl ?_);refine goesL_ (some 136) rfl rfl Try.func167 (by kernel_rfl) rfl #[.int .i64 (wrap64 (t338 + t341))] rfl (by (try simp only [List.map_toArray,List.map_cons,List.map_nil]);first | done | rfl | (simp only [List.length_drop,List.length_take];rfl)) ?_;(with_reducible refine (impl_abs.calls (wrap64 (t338 + t341)) t343 _ A29.out).mono ?_);rintro e w32 ⟨rfl,hb⟩;refine ⟨_,rfl,?_⟩;have n0_ := Aside0.mk (Kd.R_below (by (with_reducible repeat (first | apply Kd.R_alloc | apply Kd.R_drewN | apply Kd.R_drew));exact HO_9.out) hb);have n1_ := Aside0.mk (blk_below (g := gb332) (o := .cells #[.int .i64 ((rd_T139 l0 a1).f0),.int .i64 ((rd_T139 l0 a1).f1)] 139 (0,0)) (by (with_reducible repeat (first | refine blk_drewN ?_ _ | refine blk_drew ?_ | refine blk_alloc ?_ _));exact BK332.out) hb);have n2_ := Aside0.mk (below_step (by repeat (first | (with_reducible first | exact HB.out | apply below_alloc | apply pw_below_drewN | apply below_drew1 | refine below_set ?_ GE332.out) | exact HB.out)) hb);clear HO_9;clear BK332;clear HB;have HO_9 := n0_;have BK332 := n1_;have HB := n2_;clear n0_ n1_ n2_;(try clear hb);(try clear hb2);(try clear hk);(try clear hi)))
            go_ret2
            exact ⟨by first | rfl | (simp [errW_none,errW_some] <;> rfl) | (simp [*,errW_none,errW_some] <;> rfl),by repeat (first | (with_reducible first | exact HB.out | apply below_alloc | apply pw_below_drewN | apply below_drew1 | refine below_set ?_ GE332.out) | exact HB.out)⟩
           ·rw [if_neg c30] at H
            have c30b0 : decide (1000000000 < t343) = false := decide_eq_false c30
            clear c30
            simp only [Option.some.injEq,Prod.mk.injEq] at H
            obtain ⟨rfl,rfl⟩ := H
            have hcz33_0 : wc.cell? ⟨gb332,0,none⟩ = some (.int .i64 ((rd_T139 l0 a1).f0)) := (blk_cell BK332.out 0).trans rfl
            have hcz33_1 : wc.cell? ⟨gb332,1,none⟩ = some (.int .i64 ((rd_T139 l0 a1).f1)) := (blk_cell BK332.out 1).trans rfl
            have hfz33_0 := blk_frozen BK332.out 0
            have hfz33_1 := blk_frozen BK332.out 1
            go_wp2_with (first | ((with_reducible refine gate_callee (f := 167) rfl ?_);refine goesL_ (some 136) rfl rfl Try.func167 (by kernel_rfl) rfl #[.int .i64 (wrap64 (t338 + t341))] rfl (by (try simp only [List.map_toArray,List.map_cons,List.map_nil]);first | done | rfl | (simp only [List.length_drop,List.length_take];rfl)) ?_;(with_reducible refine (impl_abs.calls (wrap64 (t338 + t341)) t343 _ A29.out).mono ?_);rintro e w34 ⟨rfl,hb⟩;refine ⟨_,rfl,?_⟩;have n0_ := Aside0.mk (Kd.R_below (by (with_reducible repeat (first | apply Kd.R_alloc | apply Kd.R_drewN | apply Kd.R_drew));exact HO_9.out) hb);have n1_ := Aside0.mk (blk_below (g := gb332) (o := .cells #[.int .i64 ((rd_T139 l0 a1).f0),.int .i64 ((rd_T139 l0 a1).f1)] 139 (0,0)) (by (with_reducible repeat (first | refine blk_drewN ?_ _ | refine blk_drew ?_ | refine blk_alloc ?_ _));exact BK332.out) hb);have n2_ := Aside0.mk (below_step (by repeat (first | (with_reducible first | exact HB.out | apply below_alloc | apply pw_below_drewN | apply below_drew1 | refine below_set ?_ GE332.out) | exact HB.out)) hb);clear HO_9;clear BK332;clear HB;have HO_9 := n0_;have BK332 := n1_;have HB := n2_;clear n0_ n1_ n2_;(try clear hb);(try clear hb2);(try clear hk);(try clear hi)))
            go_ret2
            exact ⟨by first | rfl | (simp [errW_none,errW_some] <;> rfl) | (simp [*,errW_none,errW_some] <;> rfl),by repeat (first | (with_reducible first | exact HB.out | apply below_alloc | apply pw_below_drewN | apply below_drew1 | refine below_set ?_ GE332.out) | exact HB.out)⟩
          ·rw [if_neg c28] at H
           have c28b0 : (((rd_T139 l0 a1).f0) == 2) = false := beq_eq_false_iff_ne.mpr c28
           have c28b1 : (((rd_T139 l0 a1).f0) != 2) = true := bne_iff_ne.mpr c28
           by_cases c35 : ((rd_T139 l0 a1).f0) = 3
           ·rw [if_pos c35] at H
            have c35b0 : (((rd_T139 l0 a1).f0) == 3) = true := beq_iff_eq.mpr c35
            have c35b1 : (((rd_T139 l0 a1).f0) != 3) = false := bne_eq_false_iff_eq.mpr c35
            clear c35
            replace H := Option.bind_eq_some_iff.mp H
            obtain ⟨t344,A360,H⟩ := H
            replace H : (if t344 > 1000000000 then (some (0,false)) else (some (wrap64 (t338 - t341),true))) = some (r1,r2) := H
            have A36 := Aside0.mk A360
            clear A360
            by_cases c37 : t344 > 1000000000
            ·rw [if_pos c37] at H
             have c37b0 : decide (1000000000 < t344) = true := decide_eq_true c37
             clear c37
             simp only [Option.some.injEq,Prod.mk.injEq] at H
             obtain ⟨rfl,rfl⟩ := H
             have hcz38_0 : wc.cell? ⟨gb332,0,none⟩ = some (.int .i64 ((rd_T139 l0 a1).f0)) := (blk_cell BK332.out 0).trans rfl
             have hcz38_1 : wc.cell? ⟨gb332,1,none⟩ = some (.int .i64 ((rd_T139 l0 a1).f1)) := (blk_cell BK332.out 1).trans rfl
             have hfz38_0 := blk_frozen BK332.out 0
             have hfz38_1 := blk_frozen BK332.out 1
             go_wp2_with (first | ((with_reducible refine gate_callee (f := 167) rfl ?_);refine goesL_ (some 136) rfl rfl Try.func167 (by kernel_rfl) rfl #[.int .i64 (wrap64 (t338 - t341))] rfl (by (try simp only [List.map_toArray,List.map_cons,List.map_nil]);first | done | rfl | (simp only [List.length_drop,List.length_take];rfl)) ?_;(with_reducible refine (impl_abs.calls (wrap64 (t338 - t341)) t344 _ A36.out).mono ?_);rintro e w39 ⟨rfl,hb⟩;refine ⟨_,rfl,?_⟩;have n0_ := Aside0.mk (Kd.R_below (by (with_reducible repeat (first | apply Kd.R_alloc | apply Kd.R_drewN | apply Kd.R_drew));exact HO_9.out) hb);have n1_ := Aside0.mk (blk_below (g := gb332) (o := .cells #[.int .i64 ((rd_T139 l0 a1).f0),.int .i64 ((rd_T139 l0 a1).f1)] 139 (0,0)) (by (with_reducible repeat (first | refine blk_drewN ?_ _ | refine blk_drew ?_ | refine blk_alloc ?_ _));exact BK332.out) hb);have n2_ := Aside0.mk (below_step (by repeat (first | (with_reducible first | exact HB.out | apply below_alloc | apply pw_below_drewN | apply below_drew1 | refine below_set ?_ GE332.out) | exact HB.out)) hb);clear HO_9;clear BK332;clear HB;have HO_9 := n0_;have BK332 := n1_;have HB := n2_;clear n0_ n1_ n2_;(try clear hb);(try clear hb2);(try clear hk);(try clear hi)))
             go_ret2
             exact ⟨by first | rfl | (simp [errW_none,errW_some] <;> rfl) | (simp [*,errW_none,errW_some] <;> rfl),by repeat (first | (with_reducible first | exact HB.out | apply below_alloc | apply pw_below_drewN | apply below_drew1 | refine below_set ?_ GE332.out) | exact HB.out)⟩
            ·rw [if_neg c37] at H
             have c37b0 : decide (1000000000 < t344) = false := decide_eq_false c37
             clear c37
             simp only [Option.some.injEq,Prod.mk.injEq] at H
             obtain ⟨rfl,rfl⟩ := H
             have hcz40_0 : wc.cell? ⟨gb332,0,none⟩ = some (.int .i64 ((rd_T139 l0 a1).f0)) := (blk_cell BK332.out 0).trans rfl
             have hcz40_1 : wc.cell? ⟨gb332,1,none⟩ = some (.int .i64 ((rd_T139 l0 a1).f1)) := (blk_cell BK332.out 1).trans rfl
             have hfz40_0 := blk_frozen BK332.out 0
             have hfz40_1 := blk_frozen BK332.out 1
             go_wp2_with (first | ((with_reducible refine gate_callee (f := 167) rfl ?_);refine goesL_ (some 136) rfl rfl Try.func167 (by kernel_rfl) rfl #[.int .i64 (wrap64 (t338 - t341))] rfl (by (try simp only [List.map_toArray,List.map_cons,List.map_nil]);first | done | rfl | (simp only [List.length_drop,List.length_take];rfl)) ?_;(with_reducible refine (impl_abs.calls (wrap64 (t338 - t341)) t344 _ A36.out).mono ?_);rintro e w41 ⟨rfl,hb⟩;refine ⟨_,rfl,?_⟩;have n0_ := Aside0.mk (Kd.R_below (by (with_reducible repeat (first | apply Kd.R_alloc | apply Kd.R_drewN | apply Kd.R_drew));exact HO_9.out) hb);have n1_ := Aside0.mk (blk_below (g := gb332) (o := .cells #[.int .i64 ((rd_T139 l0 a1).f0),.int .i64 ((rd_T139 l0 a1).f1)] 139 (0,0)) (by (with_reducible repeat (first | refine blk_drewN ?_ _ | refine blk_drew ?_ | refine blk_alloc ?_ _));exact BK332.out) hb);have n2_ := Aside0.mk (below_step (by repeat (first | (with_reducible first | exact HB.out | apply below_alloc | apply pw_below_drewN | apply below_drew1 | refine below_set ?_ GE332.out) | exact HB.out)) hb);clear HO_9;clear BK332;clear HB;have HO_9 := n0_;have BK332 := n1_;have HB := n2_;clear n0_ n1_ n2_;(try clear hb);(try clear hb2);(try clear hk);(try clear hi)))
             go_ret2
             exact ⟨by first | rfl | (simp [errW_none,errW_some] <;> rfl) | (simp [*,errW_none,errW_some] <;> rfl),by repeat (first | (with_reducible first | exact HB.out | apply below_alloc | apply pw_below_drewN | apply below_drew1 | refine below_set ?_ GE332.out) | exact HB.out)⟩
           ·rw [if_neg c35] at H
            have c35b0 : (((rd_T139 l0 a1).f0) == 3) = false := beq_eq_false_iff_ne.mpr c35
            have c35b1 : (((rd_T139 l0 a1).f0) != 3) = true := bne_iff_ne.mpr c35
            by_cases c42 : ((rd_T139 l0 a1).f0) = 4
            ·rw [if_pos c42] at H
             have c42b0 : (((rd_T139 l0 a1).f0) == 4) = true := beq_iff_eq.mpr c42
             have c42b1 : (((rd_T139 l0 a1).f0) != 4) = false := bne_eq_false_iff_eq.mpr c42
             clear c42
             replace H := Option.bind_eq_some_iff.mp H
             obtain ⟨t345,A430,H⟩ := H
             replace H : (if t345 > 1000000000 then (some (0,false)) else (some (wrap64 (t338 * t341),true))) = some (r1,r2) := H
             have A43 := Aside0.mk A430
             clear A430
             by_cases c44 : t345 > 1000000000
             ·rw [if_pos c44] at H
              have c44b0 : decide (1000000000 < t345) = true := decide_eq_true c44
              clear c44
              simp only [Option.some.injEq,Prod.mk.injEq] at H
              obtain ⟨rfl,rfl⟩ := H
              have hcz45_0 : wc.cell? ⟨gb332,0,none⟩ = some (.int .i64 ((rd_T139 l0 a1).f0)) := (blk_cell BK332.out 0).trans rfl
              have hcz45_1 : wc.cell? ⟨gb332,1,none⟩ = some (.int .i64 ((rd_T139 l0 a1).f1)) := (blk_cell BK332.out 1).trans rfl
              have hfz45_0 := blk_frozen BK332.out 0
              have hfz45_1 := blk_frozen BK332.out 1
              go_wp2_with (first | ((with_reducible refine gate_callee (f := 167) rfl ?_);refine goesL_ (some 136) rfl rfl Try.func167 (by kernel_rfl) rfl #[.int .i64 (wrap64 (t338 * t341))] rfl (by (try simp only [List.map_toArray,List.map_cons,List.map_nil]);first | done | rfl | (simp only [List.length_drop,List.length_take];rfl)) ?_;(with_reducible refine (impl_abs.calls (wrap64 (t338 * t341)) t345 _ A43.out).mono ?_);rintro e w46 ⟨rfl,hb⟩;refine ⟨_,rfl,?_⟩;have n0_ := Aside0.mk (Kd.R_below (by (with_reducible repeat (first | apply Kd.R_alloc | apply Kd.R_drewN | apply Kd.R_drew));exact HO_9.out) hb);have n1_ := Aside0.mk (blk_below (g := gb332) (o := .cells #[.int .i64 ((rd_T139 l0 a1).f0),.int .i64 ((rd_T139 l0 a1).f1)] 139 (0,0)) (by (with_reducible repeat (first | refine blk_drewN ?_ _ | refine blk_drew ?_ | refine blk_alloc ?_ _));exact BK332.out) hb);have n2_ := Aside0.mk (below_step (by repeat (first | (with_reducible first | exact HB.out | apply below_alloc | apply pw_below_drewN | apply below_drew1 | refine below_set ?_ GE332.out) | exact HB.out)) hb);clear HO_9;clear BK332;clear HB;have HO_9 := n0_;have BK332 := n1_;have HB := n2_;clear n0_ n1_ n2_;(try clear hb);(try clear hb2);(try clear hk);(try clear hi)))
              go_ret2
              exact ⟨by first | rfl | (simp [errW_none,errW_some] <;> rfl) | (simp [*,errW_none,errW_some] <;> rfl),by repeat (first | (with_reducible first | exact HB.out | apply below_alloc | apply pw_below_drewN | apply below_drew1 | refine below_set ?_ GE332.out) | exact HB.out)⟩
             ·rw [if_neg c44] at H
              have c44b0 : decide (1000000000 < t345) = false := decide_eq_false c44
              clear c44
              simp only [Option.some.injEq,Prod.mk.injEq] at H
              obtain ⟨rfl,rfl⟩ := H
              have hcz47_0 : wc.cell? ⟨gb332,0,none⟩ = some (.int .i64 ((rd_T139 l0 a1).f0)) := (blk_cell BK332.out 0).trans rfl
              have hcz47_1 : wc.cell? ⟨gb332,1,none⟩ = some (.int .i64 ((rd_T139 l0 a1).f1)) := (blk_cell BK332.out 1).trans rfl
              have hfz47_0 := blk_frozen BK332.out 0
              have hfz47_1 := blk_frozen BK332.out 1
              go_wp2_with (first | ((with_reducible refine gate_callee (f := 167) rfl ?_);refine goesL_ (some 136) rfl rfl Try.func167 (by kernel_rfl) rfl #[.int .i64 (wrap64 (t338 * t341))] rfl (by (try simp only [List.map_toArray,List.map_cons,List.map_nil]);first | done | rfl | (simp only [List.length_drop,List.length_take];rfl)) ?_;(with_reducible refine (impl_abs.calls (wrap64 (t338 * t341)) t345 _ A43.out).mono ?_);rintro e w48 ⟨rfl,hb⟩;refine ⟨_,rfl,?_⟩;have n0_ := Aside0.mk (Kd.R_below (by (with_reducible repeat (first | apply Kd.R_alloc | apply Kd.R_drewN | apply Kd.R_drew));exact HO_9.out) hb);have n1_ := Aside0.mk (blk_below (g := gb332) (o := .cells #[.int .i64 ((rd_T139 l0 a1).f0),.int .i64 ((rd_T139 l0 a1).f1)] 139 (0,0)) (by (with_reducible repeat (first | refine blk_drewN ?_ _ | refine blk_drew ?_ | refine blk_alloc ?_ _));exact BK332.out) hb);have n2_ := Aside0.mk (below_step (by repeat (first | (with_reducible first | exact HB.out | apply below_alloc | apply pw_below_drewN | apply below_drew1 | refine below_set ?_ GE332.out) | exact HB.out)) hb);clear HO_9;clear BK332;clear HB;have HO_9 := n0_;have BK332 := n1_;have HB := n2_;clear n0_ n1_ n2_;(try clear hb);(try clear hb2);(try clear hk);(try clear hi)))
              go_ret2
              exact ⟨by first | rfl | (simp [errW_none,errW_some] <;> rfl) | (simp [*,errW_none,errW_some] <;> rfl),by repeat (first | (with_reducible first | exact HB.out | apply below_alloc | apply pw_below_drewN | apply below_drew1 | refine below_set ?_ GE332.out) | exact HB.out)⟩
            ·rw [if_neg c42] at H
             have c42b0 : (((rd_T139 l0 a1).f0) == 4) = false := beq_eq_false_iff_ne.mpr c42
             have c42b1 : (((rd_T139 l0 a1).f0) != 4) = true := bne_iff_ne.mpr c42
             by_cases c49 : ((rd_T139 l0 a1).f0) = 5
             ·rw [if_pos c49] at H
              have c49b0 : (((rd_T139 l0 a1).f0) == 5) = true := beq_iff_eq.mpr c49
              have c49b1 : (((rd_T139 l0 a1).f0) != 5) = false := bne_eq_false_iff_eq.mpr c49
              clear c49
              by_cases c50 : t341 = 0
              ·rw [if_pos c50] at H
               have c50b0 : (t341 == 0) = true := beq_iff_eq.mpr c50
               have c50b1 : (t341 != 0) = false := bne_eq_false_iff_eq.mpr c50
               clear c50
               simp only [Option.some.injEq,Prod.mk.injEq] at H
               obtain ⟨rfl,rfl⟩ := H
               have hcz51_0 : wc.cell? ⟨gb332,0,none⟩ = some (.int .i64 ((rd_T139 l0 a1).f0)) := (blk_cell BK332.out 0).trans rfl
               have hcz51_1 : wc.cell? ⟨gb332,1,none⟩ = some (.int .i64 ((rd_T139 l0 a1).f1)) := (blk_cell BK332.out 1).trans rfl
               have hfz51_0 := blk_frozen BK332.out 0
               have hfz51_1 := blk_frozen BK332.out 1
               go_wp2
               go_ret2
               exact ⟨by first | rfl | (simp [errW_none,errW_some] <;> rfl) | (simp [*,errW_none,errW_some] <;> rfl),by repeat (first | (with_reducible first | exact HB.out | apply below_alloc | apply pw_below_drewN | apply below_drew1 | refine below_set ?_ GE332.out) | exact HB.out)⟩
              ·rw [if_neg c50] at H
               have c50b0 : (t341 == 0) = false := beq_eq_false_iff_ne.mpr c50
               have c50b1 : (t341 != 0) = true := bne_iff_ne.mpr c50
               have HC52 := Aside0.mk H
               clear H
               have hcz53_0 : wc.cell? ⟨gb332,0,none⟩ = some (.int .i64 ((rd_T139 l0 a1).f0)) := (blk_cell BK332.out 0).trans rfl
               have hcz53_1 : wc.cell? ⟨gb332,1,none⟩ = some (.int .i64 ((rd_T139 l0 a1).f1)) := (blk_cell BK332.out 1).trans rfl
               have hfz53_0 := blk_frozen BK332.out 0
               have hfz53_1 := blk_frozen BK332.out 1
               go_upto_if 127 with (fail)
               go_cut [10,12] (fun v10 v12 wc => ∃ (kq : Nat) (x10_51 : Int) (x12_51 : Int),v10 = .int .i64 x10_51 ∧ v12 = .int .i64 x12_51 ∧ Aside0 (impl_evalPart.j1 kq x10_51 x12_51 = some (r1,r2)) ∧ Aside0 (kq ≤ kj18) ∧ Aside0 (wc.heap[gb332]? = some (.cells #[.int .i64 ((rd_T139 l0 a1).f0),.int .i64 ((rd_T139 l0 a1).f1)] 139 (0,0))) ∧ Aside0 (Below w.heap.size w wc))
               case first =>
                have H := HC52.out
                clear HC52
                by_cases c54 : t341 < 0
                ·rw [if_pos c54] at H
                 have c54b0 : decide (t341 < 0) = true := decide_eq_true c54
                 clear c54
                 (first | rw [c54b0] | (simp only [i64_w,i32_w];rw [c54b0]) | skip)
                 have H' := Aside0.mk H
                 clear H
                 go_wp2
                 go_meet
                 case rel => exact ⟨_,(wrap64 (-t338)),(wrap64 (-t341)),(by first | rfl | (simp;done) | (simp [*];done)),(by first | rfl | (simp;done) | (simp [*];done)),H',⟨by have := HJ18.out;first | omega | exact Nat.le_refl _⟩,⟨by (with_reducible repeat (first | refine blk_drewN ?_ _ | refine blk_drew ?_ | refine blk_alloc ?_ _));exact BK332.out⟩,⟨by repeat (first | (with_reducible first | exact HB.out | apply below_alloc | apply pw_below_drewN | apply below_drew1 | refine below_set ?_ GE332.out) | exact HB.out)⟩⟩
                ·rw [if_neg c54] at H
                 have c54b0 : decide (t341 < 0) = false := decide_eq_false c54
                 clear c54
                 (first | rw [c54b0] | (simp only [i64_w,i32_w];rw [c54b0]) | skip)
                 have H' := Aside0.mk H
                 clear H
                 go_wp2
                 go_meet
                 case rel => exact ⟨_,(t338),(t341),(by first | rfl | (simp;done) | (simp [*];done)),(by first | rfl | (simp;done) | (simp [*];done)),H',⟨by have := HJ18.out;first | omega | exact Nat.le_refl _⟩,⟨by (with_reducible repeat (first | refine blk_drewN ?_ _ | refine blk_drew ?_ | refine blk_alloc ?_ _));exact BK332.out⟩,⟨by repeat (first | (with_reducible first | exact HB.out | apply below_alloc | apply pw_below_drewN | apply below_drew1 | refine below_set ?_ GE332.out) | exact HB.out)⟩⟩
               case rest =>
                clear HC52
                try clear c1
                try clear c2
                try clear p2
                try clear c3
                try clear p3
                try clear q3
                try clear hx3
                try clear qi3
                try clear c4
                try clear c4b0
                try clear c5
                try clear c5b0
                try clear c6
                try clear c6b0
                try clear c6b1
                try clear p6
                try clear c9
                try clear c9b0
                try clear c9b1
                try clear c10
                try clear c10b0
                try clear c11
                try clear c11b0
                try clear c15
                try clear c15b0
                try clear c15b1
                try clear c16
                try clear c17
                try clear c17b0
                try clear c17b1
                try clear c18
                try clear c20
                try clear c26
                try clear c27
                try clear c28
                try clear c28b0
                try clear c28b1
                try clear c30
                try clear c30b0
                try clear p33
                try clear q33
                try clear hx33
                try clear qi33
                try clear p34
                try clear q34
                try clear hx34
                try clear qi34
                try clear c35
                try clear c35b0
                try clear c35b1
                try clear c37
                try clear c37b0
                try clear c42
                try clear c42b0
                try clear c42b1
                try clear c44
                try clear c44b0
                try clear c49
                try clear c49b0
                try clear c49b1
                try clear c50
                try clear c50b0
                try clear c50b1
                try clear c54
                try clear c54b0
                try clear hcz13_0
                try clear hcz13_1
                try clear hcz21_0
                try clear hcz21_1
                try clear hcz31_0
                try clear hcz31_1
                try clear hcz33_0
                try clear hcz33_1
                try clear hcz38_0
                try clear hcz38_1
                try clear hcz40_0
                try clear hcz40_1
                try clear hcz45_0
                try clear hcz45_1
                try clear hcz47_0
                try clear hcz47_1
                try clear hcz51_0
                try clear hcz51_1
                try clear hcz53_0
                try clear hcz53_1
                try clear hcz8_0
                try clear hcz8_1
                try clear hfz13_0
                try clear hfz13_1
                try clear hfz21_0
                try clear hfz21_1
                try clear hfz31_0
                try clear hfz31_1
                try clear hfz33_0
                try clear hfz33_1
                try clear hfz38_0
                try clear hfz38_1
                try clear hfz40_0
                try clear hfz40_1
                try clear hfz45_0
                try clear hfz45_1
                try clear hfz47_0
                try clear hfz47_1
                try clear hfz51_0
                try clear hfz51_1
                try clear hfz53_0
                try clear hfz53_1
                try clear hfz8_0
                try clear hfz8_1
                try clear hx331_0
                try clear hx331_1
                try clear hx333_0
                try clear hx337_0
                try clear hx340_0
                try clear p2
                try clear p3
                try clear p331
                try clear p333
                try clear p337
                try clear p340
                try clear q3
                try clear q331
                try clear q333
                try clear q337
                try clear q340
                obtain ⟨kq,x10_51,x12_51,rfl,rfl,HA,HJ51,BK332,HB⟩ := hcut
                cases kq with
                | zero => exact absurd HA.out (by simp [impl_evalPart.j1])
                | succ kj51 =>
                 have H := HA.out
                 clear HA
                 simp only [impl_evalPart.j1] at H
                 replace H := Option.bind_eq_some_iff.mp H
                 obtain ⟨t346,A550,H⟩ := H
                 replace H : ((impl_abs.f t346).bind fun t347 => (if t347 > 1000000000 then (some (0,false)) else (some (t346,true)))) = some (r1,r2) := H
                 have A55 := Aside0.mk A550
                 clear A550
                 replace H := Option.bind_eq_some_iff.mp H
                 obtain ⟨t347,A560,H⟩ := H
                 replace H : (if t347 > 1000000000 then (some (0,false)) else (some (t346,true))) = some (r1,r2) := H
                 have A56 := Aside0.mk A560
                 clear A560
                 by_cases c57 : t347 > 1000000000
                 ·rw [if_pos c57] at H
                  have c57b0 : decide (1000000000 < t347) = true := decide_eq_true c57
                  clear c57
                  simp only [Option.some.injEq,Prod.mk.injEq] at H
                  obtain ⟨rfl,rfl⟩ := H
                  go_wp2_with (first | ((with_reducible refine gate_callee (f := 166) rfl ?_);refine goesL_ (some 134) rfl rfl Try.func166 (by kernel_rfl) rfl #[.int .i64 x10_51,.int .i64 x12_51] rfl (by (try simp only [List.map_toArray,List.map_cons,List.map_nil]);first | done | rfl | (simp only [List.length_drop,List.length_take];rfl)) ?_;(with_reducible refine (impl_floorDiv.calls x10_51 x12_51 t346 _ A55.out).mono ?_);rintro e w' ⟨rfl,⟨nd,rfl⟩⟩;refine ⟨_,rfl,?_⟩) | ((with_reducible refine gate_callee (f := 167) rfl ?_);refine goesL_ (some 136) rfl rfl Try.func167 (by kernel_rfl) rfl #[.int .i64 t346] rfl (by (try simp only [List.map_toArray,List.map_cons,List.map_nil]);first | done | rfl | (simp only [List.length_drop,List.length_take];rfl)) ?_;(with_reducible refine (impl_abs.calls t346 t347 _ A56.out).mono ?_);rintro e w58 ⟨rfl,hb⟩;refine ⟨_,rfl,?_⟩;have n0_ := Aside0.mk (blk_below (g := gb332) (o := .cells #[.int .i64 ((rd_T139 l0 a1).f0),.int .i64 ((rd_T139 l0 a1).f1)] 139 (0,0)) (by (with_reducible repeat (first | refine blk_drewN ?_ _ | refine blk_drew ?_ | refine blk_alloc ?_ _));exact BK332.out) hb);have n1_ := Aside0.mk (below_step (by repeat (first | (with_reducible first | exact HB.out | apply below_alloc | apply pw_below_drewN | apply below_drew1 | refine below_set ?_ GE332.out) | exact HB.out)) hb);clear BK332;clear HB;have BK332 := n0_;have HB := n1_;clear n0_ n1_;(try clear hb);(try clear hb2);(try clear hk);(try clear hi)))
                  go_ret2
                  exact ⟨by first | rfl | (simp [errW_none,errW_some] <;> rfl) | (simp [*,errW_none,errW_some] <;> rfl),by repeat (first | (with_reducible first | exact HB.out | apply below_alloc | apply pw_below_drewN | apply below_drew1 | refine below_set ?_ GE332.out) | exact HB.out)⟩
                 ·rw [if_neg c57] at H
                  have c57b0 : decide (1000000000 < t347) = false := decide_eq_false c57
                  clear c57
                  simp only [Option.some.injEq,Prod.mk.injEq] at H
                  obtain ⟨rfl,rfl⟩ := H
                  go_wp2_with (first | ((with_reducible refine gate_callee (f := 166) rfl ?_);refine goesL_ (some 134) rfl rfl Try.func166 (by kernel_rfl) rfl #[.int .i64 x10_51,.int .i64 x12_51] rfl (by (try simp only [List.map_toArray,List.map_cons,List.map_nil]);first | done | rfl | (simp only [List.length_drop,List.length_take];rfl)) ?_;(with_reducible refine (impl_floorDiv.calls x10_51 x12_51 t346 _ A55.out).mono ?_);rintro e w' ⟨rfl,⟨nd,rfl⟩⟩;refine ⟨_,rfl,?_⟩) | ((with_reducible refine gate_callee (f := 167) rfl ?_);refine goesL_ (some 136) rfl rfl Try.func167 (by kernel_rfl) rfl #[.int .i64 t346] rfl (by (try simp only [List.map_toArray,List.map_cons,List.map_nil]);first | done | rfl | (simp only [List.length_drop,List.length_take];rfl)) ?_;(with_reducible refine (impl_abs.calls t346 t347 _ A56.out).mono ?_);rintro e w59 ⟨rfl,hb⟩;refine ⟨_,rfl,?_⟩;have n0_ := Aside0.mk (blk_below (g := gb332) (o := .cells #[.int .i64 ((rd_T139 l0 a1).f0),.int .i64 ((rd_T139 l0 a1).f1)] 139 (0,0)) (by (with_reducible repeat (first | refine blk_drewN ?_ _ | refine blk_drew ?_ | refine blk_alloc ?_ _));exact BK332.out) hb);have n1_ := Aside0.mk (below_step (by repeat (first | (with_reducible first | exact HB.out | apply below_alloc | apply pw_below_drewN | apply below_drew1 | refine below_set ?_ GE332.out) | exact HB.out)) hb);clear BK332;clear HB;have BK332 := n0_;have HB := n1_;clear n0_ n1_;(try clear hb);(try clear hb2);(try clear hk);(try clear hi)))
                  go_ret2
                  exact ⟨by first | rfl | (simp [errW_none,errW_some] <;> rfl) | (simp [*,errW_none,errW_some] <;> rfl),by repeat (first | (with_reducible first | exact HB.out | apply below_alloc | apply pw_below_drewN | apply below_drew1 | refine below_set ?_ GE332.out) | exact HB.out)⟩
             ·rw [if_neg c49] at H
              have c49b0 : (((rd_T139 l0 a1).f0) == 5) = false := beq_eq_false_iff_ne.mpr c49
              have c49b1 : (((rd_T139 l0 a1).f0) != 5) = true := bne_iff_ne.mpr c49
              have HC60 := Aside0.mk H
              clear H
              have hcz61_0 : wc.cell? ⟨gb332,0,none⟩ = some (.int .i64 ((rd_T139 l0 a1).f0)) := (blk_cell BK332.out 0).trans rfl
              have hcz61_1 : wc.cell? ⟨gb332,1,none⟩ = some (.int .i64 ((rd_T139 l0 a1).f1)) := (blk_cell BK332.out 1).trans rfl
              have hfz61_0 := blk_frozen BK332.out 0
              have hfz61_1 := blk_frozen BK332.out 1
              go_upto_region 14 with (fail)
              go_cut [15] (fun v15 wc => ∃ (kq : Nat) (x15_59 : Bool),v15 = .bool x15_59 ∧ Aside0 (impl_evalPart.j2 kq l0 l2 t334 x15_59 = some (r1,r2)) ∧ Aside0 (kq ≤ kj18) ∧ Aside0 (Kd.R (Kd.int .i64) 3 wc w.heap.size (fun _ => True) (.slice (some ad337) t334.length co23) t334) ∧ Aside0 (wc.heap[gb332]? = some (.cells #[.int .i64 ((rd_T139 l0 a1).f0),.int .i64 ((rd_T139 l0 a1).f1)] 139 (0,0))) ∧ Aside0 (Below w.heap.size w wc))
              case first =>
               have H := HC60.out
               clear HC60
               by_cases c62 : ((rd_T139 l0 a1).f0) = 6
               ·rw [if_pos c62] at H
                have c62b0 : (((rd_T139 l0 a1).f0) == 6) = true := beq_iff_eq.mpr c62
                have c62b1 : (((rd_T139 l0 a1).f0) != 6) = false := bne_eq_false_iff_eq.mpr c62
                clear c62
                (first | rw [c62b0] | (simp only [i64_w,i32_w];rw [c62b0]) | skip)
                by_cases c63 : t338 < t341
                ·rw [if_pos c63] at H
                 have c63b0 : decide (t338 < t341) = true := decide_eq_true c63
                 clear c63
                 have H' := Aside0.mk H
                 clear H
                 have hcz64_0 : wc.cell? ⟨gb332,0,none⟩ = some (.int .i64 ((rd_T139 l0 a1).f0)) := (blk_cell BK332.out 0).trans rfl
                 have hcz64_1 : wc.cell? ⟨gb332,1,none⟩ = some (.int .i64 ((rd_T139 l0 a1).f1)) := (blk_cell BK332.out 1).trans rfl
                 have hfz64_0 := blk_frozen BK332.out 0
                 have hfz64_1 := blk_frozen BK332.out 1
                 go_wp2
                 go_meet
                 case rel => exact ⟨_,(true),(by first | rfl | (simp;done) | (simp [*];done)),H',⟨by have := HJ18.out;first | omega | exact Nat.le_refl _⟩,⟨by (with_reducible repeat (first | apply Kd.R_alloc | apply Kd.R_drewN | apply Kd.R_drew));exact HO_9.out⟩,⟨by (with_reducible repeat (first | refine blk_drewN ?_ _ | refine blk_drew ?_ | refine blk_alloc ?_ _));exact BK332.out⟩,⟨by repeat (first | (with_reducible first | exact HB.out | apply below_alloc | apply pw_below_drewN | apply below_drew1 | refine below_set ?_ GE332.out) | exact HB.out)⟩⟩
                ·rw [if_neg c63] at H
                 have c63b0 : decide (t338 < t341) = false := decide_eq_false c63
                 clear c63
                 by_cases c65 : ((rd_T139 l0 a1).f0) = 7
                 ·rw [if_pos c65] at H
                  have c65b0 : (((rd_T139 l0 a1).f0) == 7) = true := beq_iff_eq.mpr c65
                  have c65b1 : (((rd_T139 l0 a1).f0) != 7) = false := bne_eq_false_iff_eq.mpr c65
                  clear c65
                  by_cases c66 : t338 = t341
                  ·rw [if_pos c66] at H
                   have c66b0 : (t338 == t341) = true := beq_iff_eq.mpr c66
                   have c66b1 : (t338 != t341) = false := bne_eq_false_iff_eq.mpr c66
                   clear c66
                   have H' := Aside0.mk H
                   clear H
                   have hcz67_0 : wc.cell? ⟨gb332,0,none⟩ = some (.int .i64 ((rd_T139 l0 a1).f0)) := (blk_cell BK332.out 0).trans rfl
                   have hcz67_1 : wc.cell? ⟨gb332,1,none⟩ = some (.int .i64 ((rd_T139 l0 a1).f1)) := (blk_cell BK332.out 1).trans rfl
                   have hfz67_0 := blk_frozen BK332.out 0
                   have hfz67_1 := blk_frozen BK332.out 1
                   go_wp2
                   go_meet
                   case rel => exact ⟨_,(true),(by first | rfl | (simp;done) | (simp [*];done)),H',⟨by have := HJ18.out;first | omega | exact Nat.le_refl _⟩,⟨by (with_reducible repeat (first | apply Kd.R_alloc | apply Kd.R_drewN | apply Kd.R_drew));exact HO_9.out⟩,⟨by (with_reducible repeat (first | refine blk_drewN ?_ _ | refine blk_drew ?_ | refine blk_alloc ?_ _));exact BK332.out⟩,⟨by repeat (first | (with_reducible first | exact HB.out | apply below_alloc | apply pw_below_drewN | apply below_drew1 | refine below_set ?_ GE332.out) | exact HB.out)⟩⟩
                  ·rw [if_neg c66] at H
                   have c66b0 : (t338 == t341) = false := beq_eq_false_iff_ne.mpr c66
                   have c66b1 : (t338 != t341) = true := bne_iff_ne.mpr c66
                   by_cases c68 : ((rd_T139 l0 a1).f0) = 8
                   ·rw [if_pos c68] at H
                    have c68b0 : (((rd_T139 l0 a1).f0) == 8) = true := beq_iff_eq.mpr c68
                    have c68b1 : (((rd_T139 l0 a1).f0) != 8) = false := bne_eq_false_iff_eq.mpr c68
                    clear c68
                    have H' := Aside0.mk H
                    clear H
                    have hcz69_0 : wc.cell? ⟨gb332,0,none⟩ = some (.int .i64 ((rd_T139 l0 a1).f0)) := (blk_cell BK332.out 0).trans rfl
                    have hcz69_1 : wc.cell? ⟨gb332,1,none⟩ = some (.int .i64 ((rd_T139 l0 a1).f1)) := (blk_cell BK332.out 1).trans rfl
                    have hfz69_0 := blk_frozen BK332.out 0
                    have hfz69_1 := blk_frozen BK332.out 1
                    go_wp2
                    go_meet
                    case rel => exact ⟨_,(decide (t338 > t341)),(by first | rfl | (simp;done) | (simp [*];done)),H',⟨by have := HJ18.out;first | omega | exact Nat.le_refl _⟩,⟨by (with_reducible repeat (first | apply Kd.R_alloc | apply Kd.R_drewN | apply Kd.R_drew));exact HO_9.out⟩,⟨by (with_reducible repeat (first | refine blk_drewN ?_ _ | refine blk_drew ?_ | refine blk_alloc ?_ _));exact BK332.out⟩,⟨by repeat (first | (with_reducible first | exact HB.out | apply below_alloc | apply pw_below_drewN | apply below_drew1 | refine below_set ?_ GE332.out) | exact HB.out)⟩⟩
                   ·rw [if_neg c68] at H
                    have c68b0 : (((rd_T139 l0 a1).f0) == 8) = false := beq_eq_false_iff_ne.mpr c68
                    have c68b1 : (((rd_T139 l0 a1).f0) != 8) = true := bne_iff_ne.mpr c68
                    have H' := Aside0.mk H
                    clear H
                    have hcz70_0 : wc.cell? ⟨gb332,0,none⟩ = some (.int .i64 ((rd_T139 l0 a1).f0)) := (blk_cell BK332.out 0).trans rfl
                    have hcz70_1 : wc.cell? ⟨gb332,1,none⟩ = some (.int .i64 ((rd_T139 l0 a1).f1)) := (blk_cell BK332.out 1).trans rfl
                    have hfz70_0 := blk_frozen BK332.out 0
                    have hfz70_1 := blk_frozen BK332.out 1
                    go_wp2
                    go_meet
                    case rel => exact ⟨_,(false),(by first | rfl | (simp;done) | (simp [*];done)),H',⟨by have := HJ18.out;first | omega | exact Nat.le_refl _⟩,⟨by (with_reducible repeat (first | apply Kd.R_alloc | apply Kd.R_drewN | apply Kd.R_drew));exact HO_9.out⟩,⟨by (with_reducible repeat (first | refine blk_drewN ?_ _ | refine blk_drew ?_ | refine blk_alloc ?_ _));exact BK332.out⟩,⟨by repeat (first | (with_reducible first | exact HB.out | apply below_alloc | apply pw_below_drewN | apply below_drew1 | refine below_set ?_ GE332.out) | exact HB.out)⟩⟩
                 ·rw [if_neg c65] at H
                  have c65b0 : (((rd_T139 l0 a1).f0) == 7) = false := beq_eq_false_iff_ne.mpr c65
                  have c65b1 : (((rd_T139 l0 a1).f0) != 7) = true := bne_iff_ne.mpr c65
                  by_cases c71 : ((rd_T139 l0 a1).f0) = 8
                  ·rw [if_pos c71] at H
                   have c71b0 : (((rd_T139 l0 a1).f0) == 8) = true := beq_iff_eq.mpr c71
                   have c71b1 : (((rd_T139 l0 a1).f0) != 8) = false := bne_eq_false_iff_eq.mpr c71
                   clear c71
                   have H' := Aside0.mk H
                   clear H
                   have hcz72_0 : wc.cell? ⟨gb332,0,none⟩ = some (.int .i64 ((rd_T139 l0 a1).f0)) := (blk_cell BK332.out 0).trans rfl
                   have hcz72_1 : wc.cell? ⟨gb332,1,none⟩ = some (.int .i64 ((rd_T139 l0 a1).f1)) := (blk_cell BK332.out 1).trans rfl
                   have hfz72_0 := blk_frozen BK332.out 0
                   have hfz72_1 := blk_frozen BK332.out 1
                   go_wp2
                   go_meet
                   case rel => exact ⟨_,(decide (t338 > t341)),(by first | rfl | (simp;done) | (simp [*];done)),H',⟨by have := HJ18.out;first | omega | exact Nat.le_refl _⟩,⟨by (with_reducible repeat (first | apply Kd.R_alloc | apply Kd.R_drewN | apply Kd.R_drew));exact HO_9.out⟩,⟨by (with_reducible repeat (first | refine blk_drewN ?_ _ | refine blk_drew ?_ | refine blk_alloc ?_ _));exact BK332.out⟩,⟨by repeat (first | (with_reducible first | exact HB.out | apply below_alloc | apply pw_below_drewN | apply below_drew1 | refine below_set ?_ GE332.out) | exact HB.out)⟩⟩
                  ·rw [if_neg c71] at H
                   have c71b0 : (((rd_T139 l0 a1).f0) == 8) = false := beq_eq_false_iff_ne.mpr c71
                   have c71b1 : (((rd_T139 l0 a1).f0) != 8) = true := bne_iff_ne.mpr c71
                   have H' := Aside0.mk H
                   clear H
                   have hcz73_0 : wc.cell? ⟨gb332,0,none⟩ = some (.int .i64 ((rd_T139 l0 a1).f0)) := (blk_cell BK332.out 0).trans rfl
                   have hcz73_1 : wc.cell? ⟨gb332,1,none⟩ = some (.int .i64 ((rd_T139 l0 a1).f1)) := (blk_cell BK332.out 1).trans rfl
                   have hfz73_0 := blk_frozen BK332.out 0
                   have hfz73_1 := blk_frozen BK332.out 1
                   go_wp2
                   go_meet
                   case rel => exact ⟨_,(false),(by first | rfl | (simp;done) | (simp [*];done)),H',⟨by have := HJ18.out;first | omega | exact Nat.le_refl _⟩,⟨by (with_reducible repeat (first | apply Kd.R_alloc | apply Kd.R_drewN | apply Kd.R_drew));exact HO_9.out⟩,⟨by (with_reducible repeat (first | refine blk_drewN ?_ _ | refine blk_drew ?_ | refine blk_alloc ?_ _));exact BK332.out⟩,⟨by repeat (first | (with_reducible first | exact HB.out | apply below_alloc | apply pw_below_drewN | apply below_drew1 | refine below_set ?_ GE332.out) | exact HB.out)⟩⟩
               ·rw [if_neg c62] at H
                have c62b0 : (((rd_T139 l0 a1).f0) == 6) = false := beq_eq_false_iff_ne.mpr c62
                have c62b1 : (((rd_T139 l0 a1).f0) != 6) = true := bne_iff_ne.mpr c62
                (first | rw [c62b0] | (simp only [i64_w,i32_w];rw [c62b0]) | skip)
                by_cases c74 : ((rd_T139 l0 a1).f0) = 7
                ·rw [if_pos c74] at H
                 have c74b0 : (((rd_T139 l0 a1).f0) == 7) = true := beq_iff_eq.mpr c74
                 have c74b1 : (((rd_T139 l0 a1).f0) != 7) = false := bne_eq_false_iff_eq.mpr c74
                 clear c74
                 by_cases c75 : t338 = t341
                 ·rw [if_pos c75] at H
                  have c75b0 : (t338 == t341) = true := beq_iff_eq.mpr c75
                  have c75b1 : (t338 != t341) = false := bne_eq_false_iff_eq.mpr c75
                  clear c75
                  have H' := Aside0.mk H
                  clear H
                  have hcz76_0 : wc.cell? ⟨gb332,0,none⟩ = some (.int .i64 ((rd_T139 l0 a1).f0)) := (blk_cell BK332.out 0).trans rfl
                  have hcz76_1 : wc.cell? ⟨gb332,1,none⟩ = some (.int .i64 ((rd_T139 l0 a1).f1)) := (blk_cell BK332.out 1).trans rfl
                  have hfz76_0 := blk_frozen BK332.out 0
                  have hfz76_1 := blk_frozen BK332.out 1
                  go_wp2
                  go_meet
                  case rel => exact ⟨_,(true),(by first | rfl | (simp;done) | (simp [*];done)),H',⟨by have := HJ18.out;first | omega | exact Nat.le_refl _⟩,⟨by (with_reducible repeat (first | apply Kd.R_alloc | apply Kd.R_drewN | apply Kd.R_drew));exact HO_9.out⟩,⟨by (with_reducible repeat (first | refine blk_drewN ?_ _ | refine blk_drew ?_ | refine blk_alloc ?_ _));exact BK332.out⟩,⟨by repeat (first | (with_reducible first | exact HB.out | apply below_alloc | apply pw_below_drewN | apply below_drew1 | refine below_set ?_ GE332.out) | exact HB.out)⟩⟩
                 ·rw [if_neg c75] at H
                  have c75b0 : (t338 == t341) = false := beq_eq_false_iff_ne.mpr c75
                  have c75b1 : (t338 != t341) = true := bne_iff_ne.mpr c75
                  by_cases c77 : ((rd_T139 l0 a1).f0) = 8
                  ·rw [if_pos c77] at H
                   have c77b0 : (((rd_T139 l0 a1).f0) == 8) = true := beq_iff_eq.mpr c77
                   have c77b1 : (((rd_T139 l0 a1).f0) != 8) = false := bne_eq_false_iff_eq.mpr c77
                   clear c77
                   have H' := Aside0.mk H
                   clear H
                   have hcz78_0 : wc.cell? ⟨gb332,0,none⟩ = some (.int .i64 ((rd_T139 l0 a1).f0)) := (blk_cell BK332.out 0).trans rfl
                   have hcz78_1 : wc.cell? ⟨gb332,1,none⟩ = some (.int .i64 ((rd_T139 l0 a1).f1)) := (blk_cell BK332.out 1).trans rfl
                   have hfz78_0 := blk_frozen BK332.out 0
                   have hfz78_1 := blk_frozen BK332.out 1
                   go_wp2
                   go_meet
                   case rel => exact ⟨_,(decide (t338 > t341)),(by first | rfl | (simp;done) | (simp [*];done)),H',⟨by have := HJ18.out;first | omega | exact Nat.le_refl _⟩,⟨by (with_reducible repeat (first | apply Kd.R_alloc | apply Kd.R_drewN | apply Kd.R_drew));exact HO_9.out⟩,⟨by (with_reducible repeat (first | refine blk_drewN ?_ _ | refine blk_drew ?_ | refine blk_alloc ?_ _));exact BK332.out⟩,⟨by repeat (first | (with_reducible first | exact HB.out | apply below_alloc | apply pw_below_drewN | apply below_drew1 | refine below_set ?_ GE332.out) | exact HB.out)⟩⟩
                  ·rw [if_neg c77] at H
                   have c77b0 : (((rd_T139 l0 a1).f0) == 8) = false := beq_eq_false_iff_ne.mpr c77
                   have c77b1 : (((rd_T139 l0 a1).f0) != 8) = true := bne_iff_ne.mpr c77
                   have H' := Aside0.mk H
                   clear H
                   have hcz79_0 : wc.cell? ⟨gb332,0,none⟩ = some (.int .i64 ((rd_T139 l0 a1).f0)) := (blk_cell BK332.out 0).trans rfl
                   have hcz79_1 : wc.cell? ⟨gb332,1,none⟩ = some (.int .i64 ((rd_T139 l0 a1).f1)) := (blk_cell BK332.out 1).trans rfl
                   have hfz79_0 := blk_frozen BK332.out 0
                   have hfz79_1 := blk_frozen BK332.out 1
                   go_wp2
                   go_meet
                   case rel => exact ⟨_,(false),(by first | rfl | (simp;done) | (simp [*];done)),H',⟨by have := HJ18.out;first | omega | exact Nat.le_refl _⟩,⟨by (with_reducible repeat (first | apply Kd.R_alloc | apply Kd.R_drewN | apply Kd.R_drew));exact HO_9.out⟩,⟨by (with_reducible repeat (first | refine blk_drewN ?_ _ | refine blk_drew ?_ | refine blk_alloc ?_ _));exact BK332.out⟩,⟨by repeat (first | (with_reducible first | exact HB.out | apply below_alloc | apply pw_below_drewN | apply below_drew1 | refine below_set ?_ GE332.out) | exact HB.out)⟩⟩
                ·rw [if_neg c74] at H
                 have c74b0 : (((rd_T139 l0 a1).f0) == 7) = false := beq_eq_false_iff_ne.mpr c74
                 have c74b1 : (((rd_T139 l0 a1).f0) != 7) = true := bne_iff_ne.mpr c74
                 by_cases c80 : ((rd_T139 l0 a1).f0) = 8
                 ·rw [if_pos c80] at H
                  have c80b0 : (((rd_T139 l0 a1).f0) == 8) = true := beq_iff_eq.mpr c80
                  have c80b1 : (((rd_T139 l0 a1).f0) != 8) = false := bne_eq_false_iff_eq.mpr c80
                  clear c80
                  have H' := Aside0.mk H
                  clear H
                  have hcz81_0 : wc.cell? ⟨gb332,0,none⟩ = some (.int .i64 ((rd_T139 l0 a1).f0)) := (blk_cell BK332.out 0).trans rfl
                  have hcz81_1 : wc.cell? ⟨gb332,1,none⟩ = some (.int .i64 ((rd_T139 l0 a1).f1)) := (blk_cell BK332.out 1).trans rfl
                  have hfz81_0 := blk_frozen BK332.out 0
                  have hfz81_1 := blk_frozen BK332.out 1
                  go_wp2
                  go_meet
                  case rel => exact ⟨_,(decide (t338 > t341)),(by first | rfl | (simp;done) | (simp [*];done)),H',⟨by have := HJ18.out;first | omega | exact Nat.le_refl _⟩,⟨by (with_reducible repeat (first | apply Kd.R_alloc | apply Kd.R_drewN | apply Kd.R_drew));exact HO_9.out⟩,⟨by (with_reducible repeat (first | refine blk_drewN ?_ _ | refine blk_drew ?_ | refine blk_alloc ?_ _));exact BK332.out⟩,⟨by repeat (first | (with_reducible first | exact HB.out | apply below_alloc | apply pw_below_drewN | apply below_drew1 | refine below_set ?_ GE332.out) | exact HB.out)⟩⟩
                 ·rw [if_neg c80] at H
                  have c80b0 : (((rd_T139 l0 a1).f0) == 8) = false := beq_eq_false_iff_ne.mpr c80
                  have c80b1 : (((rd_T139 l0 a1).f0) != 8) = true := bne_iff_ne.mpr c80
                  have H' := Aside0.mk H
                  clear H
                  have hcz82_0 : wc.cell? ⟨gb332,0,none⟩ = some (.int .i64 ((rd_T139 l0 a1).f0)) := (blk_cell BK332.out 0).trans rfl
                  have hcz82_1 : wc.cell? ⟨gb332,1,none⟩ = some (.int .i64 ((rd_T139 l0 a1).f1)) := (blk_cell BK332.out 1).trans rfl
                  have hfz82_0 := blk_frozen BK332.out 0
                  have hfz82_1 := blk_frozen BK332.out 1
                  go_wp2
                  go_meet
                  case rel => exact ⟨_,(false),(by first | rfl | (simp;done) | (simp [*];done)),H',⟨by have := HJ18.out;first | omega | exact Nat.le_refl _⟩,⟨by (with_reducible repeat (first | apply Kd.R_alloc | apply Kd.R_drewN | apply Kd.R_drew));exact HO_9.out⟩,⟨by (with_reducible repeat (first | refine blk_drewN ?_ _ | refine blk_drew ?_ | refine blk_alloc ?_ _));exact BK332.out⟩,⟨by repeat (first | (with_reducible first | exact HB.out | apply below_alloc | apply pw_below_drewN | apply below_drew1 | refine below_set ?_ GE332.out) | exact HB.out)⟩⟩
              case rest =>
               clear HC60
               try clear c1
               try clear c2
               try clear p2
               try clear c3
               try clear p3
               try clear q3
               try clear hx3
               try clear qi3
               try clear c4
               try clear c4b0
               try clear c5
               try clear c5b0
               try clear c6
               try clear c6b0
               try clear c6b1
               try clear p6
               try clear c7
               try clear c8
               try clear c9
               try clear c9b0
               try clear c9b1
               try clear c10
               try clear c10b0
               try clear c11
               try clear c11b0
               try clear c15
               try clear c15b0
               try clear c15b1
               try clear c16
               try clear c17
               try clear c17b0
               try clear c17b1
               try clear c18
               try clear c20
               try clear c26
               try clear c27
               try clear c28
               try clear c28b0
               try clear c28b1
               try clear c30
               try clear c30b0
               try clear p33
               try clear q33
               try clear hx33
               try clear qi33
               try clear p34
               try clear q34
               try clear hx34
               try clear qi34
               try clear c35
               try clear c35b0
               try clear c35b1
               try clear c37
               try clear c37b0
               try clear c42
               try clear c42b0
               try clear c42b1
               try clear c44
               try clear c44b0
               try clear c49
               try clear c49b0
               try clear c49b1
               try clear c50
               try clear c50b0
               try clear c50b1
               try clear c54
               try clear c54b0
               try clear c57
               try clear c57b0
               try clear c62
               try clear c62b0
               try clear c62b1
               try clear c63
               try clear c63b0
               try clear p64
               try clear c65
               try clear c65b0
               try clear c65b1
               try clear c66
               try clear c66b0
               try clear c66b1
               try clear c68
               try clear c68b0
               try clear c68b1
               try clear c71
               try clear c71b0
               try clear c71b1
               try clear c74
               try clear c74b0
               try clear c74b1
               try clear c75
               try clear c75b0
               try clear c75b1
               try clear c77
               try clear c77b0
               try clear c77b1
               try clear c80
               try clear c80b0
               try clear c80b1
               try clear hcz13_0
               try clear hcz13_1
               try clear hcz21_0
               try clear hcz21_1
               try clear hcz31_0
               try clear hcz31_1
               try clear hcz33_0
               try clear hcz33_1
               try clear hcz38_0
               try clear hcz38_1
               try clear hcz40_0
               try clear hcz40_1
               try clear hcz45_0
               try clear hcz45_1
               try clear hcz47_0
               try clear hcz47_1
               try clear hcz51_0
               try clear hcz51_1
               try clear hcz53_0
               try clear hcz53_1
               try clear hcz61_0
               try clear hcz61_1
               try clear hcz64_0
               try clear hcz64_1
               try clear hcz67_0
               try clear hcz67_1
               try clear hcz69_0
               try clear hcz69_1
               try clear hcz70_0
               try clear hcz70_1
               try clear hcz72_0
               try clear hcz72_1
               try clear hcz73_0
               try clear hcz73_1
               try clear hcz76_0
               try clear hcz76_1
               try clear hcz78_0
               try clear hcz78_1
               try clear hcz79_0
               try clear hcz79_1
               try clear hcz81_0
               try clear hcz81_1
               try clear hcz82_0
               try clear hcz82_1
               try clear hcz8_0
               try clear hcz8_1
               try clear hfz13_0
               try clear hfz13_1
               try clear hfz21_0
               try clear hfz21_1
               try clear hfz31_0
               try clear hfz31_1
               try clear hfz33_0
               try clear hfz33_1
               try clear hfz38_0
               try clear hfz38_1
               try clear hfz40_0
               try clear hfz40_1
               try clear hfz45_0
               try clear hfz45_1
               try clear hfz47_0
               try clear hfz47_1
               try clear hfz51_0
               try clear hfz51_1
               try clear hfz53_0
               try clear hfz53_1
               try clear hfz61_0
               try clear hfz61_1
               try clear hfz64_0
               try clear hfz64_1
               try clear hfz67_0
               try clear hfz67_1
               try clear hfz69_0
               try clear hfz69_1
               try clear hfz70_0
               try clear hfz70_1
               try clear hfz72_0
               try clear hfz72_1
               try clear hfz73_0
               try clear hfz73_1
               try clear hfz76_0
               try clear hfz76_1
               try clear hfz78_0
               try clear hfz78_1
               try clear hfz79_0
               try clear hfz79_1
               try clear hfz81_0
               try clear hfz81_1
               try clear hfz82_0
               try clear hfz82_1
               try clear hfz8_0
               try clear hfz8_1
               try clear hx331_0
               try clear hx331_1
               try clear hx333_0
               try clear hx337_0
               try clear hx340_0
               try clear p2
               try clear p3
               try clear p33
               try clear p331
               try clear p333
               try clear p337
               try clear p34
               try clear p340
               try clear p6
               try clear q3
               try clear q33
               try clear q331
               try clear q333
               try clear q337
               try clear q34
               try clear q340
               obtain ⟨kq,x15_59,rfl,HA,HJ59,HO_9,BK332,HB⟩ := hcut
               cases kq with
               | zero => exact absurd HA.out (by simp [impl_evalPart.j2])
               | succ kj59 =>
                have H := HA.out
                clear HA
                simp only [impl_evalPart.j2] at H
                by_cases c83 : x15_59 = true
                ·subst c83
                 have H1 : (if 2 < (t334.length : Int) then ((impl_evalPart.f kj59 l0 (rd t334 2) l2).bind fun bt349 => (some (bt349.1,bt349.2))) else (none)) = some (r1,r2) := by rw [if_pos rfl] at H;exact H
                 clear H
                 have H := H1
                 clear H1
                 by_cases c84 : 2 < (t334.length : Int)
                 ·rw [if_pos c84] at H
                  have c84b0 : decide (2 < (t334.length : Int)) = true := decide_eq_true c84
                  have c84b1 : decide (2 < t334.length) = true := decide_eq_true (by omega)
                  clear c84
                  replace H := Option.bind_eq_some_iff.mp H
                  obtain ⟨⟨t349,t350⟩,A850,H⟩ := H
                  replace H : (some (t349,t350)) = some (r1,r2) := H
                  have A85 := Aside0.mk A850
                  clear A850
                  simp only [Option.some.injEq,Prod.mk.injEq] at H
                  obtain ⟨rfl,rfl⟩ := H
                  have p348 : 0 ≤ (2 : Int) := (by omega)
                  have q348 : 2 < (t334.length : Int) := of_decide_eq_true (by first | (with_reducible assumption) | assumption)
                  obtain ⟨ad348,e348,hx348_0⟩ := Kd.at_int (Kd.R_reads' HO_9.out).2.2 2 p348 q348
                  obtain rfl : ad337 = ad348 := (by injection e348)
                  (try simp only [show (2 : Int).toNat = 2 from rfl,Nat.reduceMul,Nat.reduceEqDiff,Go.Addr.add,↓reduceIte] at hx348_0)
                  have qi348 : (2 < t334.length) = True := eq_true (by omega)
                  (try rw [show ((2 : Int)).toNat = 2 from rfl] at hx348_0)
                  replace p348 := eq_true p348
                  replace q348 := eq_true q348
                  go_wp2_with (first | ((with_reducible refine gate_callee (f := 182) rfl ?_);refine goesL_ (some 96) rfl rfl Try.func182 (by kernel_rfl) rfl #[.slice (some ad331) l0.length c0,.int .i64 (rd t334 2),.slice A2 l2.length c2] rfl (by (try simp only [List.map_toArray,List.map_cons,List.map_nil]);first | done | rfl | (simp only [List.length_drop,List.length_take];rfl)) ?_;(with_reducible refine (ih kj59 (by have := HJ18.out;have := HJ59.out;omega) _ _ l0 (rd t334 2) _ _ l2 t349 t350 _ ?side1 ?side2 ?side3 ?side4 A85.out).mono ?_);(case side1 => repeat (first | exact (Kd.C_below HR0.out HB.out) | (with_reducible refine Kd.C_alloc ?_ _) | (with_reducible refine Kd.C_drewN ?_ _) | (with_reducible refine Kd.C_drew ?_)));(case side2 => exact HC0.out);(case side3 => repeat (first | exact (Kd.C_below HR2.out HB.out) | (with_reducible refine Kd.C_alloc ?_ _) | (with_reducible refine Kd.C_drewN ?_ _) | (with_reducible refine Kd.C_drew ?_)));(case side4 => exact HC2.out);rintro e w86 ⟨rfl,hb⟩;refine ⟨_,rfl,?_⟩;have n0_ := Aside0.mk (Kd.R_below (by (with_reducible repeat (first | apply Kd.R_alloc | apply Kd.R_drewN | apply Kd.R_drew));exact HO_9.out) hb);have n1_ := Aside0.mk (blk_below (g := gb332) (o := .cells #[.int .i64 ((rd_T139 l0 a1).f0),.int .i64 ((rd_T139 l0 a1).f1)] 139 (0,0)) (by (with_reducible repeat (first | refine blk_drewN ?_ _ | refine blk_drew ?_ | refine blk_alloc ?_ _));exact BK332.out) hb);have n2_ := Aside0.mk (below_step (by repeat (first | (with_reducible first | exact HB.out | apply below_alloc | apply pw_below_drewN | apply below_drew1 | refine below_set ?_ GE332.out) | exact HB.out)) hb);clear HO_9;clear BK332;clear HB;have HO_9 := n0_;have BK332 := n1_;have HB := n2_;clear n0_ n1_ n2_;(try clear hb);(try clear hb2);(try clear hk);(try clear hi)))
                  go_ret2
                  exact ⟨by first | rfl | (simp [errW_none,errW_some] <;> rfl) | (simp [*,errW_none,errW_some] <;> rfl),by repeat (first | (with_reducible first | exact HB.out | apply below_alloc | apply pw_below_drewN | apply below_drew1 | refine below_set ?_ GE332.out) | exact HB.out)⟩
                 ·rw [if_neg c84] at H
                  exact absurd H (by simp)
                ·replace c83 := Bool.eq_false_iff.mpr c83
                 subst c83
                 have H1 : (if 3 < (t334.length : Int) then ((impl_evalPart.f kj59 l0 (rd t334 3) l2).bind fun bt352 => (some (bt352.1,bt352.2))) else (none)) = some (r1,r2) := by rw [if_neg (show ¬ (false = true) by decide)] at H;exact H
                 clear H
                 have H := H1
                 clear H1
                 by_cases c87 : 3 < (t334.length : Int)
                 ·rw [if_pos c87] at H
                  have c87b0 : decide (3 < (t334.length : Int)) = true := decide_eq_true c87
                  have c87b1 : decide (3 < t334.length) = true := decide_eq_true (by omega)
                  clear c87
                  replace H := Option.bind_eq_some_iff.mp H
                  obtain ⟨⟨t352,t353⟩,A880,H⟩ := H
                  replace H : (some (t352,t353)) = some (r1,r2) := H
                  have A88 := Aside0.mk A880
                  clear A880
                  simp only [Option.some.injEq,Prod.mk.injEq] at H
                  obtain ⟨rfl,rfl⟩ := H
                  have p351 : 0 ≤ (3 : Int) := (by omega)
                  have q351 : 3 < (t334.length : Int) := of_decide_eq_true (by first | (with_reducible assumption) | assumption)
                  obtain ⟨ad351,e351,hx351_0⟩ := Kd.at_int (Kd.R_reads' HO_9.out).2.2 3 p351 q351
                  obtain rfl : ad337 = ad351 := (by injection e351)
                  (try simp only [show (3 : Int).toNat = 3 from rfl,Nat.reduceMul,Nat.reduceEqDiff,Go.Addr.add,↓reduceIte] at hx351_0)
                  have qi351 : (3 < t334.length) = True := eq_true (by omega)
                  (try rw [show ((3 : Int)).toNat = 3 from rfl] at hx351_0)
                  replace p351 := eq_true p351
                  replace q351 := eq_true q351
                  go_wp2_with (first | ((with_reducible refine gate_callee (f := 182) rfl ?_);refine goesL_ (some 104) rfl rfl Try.func182 (by kernel_rfl) rfl #[.slice (some ad331) l0.length c0,.int .i64 (rd t334 3),.slice A2 l2.length c2] rfl (by (try simp only [List.map_toArray,List.map_cons,List.map_nil]);first | done | rfl | (simp only [List.length_drop,List.length_take];rfl)) ?_;(with_reducible refine (ih kj59 (by have := HJ18.out;have := HJ59.out;omega) _ _ l0 (rd t334 3) _ _ l2 t352 t353 _ ?side1 ?side2 ?side3 ?side4 A88.out).mono ?_);(case side1 => repeat (first | exact (Kd.C_below HR0.out HB.out) | (with_reducible refine Kd.C_alloc ?_ _) | (with_reducible refine Kd.C_drewN ?_ _) | (with_reducible refine Kd.C_drew ?_)));(case side2 => exact HC0.out);(case side3 => repeat (first | exact (Kd.C_below HR2.out HB.out) | (with_reducible refine Kd.C_alloc ?_ _) | (with_reducible refine Kd.C_drewN ?_ _) | (with_reducible refine Kd.C_drew ?_)));(case side4 => exact HC2.out);rintro e w89 ⟨rfl,hb⟩;refine ⟨_,rfl,?_⟩;have n0_ := Aside0.mk (Kd.R_below (by (with_reducible repeat (first | apply Kd.R_alloc | apply Kd.R_drewN | apply Kd.R_drew));exact HO_9.out) hb);have n1_ := Aside0.mk (blk_below (g := gb332) (o := .cells #[.int .i64 ((rd_T139 l0 a1).f0),.int .i64 ((rd_T139 l0 a1).f1)] 139 (0,0)) (by (with_reducible repeat (first | refine blk_drewN ?_ _ | refine blk_drew ?_ | refine blk_alloc ?_ _));exact BK332.out) hb);have n2_ := Aside0.mk (below_step (by repeat (first | (with_reducible first | exact HB.out | apply below_alloc | apply pw_below_drewN | apply below_drew1 | refine below_set ?_ GE332.out) | exact HB.out)) hb);clear HO_9;clear BK332;clear HB;have HO_9 := n0_;have BK332 := n1_;have HB := n2_;clear n0_ n1_ n2_;(try clear hb);(try clear hb2);(try clear hk);(try clear hi)))
                  go_ret2
                  exact ⟨by first | rfl | (simp [errW_none,errW_some] <;> rfl) | (simp [*,errW_none,errW_some] <;> rfl),by repeat (first | (with_reducible first | exact HB.out | apply below_alloc | apply pw_below_drewN | apply below_drew1 | refine below_set ?_ GE332.out) | exact HB.out)⟩
                 ·rw [if_neg c87] at H
                  exact absurd H (by simp)
      ·rw [if_neg c17] at H
       exact absurd H (by simp)
     ·rw [if_neg c15] at H
      exact absurd H (by simp)
  ·rw [if_neg c5] at H
   exact absurd H (by simp)
 ·rw [if_neg c4] at H
  exact absurd H (by simp)
end Go.Proofs.Ytomfjhpiemipkaa.PFnExactRuleValues
end
