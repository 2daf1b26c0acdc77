/- Texts that print.sh has printed for the law FnExactRuleValues,one function each,put together in one file: contracts of its functions. -/
import Derived.Test.YtomfjhpiemipkaaTMFnExactRuleValuesx0
section
namespace Go.Proofs.Ytomfjhpiemipkaa.PFnExactRuleValues
open Go.RowKit Go.Proofs.YtomfjhpiemipkaaW.PrintWords Go.Proofs.YtomfjhpiemipkaaW.PrintLast Go.Proofs.YtomfjhpiemipkaaW.PrintMore
attribute [local go_sem] max2_int min2_int max_two min_two max_three min_three max_four min_four   -- for this text's walks alone
set_option linter.unusedVariables false
set_option linter.unusedSimpArgs false
def spec_l1Own.f (l0 : List Int) : Option (List Int) := (some (([] : List Int) : List Int)).bind fun y183 => (if y183.length + l0.length < 17592186044416 then (some (y183 ++ l0)) else (none))
set_option maxHeartbeats 8000000 in
set_option maxRecDepth 100000 in
theorem spec_l1Own.calls (A0 : Option Addr) (c0 : Nat) (l0 : List Int) (r : List Int) (w : World) (hr0 : Kd.C (Kd.int .i64) w A0 l0.length l0) (hc0 : l0.length ≤ c0) (h : spec_l1Own.f l0 = some r) :
  Calls Try.prog 201 #[.slice A0 l0.length c0] w fun e w' => ∃ v0_ : Value,e = .returned (v0_) ∧ Kd.R (Kd.int .i64) 3 w' w.heap.size (fun _ => True) v0_ r ∧ Below w.heap.size w w' := by
 have HR0 := Aside0.mk hr0
 have HC0 := Aside0.mk hc0
 clear hr0 hc0
 have HB := Aside0.mk (Below.refl w.heap.size w)
 have H : ((some (([] : List Int) : List Int)).bind fun y183 => (if y183.length + l0.length < 17592186044416 then (some (y183 ++ l0)) else (none))) = some r := h
 clear h
 obtain ⟨y183,hy183⟩ : ∃ y_ : List Int,y_ = (([] : List Int)) := ⟨_,rfl⟩
 replace H : (if y183.length + l0.length < 17592186044416 then (some (y183 ++ l0)) else (none)) = some r := by first | (rw [hy183];with_reducible exact H) | (have H2_ := (Option.bind_some _ _).symm.trans H;rw [hy183];with_reducible exact H2_) | (have H2_ := (Option.bind_some _ _).symm.trans H;with_reducible exact H2_) | with_reducible exact H | (rw [hy183];exact H) | exact H
 have Ny183 := Aside0.mk hy183
 clear hy183
 by_cases c2 : y183.length + l0.length < 17592186044416
 ·rw [if_pos c2] at H
  have LMc2 := Aside0.mk c2
  clear c2
  obtain ⟨y186,hy186⟩ : ∃ y_ : List Int,y_ = (y183 ++ l0) := ⟨_,rfl⟩
  replace H : (some y186) = some r := by first | (rw [hy186];with_reducible exact H) | (have H2_ := (Option.bind_some _ _).symm.trans H;rw [hy186];with_reducible exact H2_) | (have H2_ := (Option.bind_some _ _).symm.trans H;with_reducible exact H2_) | with_reducible exact H | (rw [hy186];exact H) | exact H
  have Ny186 := Aside0.mk hy186
  clear hy186
  obtain rfl := Option.some.inj H
  go_enter Try.func201,Try.ntmps201
  go_wp2_with (first | ((with_reducible refine gate_dst (N := 3) rfl ?_);refine Kd.R_lit (Kd.int .i64) _ 3 ?hg (N := 3) ?hd (xs := ([] : List Int)) (inner := []) (ok := fun _ => True) (okp := fun _ => True) ?hr ?hp (fun _ hk => hk) trivial (Below.refl _ _) (Nat.le_refl _) (by simp) ?_;(case hd => rfl);(case hg => rfl);(case hr => first | (go_simp;done) | (go_simp;rfl));(case hp => exact (Reps.none _ _));intro v184 w3 ho4 hb hg_ hnew_;clear hg_ hnew_;(first | rw [← Ny183.out] at ho4 | (simp only [Int.reduceToNat] at ho4;rw [← Ny183.out] at ho4));have n0_ := Aside0.mk (Kd.R_lower ho4 (below_size (by repeat (first | (with_reducible first | exact HB.out | apply below_alloc | apply pw_below_drewN | apply below_drew1) | exact HB.out))));have n1_ := Aside0.mk (below_step (by repeat (first | (with_reducible first | exact HB.out | apply below_alloc | apply pw_below_drewN | apply below_drew1) | exact HB.out)) hb);clear HB;have HO185 := n0_;have HB := n1_;clear n0_ n1_;clear hb ho4) | ((with_reducible refine gate_builtin (b := .append) (xs := #[.tmp 3,.tmp 4]) rfl ?_);at_builtin;refine Kd.R_append_rows (Kd.int .i64) (w0 := w) w.heap.size rfl (.tmp 3) (.tmp 4) 24 3 (.int .i64 0) 8 rfl Try.underlying24 info3 rfl (by decide) (by omega) v184 y183 l0 _ _ _ (fun _ => True) (fun _ => False) rfl rfl ?aO ?aR (fun _ _ h => h) (fun _ h => h.elim) ?aF ?aB ?aS ?aL ?_;(case aR => repeat (first | exact (Kd.C_below HR0.out HB.out) | (with_reducible refine Kd.C_alloc ?_ _) | (with_reducible refine Kd.C_drewN ?_ _) | (with_reducible refine Kd.C_drew ?_)));(case aB => exact (by repeat (first | (with_reducible first | exact HB.out | apply below_alloc | apply pw_below_drewN | apply below_drew1) | exact HB.out)));(case aF => exact (fun _ _ => trivial));(case aO => exact (by (with_reducible repeat (first | apply Kd.R_alloc | apply Kd.R_drewN | apply Kd.R_drew));exact HO185.out));(case aS => exact (below_size (by repeat (first | (with_reducible first | exact HB.out | apply below_alloc | apply pw_below_drewN | apply below_drew1) | exact HB.out))));(case aL => have := LMc2.out;omega);intro v187 w5 ho hb hg hat;rw [← Ny186.out] at ho;have n0_ := Aside0.mk (hb);have n1_ := Aside0.mk (ho);clear HB;clear HO185;have HB := n0_;have HO188 := n1_;clear n0_ n1_;clear ho hb hg hat))
  go_ret
  exact ⟨_,by first | rfl | (simp [errW_none,errW_some] <;> rfl) | (simp [*,errW_none,errW_some] <;> rfl),by (with_reducible repeat (first | apply Kd.R_alloc | apply Kd.R_drewN | apply Kd.R_drew));exact HO188.out,by repeat (first | (with_reducible first | exact HB.out | apply below_alloc | apply pw_below_drewN | apply below_drew1) | exact HB.out)⟩
 ·rw [if_neg c2] at H
  exact absurd H (by simp)
end Go.Proofs.Ytomfjhpiemipkaa.PFnExactRuleValues
end
section
namespace Go.Proofs.Ytomfjhpiemipkaa.PFnExactRuleValues
open Go.RowKit Go.Proofs.YtomfjhpiemipkaaW.PrintWords Go.Proofs.YtomfjhpiemipkaaW.PrintLast Go.Proofs.YtomfjhpiemipkaaW.PrintMore
attribute [local go_sem] max2_int min2_int max_two min_two max_three min_three max_four min_four   -- for this text's walks alone
set_option linter.unusedVariables false
set_option linter.unusedSimpArgs false
mutual
def spec_ruTree.l0 : Nat → List (List Int) → List Int → List (S139) → Int → Int → Option ((List (List Int)) × Bool)
 | 0,_,_,_,_,_ => none
 | k + 1,x4,x5,x9,x10,x11 => if x11 < x10 then (if 0 ≤ x11 then (if x11 < (x9.length : Int) then ((spec_ruPart.f ((rd_T139 x9 x11).f0) ((rd_T139 x9 x11).f1)).bind fun t191 => (if t191 = true then ((spec_ruNeeds.f ((rd_T139 x9 x11).f0)).bind fun t192 => (spec_ruTree.j1 k x4 x5 x11 x9 x10 x11 (decide (t192 > (x5.length : Int))) ((rd_T139 x9 x11).f0) ((rd_T139 x9 x11).f1))) else (spec_ruTree.j1 k x4 x5 x11 x9 x10 x11 true ((rd_T139 x9 x11).f0) ((rd_T139 x9 x11).f1)))) else (none)) else (none)) else (some (x4,((x5.length : Int) == 1)))
def spec_ruTree.j1 : Nat → List (List Int) → List Int → Int → List (S139) → Int → Int → Bool → Int → Int → Option ((List (List Int)) × Bool)
 | 0,_,_,_,_,_,_,_,_,_ => none
 | k + 1,x4,x5,x6,x9,x10,x11,x26,x191000,x191001 => if x26 = true then (some (([] : List (List Int)),false)) else ((spec_ruNeeds.f x191000).bind fun t193 => (if 0 ≤ (wrap64 ((x5.length : Int) - t193)) then (if (wrap64 ((x5.length : Int) - t193)) ≤ (x5.length : Int) then ((spec_l1Own.f (x5.drop ((wrap64 ((x5.length : Int) - t193)) : Int).toNat)).bind fun t198 => (if x4.length < 5864062014805 then ((spec_l1Own.f (x5.take ((wrap64 ((x5.length : Int) - t193)) : Int).toNat)).bind fun t208 => (if t208.length < 17592186044416 then (spec_ruTree.l0 k (x4 ++ [t198]) (t208 ++ [x6]) x9 x10 (wrap64 (x11 + 1))) else (none))) else (none))) else (none)) else (none)))
end
def spec_ruTree.f (k : Nat) (l0 : List (S139)) : Option ((List (List Int)) × Bool) := spec_ruTree.l0 k ([] : List (List Int)) ([] : List Int) l0 (l0.length : Int) 0
set_option maxHeartbeats 8000000 in
set_option maxRecDepth 100000 in
theorem spec_ruTree.calls (k : Nat) (A0 : Option Addr) (c0 : Nat) (l0 : List (S139)) (r1 : List (List Int)) (r2 : Bool) (w : World) (hr0 : Kd.C k139 w A0 l0.length l0) (hc0 : l0.length ≤ c0) (h : spec_ruTree.f k l0 = some (r1,r2)) :
  Calls Try.prog 176 #[.slice A0 l0.length c0] w fun e w' => ∃ v0_ : Value,e = .returned (.tuple #[v0_,.bool r2]) ∧ Kd.S (Kd.slice 3 (Kd.int .i64)) 24 w' w.heap.size (fun _ => True) v0_ r1 ∧ Below w.heap.size w w' := by
 have hu139 := Try.underlying139
 have HR0 := Aside0.mk hr0
 have HC0 := Aside0.mk hc0
 clear hr0 hc0
 have HB := Aside0.mk (Below.refl w.heap.size w)
 have H : (spec_ruTree.l0 k ([] : List (List Int)) ([] : List Int) l0 (l0.length : Int) 0) = some (r1,r2) := h
 clear h
 have H' := Aside0.mk H
 clear H
 go_enter Try.func176,Try.ntmps176
 go_wp2
 go_loopg [4,5,11] k (fun kq v4 v5 v11 w' => ∃ (x4_1 : List (List Int)) (x5_1 : List Int) (x11_1 : Int),v11 = .int .i64 x11_1 ∧ Aside0 (spec_ruTree.l0 kq x4_1 x5_1 l0 (l0.length : Int) x11_1 = some (r1,r2)) ∧ Aside0 (kq ≤ k) ∧ Aside0 (Kd.S (Kd.slice 3 (Kd.int .i64)) 24 w' w.heap.size (fun k_ => some k_ ≠ (v5 : Value).ownBlock) v4 x4_1) ∧ Aside0 (Kd.R (Kd.int .i64) 3 w' w.heap.size (fun _ => True) v5 x5_1) ∧ Aside0 (Below w.heap.size w w'))
 case atStart => exact ⟨(([] : List (List Int))),(([] : List Int)),(0),(by first | rfl | (simp;done) | (simp [*];done)),H',⟨Nat.le_refl _⟩,⟨by first | exact Kd.S_nil _ _ _ _ _ | exact Kd.N_nil _ _ _ _ _ | exact Kd.V_nil _ _ _ _ _ | exact Kd.Q_nil _ _ _ _ _ | exact Kd.R_nil _ _ _ _ _⟩,⟨by first | exact Kd.R_nil _ _ _ _ _ | exact Kd.N_nil _ _ _ _ _ | exact Kd.V_nil _ _ _ _ _ | exact Kd.Q_nil _ _ _ _ _ | exact Kd.S_nil _ _ _ _ _⟩,⟨by repeat (first | (with_reducible first | exact HB.out | apply below_alloc | apply pw_below_drewN | apply below_drew1) | exact HB.out)⟩⟩
 case round =>
  clear H'
  try clear c1
  obtain ⟨x4_1,x5_1,x11_1,rfl,HA,HK1,HO_4,HO_5,HB⟩ := hrel
  cases gk with
  | zero => exact absurd HA.out (by simp [spec_ruTree.l0])
  | succ k1 =>
   have H := HA.out
   clear HA
   simp only [spec_ruTree.l0] at H
   by_cases c2 : x11_1 < (l0.length : Int)
   ·rw [if_pos c2] at H
    have c2b0 : decide (x11_1 < (l0.length : Int)) = true := decide_eq_true c2
    clear c2
    by_cases c3 : 0 ≤ x11_1
    ·rw [if_pos c3] at H
     have c3b0 : decide (0 ≤ x11_1) = true := decide_eq_true c3
     clear c3
     by_cases c4 : x11_1 < (l0.length : Int)
     ·rw [if_pos c4] at H
      have c4b0 : decide (x11_1 < (l0.length : Int)) = true := decide_eq_true c4
      clear c4
      have HC5 := Aside0.mk H
      clear H
      have p189 : 0 ≤ (x11_1 : Int) := of_decide_eq_true (by first | (with_reducible assumption) | assumption)
      have q189 : x11_1 < (l0.length : Int) := of_decide_eq_true (by first | (with_reducible assumption) | assumption)
      obtain ⟨ad189,e189,hx189_0,hx189_1⟩ := at_T139 HR0.out x11_1 p189 q189
      cases e189
      replace hx189_0 := (HB.out.cell (World.block_lt_of_cell? w _ hx189_0)).trans hx189_0
      replace hx189_1 := (HB.out.cell (World.block_lt_of_cell? w _ hx189_1)).trans hx189_1
      replace p189 := eq_true p189
      replace q189 := eq_true q189
      go_upto_region 6 with (first | ((with_reducible refine gate_dst (N := 7) rfl ?_);(try (refine gate_guard (by rfl) ?_;dsimp only));refine box_event ?hg (N := 7) ?hd (cs := #[.int .i64 0,.int .i64 0]) (t := 139) ?hr ?_;(case hd => rfl);(case hg => rfl);(case hr => first | (go_simp;done) | (go_simp;rfl));intro gb190 hg w6 hbox hb;have n0_ := Aside0.mk (Kd.S_below (by (with_reducible repeat (first | apply Kd.S_alloc | apply Kd.S_drewN | apply Kd.S_drew));exact HO_4.out) hb);have n1_ := Aside0.mk (Kd.R_below (by (with_reducible repeat (first | apply Kd.R_alloc | apply Kd.R_drewN | apply Kd.R_drew));exact HO_5.out) hb);have n2_ := Aside0.mk (below_step (by repeat (first | (with_reducible first | exact HB.out | apply below_alloc | apply pw_below_drewN | apply below_drew1) | exact HB.out)) hb);have n3_ := Aside0.mk (hbox);have n4_ := Aside0.mk ((by rw [hg];exact (below_size (by repeat (first | (with_reducible first | exact HB.out | apply below_alloc | apply pw_below_drewN | apply below_drew1) | exact HB.out))) : w.heap.size ≤ gb190));have n5_ := Aside0.mk ((by rw [hg];exact (below_size (by repeat (first | (with_reducible first | exact HB.out | apply below_alloc | apply pw_below_drewN | apply below_drew1) | exact HB.out))) : w.heap.size ≤ gb190));clear HO_4;clear HO_5;clear HB;have HO_4 := n0_;have HO_5 := n1_;have HB := n2_;have BK190 := n3_;have GW190 := n4_;have GE190 := n5_;clear n0_ n1_ n2_ n3_ n4_ n5_;clear hb hbox hg;have hcz7_0 : w6.cell? ⟨gb190,0,none⟩ = some (.int .i64 0) := (blk_cell BK190.out 0).trans rfl;have hcz7_1 : w6.cell? ⟨gb190,1,none⟩ = some (.int .i64 0) := (blk_cell BK190.out 1).trans rfl;have hfz7_0 := blk_frozen BK190.out 0;have hfz7_1 := blk_frozen BK190.out 1))
      (try simp only [Act.put,List.setIfInBounds_toArray,List.set_cons_zero,List.set_cons_succ])
      go_cut [26] (fun v26 wc => ∃ (kq : Nat) (x26_4 : Bool),v26 = .bool x26_4 ∧ Aside0 (spec_ruTree.j1 kq x4_1 x5_1 x11_1 l0 (l0.length : Int) x11_1 x26_4 ((rd_T139 l0 x11_1).f0) ((rd_T139 l0 x11_1).f1) = some (r1,r2)) ∧ Aside0 (kq ≤ k1) ∧ Aside0 (Kd.S (Kd.slice 3 (Kd.int .i64)) 24 wc w.heap.size (fun k_ => some k_ ≠ (u5 : Value).ownBlock) u4 x4_1) ∧ Aside0 (Kd.R (Kd.int .i64) 3 wc w.heap.size (fun _ => True) u5 x5_1) ∧ Aside0 (wc.heap[gb190]? = some (.cells #[.int .i64 ((rd_T139 l0 x11_1).f0),.int .i64 ((rd_T139 l0 x11_1).f1)] 139 (0,0))) ∧ Aside0 (Below w.heap.size w wc))
      case first =>
       have H := HC5.out
       clear HC5
       replace H := Option.bind_eq_some_iff.mp H
       obtain ⟨t191,A80,H⟩ := H
       replace H : (if t191 = true then ((spec_ruNeeds.f ((rd_T139 l0 x11_1).f0)).bind fun t192 => (spec_ruTree.j1 k1 x4_1 x5_1 x11_1 l0 (l0.length : Int) x11_1 (decide (t192 > (x5_1.length : Int))) ((rd_T139 l0 x11_1).f0) ((rd_T139 l0 x11_1).f1))) else (spec_ruTree.j1 k1 x4_1 x5_1 x11_1 l0 (l0.length : Int) x11_1 true ((rd_T139 l0 x11_1).f0) ((rd_T139 l0 x11_1).f1))) = some (r1,r2) := H
       have A8 := Aside0.mk A80
       clear A80
       by_cases c9 : t191 = true
       ·subst c9
        have H1 : ((spec_ruNeeds.f ((rd_T139 l0 x11_1).f0)).bind fun t192 => (spec_ruTree.j1 k1 x4_1 x5_1 x11_1 l0 (l0.length : Int) x11_1 (decide (t192 > (x5_1.length : Int))) ((rd_T139 l0 x11_1).f0) ((rd_T139 l0 x11_1).f1))) = some (r1,r2) := by rw [if_pos rfl] at H;exact H
        clear H
        have H := H1
        clear H1
        replace H := Option.bind_eq_some_iff.mp H
        obtain ⟨t192,A100,H⟩ := H
        replace H : (spec_ruTree.j1 k1 x4_1 x5_1 x11_1 l0 (l0.length : Int) x11_1 (decide (t192 > (x5_1.length : Int))) ((rd_T139 l0 x11_1).f0) ((rd_T139 l0 x11_1).f1)) = some (r1,r2) := H
        have A10 := Aside0.mk A100
        clear A100
        have H' := Aside0.mk H
        clear H
        have hcz11_0 : w6.cell? ⟨gb190,0,none⟩ = some (.int .i64 0) := (blk_cell BK190.out 0).trans rfl
        have hcz11_1 : w6.cell? ⟨gb190,1,none⟩ = some (.int .i64 0) := (blk_cell BK190.out 1).trans rfl
        have hfz11_0 := blk_frozen BK190.out 0
        have hfz11_1 := blk_frozen BK190.out 1
        go_wp2_with (first | ((with_reducible refine gate_callee (f := 199) rfl ?_);refine goesL_ (some 17) rfl rfl Try.func199 (by kernel_rfl) rfl #[.agg #[.int .i64 ((rd_T139 l0 x11_1).f0),.int .i64 ((rd_T139 l0 x11_1).f1)]] rfl (by (try simp only [List.map_toArray,List.map_cons,List.map_nil]);first | done | rfl | (simp only [List.length_drop,List.length_take];rfl)) ?_;(with_reducible refine (spec_ruPart.calls ((rd_T139 l0 x11_1).f0) ((rd_T139 l0 x11_1).f1) true _ A8.out).mono ?_);rintro e w12 ⟨rfl,hb⟩;refine ⟨_,rfl,?_⟩;have n0_ := Aside0.mk (Kd.S_below (by (with_reducible repeat (first | apply Kd.S_alloc | apply Kd.S_drewN | apply Kd.S_drew));exact (Kd.S_mono (Kd.S_far (p := ⟨gb190,1,none⟩) (Kd.S_far (p := ⟨gb190,0,none⟩) (Kd.S_types HO_4.out BK190.out (by decide)) (fun _ hk => hk.2) (.int .i64 ((rd_T139 l0 x11_1).f0))) (fun _ hk => hk.2) (.int .i64 ((rd_T139 l0 x11_1).f1))) (fun _ h_ => h_.1))) hb);have n1_ := Aside0.mk (Kd.R_below (by (with_reducible repeat (first | apply Kd.R_alloc | apply Kd.R_drewN | apply Kd.R_drew));exact (Kd.R_mono (Kd.R_far (p := ⟨gb190,1,none⟩) (Kd.R_far (p := ⟨gb190,0,none⟩) (Kd.R_types HO_5.out BK190.out (by decide)) (fun _ hk => hk.2) (.int .i64 ((rd_T139 l0 x11_1).f0))) (fun _ hk => hk.2) (.int .i64 ((rd_T139 l0 x11_1).f1))) (fun _ h_ => h_.1))) hb);have n2_ := Aside0.mk (blk_below (g := gb190) (o := .cells #[.int .i64 ((rd_T139 l0 x11_1).f0),.int .i64 ((rd_T139 l0 x11_1).f1)] 139 (0,0)) (by (with_reducible repeat (first | refine blk_drewN ?_ _ | refine blk_drew ?_ | refine blk_alloc ?_ _));refine blk_put (cs := #[.int .i64 ((rd_T139 l0 x11_1).f0),.int .i64 0]) ?_ 1 _ rfl;(with_reducible repeat (first | refine blk_drewN ?_ _ | refine blk_drew ?_ | refine blk_alloc ?_ _));refine blk_put (cs := #[.int .i64 0,.int .i64 0]) ?_ 0 _ rfl;(with_reducible repeat (first | refine blk_drewN ?_ _ | refine blk_drew ?_ | refine blk_alloc ?_ _));exact BK190.out) hb);have n3_ := Aside0.mk (below_step (by repeat (first | (with_reducible first | exact HB.out | apply below_alloc | apply pw_below_drewN | apply below_drew1 | refine below_set ?_ GE190.out) | exact HB.out)) hb);clear HO_4;clear HO_5;clear BK190;clear HB;have HO_4 := n0_;have HO_5 := n1_;have BK190 := n2_;have HB := n3_;clear n0_ n1_ n2_ n3_;(try clear hb);(try clear hb2);(try clear hk);(try clear hi);have hcz13_0 : w12.cell? ⟨gb190,0,none⟩ = some (.int .i64 ((rd_T139 l0 x11_1).f0)) := (blk_cell BK190.out 0).trans rfl;have hcz13_1 : w12.cell? ⟨gb190,1,none⟩ = some (.int .i64 ((rd_T139 l0 x11_1).f1)) := (blk_cell BK190.out 1).trans rfl;have hfz13_0 := blk_frozen BK190.out 0;have hfz13_1 := blk_frozen BK190.out 1) | (go_at_call 200;(with_reducible refine (spec_ruNeeds.calls ((rd_T139 l0 x11_1).f0) t192 _ A10.out).mono ?_);rintro e w' ⟨rfl,⟨nd,rfl⟩⟩;obtain ⟨Ao14,co14,eo14⟩ := Kd.R_slice HO_5.out;subst eo14))
        go_meet
        case rel => exact ⟨_,(decide (t192 > (x5_1.length : Int))),(by first | rfl | (simp;done) | (simp [*];done)),H',⟨by have := HK1.out;first | omega | exact Nat.le_refl _⟩,⟨by (with_reducible repeat (first | apply Kd.S_alloc | apply Kd.S_drewN | apply Kd.S_drew));exact HO_4.out⟩,⟨by (with_reducible repeat (first | apply Kd.R_alloc | apply Kd.R_drewN | apply Kd.R_drew));exact HO_5.out⟩,⟨by (with_reducible repeat (first | refine blk_drewN ?_ _ | refine blk_drew ?_ | refine blk_alloc ?_ _));exact BK190.out⟩,⟨by repeat (first | (with_reducible first | exact HB.out | apply below_alloc | apply pw_below_drewN | apply below_drew1 | refine below_set ?_ GE190.out) | exact HB.out)⟩⟩
       ·replace c9 := Bool.eq_false_iff.mpr c9
        subst c9
        have H1 : (spec_ruTree.j1 k1 x4_1 x5_1 x11_1 l0 (l0.length : Int) x11_1 true ((rd_T139 l0 x11_1).f0) ((rd_T139 l0 x11_1).f1)) = some (r1,r2) := by rw [if_neg (show ¬ (false = true) by decide)] at H;exact H
        clear H
        have H := H1
        clear H1
        have H' := Aside0.mk H
        clear H
        have hcz15_0 : w6.cell? ⟨gb190,0,none⟩ = some (.int .i64 0) := (blk_cell BK190.out 0).trans rfl
        have hcz15_1 : w6.cell? ⟨gb190,1,none⟩ = some (.int .i64 0) := (blk_cell BK190.out 1).trans rfl
        have hfz15_0 := blk_frozen BK190.out 0
        have hfz15_1 := blk_frozen BK190.out 1
        go_wp2_with (first | ((with_reducible refine gate_callee (f := 199) rfl ?_);refine goesL_ (some 17) rfl rfl Try.func199 (by kernel_rfl) rfl #[.agg #[.int .i64 ((rd_T139 l0 x11_1).f0),.int .i64 ((rd_T139 l0 x11_1).f1)]] rfl (by (try simp only [List.map_toArray,List.map_cons,List.map_nil]);first | done | rfl | (simp only [List.length_drop,List.length_take];rfl)) ?_;(with_reducible refine (spec_ruPart.calls ((rd_T139 l0 x11_1).f0) ((rd_T139 l0 x11_1).f1) false _ A8.out).mono ?_);rintro e w16 ⟨rfl,hb⟩;refine ⟨_,rfl,?_⟩;have n0_ := Aside0.mk (Kd.S_below (by (with_reducible repeat (first | apply Kd.S_alloc | apply Kd.S_drewN | apply Kd.S_drew));exact (Kd.S_mono (Kd.S_far (p := ⟨gb190,1,none⟩) (Kd.S_far (p := ⟨gb190,0,none⟩) (Kd.S_types HO_4.out BK190.out (by decide)) (fun _ hk => hk.2) (.int .i64 ((rd_T139 l0 x11_1).f0))) (fun _ hk => hk.2) (.int .i64 ((rd_T139 l0 x11_1).f1))) (fun _ h_ => h_.1))) hb);have n1_ := Aside0.mk (Kd.R_below (by (with_reducible repeat (first | apply Kd.R_alloc | apply Kd.R_drewN | apply Kd.R_drew));exact (Kd.R_mono (Kd.R_far (p := ⟨gb190,1,none⟩) (Kd.R_far (p := ⟨gb190,0,none⟩) (Kd.R_types HO_5.out BK190.out (by decide)) (fun _ hk => hk.2) (.int .i64 ((rd_T139 l0 x11_1).f0))) (fun _ hk => hk.2) (.int .i64 ((rd_T139 l0 x11_1).f1))) (fun _ h_ => h_.1))) hb);have n2_ := Aside0.mk (blk_below (g := gb190) (o := .cells #[.int .i64 ((rd_T139 l0 x11_1).f0),.int .i64 ((rd_T139 l0 x11_1).f1)] 139 (0,0)) (by (with_reducible repeat (first | refine blk_drewN ?_ _ | refine blk_drew ?_ | refine blk_alloc ?_ _));refine blk_put (cs := #[.int .i64 ((rd_T139 l0 x11_1).f0),.int .i64 0]) ?_ 1 _ rfl;(with_reducible repeat (first | refine blk_drewN ?_ _ | refine blk_drew ?_ | refine blk_alloc ?_ _));refine blk_put (cs := #[.int .i64 0,.int .i64 0]) ?_ 0 _ rfl;(with_reducible repeat (first | refine blk_drewN ?_ _ | refine blk_drew ?_ | refine blk_alloc ?_ _));exact BK190.out) hb);have n3_ := Aside0.mk (below_step (by repeat (first | (with_reducible first | exact HB.out | apply below_alloc | apply pw_below_drewN | apply below_drew1 | refine below_set ?_ GE190.out) | exact HB.out)) hb);clear HO_4;clear HO_5;clear BK190;clear HB;have HO_4 := n0_;have HO_5 := n1_;have BK190 := n2_;have HB := n3_;clear n0_ n1_ n2_ n3_;(try clear hb);(try clear hb2);(try clear hk);(try clear hi)))
        go_meet
        case rel => exact ⟨_,(true),(by first | rfl | (simp;done) | (simp [*];done)),H',⟨by have := HK1.out;first | omega | exact Nat.le_refl _⟩,⟨by (with_reducible repeat (first | apply Kd.S_alloc | apply Kd.S_drewN | apply Kd.S_drew));exact HO_4.out⟩,⟨by (with_reducible repeat (first | apply Kd.R_alloc | apply Kd.R_drewN | apply Kd.R_drew));exact HO_5.out⟩,⟨by (with_reducible repeat (first | refine blk_drewN ?_ _ | refine blk_drew ?_ | refine blk_alloc ?_ _));exact BK190.out⟩,⟨by repeat (first | (with_reducible first | exact HB.out | apply below_alloc | apply pw_below_drewN | apply below_drew1 | refine below_set ?_ GE190.out) | exact HB.out)⟩⟩
      case rest =>
       clear HC5
       try clear c1
       try clear p1
       try clear q1
       try clear hx1
       try clear c2
       try clear c2b0
       try clear p2
       try clear c3
       try clear c3b0
       try clear c4
       try clear c4b0
       try clear c9
       try clear hcz11_0
       try clear hcz11_1
       try clear hcz13_0
       try clear hcz13_1
       try clear hcz15_0
       try clear hcz15_1
       try clear hcz7_0
       try clear hcz7_1
       try clear hfz11_0
       try clear hfz11_1
       try clear hfz13_0
       try clear hfz13_1
       try clear hfz15_0
       try clear hfz15_1
       try clear hfz7_0
       try clear hfz7_1
       try clear hx189_0
       try clear hx189_1
       try clear p189
       try clear q189
       obtain ⟨kq,x26_4,rfl,HA,HJ4,HO_4,HO_5,BK190,HB⟩ := hcut
       cases kq with
       | zero => exact absurd HA.out (by simp [spec_ruTree.j1])
       | succ kj4 =>
        have H := HA.out
        clear HA
        simp only [spec_ruTree.j1] at H
        by_cases c17 : x26_4 = true
        ·subst c17
         have H1 : (some (([] : List (List Int)),false)) = some (r1,r2) := by rw [if_pos rfl] at H;exact H
         clear H
         have H := H1
         clear H1
         simp only [Option.some.injEq,Prod.mk.injEq] at H
         obtain ⟨rfl,rfl⟩ := H
         go_wp2
         go_ret2
         exact ⟨_,by first | rfl | (simp [errW_none,errW_some] <;> rfl) | (simp [*,errW_none,errW_some] <;> rfl),by first | exact Kd.S_nil _ _ _ _ _ | exact Kd.N_nil _ _ _ _ _ | exact Kd.V_nil _ _ _ _ _ | exact Kd.Q_nil _ _ _ _ _ | exact Kd.R_nil _ _ _ _ _,by repeat (first | (with_reducible first | exact HB.out | apply below_alloc | apply pw_below_drewN | apply below_drew1 | refine below_set ?_ GE190.out) | exact HB.out)⟩
        ·replace c17 := Bool.eq_false_iff.mpr c17
         subst c17
         have H1 : ((spec_ruNeeds.f ((rd_T139 l0 x11_1).f0)).bind fun t193 => (if 0 ≤ (wrap64 ((x5_1.length : Int) - t193)) then (if (wrap64 ((x5_1.length : Int) - t193)) ≤ (x5_1.length : Int) then ((spec_l1Own.f (x5_1.drop ((wrap64 ((x5_1.length : Int) - t193)) : Int).toNat)).bind fun t198 => (if x4_1.length < 5864062014805 then ((spec_l1Own.f (x5_1.take ((wrap64 ((x5_1.length : Int) - t193)) : Int).toNat)).bind fun t208 => (if t208.length < 17592186044416 then (spec_ruTree.l0 kj4 (x4_1 ++ [t198]) (t208 ++ [x11_1]) l0 (l0.length : Int) (wrap64 (x11_1 + 1))) else (none))) else (none))) else (none)) else (none))) = some (r1,r2) := by rw [if_neg (show ¬ (false = true) by decide)] at H;exact H
         clear H
         have H := H1
         clear H1
         replace H := Option.bind_eq_some_iff.mp H
         obtain ⟨t193,A180,H⟩ := H
         replace H : (if 0 ≤ (wrap64 ((x5_1.length : Int) - t193)) then (if (wrap64 ((x5_1.length : Int) - t193)) ≤ (x5_1.length : Int) then ((spec_l1Own.f (x5_1.drop ((wrap64 ((x5_1.length : Int) - t193)) : Int).toNat)).bind fun t198 => (if x4_1.length < 5864062014805 then ((spec_l1Own.f (x5_1.take ((wrap64 ((x5_1.length : Int) - t193)) : Int).toNat)).bind fun t208 => (if t208.length < 17592186044416 then (spec_ruTree.l0 kj4 (x4_1 ++ [t198]) (t208 ++ [x11_1]) l0 (l0.length : Int) (wrap64 (x11_1 + 1))) else (none))) else (none))) else (none)) else (none)) = some (r1,r2) := H
         have A18 := Aside0.mk A180
         clear A180
         obtain ⟨ji19,hji19⟩ : ∃ j_ : Int,(wrap64 ((x5_1.length : Int) - t193)) = j_ := ⟨_,rfl⟩
         replace H : (if 0 ≤ (ji19) then (if (ji19) ≤ (x5_1.length : Int) then ((spec_l1Own.f (x5_1.drop ((ji19) : Int).toNat)).bind fun t198 => (if x4_1.length < 5864062014805 then ((spec_l1Own.f (x5_1.take ((ji19) : Int).toNat)).bind fun t208 => (if t208.length < 17592186044416 then (spec_ruTree.l0 kj4 (x4_1 ++ [t198]) (t208 ++ [x11_1]) l0 (l0.length : Int) (wrap64 (x11_1 + 1))) else (none))) else (none))) else (none)) else (none)) = some (r1,r2) := by first | (rw [hji19] at H;exact H) | (simp only [hji19] at H ⊢;exact H)
         (try rw [hji19] at A18)
         have hji19w : (IntKind.i64.wrap ((x5_1.length : Int) - t193)) = ji19 := (i64_w _).trans hji19
         by_cases c20 : 0 ≤ (ji19)
         ·rw [if_pos c20] at H
          have c20b0 := eq_true c20
          have c20b1 : decide (0 ≤ (ji19)) = true := decide_eq_true c20
          clear c20
          by_cases c21 : (ji19) ≤ (x5_1.length : Int)
          ·rw [if_pos c21] at H
           have c21b0 := eq_true c21
           have c21b1 : decide ((ji19) ≤ (x5_1.length : Int)) = true := decide_eq_true c21
           clear c21
           obtain ⟨y194,hy194⟩ : ∃ y_ : List Int,y_ = (x5_1.drop ((ji19) : Int).toNat) := ⟨_,rfl⟩
           replace H : ((spec_l1Own.f y194).bind fun t198 => (if x4_1.length < 5864062014805 then ((spec_l1Own.f (x5_1.take ((ji19) : Int).toNat)).bind fun t208 => (if t208.length < 17592186044416 then (spec_ruTree.l0 kj4 (x4_1 ++ [t198]) (t208 ++ [x11_1]) l0 (l0.length : Int) (wrap64 (x11_1 + 1))) else (none))) else (none))) = some (r1,r2) := by first | (rw [hy194];with_reducible exact H) | (have H2_ := (Option.bind_some _ _).symm.trans H;rw [hy194];with_reducible exact H2_) | (have H2_ := (Option.bind_some _ _).symm.trans H;with_reducible exact H2_) | with_reducible exact H | (rw [hy194];exact H) | exact H
           have Ny194 := Aside0.mk hy194
           clear hy194
           replace H := Option.bind_eq_some_iff.mp H
           obtain ⟨t198,A220,H⟩ := H
           replace H : (if x4_1.length < 5864062014805 then ((spec_l1Own.f (x5_1.take ((ji19) : Int).toNat)).bind fun t208 => (if t208.length < 17592186044416 then (spec_ruTree.l0 kj4 (x4_1 ++ [t198]) (t208 ++ [x11_1]) l0 (l0.length : Int) (wrap64 (x11_1 + 1))) else (none))) else (none)) = some (r1,r2) := H
           have A22 := Aside0.mk A220
           clear A220
           by_cases c23 : x4_1.length < 5864062014805
           ·rw [if_pos c23] at H
            have LMc23 := Aside0.mk c23
            clear c23
            obtain ⟨y201,hy201⟩ : ∃ y_ : List (List Int),y_ = (x4_1 ++ [t198]) := ⟨_,rfl⟩
            replace H : ((spec_l1Own.f (x5_1.take ((ji19) : Int).toNat)).bind fun t208 => (if t208.length < 17592186044416 then (spec_ruTree.l0 kj4 y201 (t208 ++ [x11_1]) l0 (l0.length : Int) (wrap64 (x11_1 + 1))) else (none))) = some (r1,r2) := by first | (rw [hy201];with_reducible exact H) | (have H2_ := (Option.bind_some _ _).symm.trans H;rw [hy201];with_reducible exact H2_) | (have H2_ := (Option.bind_some _ _).symm.trans H;with_reducible exact H2_) | with_reducible exact H | (rw [hy201];exact H) | exact H
            have Ny201 := Aside0.mk hy201
            clear hy201
            have c24b0 := eq_true (of_decide_eq_true (by first | (with_reducible assumption) | assumption) : 0 ≤ (ji19))
            have c25b0 := eq_true (of_decide_eq_true (by first | (with_reducible assumption) | assumption) : (ji19) ≤ (x5_1.length : Int))
            obtain ⟨y204,hy204⟩ : ∃ y_ : List Int,y_ = (x5_1.take ((ji19) : Int).toNat) := ⟨_,rfl⟩
            replace H : ((spec_l1Own.f y204).bind fun t208 => (if t208.length < 17592186044416 then (spec_ruTree.l0 kj4 y201 (t208 ++ [x11_1]) l0 (l0.length : Int) (wrap64 (x11_1 + 1))) else (none))) = some (r1,r2) := by first | (rw [hy204];with_reducible exact H) | (have H2_ := (Option.bind_some _ _).symm.trans H;rw [hy204];with_reducible exact H2_) | (have H2_ := (Option.bind_some _ _).symm.trans H;with_reducible exact H2_) | with_reducible exact H | (rw [hy204];exact H) | exact H
            have Ny204 := Aside0.mk hy204
            clear hy204
            replace H := Option.bind_eq_some_iff.mp H
            obtain ⟨t208,A260,H⟩ := H
            replace H : (if t208.length < 17592186044416 then (spec_ruTree.l0 kj4 y201 (t208 ++ [x11_1]) l0 (l0.length : Int) (wrap64 (x11_1 + 1))) else (none)) = some (r1,r2) := H
            have A26 := Aside0.mk A260
            clear A260
            by_cases c27 : t208.length < 17592186044416
            ·rw [if_pos c27] at H
             have LMc27 := Aside0.mk c27
             clear c27
             obtain ⟨y211,hy211⟩ : ∃ y_ : List Int,y_ = (t208 ++ [x11_1]) := ⟨_,rfl⟩
             replace H : (spec_ruTree.l0 kj4 y201 y211 l0 (l0.length : Int) (wrap64 (x11_1 + 1))) = some (r1,r2) := by first | (rw [hy211];with_reducible exact H) | (have H2_ := (Option.bind_some _ _).symm.trans H;rw [hy211];with_reducible exact H2_) | (have H2_ := (Option.bind_some _ _).symm.trans H;with_reducible exact H2_) | with_reducible exact H | (rw [hy211];exact H) | exact H
             have Ny211 := Aside0.mk hy211
             clear hy211
             have H' := Aside0.mk H
             clear H
             obtain ⟨Ao28,co28,eo28⟩ := Kd.R_slice HO_5.out
             subst eo28
             have hcz29_0 : wc.cell? ⟨gb190,0,none⟩ = some (.int .i64 ((rd_T139 l0 x11_1).f0)) := (blk_cell BK190.out 0).trans rfl
             have hcz29_1 : wc.cell? ⟨gb190,1,none⟩ = some (.int .i64 ((rd_T139 l0 x11_1).f1)) := (blk_cell BK190.out 1).trans rfl
             have hfz29_0 := blk_frozen BK190.out 0
             have hfz29_1 := blk_frozen BK190.out 1
             go_wp2_with (first | ((with_reducible refine gate_callee (f := 200) rfl ?_);refine goesL_ (some 31) rfl rfl Try.func200 (by kernel_rfl) rfl #[.int .i64 ((rd_T139 l0 x11_1).f0)] rfl (by (try simp only [List.map_toArray,List.map_cons,List.map_nil]);first | done | rfl | (simp only [List.length_drop,List.length_take];rfl)) ?_;(with_reducible refine (spec_ruNeeds.calls ((rd_T139 l0 x11_1).f0) t193 _ A18.out).mono ?_);rintro e w' ⟨rfl,⟨nd,rfl⟩⟩;refine ⟨_,rfl,?_⟩;have q30 : ((ji19) : Int) ≤ ((x5_1.length : Int) : Int) := of_decide_eq_true (by first | (with_reducible assumption) | assumption);obtain ⟨i030,hi030,_,hsz30,_⟩ := info_parts info3;have hroom30 : x5_1.length ≤ co28 := (Kd.R_reads' HO_5.out).2.1;have hC30 : Kd.C (Kd.int .i64) _ Ao28 x5_1.length x5_1 := (Kd.R_reads' HO_5.out).2.2;have q030 : (0 : Int) ≤ ((ji19) : Int) := of_decide_eq_true (by first | (with_reducible assumption) | assumption);have hcut30 := cut_from (P := Try.prog) 24 3 .i64 Try.underlying24 hi030 1 hsz30 Ao28 x5_1.length co28 (ji19) q030 q30;have hr30 := Kd.C_drop (m := ((ji19) : Int).toNat) (c := co28) hC30 (by omega) hroom30;obtain ⟨A30,hA30⟩ : ∃ A1,A1 = (if co28 = ((ji19) : Int).toNat then Ao28 else (Ao28 : Option Addr).map (·.add (((ji19) : Int).toNat * 1))) := ⟨_,rfl⟩;obtain ⟨c30,hc30⟩ : ∃ c1,c1 = co28 - ((ji19) : Int).toNat := ⟨_,rfl⟩;have hy30 : y194.length = x5_1.length - ((ji19) : Int).toNat := (by rw [Ny194.out,List.length_drop] <;> omega);rw [show (x5_1).drop ((ji19) : Int).toNat = y194 from Ny194.out.symm] at hr30;replace hr30 : Kd.C (Kd.int .i64) _ A30 y194.length y194 := (by rw [hA30];exact hr30);rw [← hy30,← hA30,← hc30] at hcut30;have HR197 := Aside0.mk hr30;have HC197 := Aside0.mk (show y194.length ≤ c30 from by rw [hy30,hc30];exact Nat.sub_le_sub_right hroom30 _);clear hr30 hC30 hroom30 hi030 hsz30 hc30;have KY30 := Aside0.mk hy30;have KA30 := Aside0.mk hA30;clear hy30 hA30;have KL30 := Aside0.mk (show ((ji19) : Int).toNat ≤ x5_1.length from by omega);replace q30 := eq_true q30) | ((with_reducible refine gate_callee (f := 201) rfl ?_);refine goesL_ (some 37) rfl rfl Try.func201 (by kernel_rfl) rfl #[.slice A30 y194.length c30] rfl (by (try simp only [List.map_toArray,List.map_cons,List.map_nil]);first | done | rfl | (simp only [List.length_drop,List.length_take];rfl)) ?_;(with_reducible refine (spec_l1Own.calls _ _ y194 t198 _ ?side1 ?side2 A22.out).mono ?_);(case side1 => repeat (first | exact (by repeat (first | (with_reducible exact HR197.out) | (with_reducible refine Kd.C_alloc ?_ _) | (with_reducible refine Kd.C_drewN ?_ _) | (with_reducible refine Kd.C_drew ?_) | exact HR197.out)) | (with_reducible refine Kd.C_alloc ?_ _) | (with_reducible refine Kd.C_drewN ?_ _) | (with_reducible refine Kd.C_drew ?_)));(case side2 => exact HC197.out);rintro e w31 ⟨v199,rfl,ho0,hb⟩;refine ⟨_,rfl,?_⟩;have n0_ := Aside0.mk (Kd.S_elder' (by (with_reducible repeat (first | apply Kd.S_alloc | apply Kd.S_drewN | apply Kd.S_drew));exact HO_4.out) (Kd.R_base ho0) hb);have n1_ := Aside0.mk (Kd.R_elder' (by (with_reducible repeat (first | apply Kd.R_alloc | apply Kd.R_drewN | apply Kd.R_drew));exact HO_5.out) (Kd.R_base ho0) hb);have n2_ := Aside0.mk (Kd.R_lower (Kd.R_new' ho0 (Kd.R_lt (by (with_reducible repeat (first | apply Kd.R_alloc | apply Kd.R_drewN | apply Kd.R_drew));exact HO_5.out))) (below_size (by repeat (first | (with_reducible first | exact HB.out | apply below_alloc | apply pw_below_drewN | apply below_drew1 | refine below_set ?_ GE190.out) | exact HB.out))));have n3_ := Aside0.mk (blk_below (g := gb190) (o := .cells #[.int .i64 ((rd_T139 l0 x11_1).f0),.int .i64 ((rd_T139 l0 x11_1).f1)] 139 (0,0)) (by (with_reducible repeat (first | refine blk_drewN ?_ _ | refine blk_drew ?_ | refine blk_alloc ?_ _));exact BK190.out) hb);have n4_ := Aside0.mk (Kd.C_below (by repeat (first | (with_reducible exact HR197.out) | (with_reducible refine Kd.C_alloc ?_ _) | (with_reducible refine Kd.C_drewN ?_ _) | (with_reducible refine Kd.C_drew ?_) | exact HR197.out)) hb);have n5_ := Aside0.mk (below_step (by repeat (first | (with_reducible first | exact HB.out | apply below_alloc | apply pw_below_drewN | apply below_drew1 | refine below_set ?_ GE190.out) | exact HB.out)) hb);clear HO_4;clear HO_5;clear BK190;clear HR197;clear HB;have HO_4 := n0_;have HO_5 := n1_;have HO200 := n2_;have BK190 := n3_;have HR197 := n4_;have HB := n5_;clear n0_ n1_ n2_ n3_ n4_ n5_;(try clear hb);(try clear hb2);(try clear hk);(try clear hi);(try clear ho0);obtain ⟨Ao33,co33,eo33⟩ := Kd.R_slice HO200.out;subst eo33) | ((with_reducible refine gate_builtin (b := .append) (xs := #[.tmp 33,.tmp 38]) rfl ?_);(try (refine gate_guard (by rfl) ?_;dsimp only));at_builtin;refine Kd.S_append (Kd.slice 3 (Kd.int .i64)) (w0 := w) w.heap.size rfl (.tmp 33) (.tmp 38) 182 24 (.slice none 0 0) 24 rfl Try.underlying182 info24 rfl (by decide) (by omega) u4 x4_1 t198 [.slice Ao33 t198.length co33] (fun k_ => some k_ ≠ (.slice Ao28 x5_1.length co28 : Value).ownBlock) (fun k_ => some k_ = (.slice Ao33 t198.length co33 : Value).ownBlock) rfl rfl ?aP (fun k_ hk_ => ((Kd.R_mono (ok' := fun k_ => ((fun k_ => some k_ ≠ (.slice Ao28 x5_1.length co28 : Value).ownBlock)) k_ ∧ some k_ ≠ (u4 : Value).ownBlock) (Kd.R_apart' (HO200.out) (Kd.S_typed HO_4.out) (by decide)) (fun k_ hk => ⟨hk.1.2,hk.2⟩))).1 k_ hk_.symm) ?aF ?aO ?aB ?aS ?aL ?_;(case aP => exact Kd.M_row (Kd.R_mono (Kd.R_tight rfl (Kd.R_mono (ok' := fun k_ => ((fun k_ => some k_ ≠ (.slice Ao28 x5_1.length co28 : Value).ownBlock)) k_ ∧ some k_ ≠ (u4 : Value).ownBlock) (Kd.R_apart' (HO200.out) (Kd.S_typed HO_4.out) (by decide)) (fun k_ hk => ⟨hk.1.2,hk.2⟩))) (fun _ h_ => h_)));(case aB => exact (by repeat (first | (with_reducible first | exact HB.out | apply below_alloc | apply pw_below_drewN | apply below_drew1 | refine below_set ?_ GE190.out) | exact HB.out)));(case aF => exact (fun k_ hk => Kd.fresh' (Kd.R_lt (by (with_reducible repeat (first | apply Kd.R_alloc | apply Kd.R_drewN | apply Kd.R_drew));exact HO_5.out)) k_ hk));(case aO => exact (by (with_reducible repeat (first | apply Kd.S_alloc | apply Kd.S_drewN | apply Kd.S_drew));exact Kd.S_mono HO_4.out (fun k_ hk => ⟨hk.1,fun e_ => hk.2 e_⟩)));(case aS => exact (below_size (by repeat (first | (with_reducible first | exact HB.out | apply below_alloc | apply pw_below_drewN | apply below_drew1 | refine below_set ?_ GE190.out) | exact HB.out))));(case aL => have := LMc23.out;omega);intro v202 w32 ho hb hg hat;rw [← Ny201.out] at ho;have n0_ := Aside0.mk (Kd.R_over' (by (with_reducible repeat (first | apply Kd.R_alloc | apply Kd.R_drewN | apply Kd.R_drew));exact HO_5.out) (Kd.S_typed (by (with_reducible repeat (first | apply Kd.S_alloc | apply Kd.S_drewN | apply Kd.S_drew));exact HO_4.out)) (by decide) hg);have n1_ := Aside0.mk (blk_grown (g := gb190) (o := .cells #[.int .i64 ((rd_T139 l0 x11_1).f0),.int .i64 ((rd_T139 l0 x11_1).f1)] 139 (0,0)) (by (with_reducible repeat (first | refine blk_drewN ?_ _ | refine blk_drew ?_ | refine blk_alloc ?_ _));exact BK190.out) hg (Kd.S_ne HO_4.out BK190.out (by decide)));have n2_ := Aside0.mk (hb);have n3_ := Aside0.mk ((show Kd.C (Kd.int .i64) w32 A30 y194.length y194 from by rw [Ny194.out,KA30.out];exact Kd.C_drop (m := ((ji19) : Int).toNat) (c := co28) ((Kd.R_reads' (Kd.R_over' (by (with_reducible repeat (first | apply Kd.R_alloc | apply Kd.R_drewN | apply Kd.R_drew));exact HO_5.out) (Kd.S_typed (by (with_reducible repeat (first | apply Kd.S_alloc | apply Kd.S_drewN | apply Kd.S_drew));exact HO_4.out)) (by decide) hg)).2.2) KL30.out ((Kd.R_reads' (Kd.R_over' (by (with_reducible repeat (first | apply Kd.R_alloc | apply Kd.R_drewN | apply Kd.R_drew));exact HO_5.out) (Kd.S_typed (by (with_reducible repeat (first | apply Kd.S_alloc | apply Kd.S_drewN | apply Kd.S_drew));exact HO_4.out)) (by decide) hg)).2.1)));have n4_ := Aside0.mk (ho);clear HO_5;clear BK190;clear HB;clear HR197;clear HO_4;clear HO200;have HO_5 := n0_;have BK190 := n1_;have HB := n2_;have HR197 := n3_;have HO203 := n4_;clear n0_ n1_ n2_ n3_ n4_;clear ho hb hg hat;have q34 : ((ji19) : Int) ≤ ((x5_1.length : Int) : Int) := of_decide_eq_true (by first | (with_reducible assumption) | assumption);obtain ⟨i034,hi034,_,hsz34,_⟩ := info_parts info3;have hroom34 : x5_1.length ≤ co28 := (Kd.R_reads' HO_5.out).2.1;have hC34 : Kd.C (Kd.int .i64) _ Ao28 x5_1.length x5_1 := (Kd.R_reads' HO_5.out).2.2;have hcut34 := cut_to (P := Try.prog) 24 3 .i64 Try.underlying24 hi034 Ao28 x5_1.length co28 (ji19) (of_decide_eq_true (by first | (with_reducible assumption) | assumption)) q34 hroom34;have hr34 := Kd.C_take (m := ((ji19) : Int).toNat) hC34 (by omega);have hy34 : y204.length = ((ji19) : Int).toNat := (by rw [Ny204.out,List.length_take];omega);rw [← Ny204.out] at hr34;rw [← hy34] at hcut34;have HR207 := Aside0.mk hr34;have HC207 := Aside0.mk (show y204.length ≤ co28 from by omega);clear hr34 hC34 hroom34 hi034 hsz34;have KY34 := Aside0.mk hy34;clear hy34;have KL34 := Aside0.mk (show ((ji19) : Int).toNat ≤ x5_1.length from by omega);replace q34 := eq_true q34) | ((with_reducible refine gate_callee (f := 201) rfl ?_);refine goesL_ (some 43) rfl rfl Try.func201 (by kernel_rfl) rfl #[.slice Ao28 y204.length co28] rfl (by (try simp only [List.map_toArray,List.map_cons,List.map_nil]);first | done | rfl | (simp only [List.length_drop,List.length_take];rfl)) ?_;(with_reducible refine (spec_l1Own.calls _ _ y204 t208 _ ?side1 ?side2 A26.out).mono ?_);(case side1 => repeat (first | exact (by repeat (first | (with_reducible exact HR207.out) | (with_reducible refine Kd.C_alloc ?_ _) | (with_reducible refine Kd.C_drewN ?_ _) | (with_reducible refine Kd.C_drew ?_) | exact HR207.out)) | (with_reducible refine Kd.C_alloc ?_ _) | (with_reducible refine Kd.C_drewN ?_ _) | (with_reducible refine Kd.C_drew ?_)));(case side2 => exact HC207.out);rintro e w35 ⟨v209,rfl,ho0,hb⟩;refine ⟨_,rfl,?_⟩;have n0_ := Aside0.mk (Kd.R_elder' (by (with_reducible repeat (first | apply Kd.R_alloc | apply Kd.R_drewN | apply Kd.R_drew));exact HO_5.out) (Kd.R_base ho0) hb);have n1_ := Aside0.mk (Kd.S_elder' (by (with_reducible repeat (first | apply Kd.S_alloc | apply Kd.S_drewN | apply Kd.S_drew));exact HO203.out) (Kd.R_base ho0) hb);have n2_ := Aside0.mk (Kd.R_lower (Kd.R_new' ho0 (Kd.R_lt (by (with_reducible repeat (first | apply Kd.R_alloc | apply Kd.R_drewN | apply Kd.R_drew));exact HO_5.out))) (below_size (by repeat (first | (with_reducible first | exact HB.out | apply below_alloc | apply pw_below_drewN | apply below_drew1 | refine below_set ?_ GE190.out) | exact HB.out))));have n3_ := Aside0.mk (blk_below (g := gb190) (o := .cells #[.int .i64 ((rd_T139 l0 x11_1).f0),.int .i64 ((rd_T139 l0 x11_1).f1)] 139 (0,0)) (by (with_reducible repeat (first | refine blk_drewN ?_ _ | refine blk_drew ?_ | refine blk_alloc ?_ _));exact BK190.out) hb);have n4_ := Aside0.mk (Kd.C_below (by repeat (first | (with_reducible exact HR197.out) | (with_reducible refine Kd.C_alloc ?_ _) | (with_reducible refine Kd.C_drewN ?_ _) | (with_reducible refine Kd.C_drew ?_) | exact HR197.out)) hb);have n5_ := Aside0.mk (Kd.C_below (by repeat (first | (with_reducible exact HR207.out) | (with_reducible refine Kd.C_alloc ?_ _) | (with_reducible refine Kd.C_drewN ?_ _) | (with_reducible refine Kd.C_drew ?_) | exact HR207.out)) hb);have n6_ := Aside0.mk (below_step (by repeat (first | (with_reducible first | exact HB.out | apply below_alloc | apply pw_below_drewN | apply below_drew1 | refine below_set ?_ GE190.out) | exact HB.out)) hb);clear HO_5;clear HO203;clear BK190;clear HR197;clear HR207;clear HB;have HO_5 := n0_;have HO203 := n1_;have HO210 := n2_;have BK190 := n3_;have HR197 := n4_;have HR207 := n5_;have HB := n6_;clear n0_ n1_ n2_ n3_ n4_ n5_ n6_;(try clear hb);(try clear hb2);(try clear hk);(try clear hi);(try clear ho0)) | ((with_reducible refine gate_builtin (b := .append) (xs := #[.tmp 43,.tmp 45]) rfl ?_);(try (refine gate_guard (by rfl) ?_;dsimp only));at_builtin;refine Kd.R_append (Kd.int .i64) (w0 := w) w.heap.size rfl (.tmp 43) (.tmp 45) 24 3 (.int .i64 0) 8 rfl Try.underlying24 info3 rfl (by decide) (by omega) v209 t208 x11_1 [.int .i64 x11_1] (fun k_ => some k_ ≠ (.slice Ao28 x5_1.length co28 : Value).ownBlock) (fun _ => False) rfl rfl ?aP (fun _ hk => hk.elim) ?aF ?aO ?aB ?aS ?aL ?_;(case aP => exact rfl);(case aB => exact (by repeat (first | (with_reducible first | exact HB.out | apply below_alloc | apply pw_below_drewN | apply below_drew1 | refine below_set ?_ GE190.out) | exact HB.out)));(case aF => exact (fun k_ hk => Kd.fresh' (Kd.R_lt (by (with_reducible repeat (first | apply Kd.R_alloc | apply Kd.R_drewN | apply Kd.R_drew));exact HO_5.out)) k_ hk));(case aO => exact (by (with_reducible repeat (first | apply Kd.R_alloc | apply Kd.R_drewN | apply Kd.R_drew));exact Kd.R_mono HO210.out (fun _ hk => hk.2)));(case aS => exact (below_size (by repeat (first | (with_reducible first | exact HB.out | apply below_alloc | apply pw_below_drewN | apply below_drew1 | refine below_set ?_ GE190.out) | exact HB.out))));(case aL => have := LMc27.out;omega);intro v212 w36 ho hb hg hat;rw [← Ny211.out] at ho;have n0_ := Aside0.mk (Kd.R_after (ok := (fun _ => True)) (by (with_reducible repeat (first | apply Kd.R_alloc | apply Kd.R_drewN | apply Kd.R_drew));exact Kd.R_mono HO_5.out (fun _ hk => ⟨trivial,hk.2⟩)) hg hat);have n1_ := Aside0.mk (blk_grown (g := gb190) (o := .cells #[.int .i64 ((rd_T139 l0 x11_1).f0),.int .i64 ((rd_T139 l0 x11_1).f1)] 139 (0,0)) (by (with_reducible repeat (first | refine blk_drewN ?_ _ | refine blk_drew ?_ | refine blk_alloc ?_ _));exact BK190.out) hg (Kd.R_ne HO210.out BK190.out (by decide)));have n2_ := Aside0.mk (Kd.S_after (ok := (fun k_ => some k_ ≠ (.slice Ao28 x5_1.length co28 : Value).ownBlock)) (by (with_reducible repeat (first | apply Kd.S_alloc | apply Kd.S_drewN | apply Kd.S_drew));exact HO203.out) hg hat);have n3_ := Aside0.mk (hb);have n4_ := Aside0.mk ((show Kd.C (Kd.int .i64) w36 A30 y194.length y194 from by rw [Ny194.out,KA30.out];exact Kd.C_drop (m := ((ji19) : Int).toNat) (c := co28) ((Kd.R_reads' (Kd.R_after (ok := (fun _ => True)) (by (with_reducible repeat (first | apply Kd.R_alloc | apply Kd.R_drewN | apply Kd.R_drew));exact Kd.R_mono HO_5.out (fun _ hk => ⟨trivial,hk.2⟩)) hg hat)).2.2) KL30.out ((Kd.R_reads' (Kd.R_after (ok := (fun _ => True)) (by (with_reducible repeat (first | apply Kd.R_alloc | apply Kd.R_drewN | apply Kd.R_drew));exact Kd.R_mono HO_5.out (fun _ hk => ⟨trivial,hk.2⟩)) hg hat)).2.1)));have n5_ := Aside0.mk ((show Kd.C (Kd.int .i64) w36 Ao28 y204.length y204 from by rw [Ny204.out];exact Kd.C_take (m := ((ji19) : Int).toNat) ((Kd.R_reads' (Kd.R_after (ok := (fun _ => True)) (by (with_reducible repeat (first | apply Kd.R_alloc | apply Kd.R_drewN | apply Kd.R_drew));exact Kd.R_mono HO_5.out (fun _ hk => ⟨trivial,hk.2⟩)) hg hat)).2.2) KL34.out));have n6_ := Aside0.mk (ho);clear HO_5;clear BK190;clear HO203;clear HB;clear HR197;clear HR207;clear HO210;have HO_5 := n0_;have BK190 := n1_;have HO203 := n2_;have HB := n3_;have HR197 := n4_;have HR207 := n5_;have HO213 := n6_;clear n0_ n1_ n2_ n3_ n4_ n5_ n6_;clear ho hb hg hat))
             go_roundg kj4
             case measure => have := HK1.out;have := HJ4.out;omega
             case rel => exact ⟨(y201),(y211),(wrap64 (x11_1 + 1)),(by first | rfl | (simp;done) | (simp [*];done)),H',⟨by have := HK1.out;have := HJ4.out;omega⟩,⟨by (with_reducible repeat (first | apply Kd.S_alloc | apply Kd.S_drewN | apply Kd.S_drew));exact Kd.S_mono HO203.out (fun _ hk => hk.2)⟩,⟨by (with_reducible repeat (first | apply Kd.R_alloc | apply Kd.R_drewN | apply Kd.R_drew));exact Kd.R_mono HO213.out (fun _ hk => trivial)⟩,⟨by repeat (first | (with_reducible first | exact HB.out | apply below_alloc | apply pw_below_drewN | apply below_drew1 | refine below_set ?_ GE190.out) | exact HB.out)⟩⟩
            ·rw [if_neg c27] at H
             exact absurd H (by simp)
           ·rw [if_neg c23] at H
            exact absurd H (by simp)
          ·rw [if_neg c21] at H
           exact absurd H (by simp)
         ·rw [if_neg c20] at H
          exact absurd H (by simp)
     ·rw [if_neg c4] at H
      exact absurd H (by simp)
    ·rw [if_neg c3] at H
     exact absurd H (by simp)
   ·rw [if_neg c2] at H
    have c2b0 : decide (x11_1 < (l0.length : Int)) = false := decide_eq_false c2
    clear c2
    simp only [Option.some.injEq,Prod.mk.injEq] at H
    obtain ⟨rfl,rfl⟩ := H
    obtain ⟨Ao37,co37,eo37⟩ := Kd.R_slice HO_5.out
    subst eo37
    go_wp2
    go_ret2
    exact ⟨_,by first | rfl | (simp [errW_none,errW_some] <;> rfl) | (simp [*,errW_none,errW_some] <;> rfl),by (with_reducible repeat (first | apply Kd.S_alloc | apply Kd.S_drewN | apply Kd.S_drew));exact Kd.S_mono HO_4.out (fun _ hk => trivial),by repeat (first | (with_reducible first | exact HB.out | apply below_alloc | apply pw_below_drewN | apply below_drew1) | exact HB.out)⟩
end Go.Proofs.Ytomfjhpiemipkaa.PFnExactRuleValues
end
section
namespace Go.Proofs.Ytomfjhpiemipkaa.PFnExactRuleValues
open Go.RowKit Go.Proofs.YtomfjhpiemipkaaW.PrintWords Go.Proofs.YtomfjhpiemipkaaW.PrintLast Go.Proofs.YtomfjhpiemipkaaW.PrintMore
attribute [local go_sem] max2_int min2_int max_two min_two max_three min_three max_four min_four   -- for this text's walks alone
set_option linter.unusedVariables false
set_option linter.unusedSimpArgs false
def spec_l1Most.f (a0 : Int) (a1 : Int) : Option (Int) := if a0 > a1 then (some a0) else (some a1)
set_option maxHeartbeats 8000000 in
set_option maxRecDepth 100000 in
theorem spec_l1Most.calls (a0 : Int) (a1 : Int) (r : Int) (w : World) (h : spec_l1Most.f a0 a1 = some r) :
  Calls Try.prog 164 #[.int .i64 a0,.int .i64 a1] w fun e w' => e = .returned (.int .i64 r) ∧ Drawn0 w w' := by
 have H : (if a0 > a1 then (some a0) else (some a1)) = some r := h
 clear h
 by_cases c3 : a0 > a1
 ·rw [if_pos c3] at H
  have c3b0 : decide (a1 < a0) = true := decide_eq_true c3
  clear c3
  obtain rfl := Option.some.inj H
  go_enter Try.func164,Try.ntmps164
  go_wp2
  go_ret
  exact ⟨by first | rfl | (simp;done) | (simp [*];done),by repeat (first | exact Drawn0.refl _ | apply Drawn0.step)⟩
 ·rw [if_neg c3] at H
  have c3b0 : decide (a1 < a0) = false := decide_eq_false c3
  clear c3
  obtain rfl := Option.some.inj H
  go_enter Try.func164,Try.ntmps164
  go_wp2
  go_ret
  exact ⟨by first | rfl | (simp;done) | (simp [*];done),by repeat (first | exact Drawn0.refl _ | apply Drawn0.step)⟩
end Go.Proofs.Ytomfjhpiemipkaa.PFnExactRuleValues
end
section
namespace Go.Proofs.Ytomfjhpiemipkaa.PFnExactRuleValues
open Go.RowKit Go.Proofs.YtomfjhpiemipkaaW.PrintWords Go.Proofs.YtomfjhpiemipkaaW.PrintLast Go.Proofs.YtomfjhpiemipkaaW.PrintMore
attribute [local go_sem] max2_int min2_int max_two min_two max_three min_three max_four min_four   -- for this text's walks alone
set_option linter.unusedVariables false
set_option linter.unusedSimpArgs false
mutual
def spec_ruDepths.l0 : Nat → List Int → List (List Int) → Int → Int → Option (List Int)
 | 0,_,_,_,_ => none
 | k + 1,x3,x9,x10,x11 => if x11 < x10 then (if 0 ≤ x11 then (if x11 < (x9.length : Int) then (spec_ruDepths.l1 k x3 0 x9 x10 x11 (rd_L3 x9 x11) ((rd_L3 x9 x11).length : Int) 0) else (none)) else (none)) else (some x3)
def spec_ruDepths.l1 : Nat → List Int → Int → List (List Int) → Int → Int → List Int → Int → Int → Option (List Int)
 | 0,_,_,_,_,_,_,_,_ => none
 | k + 1,x3,x6,x9,x10,x11,x15,x16,x17 => if x17 < x16 then (if 0 ≤ x17 then (if x17 < (x15.length : Int) then (if 0 ≤ (rd x15 x17) then (if (rd x15 x17) < (x3.length : Int) then ((spec_l1Most.f x6 (rd x3 (rd x15 x17))).bind fun t217 => (spec_ruDepths.l1 k x3 t217 x9 x10 x11 x15 x16 (wrap64 (x17 + 1)))) else (none)) else (none)) else (none)) else (none)) else (if x3.length < 17592186044416 then (spec_ruDepths.l0 k (x3 ++ [wrap64 (x6 + 1)]) x9 x10 (wrap64 (x11 + 1))) else (none))
end
def spec_ruDepths.f (k : Nat) (l0 : List (List Int)) : Option (List Int) := spec_ruDepths.l0 k ([] : List Int) l0 (l0.length : Int) 0
set_option maxHeartbeats 8000000 in
set_option maxRecDepth 100000 in
theorem spec_ruDepths.calls (k : Nat) (A0 : Option Addr) (c0 : Nat) (l0 : List (List Int)) (r : List Int) (w : World) (hr0 : Kd.C (Kd.slice 3 (Kd.int .i64)) w A0 l0.length l0) (hc0 : l0.length ≤ c0) (h : spec_ruDepths.f k l0 = some r) :
  Calls Try.prog 177 #[.slice A0 l0.length c0] w fun e w' => ∃ v0_ : Value,e = .returned (v0_) ∧ Kd.R (Kd.int .i64) 3 w' w.heap.size (fun _ => True) v0_ r ∧ Below w.heap.size w w' := by
 have HR0 := Aside0.mk hr0
 have HC0 := Aside0.mk hc0
 clear hr0 hc0
 have HB := Aside0.mk (Below.refl w.heap.size w)
 have H : (spec_ruDepths.l0 k ([] : List Int) l0 (l0.length : Int) 0) = some r := h
 clear h
 have H' := Aside0.mk H
 clear H
 go_enter Try.func177,Try.ntmps177
 go_wp2
 go_loopg [3,11] k (fun kq v3 v11 w' => ∃ (x3_1 : List Int) (x11_1 : Int),v11 = .int .i64 x11_1 ∧ Aside0 (spec_ruDepths.l0 kq x3_1 l0 (l0.length : Int) x11_1 = some r) ∧ Aside0 (kq ≤ k) ∧ Aside0 (Kd.R (Kd.int .i64) 3 w' w.heap.size (fun _ => True) v3 x3_1) ∧ Aside0 (Below w.heap.size w w'))
 case atStart => exact ⟨(([] : List Int)),(0),(by first | rfl | (simp;done) | (simp [*];done)),H',⟨Nat.le_refl _⟩,⟨by first | exact Kd.R_nil _ _ _ _ _ | exact Kd.N_nil _ _ _ _ _ | exact Kd.V_nil _ _ _ _ _ | exact Kd.Q_nil _ _ _ _ _ | exact Kd.S_nil _ _ _ _ _⟩,⟨by repeat (first | (with_reducible first | exact HB.out | apply below_alloc | apply pw_below_drewN | apply below_drew1) | exact HB.out)⟩⟩
 case round =>
  clear H'
  try clear c1
  obtain ⟨x3_1,x11_1,rfl,HA,HK1,HO_3,HB⟩ := hrel
  cases gk with
  | zero => exact absurd HA.out (by simp [spec_ruDepths.l0])
  | succ k1 =>
   have H := HA.out
   clear HA
   simp only [spec_ruDepths.l0] at H
   by_cases c2 : x11_1 < (l0.length : Int)
   ·rw [if_pos c2] at H
    have c2b0 : decide (x11_1 < (l0.length : Int)) = true := decide_eq_true c2
    clear c2
    by_cases c3 : 0 ≤ x11_1
    ·rw [if_pos c3] at H
     have c3b0 : decide (0 ≤ x11_1) = true := decide_eq_true c3
     clear c3
     by_cases c4 : x11_1 < (l0.length : Int)
     ·rw [if_pos c4] at H
      have c4b0 : decide (x11_1 < (l0.length : Int)) = true := decide_eq_true c4
      clear c4
      have H' := Aside0.mk H
      clear H
      have p214 : 0 ≤ (x11_1 : Int) := of_decide_eq_true (by first | (with_reducible assumption) | assumption)
      have q214 : x11_1 < (l0.length : Int) := of_decide_eq_true (by first | (with_reducible assumption) | assumption)
      obtain ⟨ad214,A214_0,c214_0,e214,hx214_0,hl214_0,hi214_0⟩ := at_L3 HR0.out x11_1 p214 q214
      cases e214
      replace hx214_0 := (HB.out.cell (World.block_lt_of_cell? w _ hx214_0)).trans hx214_0
      have HR214_0 := Aside0.mk hi214_0
      have HC214_0 := Aside0.mk hl214_0
      clear hi214_0 hl214_0
      replace p214 := eq_true p214
      replace q214 := eq_true q214
      go_wp2
      go_loopg [6,17] k1 (fun kq v6 v17 w' => ∃ (x6_2 : Int) (x17_2 : Int),v6 = .int .i64 x6_2 ∧ v17 = .int .i64 x17_2 ∧ Aside0 (spec_ruDepths.l1 kq x3_1 x6_2 l0 (l0.length : Int) x11_1 (rd_L3 l0 x11_1) ((rd_L3 l0 x11_1).length : Int) x17_2 = some r) ∧ Aside0 (kq ≤ k1) ∧ Aside0 (Kd.R (Kd.int .i64) 3 w' w.heap.size (fun _ => True) u3 x3_1) ∧ Aside0 (Below w.heap.size w w'))
      case atStart => exact ⟨(0),(0),(by first | rfl | (simp;done) | (simp [*];done)),(by first | rfl | (simp;done) | (simp [*];done)),H',⟨Nat.le_refl _⟩,⟨by (with_reducible repeat (first | apply Kd.R_alloc | apply Kd.R_drewN | apply Kd.R_drew));exact HO_3.out⟩,⟨by repeat (first | (with_reducible first | exact HB.out | apply below_alloc | apply pw_below_drewN | apply below_drew1) | exact HB.out)⟩⟩
      case round =>
       clear H'
       try clear c1
       try clear c2
       try clear c2b0
       try clear p2
       try clear q2
       try clear hx2
       try clear c3
       try clear c3b0
       try clear c4
       try clear c4b0
       try clear hx214_0
       try clear p214
       try clear q214
       obtain ⟨x6_2,x17_2,rfl,rfl,HA,HK2,HO_3,HB⟩ := hrel
       cases gk with
       | zero => exact absurd HA.out (by simp [spec_ruDepths.l1])
       | succ k2 =>
        have H := HA.out
        clear HA
        simp only [spec_ruDepths.l1] at H
        by_cases c5 : x17_2 < ((rd_L3 l0 x11_1).length : Int)
        ·rw [if_pos c5] at H
         have c5b0 : decide (x17_2 < ((rd_L3 l0 x11_1).length : Int)) = true := decide_eq_true c5
         clear c5
         by_cases c6 : 0 ≤ x17_2
         ·rw [if_pos c6] at H
          have c6b0 : decide (0 ≤ x17_2) = true := decide_eq_true c6
          clear c6
          by_cases c7 : x17_2 < ((rd_L3 l0 x11_1).length : Int)
          ·rw [if_pos c7] at H
           have c7b0 : decide (x17_2 < ((rd_L3 l0 x11_1).length : Int)) = true := decide_eq_true c7
           clear c7
           by_cases c8 : 0 ≤ (rd (rd_L3 l0 x11_1) x17_2)
           ·rw [if_pos c8] at H
            have c8b0 : decide (0 ≤ (rd (rd_L3 l0 x11_1) x17_2)) = true := decide_eq_true c8
            clear c8
            by_cases c9 : (rd (rd_L3 l0 x11_1) x17_2) < (x3_1.length : Int)
            ·rw [if_pos c9] at H
             have c9b0 : decide ((rd (rd_L3 l0 x11_1) x17_2) < (x3_1.length : Int)) = true := decide_eq_true c9
             clear c9
             replace H := Option.bind_eq_some_iff.mp H
             obtain ⟨t217,A100,H⟩ := H
             replace H : (spec_ruDepths.l1 k2 x3_1 t217 l0 (l0.length : Int) x11_1 (rd_L3 l0 x11_1) ((rd_L3 l0 x11_1).length : Int) (wrap64 (x17_2 + 1))) = some r := H
             have A10 := Aside0.mk A100
             clear A100
             have H' := Aside0.mk H
             clear H
             have p215 : 0 ≤ (x17_2 : Int) := of_decide_eq_true (by first | (with_reducible assumption) | assumption)
             have q215 : x17_2 < ((rd_L3 l0 x11_1).length : Int) := of_decide_eq_true (by first | (with_reducible assumption) | assumption)
             obtain ⟨ad215,e215,hx215_0⟩ := Kd.at_int HR214_0.out x17_2 p215 q215
             cases e215
             replace hx215_0 := (HB.out.cell (World.block_lt_of_cell? w _ hx215_0)).trans hx215_0
             replace p215 := eq_true p215
             replace q215 := eq_true q215
             obtain ⟨Ao11,co11,eo11⟩ := Kd.R_slice HO_3.out
             subst eo11
             have p216 : 0 ≤ ((rd (rd_L3 l0 x11_1) x17_2) : Int) := of_decide_eq_true (by first | (with_reducible assumption) | assumption)
             have q216 : (rd (rd_L3 l0 x11_1) x17_2) < (x3_1.length : Int) := of_decide_eq_true (by first | (with_reducible assumption) | assumption)
             obtain ⟨ad216,e216,hx216_0⟩ := Kd.at_int (Kd.R_reads' HO_3.out).2.2 (rd (rd_L3 l0 x11_1) x17_2) p216 q216
             cases e216
             replace p216 := eq_true p216
             replace q216 := eq_true q216
             go_wp2_with (first | ((with_reducible refine gate_callee (f := 164) rfl ?_);refine goesL_ (some 26) rfl rfl Try.func164 (by kernel_rfl) rfl #[.int .i64 x6_2,.int .i64 (rd x3_1 (rd (rd_L3 l0 x11_1) x17_2))] rfl (by (try simp only [List.map_toArray,List.map_cons,List.map_nil]);first | done | rfl | (simp only [List.length_drop,List.length_take];rfl)) ?_;(with_reducible refine (spec_l1Most.calls x6_2 (rd x3_1 (rd (rd_L3 l0 x11_1) x17_2)) t217 _ A10.out).mono ?_);rintro e w' ⟨rfl,⟨nd,rfl⟩⟩;refine ⟨_,rfl,?_⟩))
             go_roundg k2
             case measure => have := HK1.out;have := HK2.out;omega
             case rel => exact ⟨(t217),(wrap64 (x17_2 + 1)),(by first | rfl | (simp;done) | (simp [*];done)),(by first | rfl | (simp;done) | (simp [*];done)),H',⟨by have := HK1.out;have := HK2.out;omega⟩,⟨by (with_reducible repeat (first | apply Kd.R_alloc | apply Kd.R_drewN | apply Kd.R_drew));exact HO_3.out⟩,⟨by repeat (first | (with_reducible first | exact HB.out | apply below_alloc | apply pw_below_drewN | apply below_drew1) | exact HB.out)⟩⟩
            ·rw [if_neg c9] at H
             exact absurd H (by simp)
           ·rw [if_neg c8] at H
            exact absurd H (by simp)
          ·rw [if_neg c7] at H
           exact absurd H (by simp)
         ·rw [if_neg c6] at H
          exact absurd H (by simp)
        ·rw [if_neg c5] at H
         have c5b0 : decide (x17_2 < ((rd_L3 l0 x11_1).length : Int)) = false := decide_eq_false c5
         clear c5
         by_cases c12 : x3_1.length < 17592186044416
         ·rw [if_pos c12] at H
          have LMc12 := Aside0.mk c12
          clear c12
          obtain ⟨y218,hy218⟩ : ∃ y_ : List Int,y_ = (x3_1 ++ [wrap64 (x6_2 + 1)]) := ⟨_,rfl⟩
          replace H : (spec_ruDepths.l0 k2 y218 l0 (l0.length : Int) (wrap64 (x11_1 + 1))) = some r := by first | (rw [hy218];with_reducible exact H) | (have H2_ := (Option.bind_some _ _).symm.trans H;rw [hy218];with_reducible exact H2_) | (have H2_ := (Option.bind_some _ _).symm.trans H;with_reducible exact H2_) | with_reducible exact H | (rw [hy218];exact H) | exact H
          have Ny218 := Aside0.mk hy218
          clear hy218
          have H' := Aside0.mk H
          clear H
          go_wp2_with (first | ((with_reducible refine gate_builtin (b := .append) (xs := #[.tmp 28,.tmp 31]) rfl ?_);at_builtin;refine Kd.R_append (Kd.int .i64) (w0 := w) w.heap.size rfl (.tmp 28) (.tmp 31) 24 3 (.int .i64 0) 8 rfl Try.underlying24 info3 rfl (by decide) (by omega) u3 x3_1 (wrap64 (x6_2 + 1)) [.int .i64 (wrap64 (x6_2 + 1))] (fun _ => True) (fun _ => False) rfl rfl ?aP (fun _ hk => hk.elim) ?aF ?aO ?aB ?aS ?aL ?_;(case aP => exact rfl);(case aB => exact (by repeat (first | (with_reducible first | exact HB.out | apply below_alloc | apply pw_below_drewN | apply below_drew1) | exact HB.out)));(case aF => exact (fun _ _ => trivial));(case aO => exact (by (with_reducible repeat (first | apply Kd.R_alloc | apply Kd.R_drewN | apply Kd.R_drew));exact HO_3.out));(case aS => exact (below_size (by repeat (first | (with_reducible first | exact HB.out | apply below_alloc | apply pw_below_drewN | apply below_drew1) | exact HB.out))));(case aL => have := LMc12.out;omega);intro v219 w13 ho hb hg hat;rw [← Ny218.out] at ho;have n0_ := Aside0.mk (hb);have n1_ := Aside0.mk (ho);clear HB;clear HO_3;have HB := n0_;have HO220 := n1_;clear n0_ n1_;clear ho hb hg hat))
          go_roundg k2
          case measure => have := HK1.out;have := HK2.out;omega
          case rel => exact ⟨(y218),(wrap64 (x11_1 + 1)),(by first | rfl | (simp;done) | (simp [*];done)),H',⟨by have := HK1.out;have := HK2.out;omega⟩,⟨by (with_reducible repeat (first | apply Kd.R_alloc | apply Kd.R_drewN | apply Kd.R_drew));exact HO220.out⟩,⟨by repeat (first | (with_reducible first | exact HB.out | apply below_alloc | apply pw_below_drewN | apply below_drew1) | exact HB.out)⟩⟩
         ·rw [if_neg c12] at H
          exact absurd H (by simp)
     ·rw [if_neg c4] at H
      exact absurd H (by simp)
    ·rw [if_neg c3] at H
     exact absurd H (by simp)
   ·rw [if_neg c2] at H
    have c2b0 : decide (x11_1 < (l0.length : Int)) = false := decide_eq_false c2
    clear c2
    obtain rfl := Option.some.inj H
    go_wp2
    go_ret
    exact ⟨_,by first | rfl | (simp [errW_none,errW_some] <;> rfl) | (simp [*,errW_none,errW_some] <;> rfl),by (with_reducible repeat (first | apply Kd.R_alloc | apply Kd.R_drewN | apply Kd.R_drew));exact HO_3.out,by repeat (first | (with_reducible first | exact HB.out | apply below_alloc | apply pw_below_drewN | apply below_drew1) | exact HB.out)⟩
end Go.Proofs.Ytomfjhpiemipkaa.PFnExactRuleValues
end
section
namespace Go.Proofs.Ytomfjhpiemipkaa.PFnExactRuleValues
open Go.RowKit Go.Proofs.YtomfjhpiemipkaaW.PrintWords Go.Proofs.YtomfjhpiemipkaaW.PrintLast Go.Proofs.YtomfjhpiemipkaaW.PrintMore
attribute [local go_sem] max2_int min2_int max_two min_two max_three min_three max_four min_four   -- for this text's walks alone
set_option linter.unusedVariables false
set_option linter.unusedSimpArgs false
def spec_ruGood.f (k : Nat) (l0 : List (S139)) : Option (Bool) := (spec_l1In.f (l0.length : Int) 1 39).bind fun t221 => (if t221 = true then ((spec_ruTree.f k l0).bind fun bt222 => (if bt222.2 = true then ((spec_ruDepths.f k bt222.1).bind fun t226 => (if 0 ≤ (wrap64 ((l0.length : Int) - 1)) then (if (wrap64 ((l0.length : Int) - 1)) < (t226.length : Int) then (some (decide ((rd t226 (wrap64 ((l0.length : Int) - 1))) ≤ 12))) else (none)) else (none))) else (some false))) else (some false))
set_option maxHeartbeats 8000000 in
set_option maxRecDepth 100000 in
theorem spec_ruGood.calls (k : Nat) (A0 : Option Addr) (c0 : Nat) (l0 : List (S139)) (r : Bool) (w : World) (hr0 : Kd.C k139 w A0 l0.length l0) (hc0 : l0.length ≤ c0) (h : spec_ruGood.f k l0 = some r) :
  Calls Try.prog 120 #[.slice A0 l0.length c0] w fun e w' => e = .returned (.bool r) ∧ Below w.heap.size w w' := by
 have HR0 := Aside0.mk hr0
 have HC0 := Aside0.mk hc0
 clear hr0 hc0
 have HB := Aside0.mk (Below.refl w.heap.size w)
 have H : ((spec_l1In.f (l0.length : Int) 1 39).bind fun t221 => (if t221 = true then ((spec_ruTree.f k l0).bind fun bt222 => (if bt222.2 = true then ((spec_ruDepths.f k bt222.1).bind fun t226 => (if 0 ≤ (wrap64 ((l0.length : Int) - 1)) then (if (wrap64 ((l0.length : Int) - 1)) < (t226.length : Int) then (some (decide ((rd t226 (wrap64 ((l0.length : Int) - 1))) ≤ 12))) else (none)) else (none))) else (some false))) else (some false))) = some r := h
 clear h
 replace H := Option.bind_eq_some_iff.mp H
 obtain ⟨t221,A20,H⟩ := H
 replace H : (if t221 = true then ((spec_ruTree.f k l0).bind fun bt222 => (if bt222.2 = true then ((spec_ruDepths.f k bt222.1).bind fun t226 => (if 0 ≤ (wrap64 ((l0.length : Int) - 1)) then (if (wrap64 ((l0.length : Int) - 1)) < (t226.length : Int) then (some (decide ((rd t226 (wrap64 ((l0.length : Int) - 1))) ≤ 12))) else (none)) else (none))) else (some false))) else (some false)) = some r := H
 have A2 := Aside0.mk A20
 clear A20
 by_cases c3 : t221 = true
 ·subst c3
  have H1 : ((spec_ruTree.f k l0).bind fun bt222 => (if bt222.2 = true then ((spec_ruDepths.f k bt222.1).bind fun t226 => (if 0 ≤ (wrap64 ((l0.length : Int) - 1)) then (if (wrap64 ((l0.length : Int) - 1)) < (t226.length : Int) then (some (decide ((rd t226 (wrap64 ((l0.length : Int) - 1))) ≤ 12))) else (none)) else (none))) else (some false))) = some r := by rw [if_pos rfl] at H;exact H
  clear H
  have H := H1
  clear H1
  replace H := Option.bind_eq_some_iff.mp H
  obtain ⟨⟨t222,t223⟩,A40,H⟩ := H
  replace H : (if t223 = true then ((spec_ruDepths.f k t222).bind fun t226 => (if 0 ≤ (wrap64 ((l0.length : Int) - 1)) then (if (wrap64 ((l0.length : Int) - 1)) < (t226.length : Int) then (some (decide ((rd t226 (wrap64 ((l0.length : Int) - 1))) ≤ 12))) else (none)) else (none))) else (some false)) = some r := H
  have A4 := Aside0.mk A40
  clear A40
  by_cases c5 : t223 = true
  ·subst c5
   have H1 : ((spec_ruDepths.f k t222).bind fun t226 => (if 0 ≤ (wrap64 ((l0.length : Int) - 1)) then (if (wrap64 ((l0.length : Int) - 1)) < (t226.length : Int) then (some (decide ((rd t226 (wrap64 ((l0.length : Int) - 1))) ≤ 12))) else (none)) else (none))) = some r := by rw [if_pos rfl] at H;exact H
   clear H
   have H := H1
   clear H1
   replace H := Option.bind_eq_some_iff.mp H
   obtain ⟨t226,A60,H⟩ := H
   replace H : (if 0 ≤ (wrap64 ((l0.length : Int) - 1)) then (if (wrap64 ((l0.length : Int) - 1)) < (t226.length : Int) then (some (decide ((rd t226 (wrap64 ((l0.length : Int) - 1))) ≤ 12))) else (none)) else (none)) = some r := H
   have A6 := Aside0.mk A60
   clear A60
   obtain ⟨ji7,hji7⟩ : ∃ j_ : Int,(wrap64 ((l0.length : Int) - 1)) = j_ := ⟨_,rfl⟩
   replace H : (if 0 ≤ (ji7) then (if (ji7) < (t226.length : Int) then (some (decide ((rd t226 (ji7)) ≤ 12))) else (none)) else (none)) = some r := by first | (rw [hji7] at H;exact H) | (simp only [hji7] at H ⊢;exact H)
   (try rw [hji7] at A2)
   (try rw [hji7] at A4)
   (try rw [hji7] at A6)
   have hji7w : (IntKind.i64.wrap ((l0.length : Int) - 1)) = ji7 := (i64_w _).trans hji7
   by_cases c8 : 0 ≤ (ji7)
   ·rw [if_pos c8] at H
    have c8b0 : decide (0 ≤ (ji7)) = true := decide_eq_true c8
    clear c8
    by_cases c9 : (ji7) < (t226.length : Int)
    ·rw [if_pos c9] at H
     have c9b0 : decide ((ji7) < (t226.length : Int)) = true := decide_eq_true c9
     clear c9
     obtain rfl := Option.some.inj H
     go_enter Try.func120,Try.ntmps120
     go_wp2_with (first | ((with_reducible refine gate_callee (f := 108) rfl ?_);refine goesL_ (some 7) rfl rfl Try.func108 (by kernel_rfl) rfl #[.int .i64 (l0.length : Int),.int .i64 1,.int .i64 39] rfl (by (try simp only [List.map_toArray,List.map_cons,List.map_nil]);first | done | rfl | (simp only [List.length_drop,List.length_take];rfl)) ?_;(with_reducible refine (spec_l1In.calls (l0.length : Int) 1 39 true _ A2.out).mono ?_);rintro e w' ⟨rfl,⟨nd,rfl⟩⟩;refine ⟨_,rfl,?_⟩) | ((with_reducible refine gate_callee (f := 176) rfl ?_);refine goesL_ (some 11) rfl rfl Try.func176 (by kernel_rfl) rfl #[.slice A0 l0.length c0] rfl (by (try simp only [List.map_toArray,List.map_cons,List.map_nil]);first | done | rfl | (simp only [List.length_drop,List.length_take];rfl)) ?_;(with_reducible refine (spec_ruTree.calls k _ _ l0 t222 true _ ?side1 ?side2 A4.out).mono ?_);(case side1 => repeat (first | exact HR0.out | (with_reducible refine Kd.C_alloc ?_ _) | (with_reducible refine Kd.C_drewN ?_ _) | (with_reducible refine Kd.C_drew ?_)));(case side2 => exact HC0.out);rintro e w10 ⟨v224,rfl,ho0,hb⟩;refine ⟨_,rfl,?_⟩;have n0_ := Aside0.mk (Kd.S_lower ho0 (below_size (by repeat (first | (with_reducible first | exact HB.out | apply below_alloc | apply pw_below_drewN | apply below_drew1) | exact HB.out))));have n1_ := Aside0.mk (below_step (by repeat (first | (with_reducible first | exact HB.out | apply below_alloc | apply pw_below_drewN | apply below_drew1) | exact HB.out)) hb);clear HB;have HO225 := n0_;have HB := n1_;clear n0_ n1_;(try clear hb);(try clear hb2);(try clear hk);(try clear hi);(try clear ho0);obtain ⟨Ao11,co11,eo11⟩ := Kd.S_slice HO225.out;subst eo11) | (go_at_call 177;(with_reducible refine (spec_ruDepths.calls k _ _ t222 t226 _ ?side1 ?side2 A6.out).mono ?_);(case side1 => repeat (first | exact (Kd.S_reads' HO225.out).2.2 | (with_reducible refine Kd.C_alloc ?_ _) | (with_reducible refine Kd.C_drewN ?_ _) | (with_reducible refine Kd.C_drew ?_)));(case side2 => exact (Kd.S_reads' HO225.out).2.1);rintro e w12 ⟨v227,rfl,ho0,hb⟩;have n0_ := Aside0.mk (Kd.S_elder' (by (with_reducible repeat (first | apply Kd.S_alloc | apply Kd.S_drewN | apply Kd.S_drew));exact HO225.out) (Kd.R_base ho0) hb);have n1_ := Aside0.mk (Kd.R_lower ho0 (below_size (by repeat (first | (with_reducible first | exact HB.out | apply below_alloc | apply pw_below_drewN | apply below_drew1) | exact HB.out))));have n2_ := Aside0.mk (below_step (by repeat (first | (with_reducible first | exact HB.out | apply below_alloc | apply pw_below_drewN | apply below_drew1) | exact HB.out)) hb);clear HO225;clear HB;have HO225 := n0_;have HO228 := n1_;have HB := n2_;clear n0_ n1_ n2_;(try clear hb);(try clear hb2);(try clear hk);(try clear hi);(try clear ho0);obtain ⟨Ao13,co13,eo13⟩ := Kd.R_slice HO228.out;subst eo13;have p229 : 0 ≤ ((ji7) : Int) := of_decide_eq_true (by first | (with_reducible assumption) | assumption);have q229 : (ji7) < (t226.length : Int) := of_decide_eq_true (by first | (with_reducible assumption) | assumption);obtain ⟨ad229,e229,hx229_0⟩ := Kd.at_int (Kd.R_reads' HO228.out).2.2 (ji7) p229 q229;cases e229;replace p229 := eq_true p229;replace q229 := eq_true q229))
     go_ret
     exact ⟨by first | rfl | (simp [errW_none,errW_some] <;> rfl) | (simp only [← hji7];first | rfl | (simp [errW_none,errW_some] <;> rfl)) | (simp [*,errW_none,errW_some] <;> rfl),by repeat (first | (with_reducible first | exact HB.out | apply below_alloc | apply pw_below_drewN | apply below_drew1) | exact HB.out)⟩
    ·rw [if_neg c9] at H
     exact absurd H (by simp)
   ·rw [if_neg c8] at H
    exact absurd H (by simp)
  ·replace c5 := Bool.eq_false_iff.mpr c5
   subst c5
   have H1 : (some false) = some r := by rw [if_neg (show ¬ (false = true) by decide)] at H;exact H
   clear H
   have H := H1
   clear H1
   obtain rfl := Option.some.inj H
   go_enter Try.func120,Try.ntmps120
   go_wp2_with (first | ((with_reducible refine gate_callee (f := 108) rfl ?_);refine goesL_ (some 7) rfl rfl Try.func108 (by kernel_rfl) rfl #[.int .i64 (l0.length : Int),.int .i64 1,.int .i64 39] rfl (by (try simp only [List.map_toArray,List.map_cons,List.map_nil]);first | done | rfl | (simp only [List.length_drop,List.length_take];rfl)) ?_;(with_reducible refine (spec_l1In.calls (l0.length : Int) 1 39 true _ A2.out).mono ?_);rintro e w' ⟨rfl,⟨nd,rfl⟩⟩;refine ⟨_,rfl,?_⟩) | ((with_reducible refine gate_callee (f := 176) rfl ?_);refine goesL_ (some 11) rfl rfl Try.func176 (by kernel_rfl) rfl #[.slice A0 l0.length c0] rfl (by (try simp only [List.map_toArray,List.map_cons,List.map_nil]);first | done | rfl | (simp only [List.length_drop,List.length_take];rfl)) ?_;(with_reducible refine (spec_ruTree.calls k _ _ l0 t222 false _ ?side1 ?side2 A4.out).mono ?_);(case side1 => repeat (first | exact HR0.out | (with_reducible refine Kd.C_alloc ?_ _) | (with_reducible refine Kd.C_drewN ?_ _) | (with_reducible refine Kd.C_drew ?_)));(case side2 => exact HC0.out);rintro e w14 ⟨v224,rfl,ho0,hb⟩;refine ⟨_,rfl,?_⟩;have n0_ := Aside0.mk (Kd.S_lower ho0 (below_size (by repeat (first | (with_reducible first | exact HB.out | apply below_alloc | apply pw_below_drewN | apply below_drew1) | exact HB.out))));have n1_ := Aside0.mk (below_step (by repeat (first | (with_reducible first | exact HB.out | apply below_alloc | apply pw_below_drewN | apply below_drew1) | exact HB.out)) hb);clear HB;have HO225 := n0_;have HB := n1_;clear n0_ n1_;(try clear hb);(try clear hb2);(try clear hk);(try clear hi);(try clear ho0)))
   go_ret
   exact ⟨by first | rfl | (simp [errW_none,errW_some] <;> rfl) | (simp [*,errW_none,errW_some] <;> rfl),by repeat (first | (with_reducible first | exact HB.out | apply below_alloc | apply pw_below_drewN | apply below_drew1) | exact HB.out)⟩
 ·replace c3 := Bool.eq_false_iff.mpr c3
  subst c3
  have H1 : (some false) = some r := by rw [if_neg (show ¬ (false = true) by decide)] at H;exact H
  clear H
  have H := H1
  clear H1
  obtain rfl := Option.some.inj H
  go_enter Try.func120,Try.ntmps120
  go_wp2_with (first | ((with_reducible refine gate_callee (f := 108) rfl ?_);refine goesL_ (some 7) rfl rfl Try.func108 (by kernel_rfl) rfl #[.int .i64 (l0.length : Int),.int .i64 1,.int .i64 39] rfl (by (try simp only [List.map_toArray,List.map_cons,List.map_nil]);first | done | rfl | (simp only [List.length_drop,List.length_take];rfl)) ?_;(with_reducible refine (spec_l1In.calls (l0.length : Int) 1 39 false _ A2.out).mono ?_);rintro e w' ⟨rfl,⟨nd,rfl⟩⟩;refine ⟨_,rfl,?_⟩))
  go_ret
  exact ⟨by first | rfl | (simp [errW_none,errW_some] <;> rfl) | (simp [*,errW_none,errW_some] <;> rfl),by repeat (first | (with_reducible first | exact HB.out | apply below_alloc | apply pw_below_drewN | apply below_drew1) | exact HB.out)⟩
end Go.Proofs.Ytomfjhpiemipkaa.PFnExactRuleValues
end
section
namespace Go.Proofs.Ytomfjhpiemipkaa.PFnExactRuleValues
open Go.RowKit Go.Proofs.YtomfjhpiemipkaaW.PrintWords Go.Proofs.YtomfjhpiemipkaaW.PrintLast Go.Proofs.YtomfjhpiemipkaaW.PrintMore
attribute [local go_sem] max2_int min2_int max_two min_two max_three min_three max_four min_four   -- for this text's walks alone
set_option linter.unusedVariables false
set_option linter.unusedSimpArgs false
def laws_toIntS.l0 : Nat → List Int → List Int → Int → Option (List Int)
 | 0,_,_,_ => none
 | k + 1,x0,x3,x4 => if x4 < (x0.length : Int) then (if 0 ≤ x4 then (if x4 < (x3.length : Int) then (laws_toIntS.l0 k x0 (x3.set (x4 : Int).toNat (rd x0 x4)) (wrap64 (x4 + 1))) else (none)) else (none)) else (some x3)
def laws_toIntS.f (k : Nat) (l0 : List Int) : Option (List Int) := if 0 ≤ (l0.length : Int) then (if ((l0.length : Int) : Int).toNat ≤ 35184372088832 then (laws_toIntS.l0 k l0 (List.replicate ((l0.length : Int) : Int).toNat 0) 0) else (none)) else (none)
set_option maxHeartbeats 8000000 in
set_option maxRecDepth 100000 in
theorem laws_toIntS.calls (k : Nat) (A0 : Option Addr) (c0 : Nat) (l0 : List Int) (r : List Int) (w : World) (hr0 : Kd.C (Kd.int .i64) w A0 l0.length l0) (hc0 : l0.length ≤ c0) (h : laws_toIntS.f k l0 = some r) :
  Calls Try.prog 21 #[.slice A0 l0.length c0] w fun e w' => ∃ v0_ : Value,e = .returned (v0_) ∧ Kd.R (Kd.int .i64) 3 w' w.heap.size (fun _ => True) v0_ r ∧ Below w.heap.size w w' := by
 have HR0 := Aside0.mk hr0
 have HC0 := Aside0.mk hc0
 clear hr0 hc0
 have HB := Aside0.mk (Below.refl w.heap.size w)
 have H : (if 0 ≤ (l0.length : Int) then (if ((l0.length : Int) : Int).toNat ≤ 35184372088832 then (laws_toIntS.l0 k l0 (List.replicate ((l0.length : Int) : Int).toNat 0) 0) else (none)) else (none)) = some r := h
 clear h
 by_cases c2 : 0 ≤ (l0.length : Int)
 ·rw [if_pos c2] at H
  have c2b0 := eq_true c2
  have c2b1 : decide (0 ≤ (l0.length : Int)) = true := decide_eq_true c2
  clear c2
  by_cases c3 : ((l0.length : Int) : Int).toNat ≤ 35184372088832
  ·rw [if_pos c3] at H
   have c3b0 := eq_true c3
   have c3b1 : decide (((l0.length : Int) : Int).toNat ≤ 35184372088832) = true := decide_eq_true c3
   clear c3
   obtain ⟨y105,hy105⟩ : ∃ y_ : List Int,y_ = (List.replicate ((l0.length : Int) : Int).toNat 0) := ⟨_,rfl⟩
   replace H : (laws_toIntS.l0 k l0 y105 0) = some r := by first | (rw [hy105];with_reducible exact H) | (have H2_ := (Option.bind_some _ _).symm.trans H;rw [hy105];with_reducible exact H2_) | (have H2_ := (Option.bind_some _ _).symm.trans H;with_reducible exact H2_) | with_reducible exact H | (rw [hy105];exact H) | exact H
   have Ny105 := Aside0.mk hy105
   clear hy105
   have H' := Aside0.mk H
   clear H
   go_enter Try.func21,Try.ntmps21
   go_wp2_with (first | ((with_reducible refine gate_dst (N := 7) rfl ?_);refine Kd.R_make (Kd.int .i64) _ 3 rfl (N := 7) rfl 24 _ _ rfl (l0.length : Int) rfl rfl Try.underlying24 (.int .i64 0) 8 info3 rfl (by decide) (by omega) 0 (ok := fun _ => True) (okp := fun _ => True) rfl (fun _ hk => hk) trivial (of_decide_eq_true (by first | (with_reducible assumption) | assumption)) (Nat.le_trans (Nat.mul_le_mul_right _ (of_decide_eq_true (by first | (with_reducible assumption) | assumption) : (l0.length : Int).toNat ≤ 35184372088832)) (by omega)) (Below.refl _ _) (Nat.le_refl _) ?_;intro v106 w4 ho5 hb hg_ hnew_;clear hg_ hnew_;(first | rw [← Ny105.out] at ho5 | (simp only [Int.reduceToNat] at ho5;rw [← Ny105.out] at ho5));have n0_ := Aside0.mk (Kd.R_lower ho5 (below_size (by repeat (first | (with_reducible first | exact HB.out | apply below_alloc | apply pw_below_drewN | apply below_drew1) | exact HB.out))));have n1_ := Aside0.mk (below_step (by repeat (first | (with_reducible first | exact HB.out | apply below_alloc | apply pw_below_drewN | apply below_drew1) | exact HB.out)) hb);clear HB;have HO107 := n0_;have HB := n1_;clear n0_ n1_;clear hb ho5))
   go_loopg [4] k (fun kq v4 w' => ∃ (x3_1 : List Int) (x4_1 : Int),v4 = .int .i64 x4_1 ∧ Aside0 (laws_toIntS.l0 kq l0 x3_1 x4_1 = some r) ∧ Aside0 (kq ≤ k) ∧ Aside0 (Kd.R (Kd.int .i64) 3 w' w.heap.size (fun _ => True) v106 x3_1) ∧ Aside0 (Below w.heap.size w w'))
   case atStart => exact ⟨(y105),(0),(by first | rfl | (simp;done) | (simp [*];done)),H',⟨Nat.le_refl _⟩,⟨by (with_reducible repeat (first | apply Kd.R_alloc | apply Kd.R_drewN | apply Kd.R_drew));exact HO107.out⟩,⟨by repeat (first | (with_reducible first | exact HB.out | apply below_alloc | apply pw_below_drewN | apply below_drew1) | exact HB.out)⟩⟩
   case round =>
    clear H'
    try clear c2
    try clear c2b0
    try clear c2b1
    try clear p2
    try clear c3
    try clear c3b0
    try clear c3b1
    obtain ⟨x3_1,x4_1,rfl,HA,HK1,HO_3,HB⟩ := hrel
    cases gk with
    | zero => exact absurd HA.out (by simp [laws_toIntS.l0])
    | succ k1 =>
     have H := HA.out
     clear HA
     simp only [laws_toIntS.l0] at H
     by_cases c6 : x4_1 < (l0.length : Int)
     ·rw [if_pos c6] at H
      have c6b0 : decide (x4_1 < (l0.length : Int)) = true := decide_eq_true c6
      clear c6
      by_cases c7 : 0 ≤ x4_1
      ·rw [if_pos c7] at H
       have c7b0 : decide (0 ≤ x4_1) = true := decide_eq_true c7
       clear c7
       by_cases c8 : x4_1 < (x3_1.length : Int)
       ·rw [if_pos c8] at H
        have c8b0 : decide (x4_1 < (x3_1.length : Int)) = true := decide_eq_true c8
        clear c8
        obtain ⟨y109,hy109⟩ : ∃ y_ : List Int,y_ = (x3_1.set (x4_1 : Int).toNat (rd l0 x4_1)) := ⟨_,rfl⟩
        replace H : (laws_toIntS.l0 k1 l0 y109 (wrap64 (x4_1 + 1))) = some r := by first | (rw [hy109];with_reducible exact H) | (have H2_ := (Option.bind_some _ _).symm.trans H;rw [hy109];with_reducible exact H2_) | (have H2_ := (Option.bind_some _ _).symm.trans H;with_reducible exact H2_) | with_reducible exact H | (rw [hy109];exact H) | exact H
        have Ny109 := Aside0.mk hy109
        clear hy109
        have H' := Aside0.mk H
        clear H
        have p108 : 0 ≤ (x4_1 : Int) := of_decide_eq_true (by first | (with_reducible assumption) | assumption)
        have q108 : x4_1 < (l0.length : Int) := of_decide_eq_true (by first | (with_reducible assumption) | assumption)
        obtain ⟨ad108,e108,hx108_0⟩ := Kd.at_int HR0.out x4_1 p108 q108
        cases e108
        replace hx108_0 := (HB.out.cell (World.block_lt_of_cell? w _ hx108_0)).trans hx108_0
        replace p108 := eq_true p108
        replace q108 := eq_true q108
        have p9 : 0 ≤ (x4_1 : Int) := of_decide_eq_true (by first | (with_reducible assumption) | assumption)
        have q9 : (x4_1 : Int) < ((x3_1.length : Int) : Int) := of_decide_eq_true (by first | (with_reducible assumption) | assumption)
        obtain ⟨go9,co9,eo9,gb9,gl9,cl9,HG9⟩ := Kd.R_form HO_3.out (by omega)
        (first | cases eo9 | (injection eo9 with ea_ en_ ec_;(first | subst ea_ | (injection ea_ with ea_;subst ea_));subst ec_;clear en_))
        have GB9 := Aside0.mk gb9
        have GG9 := Aside0.mk HG9
        clear gb9 gl9 HG9
        obtain ⟨hx9_0,hf9_0⟩ := Kd.R_celln 0 HO_3.out (x4_1 : Int) p9 q9
        replace p9 := eq_true p9
        replace q9 := eq_true q9
        have HP10 := Kd.R_putg HO_3.out (x4_1 : Int) (rd l0 x4_1)
        go_wp2_with (first | ((with_reducible refine gate_store (t := 3) (p := 20) rfl ?_);refine store_event (t := 3) (p := 20) (v := ?vo_w11) (w1 := (wr.setCell ⟨go9,(x4_1 : Int).toNat,none⟩ (.int .i64 (rd l0 x4_1)))) ?hg ?ho ?hn ?hr ?_;(case ho => rfl);(case hg => rfl);(case hn => rfl);(case hr => first | (go_simp;done) | (go_simp;rfl));intro w11 hw;have hg : wr.grownBy w11 (some go9) := (by rw [hw];exact HP10.2);have hp_ : Kd.R (Kd.int .i64) 3 w11 w.heap.size (fun _ => True) (.slice (some ⟨go9,0,none⟩) x3_1.length co9) y109 := (by rw [hw,Ny109.out];exact HP10.1);clear HP10;have n0_ := Aside0.mk (hp_);have n1_ := Aside0.mk ((by rw [hw];exact below_set (HB.out) GB9.out : Below w.heap.size w w11));clear HO_3;clear HB;have HO_3 := n0_;have HB := n1_;clear n0_ n1_;clear hg hw hp_))
        go_roundg k1
        case measure => have := HK1.out;omega
        case rel => exact ⟨(y109),(wrap64 (x4_1 + 1)),(by first | rfl | (simp;done) | (simp [*];done)),H',⟨by have := HK1.out;omega⟩,⟨by (with_reducible repeat (first | apply Kd.R_alloc | apply Kd.R_drewN | apply Kd.R_drew));exact HO_3.out⟩,⟨by repeat (first | (with_reducible first | exact HB.out | apply below_alloc | apply pw_below_drewN | apply below_drew1) | exact HB.out)⟩⟩
       ·rw [if_neg c8] at H
        exact absurd H (by simp)
      ·rw [if_neg c7] at H
       exact absurd H (by simp)
     ·rw [if_neg c6] at H
      have c6b0 : decide (x4_1 < (l0.length : Int)) = false := decide_eq_false c6
      clear c6
      obtain rfl := Option.some.inj H
      go_wp2
      go_ret
      exact ⟨_,by first | rfl | (simp [errW_none,errW_some] <;> rfl) | (simp [*,errW_none,errW_some] <;> rfl),by (with_reducible repeat (first | apply Kd.R_alloc | apply Kd.R_drewN | apply Kd.R_drew));exact HO_3.out,by repeat (first | (with_reducible first | exact HB.out | apply below_alloc | apply pw_below_drewN | apply below_drew1) | exact HB.out)⟩
  ·rw [if_neg c3] at H
   exact absurd H (by simp)
 ·rw [if_neg c2] at H
  exact absurd H (by simp)
end Go.Proofs.Ytomfjhpiemipkaa.PFnExactRuleValues
end
section
namespace Go.Proofs.Ytomfjhpiemipkaa.PFnExactRuleValues
open Go.RowKit Go.Proofs.YtomfjhpiemipkaaW.PrintWords Go.Proofs.YtomfjhpiemipkaaW.PrintLast Go.Proofs.YtomfjhpiemipkaaW.PrintMore
attribute [local go_sem] max2_int min2_int max_two min_two max_three min_three max_four min_four   -- for this text's walks alone
set_option linter.unusedVariables false
set_option linter.unusedSimpArgs false
def spec_ruDown.f (a0 : Int) (a1 : Int) : Option (Int) := if a1 = 0 then (none) else (if (Int.tmod a0 a1) = 0 then (some (wrap64 (Int.tdiv a0 a1))) else (if ((decide (a0 < 0)) != (decide (a1 < 0))) = true then (some (wrap64 ((wrap64 (Int.tdiv a0 a1)) - 1))) else (some (wrap64 (Int.tdiv a0 a1)))))
set_option maxHeartbeats 8000000 in
set_option maxRecDepth 100000 in
theorem spec_ruDown.calls (a0 : Int) (a1 : Int) (r : Int) (w : World) (h : spec_ruDown.f a0 a1 = some r) :
  Calls Try.prog 163 #[.int .i64 a0,.int .i64 a1] w fun e w' => e = .returned (.int .i64 r) ∧ Drawn0 w w' := by
 have H : (if a1 = 0 then (none) else (if (Int.tmod a0 a1) = 0 then (some (wrap64 (Int.tdiv a0 a1))) else (if ((decide (a0 < 0)) != (decide (a1 < 0))) = true then (some (wrap64 ((wrap64 (Int.tdiv a0 a1)) - 1))) else (some (wrap64 (Int.tdiv a0 a1)))))) = some r := h
 clear h
 by_cases c3 : a1 = 0
 ·rw [if_pos c3] at H
  exact absurd H (by simp)
 ·rw [if_neg c3] at H
  have c3b0 : (a1 == 0) = false := beq_eq_false_iff_ne.mpr c3
  have c3b1 : (a1 != 0) = true := bne_iff_ne.mpr c3
  by_cases c4 : (Int.tmod a0 a1) = 0
  ·rw [if_pos c4] at H
   have c4b0 : ((Int.tmod a0 a1) == 0) = true := beq_iff_eq.mpr c4
   have c4b1 : ((Int.tmod a0 a1) != 0) = false := bne_eq_false_iff_eq.mpr c4
   clear c4
   obtain rfl := Option.some.inj H
   go_enter Try.func163,Try.ntmps163
   go_wp2
   go_ret
   exact ⟨by first | rfl | (simp;done) | (simp [*];done),by repeat (first | exact Drawn0.refl _ | apply Drawn0.step)⟩
  ·rw [if_neg c4] at H
   have c4b0 : ((Int.tmod a0 a1) == 0) = false := beq_eq_false_iff_ne.mpr c4
   have c4b1 : ((Int.tmod a0 a1) != 0) = true := bne_iff_ne.mpr c4
   by_cases c5 : ((decide (a0 < 0)) != (decide (a1 < 0))) = true
   ·rw [if_pos c5] at H
    have c5b0 : ((decide (a0 < 0)) != (decide (a1 < 0))) = true := c5
    (try (have c5b1 : decide ((decide (a0 < 0)) = (decide (a1 < 0))) = false := by simpa using c5))
    (try (have c5b2 : ((decide (a0 < 0)) == (decide (a1 < 0))) = false := by simpa using c5))
    (try (have c5b3 : ¬ ((decide (a0 < 0)) = (decide (a1 < 0))) := by simpa using c5))
    clear c5
    obtain rfl := Option.some.inj H
    go_enter Try.func163,Try.ntmps163
    go_wp2
    go_ret
    exact ⟨by first | rfl | (simp;done) | (simp [*];done),by repeat (first | exact Drawn0.refl _ | apply Drawn0.step)⟩
   ·rw [if_neg c5] at H
    have c5b0 : ((decide (a0 < 0)) != (decide (a1 < 0))) = false := by simpa using c5
    (try (have c5b1 : decide ((decide (a0 < 0)) = (decide (a1 < 0))) = true := by simpa using c5))
    (try (have c5b2 : ((decide (a0 < 0)) == (decide (a1 < 0))) = true := by simpa using c5))
    clear c5
    obtain rfl := Option.some.inj H
    go_enter Try.func163,Try.ntmps163
    go_wp2
    go_ret
    exact ⟨by first | rfl | (simp;done) | (simp [*];done),by repeat (first | exact Drawn0.refl _ | apply Drawn0.step)⟩
end Go.Proofs.Ytomfjhpiemipkaa.PFnExactRuleValues
end
section
namespace Go.Proofs.Ytomfjhpiemipkaa.PFnExactRuleValues
open Go.RowKit Go.Proofs.YtomfjhpiemipkaaW.PrintWords Go.Proofs.YtomfjhpiemipkaaW.PrintLast Go.Proofs.YtomfjhpiemipkaaW.PrintMore
attribute [local go_sem] max2_int min2_int max_two min_two max_three min_three max_four min_four   -- for this text's walks alone
set_option linter.unusedVariables false
set_option linter.unusedSimpArgs false
def spec_l1Abs.f (a0 : Int) : Option (Int) := (spec_l1Most.f a0 (wrap64 (-a0))).bind fun t230 => (some t230)
set_option maxHeartbeats 8000000 in
set_option maxRecDepth 100000 in
theorem spec_l1Abs.calls (a0 : Int) (r : Int) (w : World) (h : spec_l1Abs.f a0 = some r) :
  Calls Try.prog 194 #[.int .i64 a0] w fun e w' => e = .returned (.int .i64 r) ∧ Drawn0 w w' := by
 have H : ((spec_l1Most.f a0 (wrap64 (-a0))).bind fun t230 => (some t230)) = some r := h
 clear h
 replace H := Option.bind_eq_some_iff.mp H
 obtain ⟨t230,A20,H⟩ := H
 replace H : (some t230) = some r := H
 have A2 := Aside0.mk A20
 clear A20
 obtain rfl := Option.some.inj H
 go_enter Try.func194,Try.ntmps194
 go_wp2_with (first | ((with_reducible refine gate_callee (f := 164) rfl ?_);refine goesL_ (some 6) rfl rfl Try.func164 (by kernel_rfl) rfl #[.int .i64 a0,.int .i64 (wrap64 (-a0))] rfl (by (try simp only [List.map_toArray,List.map_cons,List.map_nil]);first | done | rfl | (simp only [List.length_drop,List.length_take];rfl)) ?_;(with_reducible refine (spec_l1Most.calls a0 (wrap64 (-a0)) t230 _ A2.out).mono ?_);rintro e w' ⟨rfl,⟨nd,rfl⟩⟩;refine ⟨_,rfl,?_⟩))
 go_ret
 exact ⟨by first | rfl | (simp;done) | (simp [*];done),by repeat (first | exact Drawn0.refl _ | apply Drawn0.step)⟩
end Go.Proofs.Ytomfjhpiemipkaa.PFnExactRuleValues
end
section
namespace Go.Proofs.Ytomfjhpiemipkaa.PFnExactRuleValues
open Go.RowKit Go.Proofs.YtomfjhpiemipkaaW.PrintWords Go.Proofs.YtomfjhpiemipkaaW.PrintLast Go.Proofs.YtomfjhpiemipkaaW.PrintMore
attribute [local go_sem] max2_int min2_int max_two min_two max_three min_three max_four min_four   -- for this text's walks alone
set_option linter.unusedVariables false
set_option linter.unusedSimpArgs false
def spec_l1Sign.f (a0 : Int) : Option (Int) := if a0 > 0 then (some 1) else (if a0 < 0 then (some (-1)) else (some 0))
set_option maxHeartbeats 8000000 in
set_option maxRecDepth 100000 in
theorem spec_l1Sign.calls (a0 : Int) (r : Int) (w : World) (h : spec_l1Sign.f a0 = some r) :
  Calls Try.prog 202 #[.int .i64 a0] w fun e w' => e = .returned (.int .i64 r) ∧ Drawn0 w w' := by
 have H : (if a0 > 0 then (some 1) else (if a0 < 0 then (some (-1)) else (some 0))) = some r := h
 clear h
 by_cases c2 : a0 > 0
 ·rw [if_pos c2] at H
  have c2b0 : decide (0 < a0) = true := decide_eq_true c2
  clear c2
  obtain rfl := Option.some.inj H
  go_enter Try.func202,Try.ntmps202
  go_wp2
  go_ret
  exact ⟨by first | rfl | (simp;done) | (simp [*];done),by repeat (first | exact Drawn0.refl _ | apply Drawn0.step)⟩
 ·rw [if_neg c2] at H
  have c2b0 : decide (0 < a0) = false := decide_eq_false c2
  clear c2
  by_cases c3 : a0 < 0
  ·rw [if_pos c3] at H
   have c3b0 : decide (a0 < 0) = true := decide_eq_true c3
   clear c3
   obtain rfl := Option.some.inj H
   go_enter Try.func202,Try.ntmps202
   go_wp2
   go_ret
   exact ⟨by first | rfl | (simp;done) | (simp [*];done),by repeat (first | exact Drawn0.refl _ | apply Drawn0.step)⟩
  ·rw [if_neg c3] at H
   have c3b0 : decide (a0 < 0) = false := decide_eq_false c3
   clear c3
   obtain rfl := Option.some.inj H
   go_enter Try.func202,Try.ntmps202
   go_wp2
   go_ret
   exact ⟨by first | rfl | (simp;done) | (simp [*];done),by repeat (first | exact Drawn0.refl _ | apply Drawn0.step)⟩
end Go.Proofs.Ytomfjhpiemipkaa.PFnExactRuleValues
end
section
namespace Go.Proofs.Ytomfjhpiemipkaa.PFnExactRuleValues
open Go.RowKit Go.Proofs.YtomfjhpiemipkaaW.PrintWords Go.Proofs.YtomfjhpiemipkaaW.PrintLast Go.Proofs.YtomfjhpiemipkaaW.PrintMore
attribute [local go_sem] max2_int min2_int max_two min_two max_three min_three max_four min_four   -- for this text's walks alone
set_option linter.unusedVariables false
set_option linter.unusedSimpArgs false
mutual
def spec_ruValue.j0 : Nat → List (S139) → List (List Int) → List Int → List Int → Int → Int → Bool → Int → Int → Option (Int × Bool)
 | 0,_,_,_,_,_,_,_,_,_ => none
 | k + 1,x0,x1,x3,x11,x12,x14,x64,x234000,x234001 => if x64 = true then (some (0,false)) else (if x234000 = 2 then ((spec_l1Abs.f (wrap64 (x12 + x14))).bind fun t241 => (some (wrap64 (x12 + x14),decide (t241 ≤ 1000000000)))) else (if x234000 = 3 then ((spec_l1Abs.f (wrap64 (x12 - x14))).bind fun t242 => (some (wrap64 (x12 - x14),decide (t242 ≤ 1000000000)))) else (if x234000 = 4 then ((spec_l1Abs.f (wrap64 (x12 * x14))).bind fun t243 => (some (wrap64 (x12 * x14),decide (t243 ≤ 1000000000)))) else (if x234000 = 5 then (if x14 = 0 then (some (0,false)) else ((spec_ruDown.f x12 x14).bind fun t244 => ((spec_l1Abs.f t244).bind fun t245 => (some (t244,decide (t245 ≤ 1000000000)))))) else (if 3 < (x11.length : Int) then ((spec_l1Sign.f (wrap64 (x12 - x14))).bind fun t247 => (if t247 = (wrap64 (x234000 - 7)) then (if 2 < (x11.length : Int) then ((spec_ruValue.f k x0 x1 (rd x11 2) x3).bind fun bt249 => (some (bt249.1,bt249.2))) else (none)) else ((spec_ruValue.f k x0 x1 (rd x11 3) x3).bind fun bt251 => (some (bt251.1,bt251.2))))) else (none))))))
def spec_ruValue.f : Nat → List (S139) → List (List Int) → Int → List Int → Option (Int × Bool)
 | 0,_,_,_,_ => none
 | k + 1,l0,l1,a2,l3 => if 0 ≤ a2 then (if a2 < (l0.length : Int) then (if a2 < (l1.length : Int) then (if ((rd_T139 l0 a2).f0) = 0 then (some ((rd_T139 l0 a2).f1,true)) else (if ((rd_T139 l0 a2).f0) = 1 then (if 0 ≤ ((rd_T139 l0 a2).f1) then (if ((rd_T139 l0 a2).f1) < (l3.length : Int) then (some (rd l3 ((rd_T139 l0 a2).f1),true)) else (none)) else (none)) else (if 0 < ((rd_L3 l1 a2).length : Int) then ((spec_ruValue.f k l0 l1 (rd (rd_L3 l1 a2) 0) l3).bind fun bt236 => (if 1 < ((rd_L3 l1 a2).length : Int) then ((spec_ruValue.f k l0 l1 (rd (rd_L3 l1 a2) 1) l3).bind fun bt239 => (if bt236.2 = true then (spec_ruValue.j0 k l0 l1 l3 (rd_L3 l1 a2) bt236.1 bt239.1 (!bt239.2) ((rd_T139 l0 a2).f0) ((rd_T139 l0 a2).f1)) else (spec_ruValue.j0 k l0 l1 l3 (rd_L3 l1 a2) bt236.1 bt239.1 true ((rd_T139 l0 a2).f0) ((rd_T139 l0 a2).f1)))) else (none))) else (none)))) else (none)) else (none)) else (none)
end
def spec_ruValue.T1 : Bool × List (List Nat × List Nat) := (true,[([],[]),([],[]),([0,1],[0,1]),([2],[2]),([],[]),([],[]),([4,5],[4,5]),([6],[6]),([],[]),([8,3,0,1,2,3,8],[3,8]),([7,9,0,1,2,3,4,5,6,7,8,9],[7])])
def spec_ruValue.B1 : List Nat := [0,0,3,7,0,0,48,112,0,271,1023]
theorem spec_ruValue.tab1 : rtab .any (opsOf Try.f178 1) = spec_ruValue.T1 := by kernel_rfl
theorem spec_ruValue.bits1 : waitsOk spec_ruValue.T1.2 spec_ruValue.B1 = true := by kernel_rfl
def spec_ruValue.T14 : Bool × List (List Nat × List Nat) := (true,[([],[]),([],[]),([0,1],[0,1]),([2],[2]),([],[]),([4],[4]),([5],[5]),([3,6],[3,6])])
def spec_ruValue.B14 : List Nat := [0,0,3,7,0,16,48,127]
theorem spec_ruValue.tab14 : rtab .any (opsOf Try.f178 14) = spec_ruValue.T14 := by kernel_rfl
theorem spec_ruValue.bits14 : waitsOk spec_ruValue.T14.2 spec_ruValue.B14 = true := by kernel_rfl
set_option maxHeartbeats 8000000 in
set_option maxRecDepth 100000 in
theorem spec_ruValue.calls (k : Nat) : ∀ (A0 : Option Addr) (c0 : Nat) (l0 : List (S139)) (A1 : Option Addr) (c1 : Nat) (l1 : List (List Int)) (a2 : Int) (A3 : Option Addr) (c3 : Nat) (l3 : List Int) (r1 : Int) (r2 : Bool) (w : World) (hr0 : Kd.C k139 w A0 l0.length l0) (hc0 : l0.length ≤ c0) (hr1 : Kd.C (Kd.slice 3 (Kd.int .i64)) w A1 l1.length l1) (hc1 : l1.length ≤ c1) (hr3 : Kd.C (Kd.int .i64) w A3 l3.length l3) (hc3 : l3.length ≤ c3) (h : spec_ruValue.f k l0 l1 a2 l3 = some (r1,r2)),
  Calls Try.prog 178 #[.slice A0 l0.length c0,.slice A1 l1.length c1,.int .i64 a2,.slice A3 l3.length c3] w fun e w' => e = .returned (.tuple #[.int .i64 r1,.bool r2]) ∧ Below w.heap.size w w' := by
 induction k using Nat.strongRecOn with
 | _ k ih =>
 intro A0 c0 l0 A1 c1 l1 a2 A3 c3 l3 r1 r2 w hr0 hc0 hr1 hc1 hr3 hc3 h
 cases k with
 | zero => exact absurd h (by simp [spec_ruValue.f])
 | succ k =>
 simp only [spec_ruValue.f] at h
 have hu139 := Try.underlying139
 have HR0 := Aside0.mk hr0
 have HC0 := Aside0.mk hc0
 clear hr0 hc0
 have HR1 := Aside0.mk hr1
 have HC1 := Aside0.mk hc1
 clear hr1 hc1
 have HR3 := Aside0.mk hr3
 have HC3 := Aside0.mk hc3
 clear hr3 hc3
 have HB := Aside0.mk (Below.refl w.heap.size w)
 have H : (if 0 ≤ a2 then (if a2 < (l0.length : Int) then (if a2 < (l1.length : Int) then (if ((rd_T139 l0 a2).f0) = 0 then (some ((rd_T139 l0 a2).f1,true)) else (if ((rd_T139 l0 a2).f0) = 1 then (if 0 ≤ ((rd_T139 l0 a2).f1) then (if ((rd_T139 l0 a2).f1) < (l3.length : Int) then (some (rd l3 ((rd_T139 l0 a2).f1),true)) else (none)) else (none)) else (if 0 < ((rd_L3 l1 a2).length : Int) then ((spec_ruValue.f k l0 l1 (rd (rd_L3 l1 a2) 0) l3).bind fun bt236 => (if 1 < ((rd_L3 l1 a2).length : Int) then ((spec_ruValue.f k l0 l1 (rd (rd_L3 l1 a2) 1) l3).bind fun bt239 => (if bt236.2 = true then (spec_ruValue.j0 k l0 l1 l3 (rd_L3 l1 a2) bt236.1 bt239.1 (!bt239.2) ((rd_T139 l0 a2).f0) ((rd_T139 l0 a2).f1)) else (spec_ruValue.j0 k l0 l1 l3 (rd_L3 l1 a2) bt236.1 bt239.1 true ((rd_T139 l0 a2).f0) ((rd_T139 l0 a2).f1)))) else (none))) else (none)))) else (none)) else (none)) else (none)) = some (r1,r2) := h
 clear h
 by_cases c5 : 0 ≤ a2
 ·rw [if_pos c5] at H
  have c5b0 : decide (0 ≤ a2) = true := decide_eq_true c5
  clear c5
  by_cases c6 : a2 < (l0.length : Int)
  ·rw [if_pos c6] at H
   have c6b0 : decide (a2 < (l0.length : Int)) = true := decide_eq_true c6
   clear c6
   by_cases c7 : a2 < (l1.length : Int)
   ·rw [if_pos c7] at H
    have c7b0 : decide (a2 < (l1.length : Int)) = true := decide_eq_true c7
    clear c7
    by_cases c8 : ((rd_T139 l0 a2).f0) = 0
    ·rw [if_pos c8] at H
     have c8b0 : (((rd_T139 l0 a2).f0) == 0) = true := beq_iff_eq.mpr c8
     have c8b1 : (((rd_T139 l0 a2).f0) != 0) = false := bne_eq_false_iff_eq.mpr c8
     clear c8
     simp only [Option.some.injEq,Prod.mk.injEq] at H
     obtain ⟨rfl,rfl⟩ := H
     go_enter Try.func178,Try.ntmps178
     try go_wp2
     have n0_ := Aside0.mk (below_drew1 HB.out)
     clear HB
     have HB := n0_
     clear n0_
     have p231 : 0 ≤ (a2 : Int) := of_decide_eq_true (by first | (with_reducible assumption) | assumption)
     have q231 : a2 < (l0.length : Int) := of_decide_eq_true (by first | (with_reducible assumption) | assumption)
     obtain ⟨ad231,e231,hx231_0,hx231_1⟩ := at_T139 HR0.out a2 p231 q231
     have hw231_1 := hx231_1
     have hw231_0 := hx231_0
     cases e231
     replace hx231_0 := (HB.out.cell (World.block_lt_of_cell? w _ hx231_0)).trans hx231_0
     replace hx231_1 := (HB.out.cell (World.block_lt_of_cell? w _ hx231_1)).trans hx231_1
     replace p231 := eq_true p231
     replace q231 := eq_true q231
     have p232 : 0 ≤ (a2 : Int) := of_decide_eq_true (by first | (with_reducible assumption) | assumption)
     have q232 : a2 < (l1.length : Int) := of_decide_eq_true (by first | (with_reducible assumption) | assumption)
     obtain ⟨ad232,A232_0,c232_0,e232,hx232_0,hl232_0,hi232_0⟩ := at_L3 HR1.out a2 p232 q232
     have hw232_0 := hx232_0
     cases e232
     replace hx232_0 := (HB.out.cell (World.block_lt_of_cell? w _ hx232_0)).trans hx232_0
     have HR232_0 := Aside0.mk hi232_0
     have HC232_0 := Aside0.mk hl232_0
     clear hi232_0 hl232_0
     replace p232 := eq_true p232
     replace q232 := eq_true q232
     refine start_ (n := 11) (S := fun w' => w'.cell? (ad231.add ((a2).toNat * 2)) = some (.int .i64 ((rd_T139 l0 a2).f0)) ∧ w'.cell? ⟨(ad231.add ((a2).toNat * 2)).block,(ad231.add ((a2).toNat * 2)).off + 1,none⟩ = some (.int .i64 ((rd_T139 l0 a2).f1)) ∧ w'.cell? (ad232.add (a2).toNat) = some (.slice A232_0 (rd_L3 l1 a2).length c232_0)) (ds := []) #[false,false,false,false,false,false,false,false,false,false,false] (by kernel_rfl) rfl rfl ⟨((HB.out.cell (World.block_lt_of_cell? w _ hw231_0)).trans hw231_0),((HB.out.cell (World.block_lt_of_cell? w _ hw231_1)).trans hw231_1),((HB.out.cell (World.block_lt_of_cell? w _ hw232_0)).trans hw232_0)⟩ (fun hHeld => ?_);refine with_tabW spec_ruValue.tab1 spec_ruValue.bits1 (fun HT_ HW_ => ?_)
     generalize w.drew = w9 at HB HR232_0 hx231_0 hx231_1 hx232_0 hHeld ⊢
     refine pure_ (i := 0) (N := some 18) (v := ?_) (a' := ?_) #[true,false,false,false,false,false,false,false,false,false,false] rfl rfl (any_of HT_.out (by kernel_rfl)) (fun _ _ _ h => h) (Or.inl ⟨by rfl,?_⟩) ?_ ?_
     rotate_left
     ·intro w'
      go_simp
      with_reducible rfl
     rotate_left
     ·simp only [Act.put,List.setIfInBounds_toArray,List.set_cons_zero,List.set_cons_succ,i64_w,i32_w]
      rfl
     refine pure_ (i := 1) (N := some 19) (v := ?_) (a' := ?_) #[true,true,false,false,false,false,false,false,false,false,false] rfl rfl (any_of HT_.out (by kernel_rfl)) (fun _ _ _ h => h) (Or.inl ⟨by rfl,?_⟩) ?_ ?_
     rotate_left
     ·intro w'
      go_simp
      with_reducible rfl
     rotate_left
     ·simp only [Act.put,List.setIfInBounds_toArray,List.set_cons_zero,List.set_cons_succ,i64_w,i32_w]
      rfl
     refine pure_ (i := 2) (N := some 20) (v := ?_) (a' := ?_) #[true,true,true,false,false,false,false,false,false,false,false] rfl rfl (any_of HT_.out (by kernel_rfl)) (fun _ _ _ h => h) (Or.inl ⟨by rfl,?_⟩) ?_ ?_
     rotate_left
     ·intro w'
      go_simp
      with_reducible rfl
     rotate_left
     ·simp only [Act.put,List.setIfInBounds_toArray,List.set_cons_zero,List.set_cons_succ,i64_w,i32_w]
      rfl
     refine pure_ (i := 4) (N := some 22) (v := ?_) (a' := ?_) #[true,true,true,false,true,false,false,false,false,false,false] rfl rfl (any_of HT_.out (by kernel_rfl)) (fun _ _ _ h => h) (Or.inl ⟨by rfl,?_⟩) ?_ ?_
     rotate_left
     ·intro w'
      go_simp
      with_reducible rfl
     rotate_left
     ·simp only [Act.put,List.setIfInBounds_toArray,List.set_cons_zero,List.set_cons_succ,i64_w,i32_w]
      rfl
     refine pure_ (i := 5) (N := some 23) (v := ?_) (a' := ?_) #[true,true,true,false,true,true,false,false,false,false,false] rfl rfl (any_of HT_.out (by kernel_rfl)) (fun _ _ _ h => h) (Or.inl ⟨by rfl,?_⟩) ?_ ?_
     rotate_left
     ·intro w'
      go_simp
      with_reducible rfl
     rotate_left
     ·simp only [Act.put,List.setIfInBounds_toArray,List.set_cons_zero,List.set_cons_succ,i64_w,i32_w]
      rfl
     refine pure_ (i := 6) (N := some 24) (v := ?_) (a' := ?_) #[true,true,true,false,true,true,true,false,false,false,false] rfl rfl (any_of HT_.out (by kernel_rfl)) (fun _ _ _ h => h) (Or.inl ⟨by rfl,?_⟩) ?_ ?_
     rotate_left
     ·intro w'
      go_simp
      with_reducible rfl
     rotate_left
     ·simp only [Act.put,List.setIfInBounds_toArray,List.set_cons_zero,List.set_cons_succ,i64_w,i32_w]
      rfl
     refine take_ (i := 3) (N := some 21) (v := ?_) (a' := ?_) #[true,true,true,true,true,true,true,false,false,false,false] rfl rfl (take_ofW HT_.out HW_.out (by kernel_rfl)) (fun _ _ _ h => h) (Or.inl ⟨by rfl,?_⟩) hHeld ?_ ?_
     rotate_left
     ·rintro w' ⟨s0,s1,s2⟩
      go_simp
      with_reducible rfl
     rotate_left
     ·simp only [Act.put,List.setIfInBounds_toArray,List.set_cons_zero,List.set_cons_succ,i64_w,i32_w]
      rfl
     refine take_ (i := 7) (N := some 25) (v := ?_) (a' := ?_) #[true,true,true,true,true,true,true,true,false,false,false] rfl rfl (take_ofW HT_.out HW_.out (by kernel_rfl)) (fun _ _ _ h => h) (Or.inl ⟨by rfl,?_⟩) hHeld ?_ ?_
     rotate_left
     ·rintro w' ⟨s0,s1,s2⟩
      go_simp
      with_reducible rfl
     rotate_left
     ·simp only [Act.put,List.setIfInBounds_toArray,List.set_cons_zero,List.set_cons_succ,i64_w,i32_w]
      rfl
     refine one_ (i := 8) (N := some 10) #[true,true,true,true,true,true,true,true,true,false,false] rfl rfl (one_of HT_.out (by kernel_rfl)) (by decide) (fun K hK => ?_)
     refine box_step ?hg (N := 10) ?hd (cs := #[.int .i64 0,.int .i64 0]) (t := 139) ?hr ?_;(case hd => rfl);(case hg => rfl);(case hr => first | (go_simp;done) | (go_simp;rfl))
     intro gb233 hg w10 hbox hb
     have n0_ := Aside0.mk (below_step (by repeat (first | (with_reducible first | exact HB.out | apply below_alloc | apply pw_below_drewN | apply below_drew1) | exact HB.out)) hb)
     have n1_ := Aside0.mk (hbox)
     have n2_ := Aside0.mk ((by rw [hg];exact (below_size (by repeat (first | (with_reducible first | exact HB.out | apply below_alloc | apply pw_below_drewN | apply below_drew1) | exact HB.out))) : w.heap.size ≤ gb233))
     have n3_ := Aside0.mk ((by rw [hg];exact (below_size (by repeat (first | (with_reducible first | exact HB.out | apply below_alloc | apply pw_below_drewN | apply below_drew1) | exact HB.out))) : w.heap.size ≤ gb233))
     clear HB
     have HB := n0_
     have BK233 := n1_
     have GW233 := n2_
     have GE233 := n3_
     clear n0_ n1_ n2_ n3_
     clear hb hbox hg
     refine hK.out _ _ ⟨((HB.out.cell (World.block_lt_of_cell? w _ hw231_0)).trans hw231_0),((HB.out.cell (World.block_lt_of_cell? w _ hw231_1)).trans hw231_1),((HB.out.cell (World.block_lt_of_cell? w _ hw232_0)).trans hw232_0)⟩ (fun hHeld => ?_)
     clear hK K
     refine norm_ (a' := ?_) ?_ ?_
     rotate_left
     ·show Act.put _ (some 10) _ = _
      simp only [Act.put,List.setIfInBounds_toArray,List.set_cons_zero,List.set_cons_succ,i64_w,i32_w]
      rfl
     refine one_ (i := 9) (N := none) #[true,true,true,true,true,true,true,true,true,true,false] rfl rfl (one_of HT_.out (by kernel_rfl)) (by decide) (fun K hK => ?_)
     have hs11 : w10.cell? ⟨gb233,0,none⟩ = some (.int .i64 0) := (blk_cell BK233.out 0).trans rfl
     have hfs11 := blk_frozen BK233.out 0
     have hs12 : w10.cell? ⟨gb233,1,none⟩ = some (.int .i64 0) := (blk_cell BK233.out 1).trans rfl
     have hfs12 := blk_frozen BK233.out 1
     refine skip_ (w1 := ?_) (by rfl) rfl ?_ ?_
     rotate_left
     ·go_simp
      rfl
     refine hK.out _ _ ⟨((cell_far (p := ⟨gb233,_,none⟩) (by first | exact Nat.ne_of_lt (Nat.lt_of_lt_of_le (by have := World.block_lt_of_cell? _ _ hw231_0;first | rwa [add_block] at this | exact this) GW233.out) | (rw [add_block];exact Nat.ne_of_lt (Nat.lt_of_lt_of_le (by have := World.block_lt_of_cell? _ _ hw231_0;first | rwa [add_block] at this | exact this) GW233.out)) | (show (Addr.add _ _).block ≠ _;rw [add_block];exact Nat.ne_of_lt (Nat.lt_of_lt_of_le (by have := World.block_lt_of_cell? _ _ hw231_0;first | rwa [add_block] at this | exact this) GW233.out)) | (dsimp only;exact Nat.ne_of_lt (Nat.lt_of_lt_of_le (by have := World.block_lt_of_cell? _ _ hw231_0;first | rwa [add_block] at this | exact this) GW233.out))) _).trans (((cell_far (p := ⟨gb233,_,none⟩) (by first | exact Nat.ne_of_lt (Nat.lt_of_lt_of_le (by have := World.block_lt_of_cell? _ _ hw231_0;first | rwa [add_block] at this | exact this) GW233.out) | (rw [add_block];exact Nat.ne_of_lt (Nat.lt_of_lt_of_le (by have := World.block_lt_of_cell? _ _ hw231_0;first | rwa [add_block] at this | exact this) GW233.out)) | (show (Addr.add _ _).block ≠ _;rw [add_block];exact Nat.ne_of_lt (Nat.lt_of_lt_of_le (by have := World.block_lt_of_cell? _ _ hw231_0;first | rwa [add_block] at this | exact this) GW233.out)) | (dsimp only;exact Nat.ne_of_lt (Nat.lt_of_lt_of_le (by have := World.block_lt_of_cell? _ _ hw231_0;first | rwa [add_block] at this | exact this) GW233.out))) _).trans (hHeld.1)))),((cell_far (p := ⟨gb233,_,none⟩) (by first | exact Nat.ne_of_lt (Nat.lt_of_lt_of_le (by have := World.block_lt_of_cell? _ _ hw231_1;first | rwa [add_block] at this | exact this) GW233.out) | (rw [add_block];exact Nat.ne_of_lt (Nat.lt_of_lt_of_le (by have := World.block_lt_of_cell? _ _ hw231_1;first | rwa [add_block] at this | exact this) GW233.out)) | (show (Addr.add _ _).block ≠ _;rw [add_block];exact Nat.ne_of_lt (Nat.lt_of_lt_of_le (by have := World.block_lt_of_cell? _ _ hw231_1;first | rwa [add_block] at this | exact this) GW233.out)) | (dsimp only;exact Nat.ne_of_lt (Nat.lt_of_lt_of_le (by have := World.block_lt_of_cell? _ _ hw231_1;first | rwa [add_block] at this | exact this) GW233.out))) _).trans (((cell_far (p := ⟨gb233,_,none⟩) (by first | exact Nat.ne_of_lt (Nat.lt_of_lt_of_le (by have := World.block_lt_of_cell? _ _ hw231_1;first | rwa [add_block] at this | exact this) GW233.out) | (rw [add_block];exact Nat.ne_of_lt (Nat.lt_of_lt_of_le (by have := World.block_lt_of_cell? _ _ hw231_1;first | rwa [add_block] at this | exact this) GW233.out)) | (show (Addr.add _ _).block ≠ _;rw [add_block];exact Nat.ne_of_lt (Nat.lt_of_lt_of_le (by have := World.block_lt_of_cell? _ _ hw231_1;first | rwa [add_block] at this | exact this) GW233.out)) | (dsimp only;exact Nat.ne_of_lt (Nat.lt_of_lt_of_le (by have := World.block_lt_of_cell? _ _ hw231_1;first | rwa [add_block] at this | exact this) GW233.out))) _).trans (hHeld.2.1)))),((cell_far (p := ⟨gb233,_,none⟩) (by first | exact Nat.ne_of_lt (Nat.lt_of_lt_of_le (by have := World.block_lt_of_cell? _ _ hw232_0;first | rwa [add_block] at this | exact this) GW233.out) | (rw [add_block];exact Nat.ne_of_lt (Nat.lt_of_lt_of_le (by have := World.block_lt_of_cell? _ _ hw232_0;first | rwa [add_block] at this | exact this) GW233.out)) | (show (Addr.add _ _).block ≠ _;rw [add_block];exact Nat.ne_of_lt (Nat.lt_of_lt_of_le (by have := World.block_lt_of_cell? _ _ hw232_0;first | rwa [add_block] at this | exact this) GW233.out)) | (dsimp only;exact Nat.ne_of_lt (Nat.lt_of_lt_of_le (by have := World.block_lt_of_cell? _ _ hw232_0;first | rwa [add_block] at this | exact this) GW233.out))) _).trans (((cell_far (p := ⟨gb233,_,none⟩) (by first | exact Nat.ne_of_lt (Nat.lt_of_lt_of_le (by have := World.block_lt_of_cell? _ _ hw232_0;first | rwa [add_block] at this | exact this) GW233.out) | (rw [add_block];exact Nat.ne_of_lt (Nat.lt_of_lt_of_le (by have := World.block_lt_of_cell? _ _ hw232_0;first | rwa [add_block] at this | exact this) GW233.out)) | (show (Addr.add _ _).block ≠ _;rw [add_block];exact Nat.ne_of_lt (Nat.lt_of_lt_of_le (by have := World.block_lt_of_cell? _ _ hw232_0;first | rwa [add_block] at this | exact this) GW233.out)) | (dsimp only;exact Nat.ne_of_lt (Nat.lt_of_lt_of_le (by have := World.block_lt_of_cell? _ _ hw232_0;first | rwa [add_block] at this | exact this) GW233.out))) _).trans (hHeld.2.2))))⟩ (fun hHeld => ?_)
     clear hK K
     refine pure_ (i := 10) (N := some 11) (v := ?_) (a' := ?_) #[true,true,true,true,true,true,true,true,true,true,true] rfl rfl (any_of HT_.out (by kernel_rfl)) (fun _ _ _ h => h) (Or.inl ⟨by rfl,?_⟩) ?_ ?_
     rotate_left
     ·intro w'
      go_simp
      with_reducible rfl
     rotate_left
     ·simp only [Act.put,List.setIfInBounds_toArray,List.set_cons_zero,List.set_cons_succ,i64_w,i32_w]
      rfl
     refine done_ (done_of HT_.out (by kernel_rfl)) ?_
     have hcz13_0 : w10.cell? ⟨gb233,0,none⟩ = some (.int .i64 0) := (blk_cell BK233.out 0).trans rfl
     have hcz13_1 : w10.cell? ⟨gb233,1,none⟩ = some (.int .i64 0) := (blk_cell BK233.out 1).trans rfl
     have hfz13_0 := blk_frozen BK233.out 0
     have hfz13_1 := blk_frozen BK233.out 1
     try go_wp2
     go_ret2
     exact ⟨by first | rfl | (simp [errW_none,errW_some] <;> rfl) | (simp [*,errW_none,errW_some] <;> rfl),by repeat (first | (with_reducible first | exact HB.out | apply below_alloc | apply pw_below_drewN | apply below_drew1 | refine below_set ?_ GE233.out) | exact HB.out)⟩
    ·rw [if_neg c8] at H
     have c8b0 : (((rd_T139 l0 a2).f0) == 0) = false := beq_eq_false_iff_ne.mpr c8
     have c8b1 : (((rd_T139 l0 a2).f0) != 0) = true := bne_iff_ne.mpr c8
     by_cases c14 : ((rd_T139 l0 a2).f0) = 1
     ·rw [if_pos c14] at H
      have c14b0 : (((rd_T139 l0 a2).f0) == 1) = true := beq_iff_eq.mpr c14
      have c14b1 : (((rd_T139 l0 a2).f0) != 1) = false := bne_eq_false_iff_eq.mpr c14
      clear c14
      by_cases c15 : 0 ≤ ((rd_T139 l0 a2).f1)
      ·rw [if_pos c15] at H
       have c15b0 : decide (0 ≤ ((rd_T139 l0 a2).f1)) = true := decide_eq_true c15
       clear c15
       by_cases c16 : ((rd_T139 l0 a2).f1) < (l3.length : Int)
       ·rw [if_pos c16] at H
        have c16b0 : decide (((rd_T139 l0 a2).f1) < (l3.length : Int)) = true := decide_eq_true c16
        clear c16
        simp only [Option.some.injEq,Prod.mk.injEq] at H
        obtain ⟨rfl,rfl⟩ := H
        go_enter Try.func178,Try.ntmps178
        try go_wp2
        have n0_ := Aside0.mk (below_drew1 HB.out)
        clear HB
        have HB := n0_
        clear n0_
        have p231 : 0 ≤ (a2 : Int) := of_decide_eq_true (by first | (with_reducible assumption) | assumption)
        have q231 : a2 < (l0.length : Int) := of_decide_eq_true (by first | (with_reducible assumption) | assumption)
        obtain ⟨ad231,e231,hx231_0,hx231_1⟩ := at_T139 HR0.out a2 p231 q231
        have hw231_1 := hx231_1
        have hw231_0 := hx231_0
        cases e231
        replace hx231_0 := (HB.out.cell (World.block_lt_of_cell? w _ hx231_0)).trans hx231_0
        replace hx231_1 := (HB.out.cell (World.block_lt_of_cell? w _ hx231_1)).trans hx231_1
        replace p231 := eq_true p231
        replace q231 := eq_true q231
        have p232 : 0 ≤ (a2 : Int) := of_decide_eq_true (by first | (with_reducible assumption) | assumption)
        have q232 : a2 < (l1.length : Int) := of_decide_eq_true (by first | (with_reducible assumption) | assumption)
        obtain ⟨ad232,A232_0,c232_0,e232,hx232_0,hl232_0,hi232_0⟩ := at_L3 HR1.out a2 p232 q232
        have hw232_0 := hx232_0
        cases e232
        replace hx232_0 := (HB.out.cell (World.block_lt_of_cell? w _ hx232_0)).trans hx232_0
        have HR232_0 := Aside0.mk hi232_0
        have HC232_0 := Aside0.mk hl232_0
        clear hi232_0 hl232_0
        replace p232 := eq_true p232
        replace q232 := eq_true q232
        refine start_ (n := 11) (S := fun w' => w'.cell? (ad231.add ((a2).toNat * 2)) = some (.int .i64 ((rd_T139 l0 a2).f0)) ∧ w'.cell? ⟨(ad231.add ((a2).toNat * 2)).block,(ad231.add ((a2).toNat * 2)).off + 1,none⟩ = some (.int .i64 ((rd_T139 l0 a2).f1)) ∧ w'.cell? (ad232.add (a2).toNat) = some (.slice A232_0 (rd_L3 l1 a2).length c232_0)) (ds := []) #[false,false,false,false,false,false,false,false,false,false,false] (by kernel_rfl) rfl rfl ⟨((HB.out.cell (World.block_lt_of_cell? w _ hw231_0)).trans hw231_0),((HB.out.cell (World.block_lt_of_cell? w _ hw231_1)).trans hw231_1),((HB.out.cell (World.block_lt_of_cell? w _ hw232_0)).trans hw232_0)⟩ (fun hHeld => ?_);refine with_tabW spec_ruValue.tab1 spec_ruValue.bits1 (fun HT_ HW_ => ?_)
        generalize w.drew = w17 at HB HR232_0 hx231_0 hx231_1 hx232_0 hHeld ⊢
        refine pure_ (i := 0) (N := some 18) (v := ?_) (a' := ?_) #[true,false,false,false,false,false,false,false,false,false,false] rfl rfl (any_of HT_.out (by kernel_rfl)) (fun _ _ _ h => h) (Or.inl ⟨by rfl,?_⟩) ?_ ?_
        rotate_left
        ·intro w'
         go_simp
         with_reducible rfl
        rotate_left
        ·simp only [Act.put,List.setIfInBounds_toArray,List.set_cons_zero,List.set_cons_succ,i64_w,i32_w]
         rfl
        refine pure_ (i := 1) (N := some 19) (v := ?_) (a' := ?_) #[true,true,false,false,false,false,false,false,false,false,false] rfl rfl (any_of HT_.out (by kernel_rfl)) (fun _ _ _ h => h) (Or.inl ⟨by rfl,?_⟩) ?_ ?_
        rotate_left
        ·intro w'
         go_simp
         with_reducible rfl
        rotate_left
        ·simp only [Act.put,List.setIfInBounds_toArray,List.set_cons_zero,List.set_cons_succ,i64_w,i32_w]
         rfl
        refine pure_ (i := 2) (N := some 20) (v := ?_) (a' := ?_) #[true,true,true,false,false,false,false,false,false,false,false] rfl rfl (any_of HT_.out (by kernel_rfl)) (fun _ _ _ h => h) (Or.inl ⟨by rfl,?_⟩) ?_ ?_
        rotate_left
        ·intro w'
         go_simp
         with_reducible rfl
        rotate_left
        ·simp only [Act.put,List.setIfInBounds_toArray,List.set_cons_zero,List.set_cons_succ,i64_w,i32_w]
         rfl
        refine pure_ (i := 4) (N := some 22) (v := ?_) (a' := ?_) #[true,true,true,false,true,false,false,false,false,false,false] rfl rfl (any_of HT_.out (by kernel_rfl)) (fun _ _ _ h => h) (Or.inl ⟨by rfl,?_⟩) ?_ ?_
        rotate_left
        ·intro w'
         go_simp
         with_reducible rfl
        rotate_left
        ·simp only [Act.put,List.setIfInBounds_toArray,List.set_cons_zero,List.set_cons_succ,i64_w,i32_w]
         rfl
        refine pure_ (i := 5) (N := some 23) (v := ?_) (a' := ?_) #[true,true,true,false,true,true,false,false,false,false,false] rfl rfl (any_of HT_.out (by kernel_rfl)) (fun _ _ _ h => h) (Or.inl ⟨by rfl,?_⟩) ?_ ?_
        rotate_left
        ·intro w'
         go_simp
         with_reducible rfl
        rotate_left
        ·simp only [Act.put,List.setIfInBounds_toArray,List.set_cons_zero,List.set_cons_succ,i64_w,i32_w]
         rfl
        refine pure_ (i := 6) (N := some 24) (v := ?_) (a' := ?_) #[true,true,true,false,true,true,true,false,false,false,false] rfl rfl (any_of HT_.out (by kernel_rfl)) (fun _ _ _ h => h) (Or.inl ⟨by rfl,?_⟩) ?_ ?_
        rotate_left
        ·intro w'
         go_simp
         with_reducible rfl
        rotate_left
        ·simp only [Act.put,List.setIfInBounds_toArray,List.set_cons_zero,List.set_cons_succ,i64_w,i32_w]
         rfl
        refine take_ (i := 3) (N := some 21) (v := ?_) (a' := ?_) #[true,true,true,true,true,true,true,false,false,false,false] rfl rfl (take_ofW HT_.out HW_.out (by kernel_rfl)) (fun _ _ _ h => h) (Or.inl ⟨by rfl,?_⟩) hHeld ?_ ?_
        rotate_left
        ·rintro w' ⟨s0,s1,s2⟩
         go_simp
         with_reducible rfl
        rotate_left
        ·simp only [Act.put,List.setIfInBounds_toArray,List.set_cons_zero,List.set_cons_succ,i64_w,i32_w]
         rfl
        refine take_ (i := 7) (N := some 25) (v := ?_) (a' := ?_) #[true,true,true,true,true,true,true,true,false,false,false] rfl rfl (take_ofW HT_.out HW_.out (by kernel_rfl)) (fun _ _ _ h => h) (Or.inl ⟨by rfl,?_⟩) hHeld ?_ ?_
        rotate_left
        ·rintro w' ⟨s0,s1,s2⟩
         go_simp
         with_reducible rfl
        rotate_left
        ·simp only [Act.put,List.setIfInBounds_toArray,List.set_cons_zero,List.set_cons_succ,i64_w,i32_w]
         rfl
        refine one_ (i := 8) (N := some 10) #[true,true,true,true,true,true,true,true,true,false,false] rfl rfl (one_of HT_.out (by kernel_rfl)) (by decide) (fun K hK => ?_)
        refine box_step ?hg (N := 10) ?hd (cs := #[.int .i64 0,.int .i64 0]) (t := 139) ?hr ?_;(case hd => rfl);(case hg => rfl);(case hr => first | (go_simp;done) | (go_simp;rfl))
        intro gb233 hg w18 hbox hb
        have n0_ := Aside0.mk (below_step (by repeat (first | (with_reducible first | exact HB.out | apply below_alloc | apply pw_below_drewN | apply below_drew1) | exact HB.out)) hb)
        have n1_ := Aside0.mk (hbox)
        have n2_ := Aside0.mk ((by rw [hg];exact (below_size (by repeat (first | (with_reducible first | exact HB.out | apply below_alloc | apply pw_below_drewN | apply below_drew1) | exact HB.out))) : w.heap.size ≤ gb233))
        have n3_ := Aside0.mk ((by rw [hg];exact (below_size (by repeat (first | (with_reducible first | exact HB.out | apply below_alloc | apply pw_below_drewN | apply below_drew1) | exact HB.out))) : w.heap.size ≤ gb233))
        clear HB
        have HB := n0_
        have BK233 := n1_
        have GW233 := n2_
        have GE233 := n3_
        clear n0_ n1_ n2_ n3_
        clear hb hbox hg
        refine hK.out _ _ ⟨((HB.out.cell (World.block_lt_of_cell? w _ hw231_0)).trans hw231_0),((HB.out.cell (World.block_lt_of_cell? w _ hw231_1)).trans hw231_1),((HB.out.cell (World.block_lt_of_cell? w _ hw232_0)).trans hw232_0)⟩ (fun hHeld => ?_)
        clear hK K
        refine norm_ (a' := ?_) ?_ ?_
        rotate_left
        ·show Act.put _ (some 10) _ = _
         simp only [Act.put,List.setIfInBounds_toArray,List.set_cons_zero,List.set_cons_succ,i64_w,i32_w]
         rfl
        refine one_ (i := 9) (N := none) #[true,true,true,true,true,true,true,true,true,true,false] rfl rfl (one_of HT_.out (by kernel_rfl)) (by decide) (fun K hK => ?_)
        have hs19 : w18.cell? ⟨gb233,0,none⟩ = some (.int .i64 0) := (blk_cell BK233.out 0).trans rfl
        have hfs19 := blk_frozen BK233.out 0
        have hs20 : w18.cell? ⟨gb233,1,none⟩ = some (.int .i64 0) := (blk_cell BK233.out 1).trans rfl
        have hfs20 := blk_frozen BK233.out 1
        refine skip_ (w1 := ?_) (by rfl) rfl ?_ ?_
        rotate_left
        ·go_simp
         rfl
        refine hK.out _ _ ⟨((cell_far (p := ⟨gb233,_,none⟩) (by first | exact Nat.ne_of_lt (Nat.lt_of_lt_of_le (by have := World.block_lt_of_cell? _ _ hw231_0;first | rwa [add_block] at this | exact this) GW233.out) | (rw [add_block];exact Nat.ne_of_lt (Nat.lt_of_lt_of_le (by have := World.block_lt_of_cell? _ _ hw231_0;first | rwa [add_block] at this | exact this) GW233.out)) | (show (Addr.add _ _).block ≠ _;rw [add_block];exact Nat.ne_of_lt (Nat.lt_of_lt_of_le (by have := World.block_lt_of_cell? _ _ hw231_0;first | rwa [add_block] at this | exact this) GW233.out)) | (dsimp only;exact Nat.ne_of_lt (Nat.lt_of_lt_of_le (by have := World.block_lt_of_cell? _ _ hw231_0;first | rwa [add_block] at this | exact this) GW233.out))) _).trans (((cell_far (p := ⟨gb233,_,none⟩) (by first | exact Nat.ne_of_lt (Nat.lt_of_lt_of_le (by have := World.block_lt_of_cell? _ _ hw231_0;first | rwa [add_block] at this | exact this) GW233.out) | (rw [add_block];exact Nat.ne_of_lt (Nat.lt_of_lt_of_le (by have := World.block_lt_of_cell? _ _ hw231_0;first | rwa [add_block] at this | exact this) GW233.out)) | (show (Addr.add _ _).block ≠ _;rw [add_block];exact Nat.ne_of_lt (Nat.lt_of_lt_of_le (by have := World.block_lt_of_cell? _ _ hw231_0;first | rwa [add_block] at this | exact this) GW233.out)) | (dsimp only;exact Nat.ne_of_lt (Nat.lt_of_lt_of_le (by have := World.block_lt_of_cell? _ _ hw231_0;first | rwa [add_block] at this | exact this) GW233.out))) _).trans (hHeld.1)))),((cell_far (p := ⟨gb233,_,none⟩) (by first | exact Nat.ne_of_lt (Nat.lt_of_lt_of_le (by have := World.block_lt_of_cell? _ _ hw231_1;first | rwa [add_block] at this | exact this) GW233.out) | (rw [add_block];exact Nat.ne_of_lt (Nat.lt_of_lt_of_le (by have := World.block_lt_of_cell? _ _ hw231_1;first | rwa [add_block] at this | exact this) GW233.out)) | (show (Addr.add _ _).block ≠ _;rw [add_block];exact Nat.ne_of_lt (Nat.lt_of_lt_of_le (by have := World.block_lt_of_cell? _ _ hw231_1;first | rwa [add_block] at this | exact this) GW233.out)) | (dsimp only;exact Nat.ne_of_lt (Nat.lt_of_lt_of_le (by have := World.block_lt_of_cell? _ _ hw231_1;first | rwa [add_block] at this | exact this) GW233.out))) _).trans (((cell_far (p := ⟨gb233,_,none⟩) (by first | exact Nat.ne_of_lt (Nat.lt_of_lt_of_le (by have := World.block_lt_of_cell? _ _ hw231_1;first | rwa [add_block] at this | exact this) GW233.out) | (rw [add_block];exact Nat.ne_of_lt (Nat.lt_of_lt_of_le (by have := World.block_lt_of_cell? _ _ hw231_1;first | rwa [add_block] at this | exact this) GW233.out)) | (show (Addr.add _ _).block ≠ _;rw [add_block];exact Nat.ne_of_lt (Nat.lt_of_lt_of_le (by have := World.block_lt_of_cell? _ _ hw231_1;first | rwa [add_block] at this | exact this) GW233.out)) | (dsimp only;exact Nat.ne_of_lt (Nat.lt_of_lt_of_le (by have := World.block_lt_of_cell? _ _ hw231_1;first | rwa [add_block] at this | exact this) GW233.out))) _).trans (hHeld.2.1)))),((cell_far (p := ⟨gb233,_,none⟩) (by first | exact Nat.ne_of_lt (Nat.lt_of_lt_of_le (by have := World.block_lt_of_cell? _ _ hw232_0;first | rwa [add_block] at this | exact this) GW233.out) | (rw [add_block];exact Nat.ne_of_lt (Nat.lt_of_lt_of_le (by have := World.block_lt_of_cell? _ _ hw232_0;first | rwa [add_block] at this | exact this) GW233.out)) | (show (Addr.add _ _).block ≠ _;rw [add_block];exact Nat.ne_of_lt (Nat.lt_of_lt_of_le (by have := World.block_lt_of_cell? _ _ hw232_0;first | rwa [add_block] at this | exact this) GW233.out)) | (dsimp only;exact Nat.ne_of_lt (Nat.lt_of_lt_of_le (by have := World.block_lt_of_cell? _ _ hw232_0;first | rwa [add_block] at this | exact this) GW233.out))) _).trans (((cell_far (p := ⟨gb233,_,none⟩) (by first | exact Nat.ne_of_lt (Nat.lt_of_lt_of_le (by have := World.block_lt_of_cell? _ _ hw232_0;first | rwa [add_block] at this | exact this) GW233.out) | (rw [add_block];exact Nat.ne_of_lt (Nat.lt_of_lt_of_le (by have := World.block_lt_of_cell? _ _ hw232_0;first | rwa [add_block] at this | exact this) GW233.out)) | (show (Addr.add _ _).block ≠ _;rw [add_block];exact Nat.ne_of_lt (Nat.lt_of_lt_of_le (by have := World.block_lt_of_cell? _ _ hw232_0;first | rwa [add_block] at this | exact this) GW233.out)) | (dsimp only;exact Nat.ne_of_lt (Nat.lt_of_lt_of_le (by have := World.block_lt_of_cell? _ _ hw232_0;first | rwa [add_block] at this | exact this) GW233.out))) _).trans (hHeld.2.2))))⟩ (fun hHeld => ?_)
        clear hK K
        refine pure_ (i := 10) (N := some 11) (v := ?_) (a' := ?_) #[true,true,true,true,true,true,true,true,true,true,true] rfl rfl (any_of HT_.out (by kernel_rfl)) (fun _ _ _ h => h) (Or.inl ⟨by rfl,?_⟩) ?_ ?_
        rotate_left
        ·intro w'
         go_simp
         with_reducible rfl
        rotate_left
        ·simp only [Act.put,List.setIfInBounds_toArray,List.set_cons_zero,List.set_cons_succ,i64_w,i32_w]
         rfl
        refine done_ (done_of HT_.out (by kernel_rfl)) ?_
        have hcz21_0 : w18.cell? ⟨gb233,0,none⟩ = some (.int .i64 0) := (blk_cell BK233.out 0).trans rfl
        have hcz21_1 : w18.cell? ⟨gb233,1,none⟩ = some (.int .i64 0) := (blk_cell BK233.out 1).trans rfl
        have hfz21_0 := blk_frozen BK233.out 0
        have hfz21_1 := blk_frozen BK233.out 1
        have p234 : 0 ≤ (((rd_T139 l0 a2).f1) : Int) := of_decide_eq_true (by first | (with_reducible assumption) | assumption)
        have q234 : ((rd_T139 l0 a2).f1) < (l3.length : Int) := of_decide_eq_true (by first | (with_reducible assumption) | assumption)
        obtain ⟨ad234,e234,hx234_0⟩ := Kd.at_int HR3.out ((rd_T139 l0 a2).f1) p234 q234
        cases e234
        have hn234_0 : ad234.block ≠ gb233 := Nat.ne_of_lt (Nat.lt_of_lt_of_le (by have := World.block_lt_of_cell? _ _ hx234_0;first | rwa [add_block] at this | exact this) GW233.out)
        have hn234_1 : ad234.block ≠ gb233 := Nat.ne_of_lt (Nat.lt_of_lt_of_le (by have := World.block_lt_of_cell? _ _ hx234_0;first | rwa [add_block] at this | exact this) GW233.out)
        replace hx234_0 := (HB.out.cell (World.block_lt_of_cell? w _ hx234_0)).trans hx234_0
        replace hx234_0 := (cell_far (p := ⟨gb233,0,none⟩) (by first | (rw [add_block];exact hn234_0) | (show (Addr.add _ _).block ≠ _;rw [add_block];exact hn234_0) | exact hn234_0) (.int .i64 ((rd_T139 l0 a2).f0))).trans hx234_0
        replace hx234_0 := (cell_far (p := ⟨gb233,1,none⟩) (by first | (rw [add_block];exact hn234_1) | (show (Addr.add _ _).block ≠ _;rw [add_block];exact hn234_1) | exact hn234_1) (.int .i64 ((rd_T139 l0 a2).f1))).trans hx234_0
        clear hn234_0
        clear hn234_1
        replace p234 := eq_true p234
        replace q234 := eq_true q234
        try go_wp2
        go_ret2
        exact ⟨by first | rfl | (simp [errW_none,errW_some] <;> rfl) | (simp [*,errW_none,errW_some] <;> rfl),by repeat (first | (with_reducible first | exact HB.out | apply below_alloc | apply pw_below_drewN | apply below_drew1 | refine below_set ?_ GE233.out) | exact HB.out)⟩
       ·rw [if_neg c16] at H
        exact absurd H (by simp)
      ·rw [if_neg c15] at H
       exact absurd H (by simp)
     ·rw [if_neg c14] at H
      have c14b0 : (((rd_T139 l0 a2).f0) == 1) = false := beq_eq_false_iff_ne.mpr c14
      have c14b1 : (((rd_T139 l0 a2).f0) != 1) = true := bne_iff_ne.mpr c14
      by_cases c22 : 0 < ((rd_L3 l1 a2).length : Int)
      ·rw [if_pos c22] at H
       have c22b0 : decide (0 < ((rd_L3 l1 a2).length : Int)) = true := decide_eq_true c22
       have c22b1 : decide (0 < (rd_L3 l1 a2).length) = true := decide_eq_true (by omega)
       clear c22
       replace H := Option.bind_eq_some_iff.mp H
       obtain ⟨⟨t236,t237⟩,A230,H⟩ := H
       replace H : (if 1 < ((rd_L3 l1 a2).length : Int) then ((spec_ruValue.f k l0 l1 (rd (rd_L3 l1 a2) 1) l3).bind fun bt239 => (if t237 = true then (spec_ruValue.j0 k l0 l1 l3 (rd_L3 l1 a2) t236 bt239.1 (!bt239.2) ((rd_T139 l0 a2).f0) ((rd_T139 l0 a2).f1)) else (spec_ruValue.j0 k l0 l1 l3 (rd_L3 l1 a2) t236 bt239.1 true ((rd_T139 l0 a2).f0) ((rd_T139 l0 a2).f1)))) else (none)) = some (r1,r2) := H
       have A23 := Aside0.mk A230
       clear A230
       by_cases c24 : 1 < ((rd_L3 l1 a2).length : Int)
       ·rw [if_pos c24] at H
        have c24b0 : decide (1 < ((rd_L3 l1 a2).length : Int)) = true := decide_eq_true c24
        have c24b1 : decide (1 < (rd_L3 l1 a2).length) = true := decide_eq_true (by omega)
        clear c24
        replace H := Option.bind_eq_some_iff.mp H
        obtain ⟨⟨t239,t240⟩,A250,H⟩ := H
        replace H : (if t237 = true then (spec_ruValue.j0 k l0 l1 l3 (rd_L3 l1 a2) t236 t239 (!t240) ((rd_T139 l0 a2).f0) ((rd_T139 l0 a2).f1)) else (spec_ruValue.j0 k l0 l1 l3 (rd_L3 l1 a2) t236 t239 true ((rd_T139 l0 a2).f0) ((rd_T139 l0 a2).f1))) = some (r1,r2) := H
        have A25 := Aside0.mk A250
        clear A250
        have HC26 := Aside0.mk H
        clear H
        go_enter Try.func178,Try.ntmps178
        try go_wp2
        have n0_ := Aside0.mk (below_drew1 HB.out)
        clear HB
        have HB := n0_
        clear n0_
        have p231 : 0 ≤ (a2 : Int) := of_decide_eq_true (by first | (with_reducible assumption) | assumption)
        have q231 : a2 < (l0.length : Int) := of_decide_eq_true (by first | (with_reducible assumption) | assumption)
        obtain ⟨ad231,e231,hx231_0,hx231_1⟩ := at_T139 HR0.out a2 p231 q231
        have hw231_1 := hx231_1
        have hw231_0 := hx231_0
        cases e231
        replace hx231_0 := (HB.out.cell (World.block_lt_of_cell? w _ hx231_0)).trans hx231_0
        replace hx231_1 := (HB.out.cell (World.block_lt_of_cell? w _ hx231_1)).trans hx231_1
        replace p231 := eq_true p231
        replace q231 := eq_true q231
        have p232 : 0 ≤ (a2 : Int) := of_decide_eq_true (by first | (with_reducible assumption) | assumption)
        have q232 : a2 < (l1.length : Int) := of_decide_eq_true (by first | (with_reducible assumption) | assumption)
        obtain ⟨ad232,A232_0,c232_0,e232,hx232_0,hl232_0,hi232_0⟩ := at_L3 HR1.out a2 p232 q232
        have hw232_0 := hx232_0
        cases e232
        replace hx232_0 := (HB.out.cell (World.block_lt_of_cell? w _ hx232_0)).trans hx232_0
        have HR232_0 := Aside0.mk hi232_0
        have HC232_0 := Aside0.mk hl232_0
        clear hi232_0 hl232_0
        replace p232 := eq_true p232
        replace q232 := eq_true q232
        refine start_ (n := 11) (S := fun w' => w'.cell? (ad231.add ((a2).toNat * 2)) = some (.int .i64 ((rd_T139 l0 a2).f0)) ∧ w'.cell? ⟨(ad231.add ((a2).toNat * 2)).block,(ad231.add ((a2).toNat * 2)).off + 1,none⟩ = some (.int .i64 ((rd_T139 l0 a2).f1)) ∧ w'.cell? (ad232.add (a2).toNat) = some (.slice A232_0 (rd_L3 l1 a2).length c232_0)) (ds := []) #[false,false,false,false,false,false,false,false,false,false,false] (by kernel_rfl) rfl rfl ⟨((HB.out.cell (World.block_lt_of_cell? w _ hw231_0)).trans hw231_0),((HB.out.cell (World.block_lt_of_cell? w _ hw231_1)).trans hw231_1),((HB.out.cell (World.block_lt_of_cell? w _ hw232_0)).trans hw232_0)⟩ (fun hHeld => ?_);refine with_tabW spec_ruValue.tab1 spec_ruValue.bits1 (fun HT_ HW_ => ?_)
        generalize w.drew = w27 at HB HR232_0 hx231_0 hx231_1 hx232_0 hHeld ⊢
        refine pure_ (i := 0) (N := some 18) (v := ?_) (a' := ?_) #[true,false,false,false,false,false,false,false,false,false,false] rfl rfl (any_of HT_.out (by kernel_rfl)) (fun _ _ _ h => h) (Or.inl ⟨by rfl,?_⟩) ?_ ?_
        rotate_left
        ·intro w'
         go_simp
         with_reducible rfl
        rotate_left
        ·simp only [Act.put,List.setIfInBounds_toArray,List.set_cons_zero,List.set_cons_succ,i64_w,i32_w]
         rfl
        refine pure_ (i := 1) (N := some 19) (v := ?_) (a' := ?_) #[true,true,false,false,false,false,false,false,false,false,false] rfl rfl (any_of HT_.out (by kernel_rfl)) (fun _ _ _ h => h) (Or.inl ⟨by rfl,?_⟩) ?_ ?_
        rotate_left
        ·intro w'
         go_simp
         with_reducible rfl
        rotate_left
        ·simp only [Act.put,List.setIfInBounds_toArray,List.set_cons_zero,List.set_cons_succ,i64_w,i32_w]
         rfl
        refine pure_ (i := 2) (N := some 20) (v := ?_) (a' := ?_) #[true,true,true,false,false,false,false,false,false,false,false] rfl rfl (any_of HT_.out (by kernel_rfl)) (fun _ _ _ h => h) (Or.inl ⟨by rfl,?_⟩) ?_ ?_
        rotate_left
        ·intro w'
         go_simp
         with_reducible rfl
        rotate_left
        ·simp only [Act.put,List.setIfInBounds_toArray,List.set_cons_zero,List.set_cons_succ,i64_w,i32_w]
         rfl
        refine pure_ (i := 4) (N := some 22) (v := ?_) (a' := ?_) #[true,true,true,false,true,false,false,false,false,false,false] rfl rfl (any_of HT_.out (by kernel_rfl)) (fun _ _ _ h => h) (Or.inl ⟨by rfl,?_⟩) ?_ ?_
        rotate_left
        ·intro w'
         go_simp
         with_reducible rfl
        rotate_left
        ·simp only [Act.put,List.setIfInBounds_toArray,List.set_cons_zero,List.set_cons_succ,i64_w,i32_w]
         rfl
        refine pure_ (i := 5) (N := some 23) (v := ?_) (a' := ?_) #[true,true,true,false,true,true,false,false,false,false,false] rfl rfl (any_of HT_.out (by kernel_rfl)) (fun _ _ _ h => h) (Or.inl ⟨by rfl,?_⟩) ?_ ?_
        rotate_left
        ·intro w'
         go_simp
         with_reducible rfl
        rotate_left
        ·simp only [Act.put,List.setIfInBounds_toArray,List.set_cons_zero,List.set_cons_succ,i64_w,i32_w]
         rfl
        refine pure_ (i := 6) (N := some 24) (v := ?_) (a' := ?_) #[true,true,true,false,true,true,true,false,false,false,false] rfl rfl (any_of HT_.out (by kernel_rfl)) (fun _ _ _ h => h) (Or.inl ⟨by rfl,?_⟩) ?_ ?_
        rotate_left
        ·intro w'
         go_simp
         with_reducible rfl
        rotate_left
        ·simp only [Act.put,List.setIfInBounds_toArray,List.set_cons_zero,List.set_cons_succ,i64_w,i32_w]
         rfl
        refine take_ (i := 3) (N := some 21) (v := ?_) (a' := ?_) #[true,true,true,true,true,true,true,false,false,false,false] rfl rfl (take_ofW HT_.out HW_.out (by kernel_rfl)) (fun _ _ _ h => h) (Or.inl ⟨by rfl,?_⟩) hHeld ?_ ?_
        rotate_left
        ·rintro w' ⟨s0,s1,s2⟩
         go_simp
         with_reducible rfl
        rotate_left
        ·simp only [Act.put,List.setIfInBounds_toArray,List.set_cons_zero,List.set_cons_succ,i64_w,i32_w]
         rfl
        refine take_ (i := 7) (N := some 25) (v := ?_) (a' := ?_) #[true,true,true,true,true,true,true,true,false,false,false] rfl rfl (take_ofW HT_.out HW_.out (by kernel_rfl)) (fun _ _ _ h => h) (Or.inl ⟨by rfl,?_⟩) hHeld ?_ ?_
        rotate_left
        ·rintro w' ⟨s0,s1,s2⟩
         go_simp
         with_reducible rfl
        rotate_left
        ·simp only [Act.put,List.setIfInBounds_toArray,List.set_cons_zero,List.set_cons_succ,i64_w,i32_w]
         rfl
        refine one_ (i := 8) (N := some 10) #[true,true,true,true,true,true,true,true,true,false,false] rfl rfl (one_of HT_.out (by kernel_rfl)) (by decide) (fun K hK => ?_)
        refine box_step ?hg (N := 10) ?hd (cs := #[.int .i64 0,.int .i64 0]) (t := 139) ?hr ?_;(case hd => rfl);(case hg => rfl);(case hr => first | (go_simp;done) | (go_simp;rfl))
        intro gb233 hg w28 hbox hb
        have n0_ := Aside0.mk (below_step (by repeat (first | (with_reducible first | exact HB.out | apply below_alloc | apply pw_below_drewN | apply below_drew1) | exact HB.out)) hb)
        have n1_ := Aside0.mk (hbox)
        have n2_ := Aside0.mk ((by rw [hg];exact (below_size (by repeat (first | (with_reducible first | exact HB.out | apply below_alloc | apply pw_below_drewN | apply below_drew1) | exact HB.out))) : w.heap.size ≤ gb233))
        have n3_ := Aside0.mk ((by rw [hg];exact (below_size (by repeat (first | (with_reducible first | exact HB.out | apply below_alloc | apply pw_below_drewN | apply below_drew1) | exact HB.out))) : w.heap.size ≤ gb233))
        clear HB
        have HB := n0_
        have BK233 := n1_
        have GW233 := n2_
        have GE233 := n3_
        clear n0_ n1_ n2_ n3_
        clear hb hbox hg
        refine hK.out _ _ ⟨((HB.out.cell (World.block_lt_of_cell? w _ hw231_0)).trans hw231_0),((HB.out.cell (World.block_lt_of_cell? w _ hw231_1)).trans hw231_1),((HB.out.cell (World.block_lt_of_cell? w _ hw232_0)).trans hw232_0)⟩ (fun hHeld => ?_)
        clear hK K
        refine norm_ (a' := ?_) ?_ ?_
        rotate_left
        ·show Act.put _ (some 10) _ = _
         simp only [Act.put,List.setIfInBounds_toArray,List.set_cons_zero,List.set_cons_succ,i64_w,i32_w]
         rfl
        refine one_ (i := 9) (N := none) #[true,true,true,true,true,true,true,true,true,true,false] rfl rfl (one_of HT_.out (by kernel_rfl)) (by decide) (fun K hK => ?_)
        have hs29 : w28.cell? ⟨gb233,0,none⟩ = some (.int .i64 0) := (blk_cell BK233.out 0).trans rfl
        have hfs29 := blk_frozen BK233.out 0
        have hs30 : w28.cell? ⟨gb233,1,none⟩ = some (.int .i64 0) := (blk_cell BK233.out 1).trans rfl
        have hfs30 := blk_frozen BK233.out 1
        refine skip_ (w1 := ?_) (by rfl) rfl ?_ ?_
        rotate_left
        ·go_simp
         rfl
        refine hK.out _ _ ⟨((cell_far (p := ⟨gb233,_,none⟩) (by first | exact Nat.ne_of_lt (Nat.lt_of_lt_of_le (by have := World.block_lt_of_cell? _ _ hw231_0;first | rwa [add_block] at this | exact this) GW233.out) | (rw [add_block];exact Nat.ne_of_lt (Nat.lt_of_lt_of_le (by have := World.block_lt_of_cell? _ _ hw231_0;first | rwa [add_block] at this | exact this) GW233.out)) | (show (Addr.add _ _).block ≠ _;rw [add_block];exact Nat.ne_of_lt (Nat.lt_of_lt_of_le (by have := World.block_lt_of_cell? _ _ hw231_0;first | rwa [add_block] at this | exact this) GW233.out)) | (dsimp only;exact Nat.ne_of_lt (Nat.lt_of_lt_of_le (by have := World.block_lt_of_cell? _ _ hw231_0;first | rwa [add_block] at this | exact this) GW233.out))) _).trans (((cell_far (p := ⟨gb233,_,none⟩) (by first | exact Nat.ne_of_lt (Nat.lt_of_lt_of_le (by have := World.block_lt_of_cell? _ _ hw231_0;first | rwa [add_block] at this | exact this) GW233.out) | (rw [add_block];exact Nat.ne_of_lt (Nat.lt_of_lt_of_le (by have := World.block_lt_of_cell? _ _ hw231_0;first | rwa [add_block] at this | exact this) GW233.out)) | (show (Addr.add _ _).block ≠ _;rw [add_block];exact Nat.ne_of_lt (Nat.lt_of_lt_of_le (by have := World.block_lt_of_cell? _ _ hw231_0;first | rwa [add_block] at this | exact this) GW233.out)) | (dsimp only;exact Nat.ne_of_lt (Nat.lt_of_lt_of_le (by have := World.block_lt_of_cell? _ _ hw231_0;first | rwa [add_block] at this | exact this) GW233.out))) _).trans (hHeld.1)))),((cell_far (p := ⟨gb233,_,none⟩) (by first | exact Nat.ne_of_lt (Nat.lt_of_lt_of_le (by have := World.block_lt_of_cell? _ _ hw231_1;first | rwa [add_block] at this | exact this) GW233.out) | (rw [add_block];exact Nat.ne_of_lt (Nat.lt_of_lt_of_le (by have := World.block_lt_of_cell? _ _ hw231_1;first | rwa [add_block] at this | exact this) GW233.out)) | (show (Addr.add _ _).block ≠ _;rw [add_block];exact Nat.ne_of_lt (Nat.lt_of_lt_of_le (by have := World.block_lt_of_cell? _ _ hw231_1;first | rwa [add_block] at this | exact this) GW233.out)) | (dsimp only;exact Nat.ne_of_lt (Nat.lt_of_lt_of_le (by have := World.block_lt_of_cell? _ _ hw231_1;first | rwa [add_block] at this | exact this) GW233.out))) _).trans (((cell_far (p := ⟨gb233,_,none⟩) (by first | exact Nat.ne_of_lt (Nat.lt_of_lt_of_le (by have := World.block_lt_of_cell? _ _ hw231_1;first | rwa [add_block] at this | exact this) GW233.out) | (rw [add_block];exact Nat.ne_of_lt (Nat.lt_of_lt_of_le (by have := World.block_lt_of_cell? _ _ hw231_1;first | rwa [add_block] at this | exact this) GW233.out)) | (show (Addr.add _ _).block ≠ _;rw [add_block];exact Nat.ne_of_lt (Nat.lt_of_lt_of_le (by have := World.block_lt_of_cell? _ _ hw231_1;first | rwa [add_block] at this | exact this) GW233.out)) | (dsimp only;exact Nat.ne_of_lt (Nat.lt_of_lt_of_le (by have := World.block_lt_of_cell? _ _ hw231_1;first | rwa [add_block] at this | exact this) GW233.out))) _).trans (hHeld.2.1)))),((cell_far (p := ⟨gb233,_,none⟩) (by first | exact Nat.ne_of_lt (Nat.lt_of_lt_of_le (by have := World.block_lt_of_cell? _ _ hw232_0;first | rwa [add_block] at this | exact this) GW233.out) | (rw [add_block];exact Nat.ne_of_lt (Nat.lt_of_lt_of_le (by have := World.block_lt_of_cell? _ _ hw232_0;first | rwa [add_block] at this | exact this) GW233.out)) | (show (Addr.add _ _).block ≠ _;rw [add_block];exact Nat.ne_of_lt (Nat.lt_of_lt_of_le (by have := World.block_lt_of_cell? _ _ hw232_0;first | rwa [add_block] at this | exact this) GW233.out)) | (dsimp only;exact Nat.ne_of_lt (Nat.lt_of_lt_of_le (by have := World.block_lt_of_cell? _ _ hw232_0;first | rwa [add_block] at this | exact this) GW233.out))) _).trans (((cell_far (p := ⟨gb233,_,none⟩) (by first | exact Nat.ne_of_lt (Nat.lt_of_lt_of_le (by have := World.block_lt_of_cell? _ _ hw232_0;first | rwa [add_block] at this | exact this) GW233.out) | (rw [add_block];exact Nat.ne_of_lt (Nat.lt_of_lt_of_le (by have := World.block_lt_of_cell? _ _ hw232_0;first | rwa [add_block] at this | exact this) GW233.out)) | (show (Addr.add _ _).block ≠ _;rw [add_block];exact Nat.ne_of_lt (Nat.lt_of_lt_of_le (by have := World.block_lt_of_cell? _ _ hw232_0;first | rwa [add_block] at this | exact this) GW233.out)) | (dsimp only;exact Nat.ne_of_lt (Nat.lt_of_lt_of_le (by have := World.block_lt_of_cell? _ _ hw232_0;first | rwa [add_block] at this | exact this) GW233.out))) _).trans (hHeld.2.2))))⟩ (fun hHeld => ?_)
        clear hK K
        refine pure_ (i := 10) (N := some 11) (v := ?_) (a' := ?_) #[true,true,true,true,true,true,true,true,true,true,true] rfl rfl (any_of HT_.out (by kernel_rfl)) (fun _ _ _ h => h) (Or.inl ⟨by rfl,?_⟩) ?_ ?_
        rotate_left
        ·intro w'
         go_simp
         with_reducible rfl
        rotate_left
        ·simp only [Act.put,List.setIfInBounds_toArray,List.set_cons_zero,List.set_cons_succ,i64_w,i32_w]
         rfl
        refine done_ (done_of HT_.out (by kernel_rfl)) ?_
        have hcz31_0 : w28.cell? ⟨gb233,0,none⟩ = some (.int .i64 0) := (blk_cell BK233.out 0).trans rfl
        have hcz31_1 : w28.cell? ⟨gb233,1,none⟩ = some (.int .i64 0) := (blk_cell BK233.out 1).trans rfl
        have hfz31_0 := blk_frozen BK233.out 0
        have hfz31_1 := blk_frozen BK233.out 1
        have p235 : 0 ≤ (0 : Int) := (by omega)
        have q235 : 0 < ((rd_L3 l1 a2).length : Int) := of_decide_eq_true (by first | (with_reducible assumption) | assumption)
        obtain ⟨ad235,e235,hx235_0⟩ := Kd.at_int HR232_0.out 0 p235 q235
        cases e235
        have qi235 : (0 < (rd_L3 l1 a2).length) = True := eq_true (by omega)
        (try rw [show ((0 : Int)).toNat = 0 from rfl] at hx235_0)
        (try rw [Addr.add_zero'] at hx235_0)
        have hn235_0 : ad235.block ≠ gb233 := Nat.ne_of_lt (Nat.lt_of_lt_of_le (by have := World.block_lt_of_cell? _ _ hx235_0;first | rwa [add_block] at this | exact this) GW233.out)
        have hn235_1 : ad235.block ≠ gb233 := Nat.ne_of_lt (Nat.lt_of_lt_of_le (by have := World.block_lt_of_cell? _ _ hx235_0;first | rwa [add_block] at this | exact this) GW233.out)
        replace hx235_0 := (HB.out.cell (World.block_lt_of_cell? w _ hx235_0)).trans hx235_0
        replace hx235_0 := (cell_far (p := ⟨gb233,0,none⟩) (by first | (rw [add_block];exact hn235_0) | (show (Addr.add _ _).block ≠ _;rw [add_block];exact hn235_0) | exact hn235_0) (.int .i64 ((rd_T139 l0 a2).f0))).trans hx235_0
        replace hx235_0 := (cell_far (p := ⟨gb233,1,none⟩) (by first | (rw [add_block];exact hn235_1) | (show (Addr.add _ _).block ≠ _;rw [add_block];exact hn235_1) | exact hn235_1) (.int .i64 ((rd_T139 l0 a2).f1))).trans hx235_0
        clear hn235_0
        clear hn235_1
        replace p235 := eq_true p235
        replace q235 := eq_true q235
        go_upto_region 9 with (first | ((with_reducible refine gate_callee (f := 178) rfl ?_);refine goesL_ (some 46) rfl rfl Try.func178 (by kernel_rfl) rfl #[.slice (some ad231) l0.length c0,.slice (some ad232) l1.length c1,.int .i64 (rd (rd_L3 l1 a2) 0),.slice A3 l3.length c3] rfl (by (try simp only [List.map_toArray,List.map_cons,List.map_nil]);first | done | rfl | (simp only [List.length_drop,List.length_take];rfl)) ?_;(with_reducible refine (ih k (by omega) _ _ l0 _ _ l1 (rd (rd_L3 l1 a2) 0) _ _ l3 t236 t237 _ ?side1 ?side2 ?side3 ?side4 ?side5 ?side6 A23.out).mono ?_);(case side1 => exact Kd.C_below HR0.out (by repeat (first | (with_reducible first | exact HB.out | apply below_alloc | apply pw_below_drewN | apply below_drew1 | refine below_set ?_ GE233.out) | exact HB.out)));(case side2 => exact HC0.out);(case side3 => exact Kd.C_below HR1.out (by repeat (first | (with_reducible first | exact HB.out | apply below_alloc | apply pw_below_drewN | apply below_drew1 | refine below_set ?_ GE233.out) | exact HB.out)));(case side4 => exact HC1.out);(case side5 => exact Kd.C_below HR3.out (by repeat (first | (with_reducible first | exact HB.out | apply below_alloc | apply pw_below_drewN | apply below_drew1 | refine below_set ?_ GE233.out) | exact HB.out)));(case side6 => exact HC3.out);rintro e w32 ⟨rfl,hb⟩;refine ⟨_,rfl,?_⟩;have n0_ := Aside0.mk (blk_below (g := gb233) (o := .cells #[.int .i64 ((rd_T139 l0 a2).f0),.int .i64 ((rd_T139 l0 a2).f1)] 139 (0,0)) (by (with_reducible repeat (first | refine blk_drewN ?_ _ | refine blk_drew ?_ | refine blk_alloc ?_ _));refine blk_put (cs := #[.int .i64 ((rd_T139 l0 a2).f0),.int .i64 0]) ?_ 1 _ rfl;(with_reducible repeat (first | refine blk_drewN ?_ _ | refine blk_drew ?_ | refine blk_alloc ?_ _));refine blk_put (cs := #[.int .i64 0,.int .i64 0]) ?_ 0 _ rfl;(with_reducible repeat (first | refine blk_drewN ?_ _ | refine blk_drew ?_ | refine blk_alloc ?_ _));exact BK233.out) hb);have n1_ := Aside0.mk (below_step (by repeat (first | (with_reducible first | exact HB.out | apply below_alloc | apply pw_below_drewN | apply below_drew1 | refine below_set ?_ GE233.out) | exact HB.out)) hb);clear BK233;clear HB;have BK233 := n0_;have HB := n1_;clear n0_ n1_;(try clear hb);(try clear hb2);(try clear hk);(try clear hi);have p238 : 0 ≤ (1 : Int) := (by omega);have q238 : 1 < ((rd_L3 l1 a2).length : Int) := of_decide_eq_true (by first | (with_reducible assumption) | assumption);obtain ⟨ad238,e238,hx238_0⟩ := Kd.at_int HR232_0.out 1 p238 q238;obtain rfl : ad235 = ad238 := (by injection e238);(try simp only [show (1 : Int).toNat = 1 from rfl,Nat.reduceMul,Nat.reduceEqDiff,Go.Addr.add,↓reduceIte] at hx238_0);have qi238 : (1 < (rd_L3 l1 a2).length) = True := eq_true (by omega);(try rw [show ((1 : Int)).toNat = 1 from rfl] at hx238_0);replace hx238_0 := (HB.out.cell (World.block_lt_of_cell? w _ hx238_0)).trans hx238_0;replace p238 := eq_true p238;replace q238 := eq_true q238) | ((with_reducible refine gate_callee (f := 178) rfl ?_);refine goesL_ (some 56) rfl rfl Try.func178 (by kernel_rfl) rfl #[.slice (some ad231) l0.length c0,.slice (some ad232) l1.length c1,.int .i64 (rd (rd_L3 l1 a2) 1),.slice A3 l3.length c3] rfl (by (try simp only [List.map_toArray,List.map_cons,List.map_nil]);first | done | rfl | (simp only [List.length_drop,List.length_take];rfl)) ?_;(with_reducible refine (ih k (by omega) _ _ l0 _ _ l1 (rd (rd_L3 l1 a2) 1) _ _ l3 t239 t240 _ ?side1 ?side2 ?side3 ?side4 ?side5 ?side6 A25.out).mono ?_);(case side1 => repeat (first | exact (Kd.C_below HR0.out HB.out) | (with_reducible refine Kd.C_alloc ?_ _) | (with_reducible refine Kd.C_drewN ?_ _) | (with_reducible refine Kd.C_drew ?_)));(case side2 => exact HC0.out);(case side3 => repeat (first | exact (Kd.C_below HR1.out HB.out) | (with_reducible refine Kd.C_alloc ?_ _) | (with_reducible refine Kd.C_drewN ?_ _) | (with_reducible refine Kd.C_drew ?_)));(case side4 => exact HC1.out);(case side5 => repeat (first | exact (Kd.C_below HR3.out HB.out) | (with_reducible refine Kd.C_alloc ?_ _) | (with_reducible refine Kd.C_drewN ?_ _) | (with_reducible refine Kd.C_drew ?_)));(case side6 => exact HC3.out);rintro e w33 ⟨rfl,hb⟩;refine ⟨_,rfl,?_⟩;have n0_ := Aside0.mk (blk_below (g := gb233) (o := .cells #[.int .i64 ((rd_T139 l0 a2).f0),.int .i64 ((rd_T139 l0 a2).f1)] 139 (0,0)) (by (with_reducible repeat (first | refine blk_drewN ?_ _ | refine blk_drew ?_ | refine blk_alloc ?_ _));exact BK233.out) hb);have n1_ := Aside0.mk (below_step (by repeat (first | (with_reducible first | exact HB.out | apply below_alloc | apply pw_below_drewN | apply below_drew1 | refine below_set ?_ GE233.out) | exact HB.out)) hb);clear BK233;clear HB;have BK233 := n0_;have HB := n1_;clear n0_ n1_;(try clear hb);(try clear hb2);(try clear hk);(try clear hi)))
        (try simp only [Act.put,List.setIfInBounds_toArray,List.set_cons_zero,List.set_cons_succ])
        go_cut [64] (fun v64 wc => ∃ (kq : Nat) (x64_25 : Bool),v64 = .bool x64_25 ∧ Aside0 (spec_ruValue.j0 kq l0 l1 l3 (rd_L3 l1 a2) t236 t239 x64_25 ((rd_T139 l0 a2).f0) ((rd_T139 l0 a2).f1) = some (r1,r2)) ∧ Aside0 (kq ≤ k) ∧ Aside0 (wc.heap[gb233]? = some (.cells #[.int .i64 ((rd_T139 l0 a2).f0),.int .i64 ((rd_T139 l0 a2).f1)] 139 (0,0))) ∧ Aside0 (Below w.heap.size w wc))
        case first =>
         have H := HC26.out
         clear HC26
         by_cases c34 : t237 = true
         ·subst c34
          have H1 : (spec_ruValue.j0 k l0 l1 l3 (rd_L3 l1 a2) t236 t239 (!t240) ((rd_T139 l0 a2).f0) ((rd_T139 l0 a2).f1)) = some (r1,r2) := by rw [if_pos rfl] at H;exact H
          clear H
          have H := H1
          clear H1
          have H' := Aside0.mk H
          clear H
          go_wp2
          go_meet
          case rel => exact ⟨_,(!t240),(by first | rfl | (simp;done) | (simp [*];done)),H',⟨by first | omega | exact Nat.le_refl _⟩,⟨by (with_reducible repeat (first | refine blk_drewN ?_ _ | refine blk_drew ?_ | refine blk_alloc ?_ _));exact BK233.out⟩,⟨by repeat (first | (with_reducible first | exact HB.out | apply below_alloc | apply pw_below_drewN | apply below_drew1 | refine below_set ?_ GE233.out) | exact HB.out)⟩⟩
         ·replace c34 := Bool.eq_false_iff.mpr c34
          subst c34
          have H1 : (spec_ruValue.j0 k l0 l1 l3 (rd_L3 l1 a2) t236 t239 true ((rd_T139 l0 a2).f0) ((rd_T139 l0 a2).f1)) = some (r1,r2) := by rw [if_neg (show ¬ (false = true) by decide)] at H;exact H
          clear H
          have H := H1
          clear H1
          have H' := Aside0.mk H
          clear H
          go_wp2
          go_meet
          case rel => exact ⟨_,(true),(by first | rfl | (simp;done) | (simp [*];done)),H',⟨by first | omega | exact Nat.le_refl _⟩,⟨by (with_reducible repeat (first | refine blk_drewN ?_ _ | refine blk_drew ?_ | refine blk_alloc ?_ _));exact BK233.out⟩,⟨by repeat (first | (with_reducible first | exact HB.out | apply below_alloc | apply pw_below_drewN | apply below_drew1 | refine below_set ?_ GE233.out) | exact HB.out)⟩⟩
        case rest =>
         clear HC26
         try clear c1
         try clear c2
         try clear p2
         try clear q2
         try clear hx2
         try clear qi2
         try clear c3
         try clear c5
         try clear c5b0
         try clear c6
         try clear c6b0
         try clear c7
         try clear c7b0
         try clear c8
         try clear c8b0
         try clear c8b1
         try clear c14
         try clear c14b0
         try clear c14b1
         try clear c15
         try clear c15b0
         try clear c16
         try clear c16b0
         try clear c17
         try clear c22
         try clear c22b0
         try clear c22b1
         try clear c23
         try clear p23
         try clear q23
         try clear hx23
         try clear qi23
         try clear c24
         try clear c24b0
         try clear c24b1
         try clear c34
         try clear hcz13_0
         try clear hcz13_1
         try clear hcz21_0
         try clear hcz21_1
         try clear hcz31_0
         try clear hcz31_1
         try clear hfz13_0
         try clear hfz13_1
         try clear hfz21_0
         try clear hfz21_1
         try clear hfz31_0
         try clear hfz31_1
         try clear hx231_0
         try clear hx231_1
         try clear hx232_0
         try clear hx234_0
         try clear hx235_0
         try clear hx238_0
         try clear p231
         try clear p232
         try clear p234
         try clear p235
         try clear p238
         try clear q231
         try clear q232
         try clear q234
         try clear q235
         try clear q238
         obtain ⟨kq,x64_25,rfl,HA,HJ25,BK233,HB⟩ := hcut
         cases kq with
         | zero => exact absurd HA.out (by simp [spec_ruValue.j0])
         | succ kj25 =>
          have H := HA.out
          clear HA
          simp only [spec_ruValue.j0] at H
          by_cases c35 : x64_25 = true
          ·subst c35
           have H1 : (some (0,false)) = some (r1,r2) := by rw [if_pos rfl] at H;exact H
           clear H
           have H := H1
           clear H1
           simp only [Option.some.injEq,Prod.mk.injEq] at H
           obtain ⟨rfl,rfl⟩ := H
           go_wp2
           go_ret2
           exact ⟨by first | rfl | (simp [errW_none,errW_some] <;> rfl) | (simp [*,errW_none,errW_some] <;> rfl),by repeat (first | (with_reducible first | exact HB.out | apply below_alloc | apply pw_below_drewN | apply below_drew1 | refine below_set ?_ GE233.out) | exact HB.out)⟩
          ·replace c35 := Bool.eq_false_iff.mpr c35
           subst c35
           have H1 : (if ((rd_T139 l0 a2).f0) = 2 then ((spec_l1Abs.f (wrap64 (t236 + t239))).bind fun t241 => (some (wrap64 (t236 + t239),decide (t241 ≤ 1000000000)))) else (if ((rd_T139 l0 a2).f0) = 3 then ((spec_l1Abs.f (wrap64 (t236 - t239))).bind fun t242 => (some (wrap64 (t236 - t239),decide (t242 ≤ 1000000000)))) else (if ((rd_T139 l0 a2).f0) = 4 then ((spec_l1Abs.f (wrap64 (t236 * t239))).bind fun t243 => (some (wrap64 (t236 * t239),decide (t243 ≤ 1000000000)))) else (if ((rd_T139 l0 a2).f0) = 5 then (if t239 = 0 then (some (0,false)) else ((spec_ruDown.f t236 t239).bind fun t244 => ((spec_l1Abs.f t244).bind fun t245 => (some (t244,decide (t245 ≤ 1000000000)))))) else (if 3 < ((rd_L3 l1 a2).length : Int) then ((spec_l1Sign.f (wrap64 (t236 - t239))).bind fun t247 => (if t247 = (wrap64 (((rd_T139 l0 a2).f0) - 7)) then (if 2 < ((rd_L3 l1 a2).length : Int) then ((spec_ruValue.f kj25 l0 l1 (rd (rd_L3 l1 a2) 2) l3).bind fun bt249 => (some (bt249.1,bt249.2))) else (none)) else ((spec_ruValue.f kj25 l0 l1 (rd (rd_L3 l1 a2) 3) l3).bind fun bt251 => (some (bt251.1,bt251.2))))) else (none)))))) = some (r1,r2) := by rw [if_neg (show ¬ (false = true) by decide)] at H;exact H
           clear H
           have H := H1
           clear H1
           by_cases c36 : ((rd_T139 l0 a2).f0) = 2
           ·rw [if_pos c36] at H
            have c36b0 : (((rd_T139 l0 a2).f0) == 2) = true := beq_iff_eq.mpr c36
            have c36b1 : (((rd_T139 l0 a2).f0) != 2) = false := bne_eq_false_iff_eq.mpr c36
            clear c36
            replace H := Option.bind_eq_some_iff.mp H
            obtain ⟨t241,A370,H⟩ := H
            replace H : (some (wrap64 (t236 + t239),decide (t241 ≤ 1000000000))) = some (r1,r2) := H
            have A37 := Aside0.mk A370
            clear A370
            simp only [Option.some.injEq,Prod.mk.injEq] at H
            obtain ⟨rfl,rfl⟩ := H
            have hcz38_0 : wc.cell? ⟨gb233,0,none⟩ = some (.int .i64 ((rd_T139 l0 a2).f0)) := (blk_cell BK233.out 0).trans rfl
            have hcz38_1 : wc.cell? ⟨gb233,1,none⟩ = some (.int .i64 ((rd_T139 l0 a2).f1)) := (blk_cell BK233.out 1).trans rfl
            have hfz38_0 := blk_frozen BK233.out 0
            have hfz38_1 := blk_frozen BK233.out 1
            go_wp2_with (first | ((with_reducible refine gate_callee (f := 194) rfl ?_);refine goesL_ (some 112) rfl rfl Try.func194 (by kernel_rfl) rfl #[.int .i64 (wrap64 (t236 + t239))] rfl (by (try simp only [List.map_toArray,List.map_cons,List.map_nil]);first | done | rfl | (simp only [List.length_drop,List.length_take];rfl)) ?_;(with_reducible refine (spec_l1Abs.calls (wrap64 (t236 + t239)) t241 _ A37.out).mono ?_);rintro e w' ⟨rfl,⟨nd,rfl⟩⟩;refine ⟨_,rfl,?_⟩))
            go_ret2
            exact ⟨by first | rfl | (simp [errW_none,errW_some] <;> rfl) | (simp [*,errW_none,errW_some] <;> rfl),by repeat (first | (with_reducible first | exact HB.out | apply below_alloc | apply pw_below_drewN | apply below_drew1 | refine below_set ?_ GE233.out) | exact HB.out)⟩
           ·rw [if_neg c36] at H
            have c36b0 : (((rd_T139 l0 a2).f0) == 2) = false := beq_eq_false_iff_ne.mpr c36
            have c36b1 : (((rd_T139 l0 a2).f0) != 2) = true := bne_iff_ne.mpr c36
            by_cases c39 : ((rd_T139 l0 a2).f0) = 3
            ·rw [if_pos c39] at H
             have c39b0 : (((rd_T139 l0 a2).f0) == 3) = true := beq_iff_eq.mpr c39
             have c39b1 : (((rd_T139 l0 a2).f0) != 3) = false := bne_eq_false_iff_eq.mpr c39
             clear c39
             replace H := Option.bind_eq_some_iff.mp H
             obtain ⟨t242,A400,H⟩ := H
             replace H : (some (wrap64 (t236 - t239),decide (t242 ≤ 1000000000))) = some (r1,r2) := H
             have A40 := Aside0.mk A400
             clear A400
             simp only [Option.some.injEq,Prod.mk.injEq] at H
             obtain ⟨rfl,rfl⟩ := H
             have hcz41_0 : wc.cell? ⟨gb233,0,none⟩ = some (.int .i64 ((rd_T139 l0 a2).f0)) := (blk_cell BK233.out 0).trans rfl
             have hcz41_1 : wc.cell? ⟨gb233,1,none⟩ = some (.int .i64 ((rd_T139 l0 a2).f1)) := (blk_cell BK233.out 1).trans rfl
             have hfz41_0 := blk_frozen BK233.out 0
             have hfz41_1 := blk_frozen BK233.out 1
             go_wp2_with (first | ((with_reducible refine gate_callee (f := 194) rfl ?_);refine goesL_ (some 112) rfl rfl Try.func194 (by kernel_rfl) rfl #[.int .i64 (wrap64 (t236 - t239))] rfl (by (try simp only [List.map_toArray,List.map_cons,List.map_nil]);first | done | rfl | (simp only [List.length_drop,List.length_take];rfl)) ?_;(with_reducible refine (spec_l1Abs.calls (wrap64 (t236 - t239)) t242 _ A40.out).mono ?_);rintro e w' ⟨rfl,⟨nd,rfl⟩⟩;refine ⟨_,rfl,?_⟩))
             go_ret2
             exact ⟨by first | rfl | (simp [errW_none,errW_some] <;> rfl) | (simp [*,errW_none,errW_some] <;> rfl),by repeat (first | (with_reducible first | exact HB.out | apply below_alloc | apply pw_below_drewN | apply below_drew1 | refine below_set ?_ GE233.out) | exact HB.out)⟩
            ·rw [if_neg c39] at H
             have c39b0 : (((rd_T139 l0 a2).f0) == 3) = false := beq_eq_false_iff_ne.mpr c39
             have c39b1 : (((rd_T139 l0 a2).f0) != 3) = true := bne_iff_ne.mpr c39
             by_cases c42 : ((rd_T139 l0 a2).f0) = 4
             ·rw [if_pos c42] at H
              have c42b0 : (((rd_T139 l0 a2).f0) == 4) = true := beq_iff_eq.mpr c42
              have c42b1 : (((rd_T139 l0 a2).f0) != 4) = false := bne_eq_false_iff_eq.mpr c42
              clear c42
              replace H := Option.bind_eq_some_iff.mp H
              obtain ⟨t243,A430,H⟩ := H
              replace H : (some (wrap64 (t236 * t239),decide (t243 ≤ 1000000000))) = some (r1,r2) := H
              have A43 := Aside0.mk A430
              clear A430
              simp only [Option.some.injEq,Prod.mk.injEq] at H
              obtain ⟨rfl,rfl⟩ := H
              have hcz44_0 : wc.cell? ⟨gb233,0,none⟩ = some (.int .i64 ((rd_T139 l0 a2).f0)) := (blk_cell BK233.out 0).trans rfl
              have hcz44_1 : wc.cell? ⟨gb233,1,none⟩ = some (.int .i64 ((rd_T139 l0 a2).f1)) := (blk_cell BK233.out 1).trans rfl
              have hfz44_0 := blk_frozen BK233.out 0
              have hfz44_1 := blk_frozen BK233.out 1
              go_wp2_with (first | ((with_reducible refine gate_callee (f := 194) rfl ?_);refine goesL_ (some 112) rfl rfl Try.func194 (by kernel_rfl) rfl #[.int .i64 (wrap64 (t236 * t239))] rfl (by (try simp only [List.map_toArray,List.map_cons,List.map_nil]);first | done | rfl | (simp only [List.length_drop,List.length_take];rfl)) ?_;(with_reducible refine (spec_l1Abs.calls (wrap64 (t236 * t239)) t243 _ A43.out).mono ?_);rintro e w' ⟨rfl,⟨nd,rfl⟩⟩;refine ⟨_,rfl,?_⟩))
              go_ret2
              exact ⟨by first | rfl | (simp [errW_none,errW_some] <;> rfl) | (simp [*,errW_none,errW_some] <;> rfl),by repeat (first | (with_reducible first | exact HB.out | apply below_alloc | apply pw_below_drewN | apply below_drew1 | refine below_set ?_ GE233.out) | exact HB.out)⟩
             ·rw [if_neg c42] at H
              have c42b0 : (((rd_T139 l0 a2).f0) == 4) = false := beq_eq_false_iff_ne.mpr c42
              have c42b1 : (((rd_T139 l0 a2).f0) != 4) = true := bne_iff_ne.mpr c42
              by_cases c45 : ((rd_T139 l0 a2).f0) = 5
              ·rw [if_pos c45] at H
               have c45b0 : (((rd_T139 l0 a2).f0) == 5) = true := beq_iff_eq.mpr c45
               have c45b1 : (((rd_T139 l0 a2).f0) != 5) = false := bne_eq_false_iff_eq.mpr c45
               clear c45
               by_cases c46 : t239 = 0
               ·rw [if_pos c46] at H
                have c46b0 : (t239 == 0) = true := beq_iff_eq.mpr c46
                have c46b1 : (t239 != 0) = false := bne_eq_false_iff_eq.mpr c46
                clear c46
                simp only [Option.some.injEq,Prod.mk.injEq] at H
                obtain ⟨rfl,rfl⟩ := H
                have hcz47_0 : wc.cell? ⟨gb233,0,none⟩ = some (.int .i64 ((rd_T139 l0 a2).f0)) := (blk_cell BK233.out 0).trans rfl
                have hcz47_1 : wc.cell? ⟨gb233,1,none⟩ = some (.int .i64 ((rd_T139 l0 a2).f1)) := (blk_cell BK233.out 1).trans rfl
                have hfz47_0 := blk_frozen BK233.out 0
                have hfz47_1 := blk_frozen BK233.out 1
                go_wp2
                go_ret2
                exact ⟨by first | rfl | (simp [errW_none,errW_some] <;> rfl) | (simp [*,errW_none,errW_some] <;> rfl),by repeat (first | (with_reducible first | exact HB.out | apply below_alloc | apply pw_below_drewN | apply below_drew1 | refine below_set ?_ GE233.out) | exact HB.out)⟩
               ·rw [if_neg c46] at H
                have c46b0 : (t239 == 0) = false := beq_eq_false_iff_ne.mpr c46
                have c46b1 : (t239 != 0) = true := bne_iff_ne.mpr c46
                replace H := Option.bind_eq_some_iff.mp H
                obtain ⟨t244,A480,H⟩ := H
                replace H : ((spec_l1Abs.f t244).bind fun t245 => (some (t244,decide (t245 ≤ 1000000000)))) = some (r1,r2) := H
                have A48 := Aside0.mk A480
                clear A480
                replace H := Option.bind_eq_some_iff.mp H
                obtain ⟨t245,A490,H⟩ := H
                replace H : (some (t244,decide (t245 ≤ 1000000000))) = some (r1,r2) := H
                have A49 := Aside0.mk A490
                clear A490
                simp only [Option.some.injEq,Prod.mk.injEq] at H
                obtain ⟨rfl,rfl⟩ := H
                have hcz50_0 : wc.cell? ⟨gb233,0,none⟩ = some (.int .i64 ((rd_T139 l0 a2).f0)) := (blk_cell BK233.out 0).trans rfl
                have hcz50_1 : wc.cell? ⟨gb233,1,none⟩ = some (.int .i64 ((rd_T139 l0 a2).f1)) := (blk_cell BK233.out 1).trans rfl
                have hfz50_0 := blk_frozen BK233.out 0
                have hfz50_1 := blk_frozen BK233.out 1
                go_wp2_with (first | ((with_reducible refine gate_callee (f := 163) rfl ?_);refine goesL_ (some 109) rfl rfl Try.func163 (by kernel_rfl) rfl #[.int .i64 t236,.int .i64 t239] rfl (by (try simp only [List.map_toArray,List.map_cons,List.map_nil]);first | done | rfl | (simp only [List.length_drop,List.length_take];rfl)) ?_;(with_reducible refine (spec_ruDown.calls t236 t239 t244 _ A48.out).mono ?_);rintro e w' ⟨rfl,⟨nd,rfl⟩⟩;refine ⟨_,rfl,?_⟩) | ((with_reducible refine gate_callee (f := 194) rfl ?_);refine goesL_ (some 112) rfl rfl Try.func194 (by kernel_rfl) rfl #[.int .i64 t244] rfl (by (try simp only [List.map_toArray,List.map_cons,List.map_nil]);first | done | rfl | (simp only [List.length_drop,List.length_take];rfl)) ?_;(with_reducible refine (spec_l1Abs.calls t244 t245 _ A49.out).mono ?_);rintro e w' ⟨rfl,⟨nd,rfl⟩⟩;refine ⟨_,rfl,?_⟩))
                go_ret2
                exact ⟨by first | rfl | (simp [errW_none,errW_some] <;> rfl) | (simp [*,errW_none,errW_some] <;> rfl),by repeat (first | (with_reducible first | exact HB.out | apply below_alloc | apply pw_below_drewN | apply below_drew1 | refine below_set ?_ GE233.out) | exact HB.out)⟩
              ·rw [if_neg c45] at H
               have c45b0 : (((rd_T139 l0 a2).f0) == 5) = false := beq_eq_false_iff_ne.mpr c45
               have c45b1 : (((rd_T139 l0 a2).f0) != 5) = true := bne_iff_ne.mpr c45
               by_cases c51 : 3 < ((rd_L3 l1 a2).length : Int)
               ·rw [if_pos c51] at H
                have c51b0 : decide (3 < ((rd_L3 l1 a2).length : Int)) = true := decide_eq_true c51
                have c51b1 : decide (3 < (rd_L3 l1 a2).length) = true := decide_eq_true (by omega)
                clear c51
                replace H := Option.bind_eq_some_iff.mp H
                obtain ⟨t247,A520,H⟩ := H
                replace H : (if t247 = (wrap64 (((rd_T139 l0 a2).f0) - 7)) then (if 2 < ((rd_L3 l1 a2).length : Int) then ((spec_ruValue.f kj25 l0 l1 (rd (rd_L3 l1 a2) 2) l3).bind fun bt249 => (some (bt249.1,bt249.2))) else (none)) else ((spec_ruValue.f kj25 l0 l1 (rd (rd_L3 l1 a2) 3) l3).bind fun bt251 => (some (bt251.1,bt251.2)))) = some (r1,r2) := H
                have A52 := Aside0.mk A520
                clear A520
                by_cases c53 : t247 = (wrap64 (((rd_T139 l0 a2).f0) - 7))
                ·rw [if_pos c53] at H
                 have c53b0 : (t247 == (wrap64 (((rd_T139 l0 a2).f0) - 7))) = true := beq_iff_eq.mpr c53
                 have c53b1 : (t247 != (wrap64 (((rd_T139 l0 a2).f0) - 7))) = false := bne_eq_false_iff_eq.mpr c53
                 clear c53
                 by_cases c54 : 2 < ((rd_L3 l1 a2).length : Int)
                 ·rw [if_pos c54] at H
                  have c54b0 : decide (2 < ((rd_L3 l1 a2).length : Int)) = true := decide_eq_true c54
                  have c54b1 : decide (2 < (rd_L3 l1 a2).length) = true := decide_eq_true (by omega)
                  clear c54
                  replace H := Option.bind_eq_some_iff.mp H
                  obtain ⟨⟨t249,t250⟩,A550,H⟩ := H
                  replace H : (some (t249,t250)) = some (r1,r2) := H
                  have A55 := Aside0.mk A550
                  clear A550
                  simp only [Option.some.injEq,Prod.mk.injEq] at H
                  obtain ⟨rfl,rfl⟩ := H
                  have hcz56_0 : wc.cell? ⟨gb233,0,none⟩ = some (.int .i64 ((rd_T139 l0 a2).f0)) := (blk_cell BK233.out 0).trans rfl
                  have hcz56_1 : wc.cell? ⟨gb233,1,none⟩ = some (.int .i64 ((rd_T139 l0 a2).f1)) := (blk_cell BK233.out 1).trans rfl
                  have hfz56_0 := blk_frozen BK233.out 0
                  have hfz56_1 := blk_frozen BK233.out 1
                  have p246 : 0 ≤ (3 : Int) := (by omega)
                  have q246 : 3 < ((rd_L3 l1 a2).length : Int) := of_decide_eq_true (by first | (with_reducible assumption) | assumption)
                  obtain ⟨ad246,e246,hx246_0⟩ := Kd.at_int HR232_0.out 3 p246 q246
                  obtain rfl : ad235 = ad246 := (by injection e246)
                  (try simp only [show (3 : Int).toNat = 3 from rfl,Nat.reduceMul,Nat.reduceEqDiff,Go.Addr.add,↓reduceIte] at hx246_0)
                  have qi246 : (3 < (rd_L3 l1 a2).length) = True := eq_true (by omega)
                  (try rw [show ((3 : Int)).toNat = 3 from rfl] at hx246_0)
                  replace hx246_0 := (HB.out.cell (World.block_lt_of_cell? w _ hx246_0)).trans hx246_0
                  replace p246 := eq_true p246
                  replace q246 := eq_true q246
                  try go_wp2
                  have n0_ := Aside0.mk (blk_drew BK233.out)
                  have n1_ := Aside0.mk (below_drew1 HB.out)
                  clear BK233
                  clear HB
                  have BK233 := n0_
                  have HB := n1_
                  clear n0_ n1_
                  refine start_ (n := 8) (S := fun w' => w'.cell? ⟨gb233,0,none⟩ = some (.int .i64 ((rd_T139 l0 a2).f0)) ∧ w'.cell? ⟨gb233,1,none⟩ = some (.int .i64 ((rd_T139 l0 a2).f1))) (ds := []) #[false,false,false,false,false,false,false,false] (by kernel_rfl) rfl rfl ⟨(blk_cell BK233.out 0).trans rfl,(blk_cell BK233.out 1).trans rfl⟩ (fun hHeld => ?_);refine with_tabW spec_ruValue.tab14 spec_ruValue.bits14 (fun HT_ HW_ => ?_)
                  generalize wc.drew = w57 at BK233 HB hHeld ⊢
                  refine pure_ (i := 0) (N := some 70) (v := ?_) (a' := ?_) #[true,false,false,false,false,false,false,false] rfl rfl (any_of HT_.out (by kernel_rfl)) (fun _ _ _ h => h) (Or.inl ⟨by rfl,?_⟩) ?_ ?_
                  rotate_left
                  ·intro w'
                   go_simp
                   with_reducible rfl
                  rotate_left
                  ·simp only [Act.put,List.setIfInBounds_toArray,List.set_cons_zero,List.set_cons_succ,i64_w,i32_w]
                   rfl
                  refine pure_ (i := 1) (N := some 71) (v := ?_) (a' := ?_) #[true,true,false,false,false,false,false,false] rfl rfl (any_of HT_.out (by kernel_rfl)) (fun _ _ _ h => h) (Or.inl ⟨by rfl,?_⟩) ?_ ?_
                  rotate_left
                  ·intro w'
                   go_simp
                   with_reducible rfl
                  rotate_left
                  ·simp only [Act.put,List.setIfInBounds_toArray,List.set_cons_zero,List.set_cons_succ,i64_w,i32_w]
                   rfl
                  refine pure_ (i := 2) (N := some 72) (v := ?_) (a' := ?_) #[true,true,true,false,false,false,false,false] rfl rfl (any_of HT_.out (by kernel_rfl)) (fun _ _ _ h => h) (Or.inl ⟨by rfl,?_⟩) ?_ ?_
                  rotate_left
                  ·intro w'
                   go_simp
                   with_reducible rfl
                  rotate_left
                  ·simp only [Act.put,List.setIfInBounds_toArray,List.set_cons_zero,List.set_cons_succ,i64_w,i32_w]
                   rfl
                  refine pure_ (i := 4) (N := some 74) (v := ?_) (a' := ?_) #[true,true,true,false,true,false,false,false] rfl rfl (any_of HT_.out (by kernel_rfl)) (fun _ _ _ h => h) (Or.inl ⟨by rfl,?_⟩) ?_ ?_
                  rotate_left
                  ·intro w'
                   go_simp
                   with_reducible rfl
                  rotate_left
                  ·simp only [Act.put,List.setIfInBounds_toArray,List.set_cons_zero,List.set_cons_succ,i64_w,i32_w]
                   rfl
                  refine take_ (i := 5) (N := some 75) (v := ?_) (a' := ?_) #[true,true,true,false,true,true,false,false] rfl rfl (take_ofW HT_.out HW_.out (by kernel_rfl)) (fun _ _ _ h => h) (Or.inl ⟨by rfl,?_⟩) hHeld ?_ ?_
                  rotate_left
                  ·rintro w' ⟨s0,s1⟩
                   go_simp
                   with_reducible rfl
                  rotate_left
                  ·simp only [Act.put,List.setIfInBounds_toArray,List.set_cons_zero,List.set_cons_succ,i64_w,i32_w]
                   rfl
                  refine pure_ (i := 6) (N := some 76) (v := ?_) (a' := ?_) #[true,true,true,false,true,true,true,false] rfl rfl (any_of HT_.out (by kernel_rfl)) (fun _ _ _ h => h) (Or.inl ⟨by rfl,?_⟩) ?_ ?_
                  rotate_left
                  ·intro w'
                   go_simp
                   with_reducible rfl
                  rotate_left
                  ·simp only [Act.put,List.setIfInBounds_toArray,List.set_cons_zero,List.set_cons_succ,i64_w,i32_w]
                   rfl
                  refine one_ (i := 3) (N := some 73) #[true,true,true,true,true,true,true,false] rfl rfl (one_of HT_.out (by kernel_rfl)) (by decide) (fun K hK => ?_)
                  refine goes_ Try.func202 (by kernel_rfl) rfl #[.int .i64 (wrap64 (t236 - t239))] (by rfl) rfl rfl (by (try simp only [List.map_toArray,List.map_cons,List.map_nil]);first | done | rfl | (simp only [List.length_drop,List.length_take];rfl)) ?_
                  with_reducible refine (spec_l1Sign.calls (wrap64 (t236 - t239)) t247 _ A52.out).mono ?_
                  rintro e w' ⟨rfl,⟨nd,rfl⟩⟩
                  refine ⟨_,rfl,?_⟩
                  refine hK.out _ _ ⟨(blk_cell BK233.out 0).trans rfl,(blk_cell BK233.out 1).trans rfl⟩ (fun hHeld => ?_)
                  clear hK K
                  refine norm_ (a' := ?_) ?_ ?_
                  rotate_left
                  ·show Act.put _ (some 73) _ = _
                   simp only [Act.put,List.setIfInBounds_toArray,List.set_cons_zero,List.set_cons_succ,i64_w,i32_w]
                   rfl
                  refine pure_ (i := 7) (N := some 77) (v := ?_) (a' := ?_) #[true,true,true,true,true,true,true,true] rfl rfl (any_of HT_.out (by kernel_rfl)) (fun _ _ _ h => h) (Or.inl ⟨by rfl,?_⟩) ?_ ?_
                  rotate_left
                  ·intro w'
                   go_simp
                   with_reducible rfl
                  rotate_left
                  ·simp only [Act.put,List.setIfInBounds_toArray,List.set_cons_zero,List.set_cons_succ,i64_w,i32_w]
                   rfl
                  refine done_ (done_of HT_.out (by kernel_rfl)) ?_
                  have p248 : 0 ≤ (2 : Int) := (by omega)
                  have q248 : 2 < ((rd_L3 l1 a2).length : Int) := of_decide_eq_true (by first | (with_reducible assumption) | assumption)
                  obtain ⟨ad248,e248,hx248_0⟩ := Kd.at_int HR232_0.out 2 p248 q248
                  obtain rfl : ad235 = ad248 := (by injection e248)
                  (try simp only [show (2 : Int).toNat = 2 from rfl,Nat.reduceMul,Nat.reduceEqDiff,Go.Addr.add,↓reduceIte] at hx248_0)
                  have qi248 : (2 < (rd_L3 l1 a2).length) = True := eq_true (by omega)
                  (try rw [show ((2 : Int)).toNat = 2 from rfl] at hx248_0)
                  replace hx248_0 := (HB.out.cell (World.block_lt_of_cell? w _ hx248_0)).trans hx248_0
                  replace p248 := eq_true p248
                  replace q248 := eq_true q248
                  try go_wp2_with (first | ((with_reducible refine gate_callee (f := 178) rfl ?_);refine goesL_ (some 85) rfl rfl Try.func178 (by kernel_rfl) rfl #[.slice (some ad231) l0.length c0,.slice (some ad232) l1.length c1,.int .i64 (rd (rd_L3 l1 a2) 2),.slice A3 l3.length c3] rfl (by (try simp only [List.map_toArray,List.map_cons,List.map_nil]);first | done | rfl | (simp only [List.length_drop,List.length_take];rfl)) ?_;(with_reducible refine (ih kj25 (by have := HJ25.out;omega) _ _ l0 _ _ l1 (rd (rd_L3 l1 a2) 2) _ _ l3 t249 t250 _ ?side1 ?side2 ?side3 ?side4 ?side5 ?side6 A55.out).mono ?_);(case side1 => repeat (first | exact (Kd.C_below HR0.out (by repeat (first | (with_reducible first | exact HB.out | apply below_alloc | apply pw_below_drewN | apply below_drew1 | refine below_set ?_ GE233.out) | exact HB.out))) | (with_reducible refine Kd.C_alloc ?_ _) | (with_reducible refine Kd.C_drewN ?_ _) | (with_reducible refine Kd.C_drew ?_)));(case side2 => exact HC0.out);(case side3 => repeat (first | exact (Kd.C_below HR1.out (by repeat (first | (with_reducible first | exact HB.out | apply below_alloc | apply pw_below_drewN | apply below_drew1 | refine below_set ?_ GE233.out) | exact HB.out))) | (with_reducible refine Kd.C_alloc ?_ _) | (with_reducible refine Kd.C_drewN ?_ _) | (with_reducible refine Kd.C_drew ?_)));(case side4 => exact HC1.out);(case side5 => repeat (first | exact (Kd.C_below HR3.out (by repeat (first | (with_reducible first | exact HB.out | apply below_alloc | apply pw_below_drewN | apply below_drew1 | refine below_set ?_ GE233.out) | exact HB.out))) | (with_reducible refine Kd.C_alloc ?_ _) | (with_reducible refine Kd.C_drewN ?_ _) | (with_reducible refine Kd.C_drew ?_)));(case side6 => exact HC3.out);rintro e w58 ⟨rfl,hb⟩;refine ⟨_,rfl,?_⟩;have n0_ := Aside0.mk (blk_below (g := gb233) (o := .cells #[.int .i64 ((rd_T139 l0 a2).f0),.int .i64 ((rd_T139 l0 a2).f1)] 139 (0,0)) (by (with_reducible repeat (first | refine blk_drewN ?_ _ | refine blk_drew ?_ | refine blk_alloc ?_ _));exact BK233.out) hb);have n1_ := Aside0.mk (below_step (by repeat (first | (with_reducible first | exact HB.out | apply below_alloc | apply pw_below_drewN | apply below_drew1 | refine below_set ?_ GE233.out) | exact HB.out)) hb);clear BK233;clear HB;have BK233 := n0_;have HB := n1_;clear n0_ n1_;(try clear hb);(try clear hb2);(try clear hk);(try clear hi)))
                  go_ret2
                  exact ⟨by first | rfl | (simp [errW_none,errW_some] <;> rfl) | (simp [*,errW_none,errW_some] <;> rfl),by repeat (first | (with_reducible first | exact HB.out | apply below_alloc | apply pw_below_drewN | apply below_drew1 | refine below_set ?_ GE233.out) | exact HB.out)⟩
                 ·rw [if_neg c54] at H
                  exact absurd H (by simp)
                ·rw [if_neg c53] at H
                 have c53b0 : (t247 == (wrap64 (((rd_T139 l0 a2).f0) - 7))) = false := beq_eq_false_iff_ne.mpr c53
                 have c53b1 : (t247 != (wrap64 (((rd_T139 l0 a2).f0) - 7))) = true := bne_iff_ne.mpr c53
                 replace H := Option.bind_eq_some_iff.mp H
                 obtain ⟨⟨t251,t252⟩,A590,H⟩ := H
                 replace H : (some (t251,t252)) = some (r1,r2) := H
                 have A59 := Aside0.mk A590
                 clear A590
                 simp only [Option.some.injEq,Prod.mk.injEq] at H
                 obtain ⟨rfl,rfl⟩ := H
                 have hcz60_0 : wc.cell? ⟨gb233,0,none⟩ = some (.int .i64 ((rd_T139 l0 a2).f0)) := (blk_cell BK233.out 0).trans rfl
                 have hcz60_1 : wc.cell? ⟨gb233,1,none⟩ = some (.int .i64 ((rd_T139 l0 a2).f1)) := (blk_cell BK233.out 1).trans rfl
                 have hfz60_0 := blk_frozen BK233.out 0
                 have hfz60_1 := blk_frozen BK233.out 1
                 have p246 : 0 ≤ (3 : Int) := (by omega)
                 have q246 : 3 < ((rd_L3 l1 a2).length : Int) := of_decide_eq_true (by first | (with_reducible assumption) | assumption)
                 obtain ⟨ad246,e246,hx246_0⟩ := Kd.at_int HR232_0.out 3 p246 q246
                 obtain rfl : ad235 = ad246 := (by injection e246)
                 (try simp only [show (3 : Int).toNat = 3 from rfl,Nat.reduceMul,Nat.reduceEqDiff,Go.Addr.add,↓reduceIte] at hx246_0)
                 have qi246 : (3 < (rd_L3 l1 a2).length) = True := eq_true (by omega)
                 (try rw [show ((3 : Int)).toNat = 3 from rfl] at hx246_0)
                 replace hx246_0 := (HB.out.cell (World.block_lt_of_cell? w _ hx246_0)).trans hx246_0
                 replace p246 := eq_true p246
                 replace q246 := eq_true q246
                 try go_wp2
                 have n0_ := Aside0.mk (blk_drew BK233.out)
                 have n1_ := Aside0.mk (below_drew1 HB.out)
                 clear BK233
                 clear HB
                 have BK233 := n0_
                 have HB := n1_
                 clear n0_ n1_
                 refine start_ (n := 8) (S := fun w' => w'.cell? ⟨gb233,0,none⟩ = some (.int .i64 ((rd_T139 l0 a2).f0)) ∧ w'.cell? ⟨gb233,1,none⟩ = some (.int .i64 ((rd_T139 l0 a2).f1))) (ds := []) #[false,false,false,false,false,false,false,false] (by kernel_rfl) rfl rfl ⟨(blk_cell BK233.out 0).trans rfl,(blk_cell BK233.out 1).trans rfl⟩ (fun hHeld => ?_);refine with_tabW spec_ruValue.tab14 spec_ruValue.bits14 (fun HT_ HW_ => ?_)
                 generalize wc.drew = w61 at BK233 HB hHeld ⊢
                 refine pure_ (i := 0) (N := some 70) (v := ?_) (a' := ?_) #[true,false,false,false,false,false,false,false] rfl rfl (any_of HT_.out (by kernel_rfl)) (fun _ _ _ h => h) (Or.inl ⟨by rfl,?_⟩) ?_ ?_
                 rotate_left
                 ·intro w'
                  go_simp
                  with_reducible rfl
                 rotate_left
                 ·simp only [Act.put,List.setIfInBounds_toArray,List.set_cons_zero,List.set_cons_succ,i64_w,i32_w]
                  rfl
                 refine pure_ (i := 1) (N := some 71) (v := ?_) (a' := ?_) #[true,true,false,false,false,false,false,false] rfl rfl (any_of HT_.out (by kernel_rfl)) (fun _ _ _ h => h) (Or.inl ⟨by rfl,?_⟩) ?_ ?_
                 rotate_left
                 ·intro w'
                  go_simp
                  with_reducible rfl
                 rotate_left
                 ·simp only [Act.put,List.setIfInBounds_toArray,List.set_cons_zero,List.set_cons_succ,i64_w,i32_w]
                  rfl
                 refine pure_ (i := 2) (N := some 72) (v := ?_) (a' := ?_) #[true,true,true,false,false,false,false,false] rfl rfl (any_of HT_.out (by kernel_rfl)) (fun _ _ _ h => h) (Or.inl ⟨by rfl,?_⟩) ?_ ?_
                 rotate_left
                 ·intro w'
                  go_simp
                  with_reducible rfl
                 rotate_left
                 ·simp only [Act.put,List.setIfInBounds_toArray,List.set_cons_zero,List.set_cons_succ,i64_w,i32_w]
                  rfl
                 refine pure_ (i := 4) (N := some 74) (v := ?_) (a' := ?_) #[true,true,true,false,true,false,false,false] rfl rfl (any_of HT_.out (by kernel_rfl)) (fun _ _ _ h => h) (Or.inl ⟨by rfl,?_⟩) ?_ ?_
                 rotate_left
                 ·intro w'
                  go_simp
                  with_reducible rfl
                 rotate_left
                 ·simp only [Act.put,List.setIfInBounds_toArray,List.set_cons_zero,List.set_cons_succ,i64_w,i32_w]
                  rfl
                 refine take_ (i := 5) (N := some 75) (v := ?_) (a' := ?_) #[true,true,true,false,true,true,false,false] rfl rfl (take_ofW HT_.out HW_.out (by kernel_rfl)) (fun _ _ _ h => h) (Or.inl ⟨by rfl,?_⟩) hHeld ?_ ?_
                 rotate_left
                 ·rintro w' ⟨s0,s1⟩
                  go_simp
                  with_reducible rfl
                 rotate_left
                 ·simp only [Act.put,List.setIfInBounds_toArray,List.set_cons_zero,List.set_cons_succ,i64_w,i32_w]
                  rfl
                 refine pure_ (i := 6) (N := some 76) (v := ?_) (a' := ?_) #[true,true,true,false,true,true,true,false] rfl rfl (any_of HT_.out (by kernel_rfl)) (fun _ _ _ h => h) (Or.inl ⟨by rfl,?_⟩) ?_ ?_
                 rotate_left
                 ·intro w'
                  go_simp
                  with_reducible rfl
                 rotate_left
                 ·simp only [Act.put,List.setIfInBounds_toArray,List.set_cons_zero,List.set_cons_succ,i64_w,i32_w]
                  rfl
                 refine one_ (i := 3) (N := some 73) #[true,true,true,true,true,true,true,false] rfl rfl (one_of HT_.out (by kernel_rfl)) (by decide) (fun K hK => ?_)
                 refine goes_ Try.func202 (by kernel_rfl) rfl #[.int .i64 (wrap64 (t236 - t239))] (by rfl) rfl rfl (by (try simp only [List.map_toArray,List.map_cons,List.map_nil]);first | done | rfl | (simp only [List.length_drop,List.length_take];rfl)) ?_
                 with_reducible refine (spec_l1Sign.calls (wrap64 (t236 - t239)) t247 _ A52.out).mono ?_
                 rintro e w' ⟨rfl,⟨nd,rfl⟩⟩
                 refine ⟨_,rfl,?_⟩
                 refine hK.out _ _ ⟨(blk_cell BK233.out 0).trans rfl,(blk_cell BK233.out 1).trans rfl⟩ (fun hHeld => ?_)
                 clear hK K
                 refine norm_ (a' := ?_) ?_ ?_
                 rotate_left
                 ·show Act.put _ (some 73) _ = _
                  simp only [Act.put,List.setIfInBounds_toArray,List.set_cons_zero,List.set_cons_succ,i64_w,i32_w]
                  rfl
                 refine pure_ (i := 7) (N := some 77) (v := ?_) (a' := ?_) #[true,true,true,true,true,true,true,true] rfl rfl (any_of HT_.out (by kernel_rfl)) (fun _ _ _ h => h) (Or.inl ⟨by rfl,?_⟩) ?_ ?_
                 rotate_left
                 ·intro w'
                  go_simp
                  with_reducible rfl
                 rotate_left
                 ·simp only [Act.put,List.setIfInBounds_toArray,List.set_cons_zero,List.set_cons_succ,i64_w,i32_w]
                  rfl
                 refine done_ (done_of HT_.out (by kernel_rfl)) ?_
                 try go_wp2_with (first | ((with_reducible refine gate_callee (f := 178) rfl ?_);refine goesL_ (some 85) rfl rfl Try.func178 (by kernel_rfl) rfl #[.slice (some ad231) l0.length c0,.slice (some ad232) l1.length c1,.int .i64 (rd (rd_L3 l1 a2) 3),.slice A3 l3.length c3] rfl (by (try simp only [List.map_toArray,List.map_cons,List.map_nil]);first | done | rfl | (simp only [List.length_drop,List.length_take];rfl)) ?_;(with_reducible refine (ih kj25 (by have := HJ25.out;omega) _ _ l0 _ _ l1 (rd (rd_L3 l1 a2) 3) _ _ l3 t251 t252 _ ?side1 ?side2 ?side3 ?side4 ?side5 ?side6 A59.out).mono ?_);(case side1 => repeat (first | exact (Kd.C_below HR0.out (by repeat (first | (with_reducible first | exact HB.out | apply below_alloc | apply pw_below_drewN | apply below_drew1 | refine below_set ?_ GE233.out) | exact HB.out))) | (with_reducible refine Kd.C_alloc ?_ _) | (with_reducible refine Kd.C_drewN ?_ _) | (with_reducible refine Kd.C_drew ?_)));(case side2 => exact HC0.out);(case side3 => repeat (first | exact (Kd.C_below HR1.out (by repeat (first | (with_reducible first | exact HB.out | apply below_alloc | apply pw_below_drewN | apply below_drew1 | refine below_set ?_ GE233.out) | exact HB.out))) | (with_reducible refine Kd.C_alloc ?_ _) | (with_reducible refine Kd.C_drewN ?_ _) | (with_reducible refine Kd.C_drew ?_)));(case side4 => exact HC1.out);(case side5 => repeat (first | exact (Kd.C_below HR3.out (by repeat (first | (with_reducible first | exact HB.out | apply below_alloc | apply pw_below_drewN | apply below_drew1 | refine below_set ?_ GE233.out) | exact HB.out))) | (with_reducible refine Kd.C_alloc ?_ _) | (with_reducible refine Kd.C_drewN ?_ _) | (with_reducible refine Kd.C_drew ?_)));(case side6 => exact HC3.out);rintro e w62 ⟨rfl,hb⟩;refine ⟨_,rfl,?_⟩;have n0_ := Aside0.mk (blk_below (g := gb233) (o := .cells #[.int .i64 ((rd_T139 l0 a2).f0),.int .i64 ((rd_T139 l0 a2).f1)] 139 (0,0)) (by (with_reducible repeat (first | refine blk_drewN ?_ _ | refine blk_drew ?_ | refine blk_alloc ?_ _));exact BK233.out) hb);have n1_ := Aside0.mk (below_step (by repeat (first | (with_reducible first | exact HB.out | apply below_alloc | apply pw_below_drewN | apply below_drew1 | refine below_set ?_ GE233.out) | exact HB.out)) hb);clear BK233;clear HB;have BK233 := n0_;have HB := n1_;clear n0_ n1_;(try clear hb);(try clear hb2);(try clear hk);(try clear hi)))
                 go_ret2
                 exact ⟨by first | rfl | (simp [errW_none,errW_some] <;> rfl) | (simp [*,errW_none,errW_some] <;> rfl),by repeat (first | (with_reducible first | exact HB.out | apply below_alloc | apply pw_below_drewN | apply below_drew1 | refine below_set ?_ GE233.out) | exact HB.out)⟩
               ·rw [if_neg c51] at H
                exact absurd H (by simp)
       ·rw [if_neg c24] at H
        exact absurd H (by simp)
      ·rw [if_neg c22] at H
       exact absurd H (by simp)
   ·rw [if_neg c7] at H
    exact absurd H (by simp)
  ·rw [if_neg c6] at H
   exact absurd H (by simp)
 ·rw [if_neg c5] at H
  exact absurd H (by simp)
end Go.Proofs.Ytomfjhpiemipkaa.PFnExactRuleValues
end
section
namespace Go.Proofs.Ytomfjhpiemipkaa.PFnExactRuleValues
open Go.RowKit Go.Proofs.YtomfjhpiemipkaaW.PrintWords Go.Proofs.YtomfjhpiemipkaaW.PrintLast Go.Proofs.YtomfjhpiemipkaaW.PrintMore
attribute [local go_sem] max2_int min2_int max_two min_two max_three min_three max_four min_four   -- for this text's walks alone
set_option linter.unusedVariables false
set_option linter.unusedSimpArgs false
def spec_ruEval.f (k : Nat) (l0 : List (S139)) (l1 : List Int) : Option (Int × Bool) := (spec_ruTree.f k l0).bind fun bt253 => ((spec_ruValue.f k l0 bt253.1 (wrap64 ((l0.length : Int) - 1)) l1).bind fun bt257 => (if bt257.2 = true then (some (bt257.1,true)) else (some (0,false))))
set_option maxHeartbeats 8000000 in
set_option maxRecDepth 100000 in
theorem spec_ruEval.calls (k : Nat) (A0 : Option Addr) (c0 : Nat) (l0 : List (S139)) (A1 : Option Addr) (c1 : Nat) (l1 : List Int) (r1 : Int) (r2 : Bool) (w : World) (hr0 : Kd.C k139 w A0 l0.length l0) (hc0 : l0.length ≤ c0) (hr1 : Kd.C (Kd.int .i64) w A1 l1.length l1) (hc1 : l1.length ≤ c1) (h : spec_ruEval.f k l0 l1 = some (r1,r2)) :
  Calls Try.prog 121 #[.slice A0 l0.length c0,.slice A1 l1.length c1] w fun e w' => e = .returned (.tuple #[.int .i64 r1,.bool r2]) ∧ Below w.heap.size w w' := by
 have HR0 := Aside0.mk hr0
 have HC0 := Aside0.mk hc0
 clear hr0 hc0
 have HR1 := Aside0.mk hr1
 have HC1 := Aside0.mk hc1
 clear hr1 hc1
 have HB := Aside0.mk (Below.refl w.heap.size w)
 have H : ((spec_ruTree.f k l0).bind fun bt253 => ((spec_ruValue.f k l0 bt253.1 (wrap64 ((l0.length : Int) - 1)) l1).bind fun bt257 => (if bt257.2 = true then (some (bt257.1,true)) else (some (0,false))))) = some (r1,r2) := h
 clear h
 replace H := Option.bind_eq_some_iff.mp H
 obtain ⟨⟨t253,t254⟩,A30,H⟩ := H
 replace H : ((spec_ruValue.f k l0 t253 (wrap64 ((l0.length : Int) - 1)) l1).bind fun bt257 => (if bt257.2 = true then (some (bt257.1,true)) else (some (0,false)))) = some (r1,r2) := H
 have A3 := Aside0.mk A30
 clear A30
 replace H := Option.bind_eq_some_iff.mp H
 obtain ⟨⟨t257,t258⟩,A40,H⟩ := H
 replace H : (if t258 = true then (some (t257,true)) else (some (0,false))) = some (r1,r2) := H
 have A4 := Aside0.mk A40
 clear A40
 by_cases c5 : t258 = true
 ·subst c5
  have H1 : (some (t257,true)) = some (r1,r2) := by rw [if_pos rfl] at H;exact H
  clear H
  have H := H1
  clear H1
  simp only [Option.some.injEq,Prod.mk.injEq] at H
  obtain ⟨rfl,rfl⟩ := H
  go_enter Try.func121,Try.ntmps121
  go_wp2_with (first | ((with_reducible refine gate_callee (f := 176) rfl ?_);refine goesL_ (some 12) rfl rfl Try.func176 (by kernel_rfl) rfl #[.slice A0 l0.length c0] rfl (by (try simp only [List.map_toArray,List.map_cons,List.map_nil]);first | done | rfl | (simp only [List.length_drop,List.length_take];rfl)) ?_;(with_reducible refine (spec_ruTree.calls k _ _ l0 t253 t254 _ ?side1 ?side2 A3.out).mono ?_);(case side1 => repeat (first | exact HR0.out | (with_reducible refine Kd.C_alloc ?_ _) | (with_reducible refine Kd.C_drewN ?_ _) | (with_reducible refine Kd.C_drew ?_)));(case side2 => exact HC0.out);rintro e w6 ⟨v255,rfl,ho0,hb⟩;refine ⟨_,rfl,?_⟩;have n0_ := Aside0.mk (Kd.S_lower ho0 (below_size (by repeat (first | (with_reducible first | exact HB.out | apply below_alloc | apply pw_below_drewN | apply below_drew1) | exact HB.out))));have n1_ := Aside0.mk (below_step (by repeat (first | (with_reducible first | exact HB.out | apply below_alloc | apply pw_below_drewN | apply below_drew1) | exact HB.out)) hb);clear HB;have HO256 := n0_;have HB := n1_;clear n0_ n1_;(try clear hb);(try clear hb2);(try clear hk);(try clear hi);(try clear ho0);obtain ⟨Ao7,co7,eo7⟩ := Kd.S_slice HO256.out;subst eo7) | ((with_reducible refine gate_callee (f := 178) rfl ?_);refine goesL_ (some 22) rfl rfl Try.func178 (by kernel_rfl) rfl #[.slice A0 l0.length c0,.slice Ao7 t253.length co7,.int .i64 (wrap64 ((l0.length : Int) - 1)),.slice A1 l1.length c1] rfl (by (try simp only [List.map_toArray,List.map_cons,List.map_nil]);first | done | rfl | (simp only [List.length_drop,List.length_take];rfl)) ?_;(with_reducible refine (spec_ruValue.calls k _ _ l0 _ _ t253 (wrap64 ((l0.length : Int) - 1)) _ _ l1 t257 true _ ?side1 ?side2 ?side3 ?side4 ?side5 ?side6 A4.out).mono ?_);(case side1 => repeat (first | exact (Kd.C_below HR0.out HB.out) | (with_reducible refine Kd.C_alloc ?_ _) | (with_reducible refine Kd.C_drewN ?_ _) | (with_reducible refine Kd.C_drew ?_)));(case side2 => exact HC0.out);(case side3 => repeat (first | exact (Kd.S_reads' HO256.out).2.2 | (with_reducible refine Kd.C_alloc ?_ _) | (with_reducible refine Kd.C_drewN ?_ _) | (with_reducible refine Kd.C_drew ?_)));(case side4 => exact (Kd.S_reads' HO256.out).2.1);(case side5 => repeat (first | exact (Kd.C_below HR1.out HB.out) | (with_reducible refine Kd.C_alloc ?_ _) | (with_reducible refine Kd.C_drewN ?_ _) | (with_reducible refine Kd.C_drew ?_)));(case side6 => exact HC1.out);rintro e w8 ⟨rfl,hb⟩;refine ⟨_,rfl,?_⟩;have n0_ := Aside0.mk (Kd.S_below (by (with_reducible repeat (first | apply Kd.S_alloc | apply Kd.S_drewN | apply Kd.S_drew));exact HO256.out) hb);have n1_ := Aside0.mk (below_step (by repeat (first | (with_reducible first | exact HB.out | apply below_alloc | apply pw_below_drewN | apply below_drew1) | exact HB.out)) hb);clear HO256;clear HB;have HO256 := n0_;have HB := n1_;clear n0_ n1_;(try clear hb);(try clear hb2);(try clear hk);(try clear hi)))
  go_ret2
  exact ⟨by first | rfl | (simp [errW_none,errW_some] <;> rfl) | (simp [*,errW_none,errW_some] <;> rfl),by repeat (first | (with_reducible first | exact HB.out | apply below_alloc | apply pw_below_drewN | apply below_drew1) | exact HB.out)⟩
 ·replace c5 := Bool.eq_false_iff.mpr c5
  subst c5
  have H1 : (some (0,false)) = some (r1,r2) := by rw [if_neg (show ¬ (false = true) by decide)] at H;exact H
  clear H
  have H := H1
  clear H1
  simp only [Option.some.injEq,Prod.mk.injEq] at H
  obtain ⟨rfl,rfl⟩ := H
  go_enter Try.func121,Try.ntmps121
  go_wp2_with (first | ((with_reducible refine gate_callee (f := 176) rfl ?_);refine goesL_ (some 12) rfl rfl Try.func176 (by kernel_rfl) rfl #[.slice A0 l0.length c0] rfl (by (try simp only [List.map_toArray,List.map_cons,List.map_nil]);first | done | rfl | (simp only [List.length_drop,List.length_take];rfl)) ?_;(with_reducible refine (spec_ruTree.calls k _ _ l0 t253 t254 _ ?side1 ?side2 A3.out).mono ?_);(case side1 => repeat (first | exact HR0.out | (with_reducible refine Kd.C_alloc ?_ _) | (with_reducible refine Kd.C_drewN ?_ _) | (with_reducible refine Kd.C_drew ?_)));(case side2 => exact HC0.out);rintro e w9 ⟨v255,rfl,ho0,hb⟩;refine ⟨_,rfl,?_⟩;have n0_ := Aside0.mk (Kd.S_lower ho0 (below_size (by repeat (first | (with_reducible first | exact HB.out | apply below_alloc | apply pw_below_drewN | apply below_drew1) | exact HB.out))));have n1_ := Aside0.mk (below_step (by repeat (first | (with_reducible first | exact HB.out | apply below_alloc | apply pw_below_drewN | apply below_drew1) | exact HB.out)) hb);clear HB;have HO256 := n0_;have HB := n1_;clear n0_ n1_;(try clear hb);(try clear hb2);(try clear hk);(try clear hi);(try clear ho0);obtain ⟨Ao10,co10,eo10⟩ := Kd.S_slice HO256.out;subst eo10) | ((with_reducible refine gate_callee (f := 178) rfl ?_);refine goesL_ (some 22) rfl rfl Try.func178 (by kernel_rfl) rfl #[.slice A0 l0.length c0,.slice Ao10 t253.length co10,.int .i64 (wrap64 ((l0.length : Int) - 1)),.slice A1 l1.length c1] rfl (by (try simp only [List.map_toArray,List.map_cons,List.map_nil]);first | done | rfl | (simp only [List.length_drop,List.length_take];rfl)) ?_;(with_reducible refine (spec_ruValue.calls k _ _ l0 _ _ t253 (wrap64 ((l0.length : Int) - 1)) _ _ l1 t257 false _ ?side1 ?side2 ?side3 ?side4 ?side5 ?side6 A4.out).mono ?_);(case side1 => repeat (first | exact (Kd.C_below HR0.out HB.out) | (with_reducible refine Kd.C_alloc ?_ _) | (with_reducible refine Kd.C_drewN ?_ _) | (with_reducible refine Kd.C_drew ?_)));(case side2 => exact HC0.out);(case side3 => repeat (first | exact (Kd.S_reads' HO256.out).2.2 | (with_reducible refine Kd.C_alloc ?_ _) | (with_reducible refine Kd.C_drewN ?_ _) | (with_reducible refine Kd.C_drew ?_)));(case side4 => exact (Kd.S_reads' HO256.out).2.1);(case side5 => repeat (first | exact (Kd.C_below HR1.out HB.out) | (with_reducible refine Kd.C_alloc ?_ _) | (with_reducible refine Kd.C_drewN ?_ _) | (with_reducible refine Kd.C_drew ?_)));(case side6 => exact HC1.out);rintro e w11 ⟨rfl,hb⟩;refine ⟨_,rfl,?_⟩;have n0_ := Aside0.mk (Kd.S_below (by (with_reducible repeat (first | apply Kd.S_alloc | apply Kd.S_drewN | apply Kd.S_drew));exact HO256.out) hb);have n1_ := Aside0.mk (below_step (by repeat (first | (with_reducible first | exact HB.out | apply below_alloc | apply pw_below_drewN | apply below_drew1) | exact HB.out)) hb);clear HO256;clear HB;have HO256 := n0_;have HB := n1_;clear n0_ n1_;(try clear hb);(try clear hb2);(try clear hk);(try clear hi)))
  go_ret2
  exact ⟨by first | rfl | (simp [errW_none,errW_some] <;> rfl) | (simp [*,errW_none,errW_some] <;> rfl),by repeat (first | (with_reducible first | exact HB.out | apply below_alloc | apply pw_below_drewN | apply below_drew1) | exact HB.out)⟩
end Go.Proofs.Ytomfjhpiemipkaa.PFnExactRuleValues
end
section
namespace Go.Proofs.Ytomfjhpiemipkaa.PFnExactRuleValues
open Go.RowKit Go.Proofs.YtomfjhpiemipkaaW.PrintWords Go.Proofs.YtomfjhpiemipkaaW.PrintLast Go.Proofs.YtomfjhpiemipkaaW.PrintMore
attribute [local go_sem] max2_int min2_int max_two min_two max_three min_three max_four min_four   -- for this text's walks alone
set_option linter.unusedVariables false
set_option linter.unusedSimpArgs false
def spec_moMetal.f (a0_0 : Int) (a0_1 : Int) (a0_2 : Int) (l0_3 : List Int) (l0_4 : List Int) (l0_5 : List Int) (a1 : Int) : Option (Int) := if 0 ≤ a1 then (if a1 < (l0_3.length : Int) then (if a1 < (l0_4.length : Int) then (some (wrap64 ((rd l0_3 a1) * (rd l0_4 a1)))) else (none)) else (none)) else (none)
set_option maxHeartbeats 8000000 in
set_option maxRecDepth 100000 in
theorem spec_moMetal.calls (a0_0 : Int) (a0_1 : Int) (a0_2 : Int) (A0_3 : Option Addr) (c0_3 : Nat) (l0_3 : List Int) (A0_4 : Option Addr) (c0_4 : Nat) (l0_4 : List Int) (A0_5 : Option Addr) (c0_5 : Nat) (l0_5 : List Int) (a1 : Int) (r : Int) (w : World) (hr0_3 : Kd.C (Kd.int .i64) w A0_3 l0_3.length l0_3) (hc0_3 : l0_3.length ≤ c0_3) (hr0_4 : Kd.C (Kd.int .i64) w A0_4 l0_4.length l0_4) (hc0_4 : l0_4.length ≤ c0_4) (hr0_5 : Kd.C (Kd.int .i64) w A0_5 l0_5.length l0_5) (hc0_5 : l0_5.length ≤ c0_5) (h : spec_moMetal.f a0_0 a0_1 a0_2 l0_3 l0_4 l0_5 a1 = some r) :
  Calls Try.prog 162 #[.agg #[.int .i64 a0_0,.int .i64 a0_1,.int .i64 a0_2,.slice A0_3 l0_3.length c0_3,.slice A0_4 l0_4.length c0_4,.slice A0_5 l0_5.length c0_5],.int .i64 a1] w fun e w' => e = .returned (.int .i64 r) ∧ Below w.heap.size w w' := by
 have hu34 := Try.underlying34
 have HR0_3 := Aside0.mk hr0_3
 have HC0_3 := Aside0.mk hc0_3
 clear hr0_3 hc0_3
 have HR0_4 := Aside0.mk hr0_4
 have HC0_4 := Aside0.mk hc0_4
 clear hr0_4 hc0_4
 have HR0_5 := Aside0.mk hr0_5
 have HC0_5 := Aside0.mk hc0_5
 clear hr0_5 hc0_5
 have HB := Aside0.mk (Below.refl w.heap.size w)
 have H : (if 0 ≤ a1 then (if a1 < (l0_3.length : Int) then (if a1 < (l0_4.length : Int) then (some (wrap64 ((rd l0_3 a1) * (rd l0_4 a1)))) else (none)) else (none)) else (none)) = some r := h
 clear h
 by_cases c3 : 0 ≤ a1
 ·rw [if_pos c3] at H
  have c3b0 : decide (0 ≤ a1) = true := decide_eq_true c3
  clear c3
  by_cases c4 : a1 < (l0_3.length : Int)
  ·rw [if_pos c4] at H
   have c4b0 : decide (a1 < (l0_3.length : Int)) = true := decide_eq_true c4
   clear c4
   by_cases c5 : a1 < (l0_4.length : Int)
   ·rw [if_pos c5] at H
    have c5b0 : decide (a1 < (l0_4.length : Int)) = true := decide_eq_true c5
    clear c5
    obtain rfl := Option.some.inj H
    go_enter Try.func162,Try.ntmps162
    go_wp2_with (first | ((with_reducible refine gate_dst (N := 2) rfl ?_);refine box_event ?hg (N := 2) ?hd (cs := #[.int .i64 a0_0,.int .i64 a0_1,.int .i64 a0_2,.slice A0_3 l0_3.length c0_3,.slice A0_4 l0_4.length c0_4,.slice A0_5 l0_5.length c0_5]) (t := 34) ?hr ?_;(case hd => rfl);(case hg => rfl);(case hr => first | (go_simp;done) | (go_simp;rfl));intro gb259 hg w6 hbox hb;have n0_ := Aside0.mk (below_step (by repeat (first | (with_reducible first | exact HB.out | apply below_alloc | apply pw_below_drewN | apply below_drew1) | exact HB.out)) hb);have n1_ := Aside0.mk (hbox);have n2_ := Aside0.mk ((by rw [hg];exact (below_size (by repeat (first | (with_reducible first | exact HB.out | apply below_alloc | apply pw_below_drewN | apply below_drew1) | exact HB.out))) : w.heap.size ≤ gb259));have n3_ := Aside0.mk ((by rw [hg];exact (below_size (by repeat (first | (with_reducible first | exact HB.out | apply below_alloc | apply pw_below_drewN | apply below_drew1) | exact HB.out))) : w.heap.size ≤ gb259));clear HB;have HB := n0_;have BK259 := n1_;have GW259 := n2_;have GE259 := n3_;clear n0_ n1_ n2_ n3_;clear hb hbox hg;have hcz7_0 : w6.cell? ⟨gb259,0,none⟩ = some (.int .i64 a0_0) := (blk_cell BK259.out 0).trans rfl;have hcz7_1 : w6.cell? ⟨gb259,1,none⟩ = some (.int .i64 a0_1) := (blk_cell BK259.out 1).trans rfl;have hcz7_2 : w6.cell? ⟨gb259,2,none⟩ = some (.int .i64 a0_2) := (blk_cell BK259.out 2).trans rfl;have hcz7_3 : w6.cell? ⟨gb259,3,none⟩ = some (.slice A0_3 l0_3.length c0_3) := (blk_cell BK259.out 3).trans rfl;have hcz7_4 : w6.cell? ⟨gb259,4,none⟩ = some (.slice A0_4 l0_4.length c0_4) := (blk_cell BK259.out 4).trans rfl;have hcz7_5 : w6.cell? ⟨gb259,5,none⟩ = some (.slice A0_5 l0_5.length c0_5) := (blk_cell BK259.out 5).trans rfl;have hfz7_0 := blk_frozen BK259.out 0;have hfz7_1 := blk_frozen BK259.out 1;have hfz7_2 := blk_frozen BK259.out 2;have hfz7_3 := blk_frozen BK259.out 3;have hfz7_4 := blk_frozen BK259.out 4;have hfz7_5 := blk_frozen BK259.out 5;have p260 : 0 ≤ (a1 : Int) := of_decide_eq_true (by first | (with_reducible assumption) | assumption);have q260 : a1 < (l0_3.length : Int) := of_decide_eq_true (by first | (with_reducible assumption) | assumption);obtain ⟨ad260,e260,hx260_0⟩ := Kd.at_int HR0_3.out a1 p260 q260;cases e260;replace hx260_0 := (HB.out.cell (World.block_lt_of_cell? w _ hx260_0)).trans hx260_0;replace p260 := eq_true p260;replace q260 := eq_true q260;have p261 : 0 ≤ (a1 : Int) := of_decide_eq_true (by first | (with_reducible assumption) | assumption);have q261 : a1 < (l0_4.length : Int) := of_decide_eq_true (by first | (with_reducible assumption) | assumption);obtain ⟨ad261,e261,hx261_0⟩ := Kd.at_int HR0_4.out a1 p261 q261;cases e261;replace hx261_0 := (HB.out.cell (World.block_lt_of_cell? w _ hx261_0)).trans hx261_0;replace p261 := eq_true p261;replace q261 := eq_true q261))
    repeat (go_quiet (first | ((with_reducible refine gate_dst (N := 2) rfl ?_);refine box_event ?hg (N := 2) ?hd (cs := #[.int .i64 a0_0,.int .i64 a0_1,.int .i64 a0_2,.slice A0_3 l0_3.length c0_3,.slice A0_4 l0_4.length c0_4,.slice A0_5 l0_5.length c0_5]) (t := 34) ?hr ?_;(case hd => rfl);(case hg => rfl);(case hr => first | (go_simp;done) | (go_simp;rfl));intro gb259 hg w6 hbox hb;have n0_ := Aside0.mk (below_step (by repeat (first | (with_reducible first | exact HB.out | apply below_alloc | apply pw_below_drewN | apply below_drew1) | exact HB.out)) hb);have n1_ := Aside0.mk (hbox);have n2_ := Aside0.mk ((by rw [hg];exact (below_size (by repeat (first | (with_reducible first | exact HB.out | apply below_alloc | apply pw_below_drewN | apply below_drew1) | exact HB.out))) : w.heap.size ≤ gb259));have n3_ := Aside0.mk ((by rw [hg];exact (below_size (by repeat (first | (with_reducible first | exact HB.out | apply below_alloc | apply pw_below_drewN | apply below_drew1) | exact HB.out))) : w.heap.size ≤ gb259));clear HB;have HB := n0_;have BK259 := n1_;have GW259 := n2_;have GE259 := n3_;clear n0_ n1_ n2_ n3_;clear hb hbox hg;have hcz7_0 : w6.cell? ⟨gb259,0,none⟩ = some (.int .i64 a0_0) := (blk_cell BK259.out 0).trans rfl;have hcz7_1 : w6.cell? ⟨gb259,1,none⟩ = some (.int .i64 a0_1) := (blk_cell BK259.out 1).trans rfl;have hcz7_2 : w6.cell? ⟨gb259,2,none⟩ = some (.int .i64 a0_2) := (blk_cell BK259.out 2).trans rfl;have hcz7_3 : w6.cell? ⟨gb259,3,none⟩ = some (.slice A0_3 l0_3.length c0_3) := (blk_cell BK259.out 3).trans rfl;have hcz7_4 : w6.cell? ⟨gb259,4,none⟩ = some (.slice A0_4 l0_4.length c0_4) := (blk_cell BK259.out 4).trans rfl;have hcz7_5 : w6.cell? ⟨gb259,5,none⟩ = some (.slice A0_5 l0_5.length c0_5) := (blk_cell BK259.out 5).trans rfl;have hfz7_0 := blk_frozen BK259.out 0;have hfz7_1 := blk_frozen BK259.out 1;have hfz7_2 := blk_frozen BK259.out 2;have hfz7_3 := blk_frozen BK259.out 3;have hfz7_4 := blk_frozen BK259.out 4;have hfz7_5 := blk_frozen BK259.out 5;have p260 : 0 ≤ (a1 : Int) := of_decide_eq_true (by first | (with_reducible assumption) | assumption);have q260 : a1 < (l0_3.length : Int) := of_decide_eq_true (by first | (with_reducible assumption) | assumption);obtain ⟨ad260,e260,hx260_0⟩ := Kd.at_int HR0_3.out a1 p260 q260;cases e260;replace hx260_0 := (HB.out.cell (World.block_lt_of_cell? w _ hx260_0)).trans hx260_0;replace p260 := eq_true p260;replace q260 := eq_true q260;have p261 : 0 ≤ (a1 : Int) := of_decide_eq_true (by first | (with_reducible assumption) | assumption);have q261 : a1 < (l0_4.length : Int) := of_decide_eq_true (by first | (with_reducible assumption) | assumption);obtain ⟨ad261,e261,hx261_0⟩ := Kd.at_int HR0_4.out a1 p261 q261;cases e261;replace hx261_0 := (HB.out.cell (World.block_lt_of_cell? w _ hx261_0)).trans hx261_0;replace p261 := eq_true p261;replace q261 := eq_true q261));try go_wp2_with (first | ((with_reducible refine gate_dst (N := 2) rfl ?_);refine box_event ?hg (N := 2) ?hd (cs := #[.int .i64 a0_0,.int .i64 a0_1,.int .i64 a0_2,.slice A0_3 l0_3.length c0_3,.slice A0_4 l0_4.length c0_4,.slice A0_5 l0_5.length c0_5]) (t := 34) ?hr ?_;(case hd => rfl);(case hg => rfl);(case hr => first | (go_simp;done) | (go_simp;rfl));intro gb259 hg w6 hbox hb;have n0_ := Aside0.mk (below_step (by repeat (first | (with_reducible first | exact HB.out | apply below_alloc | apply pw_below_drewN | apply below_drew1) | exact HB.out)) hb);have n1_ := Aside0.mk (hbox);have n2_ := Aside0.mk ((by rw [hg];exact (below_size (by repeat (first | (with_reducible first | exact HB.out | apply below_alloc | apply pw_below_drewN | apply below_drew1) | exact HB.out))) : w.heap.size ≤ gb259));have n3_ := Aside0.mk ((by rw [hg];exact (below_size (by repeat (first | (with_reducible first | exact HB.out | apply below_alloc | apply pw_below_drewN | apply below_drew1) | exact HB.out))) : w.heap.size ≤ gb259));clear HB;have HB := n0_;have BK259 := n1_;have GW259 := n2_;have GE259 := n3_;clear n0_ n1_ n2_ n3_;clear hb hbox hg;have hcz7_0 : w6.cell? ⟨gb259,0,none⟩ = some (.int .i64 a0_0) := (blk_cell BK259.out 0).trans rfl;have hcz7_1 : w6.cell? ⟨gb259,1,none⟩ = some (.int .i64 a0_1) := (blk_cell BK259.out 1).trans rfl;have hcz7_2 : w6.cell? ⟨gb259,2,none⟩ = some (.int .i64 a0_2) := (blk_cell BK259.out 2).trans rfl;have hcz7_3 : w6.cell? ⟨gb259,3,none⟩ = some (.slice A0_3 l0_3.length c0_3) := (blk_cell BK259.out 3).trans rfl;have hcz7_4 : w6.cell? ⟨gb259,4,none⟩ = some (.slice A0_4 l0_4.length c0_4) := (blk_cell BK259.out 4).trans rfl;have hcz7_5 : w6.cell? ⟨gb259,5,none⟩ = some (.slice A0_5 l0_5.length c0_5) := (blk_cell BK259.out 5).trans rfl;have hfz7_0 := blk_frozen BK259.out 0;have hfz7_1 := blk_frozen BK259.out 1;have hfz7_2 := blk_frozen BK259.out 2;have hfz7_3 := blk_frozen BK259.out 3;have hfz7_4 := blk_frozen BK259.out 4;have hfz7_5 := blk_frozen BK259.out 5;have p260 : 0 ≤ (a1 : Int) := of_decide_eq_true (by first | (with_reducible assumption) | assumption);have q260 : a1 < (l0_3.length : Int) := of_decide_eq_true (by first | (with_reducible assumption) | assumption);obtain ⟨ad260,e260,hx260_0⟩ := Kd.at_int HR0_3.out a1 p260 q260;cases e260;replace hx260_0 := (HB.out.cell (World.block_lt_of_cell? w _ hx260_0)).trans hx260_0;replace p260 := eq_true p260;replace q260 := eq_true q260;have p261 : 0 ≤ (a1 : Int) := of_decide_eq_true (by first | (with_reducible assumption) | assumption);have q261 : a1 < (l0_4.length : Int) := of_decide_eq_true (by first | (with_reducible assumption) | assumption);obtain ⟨ad261,e261,hx261_0⟩ := Kd.at_int HR0_4.out a1 p261 q261;cases e261;replace hx261_0 := (HB.out.cell (World.block_lt_of_cell? w _ hx261_0)).trans hx261_0;replace p261 := eq_true p261;replace q261 := eq_true q261)))
    go_ret
    exact ⟨by first | rfl | (simp [errW_none,errW_some] <;> rfl) | (simp [*,errW_none,errW_some] <;> rfl),by repeat (first | (with_reducible first | exact HB.out | apply below_alloc | apply pw_below_drewN | apply below_drew1 | refine below_set ?_ GE259.out) | exact HB.out)⟩
   ·rw [if_neg c5] at H
    exact absurd H (by simp)
  ·rw [if_neg c4] at H
   exact absurd H (by simp)
 ·rw [if_neg c3] at H
  exact absurd H (by simp)
end Go.Proofs.Ytomfjhpiemipkaa.PFnExactRuleValues
end
section
namespace Go.Proofs.Ytomfjhpiemipkaa.PFnExactRuleValues
open Go.RowKit Go.Proofs.YtomfjhpiemipkaaW.PrintWords Go.Proofs.YtomfjhpiemipkaaW.PrintLast Go.Proofs.YtomfjhpiemipkaaW.PrintMore
attribute [local go_sem] max2_int min2_int max_two min_two max_three min_three max_four min_four   -- for this text's walks alone
set_option linter.unusedVariables false
set_option linter.unusedSimpArgs false
def spec_grZ.f (a0_0 : Int) (a0_1 : Int) (a0_2 : Int) (a1 : Int) : Option (Int) := if a0_0 = 0 then (none) else (if a0_1 = 0 then (none) else (some (wrap64 (Int.tdiv (wrap64 (Int.tdiv a1 a0_0)) a0_1))))
set_option maxHeartbeats 8000000 in
set_option maxRecDepth 100000 in
theorem spec_grZ.calls (a0_0 : Int) (a0_1 : Int) (a0_2 : Int) (a1 : Int) (r : Int) (w : World) (h : spec_grZ.f a0_0 a0_1 a0_2 a1 = some r) :
  Calls Try.prog 179 #[.agg #[.int .i64 a0_0,.int .i64 a0_1,.int .i64 a0_2],.int .i64 a1] w fun e w' => e = .returned (.int .i64 r) ∧ Below w.heap.size w w' := by
 have hu32 := Try.underlying32
 have HB := Aside0.mk (Below.refl w.heap.size w)
 have H : (if a0_0 = 0 then (none) else (if a0_1 = 0 then (none) else (some (wrap64 (Int.tdiv (wrap64 (Int.tdiv a1 a0_0)) a0_1))))) = some r := h
 clear h
 by_cases c3 : a0_0 = 0
 ·rw [if_pos c3] at H
  exact absurd H (by simp)
 ·rw [if_neg c3] at H
  have c3b0 : (a0_0 == 0) = false := beq_eq_false_iff_ne.mpr c3
  have c3b1 : (a0_0 != 0) = true := bne_iff_ne.mpr c3
  by_cases c4 : a0_1 = 0
  ·rw [if_pos c4] at H
   exact absurd H (by simp)
  ·rw [if_neg c4] at H
   have c4b0 : (a0_1 == 0) = false := beq_eq_false_iff_ne.mpr c4
   have c4b1 : (a0_1 != 0) = true := bne_iff_ne.mpr c4
   obtain rfl := Option.some.inj H
   go_enter Try.func179,Try.ntmps179
   go_wp2_with (first | ((with_reducible refine gate_dst (N := 2) rfl ?_);refine box_event ?hg (N := 2) ?hd (cs := #[.int .i64 a0_0,.int .i64 a0_1,.int .i64 a0_2]) (t := 32) ?hr ?_;(case hd => rfl);(case hg => rfl);(case hr => first | (go_simp;done) | (go_simp;rfl));intro gb262 hg w5 hbox hb;have n0_ := Aside0.mk (below_step (by repeat (first | (with_reducible first | exact HB.out | apply below_alloc | apply pw_below_drewN | apply below_drew1) | exact HB.out)) hb);have n1_ := Aside0.mk (hbox);have n2_ := Aside0.mk ((by rw [hg];exact (below_size (by repeat (first | (with_reducible first | exact HB.out | apply below_alloc | apply pw_below_drewN | apply below_drew1) | exact HB.out))) : w.heap.size ≤ gb262));have n3_ := Aside0.mk ((by rw [hg];exact (below_size (by repeat (first | (with_reducible first | exact HB.out | apply below_alloc | apply pw_below_drewN | apply below_drew1) | exact HB.out))) : w.heap.size ≤ gb262));clear HB;have HB := n0_;have BK262 := n1_;have GW262 := n2_;have GE262 := n3_;clear n0_ n1_ n2_ n3_;clear hb hbox hg;have hcz6_0 : w5.cell? ⟨gb262,0,none⟩ = some (.int .i64 a0_0) := (blk_cell BK262.out 0).trans rfl;have hcz6_1 : w5.cell? ⟨gb262,1,none⟩ = some (.int .i64 a0_1) := (blk_cell BK262.out 1).trans rfl;have hcz6_2 : w5.cell? ⟨gb262,2,none⟩ = some (.int .i64 a0_2) := (blk_cell BK262.out 2).trans rfl;have hfz6_0 := blk_frozen BK262.out 0;have hfz6_1 := blk_frozen BK262.out 1;have hfz6_2 := blk_frozen BK262.out 2))
   repeat (go_quiet (first | ((with_reducible refine gate_dst (N := 2) rfl ?_);refine box_event ?hg (N := 2) ?hd (cs := #[.int .i64 a0_0,.int .i64 a0_1,.int .i64 a0_2]) (t := 32) ?hr ?_;(case hd => rfl);(case hg => rfl);(case hr => first | (go_simp;done) | (go_simp;rfl));intro gb262 hg w5 hbox hb;have n0_ := Aside0.mk (below_step (by repeat (first | (with_reducible first | exact HB.out | apply below_alloc | apply pw_below_drewN | apply below_drew1) | exact HB.out)) hb);have n1_ := Aside0.mk (hbox);have n2_ := Aside0.mk ((by rw [hg];exact (below_size (by repeat (first | (with_reducible first | exact HB.out | apply below_alloc | apply pw_below_drewN | apply below_drew1) | exact HB.out))) : w.heap.size ≤ gb262));have n3_ := Aside0.mk ((by rw [hg];exact (below_size (by repeat (first | (with_reducible first | exact HB.out | apply below_alloc | apply pw_below_drewN | apply below_drew1) | exact HB.out))) : w.heap.size ≤ gb262));clear HB;have HB := n0_;have BK262 := n1_;have GW262 := n2_;have GE262 := n3_;clear n0_ n1_ n2_ n3_;clear hb hbox hg;have hcz6_0 : w5.cell? ⟨gb262,0,none⟩ = some (.int .i64 a0_0) := (blk_cell BK262.out 0).trans rfl;have hcz6_1 : w5.cell? ⟨gb262,1,none⟩ = some (.int .i64 a0_1) := (blk_cell BK262.out 1).trans rfl;have hcz6_2 : w5.cell? ⟨gb262,2,none⟩ = some (.int .i64 a0_2) := (blk_cell BK262.out 2).trans rfl;have hfz6_0 := blk_frozen BK262.out 0;have hfz6_1 := blk_frozen BK262.out 1;have hfz6_2 := blk_frozen BK262.out 2));try go_wp2_with (first | ((with_reducible refine gate_dst (N := 2) rfl ?_);refine box_event ?hg (N := 2) ?hd (cs := #[.int .i64 a0_0,.int .i64 a0_1,.int .i64 a0_2]) (t := 32) ?hr ?_;(case hd => rfl);(case hg => rfl);(case hr => first | (go_simp;done) | (go_simp;rfl));intro gb262 hg w5 hbox hb;have n0_ := Aside0.mk (below_step (by repeat (first | (with_reducible first | exact HB.out | apply below_alloc | apply pw_below_drewN | apply below_drew1) | exact HB.out)) hb);have n1_ := Aside0.mk (hbox);have n2_ := Aside0.mk ((by rw [hg];exact (below_size (by repeat (first | (with_reducible first | exact HB.out | apply below_alloc | apply pw_below_drewN | apply below_drew1) | exact HB.out))) : w.heap.size ≤ gb262));have n3_ := Aside0.mk ((by rw [hg];exact (below_size (by repeat (first | (with_reducible first | exact HB.out | apply below_alloc | apply pw_below_drewN | apply below_drew1) | exact HB.out))) : w.heap.size ≤ gb262));clear HB;have HB := n0_;have BK262 := n1_;have GW262 := n2_;have GE262 := n3_;clear n0_ n1_ n2_ n3_;clear hb hbox hg;have hcz6_0 : w5.cell? ⟨gb262,0,none⟩ = some (.int .i64 a0_0) := (blk_cell BK262.out 0).trans rfl;have hcz6_1 : w5.cell? ⟨gb262,1,none⟩ = some (.int .i64 a0_1) := (blk_cell BK262.out 1).trans rfl;have hcz6_2 : w5.cell? ⟨gb262,2,none⟩ = some (.int .i64 a0_2) := (blk_cell BK262.out 2).trans rfl;have hfz6_0 := blk_frozen BK262.out 0;have hfz6_1 := blk_frozen BK262.out 1;have hfz6_2 := blk_frozen BK262.out 2)))
   go_ret
   exact ⟨by first | rfl | (simp [errW_none,errW_some] <;> rfl) | (simp [*,errW_none,errW_some] <;> rfl),by repeat (first | (with_reducible first | exact HB.out | apply below_alloc | apply pw_below_drewN | apply below_drew1 | refine below_set ?_ GE262.out) | exact HB.out)⟩
end Go.Proofs.Ytomfjhpiemipkaa.PFnExactRuleValues
end
