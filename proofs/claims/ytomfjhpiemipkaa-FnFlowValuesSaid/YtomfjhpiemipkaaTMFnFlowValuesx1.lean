/- Texts that print.sh has printed for the law FnFlowValues, one function each, put together in one file: contracts of its functions. -/
import Derived.Test.YtomfjhpiemipkaaTMFnFlowValuesx0
section
namespace Go.Proofs.Ytomfjhpiemipkaa.PFnFlowValues
open Go.RowKit Go.Proofs.YtomfjhpiemipkaaW.PrintWords Go.Proofs.YtomfjhpiemipkaaW.PrintLast Go.Proofs.YtomfjhpiemipkaaW.PrintMore
attribute [local go_sem] max2_int min2_int max_two min_two max_three min_three max_four min_four   -- for this text's walks alone
set_option linter.unusedVariables false
set_option linter.unusedSimpArgs false
def spec_l1Cur_among.f (s0_0 : List Int) (s0_1 : Int) (s0_2 : Int) (l1 : List Int) : Option (Int × Int × Int) := (spec_l1Cur_pick.f s0_0 s0_1 s0_2 (l1.length : Int)).bind fun bt288 => (if 0 ≤ bt288.1 then (if bt288.1 < (l1.length : Int) then (some (rd l1 bt288.1, bt288.2.1, bt288.2.2)) else (none)) else (none))
set_option maxHeartbeats 8000000 in
set_option maxRecDepth 100000 in
theorem spec_l1Cur_among.calls (g : Nat) (s0_0 : List Int) (s0_1 : Int) (s0_2 : Int) (A1 : Option Addr) (c1 : Nat) (l1 : List Int) (r1 : Int) (r2 : Int) (r3 : Int) (w0 w : World) (hI : IsS146 w0 w g s0_0 s0_1 s0_2) (hB : Below w0.heap.size w0 w) (hr1 : Kd.C (Kd.int .i64) w A1 l1.length l1) (hc1 : l1.length ≤ c1) (hf1 : ∀ ad, A1 = some ad → 0 < l1.length → ad.block ≠ g) (h : spec_l1Cur_among.f s0_0 s0_1 s0_2 l1 = some (r1, r2, r3)) :
    Calls Try.prog 128 #[.pointer (some ⟨g, 0, none⟩), .slice A1 l1.length c1] w fun e w' => e = .returned (.int .i64 r1) ∧ IsS146 w0 w' g s0_0 r2 r3 ∧ Below w0.heap.size w0 w' ∧ KeepBut w w' g none := by
  have HR1 := Aside0.mk hr1
  have HC1 := Aside0.mk hc1
  clear hr1 hc1
  have HI0 := Aside0.mk hI
  have HK := Aside0.mk (KeepBut.refl w g none)
  have HL := Aside0.mk hB.size
  clear hI
  have HW0 := Aside0.mk hB.size
  have HB := Aside0.mk hB
  clear hB
  have H : ((spec_l1Cur_pick.f s0_0 s0_1 s0_2 (l1.length : Int)).bind fun bt288 => (if 0 ≤ bt288.1 then (if bt288.1 < (l1.length : Int) then (some (rd l1 bt288.1, bt288.2.1, bt288.2.2)) else (none)) else (none))) = some (r1, r2, r3) := h
  clear h
  replace H := Option.bind_eq_some_iff.mp H
  obtain ⟨⟨t288, t289, t290⟩, A30, H⟩ := H
  replace H : (if 0 ≤ t288 then (if t288 < (l1.length : Int) then (some (rd l1 t288, t289, t290)) else (none)) else (none)) = some (r1, r2, r3) := H
  have A3 := Aside0.mk A30
  clear A30
  by_cases c4 : 0 ≤ t288
  · rw [if_pos c4] at H
    have c4b0 : decide (0 ≤ t288) = true := decide_eq_true c4
    clear c4
    by_cases c5 : t288 < (l1.length : Int)
    · rw [if_pos c5] at H
      have c5b0 : decide (t288 < (l1.length : Int)) = true := decide_eq_true c5
      clear c5
      simp only [Option.some.injEq, Prod.mk.injEq] at H
      obtain ⟨rfl, rfl, rfl⟩ := H
      go_enter Try.func128, Try.ntmps128
      go_wp2_with (first | ((with_reducible refine gate_callee (f := 135) rfl ?_); refine goesL_ (some 9) rfl rfl Try.func135 (by kernel_rfl) rfl #[.pointer (some ⟨g, 0, none⟩), .int .i64 (l1.length : Int)] rfl (by (try simp only [List.map_toArray, List.map_cons, List.map_nil]); first | done | rfl | (simp only [List.length_drop, List.length_take]; rfl)) ?_; (with_reducible refine (spec_l1Cur_pick.calls g s0_0 s0_1 s0_2 (l1.length : Int) t288 t289 t290 w0 _ ?side1 ?side2 A3.out).mono ?_); (case side1 => repeat (first | (with_reducible first | exact HI0.out | apply IsS146.alloc | apply IsS146.drewN | apply IsS146.drew | apply IsS146.set_1 | apply IsS146.set_2) | exact HI0.out)); (case side2 => repeat (first | (with_reducible first | exact HB.out | apply below_alloc | apply pw_below_drewN | apply below_drew1 | refine below_set ?_ (IsS146.ge HI0.out)) | exact HB.out)); rintro e w6 ⟨rfl, hi, hb, hk⟩; refine ⟨_, rfl, ?_⟩; have n0_ := Aside0.mk (KeepBut.trans (by repeat (first | (with_reducible first | exact HK.out | apply KeepBut.set_ | apply keep_drewN | apply keep_drew | apply keep_alloc) | exact HK.out)) hk (.inl rfl)); have n1_ := Aside0.mk (hb); have n2_ := Aside0.mk (hi); clear HK; clear HB; clear HI0; have HK := n0_; have HB := n1_; have HI0 := n2_; clear n0_ n1_ n2_; (try clear hb); (try clear hb2); (try clear hk); (try clear hi); have p291 : 0 ≤ (t288 : Int) := of_decide_eq_true (by first | (with_reducible assumption) | assumption); have q291 : t288 < (l1.length : Int) := of_decide_eq_true (by first | (with_reducible assumption) | assumption); obtain ⟨ad291, e291, hx291_0⟩ := Kd.at_int HR1.out t288 p291 q291; cases e291; replace hx291_0 := keep_cell HK.out hx291_0 (by first | (rw [add_block]; exact hf1 _ rfl (by omega)) | exact hf1 _ rfl (by omega) | exact hf1 ad291 rfl (by omega)); replace p291 := eq_true p291; replace q291 := eq_true q291))
      go_ret
      exact ⟨by first | rfl | (simp [errW_none, errW_some] <;> rfl) | (simp [*, errW_none, errW_some] <;> rfl), by repeat (first | (with_reducible first | exact HI0.out | apply IsS146.alloc | apply IsS146.drewN | apply IsS146.drew | apply IsS146.set_1 | apply IsS146.set_2) | exact HI0.out), by repeat (first | (with_reducible first | exact HB.out | apply below_alloc | apply pw_below_drewN | apply below_drew1 | refine below_set ?_ (IsS146.ge HI0.out)) | exact HB.out), by repeat (first | (with_reducible first | exact HK.out | apply KeepBut.set_ | apply keep_drewN | apply keep_drew | apply keep_alloc) | exact HK.out)⟩
    · rw [if_neg c5] at H
      exact absurd H (by simp)
  · rw [if_neg c4] at H
    exact absurd H (by simp)
end Go.Proofs.Ytomfjhpiemipkaa.PFnFlowValues
end
section
namespace Go.Proofs.Ytomfjhpiemipkaa.PFnFlowValues
open Go.RowKit Go.Proofs.YtomfjhpiemipkaaW.PrintWords Go.Proofs.YtomfjhpiemipkaaW.PrintLast Go.Proofs.YtomfjhpiemipkaaW.PrintMore
attribute [local go_sem] max2_int min2_int max_two min_two max_three min_three max_four min_four   -- for this text's walks alone
set_option linter.unusedVariables false
set_option linter.unusedSimpArgs false
def spec_l1Cur_one.f (s0_0 : List Int) (s0_1 : Int) (s0_2 : Int) (a1 : Int) : Option (Bool × Int × Int) := (spec_l1Cur_pick.f s0_0 s0_1 s0_2 a1).bind fun bt292 => (some ((bt292.1 == 0), bt292.2.1, bt292.2.2))
set_option maxHeartbeats 8000000 in
set_option maxRecDepth 100000 in
theorem spec_l1Cur_one.calls (g : Nat) (s0_0 : List Int) (s0_1 : Int) (s0_2 : Int) (a1 : Int) (r1 : Bool) (r2 : Int) (r3 : Int) (w0 w : World) (hI : IsS146 w0 w g s0_0 s0_1 s0_2) (hB : Below w0.heap.size w0 w) (h : spec_l1Cur_one.f s0_0 s0_1 s0_2 a1 = some (r1, r2, r3)) :
    Calls Try.prog 141 #[.pointer (some ⟨g, 0, none⟩), .int .i64 a1] w fun e w' => e = .returned (.bool r1) ∧ IsS146 w0 w' g s0_0 r2 r3 ∧ Below w0.heap.size w0 w' ∧ KeepBut w w' g none := by
  have HI0 := Aside0.mk hI
  have HK := Aside0.mk (KeepBut.refl w g none)
  have HL := Aside0.mk hB.size
  clear hI
  have HW0 := Aside0.mk hB.size
  have HB := Aside0.mk hB
  clear hB
  have H : ((spec_l1Cur_pick.f s0_0 s0_1 s0_2 a1).bind fun bt292 => (some ((bt292.1 == 0), bt292.2.1, bt292.2.2))) = some (r1, r2, r3) := h
  clear h
  replace H := Option.bind_eq_some_iff.mp H
  obtain ⟨⟨t292, t293, t294⟩, A30, H⟩ := H
  replace H : (some ((t292 == 0), t293, t294)) = some (r1, r2, r3) := H
  have A3 := Aside0.mk A30
  clear A30
  simp only [Option.some.injEq, Prod.mk.injEq] at H
  obtain ⟨rfl, rfl, rfl⟩ := H
  go_enter Try.func141, Try.ntmps141
  go_wp2_with (first | ((with_reducible refine gate_callee (f := 135) rfl ?_); refine goesL_ (some 7) rfl rfl Try.func135 (by kernel_rfl) rfl #[.pointer (some ⟨g, 0, none⟩), .int .i64 a1] rfl (by (try simp only [List.map_toArray, List.map_cons, List.map_nil]); first | done | rfl | (simp only [List.length_drop, List.length_take]; rfl)) ?_; (with_reducible refine (spec_l1Cur_pick.calls g s0_0 s0_1 s0_2 a1 t292 t293 t294 w0 _ ?side1 ?side2 A3.out).mono ?_); (case side1 => repeat (first | (with_reducible first | exact HI0.out | apply IsS146.alloc | apply IsS146.drewN | apply IsS146.drew | apply IsS146.set_1 | apply IsS146.set_2) | exact HI0.out)); (case side2 => repeat (first | (with_reducible first | exact HB.out | apply below_alloc | apply pw_below_drewN | apply below_drew1 | refine below_set ?_ (IsS146.ge HI0.out)) | exact HB.out)); rintro e w4 ⟨rfl, hi, hb, hk⟩; refine ⟨_, rfl, ?_⟩; have n0_ := Aside0.mk (KeepBut.trans (by repeat (first | (with_reducible first | exact HK.out | apply KeepBut.set_ | apply keep_drewN | apply keep_drew | apply keep_alloc) | exact HK.out)) hk (.inl rfl)); have n1_ := Aside0.mk (hb); have n2_ := Aside0.mk (hi); clear HK; clear HB; clear HI0; have HK := n0_; have HB := n1_; have HI0 := n2_; clear n0_ n1_ n2_; (try clear hb); (try clear hb2); (try clear hk); (try clear hi)))
  go_ret
  exact ⟨by first | rfl | (simp [errW_none, errW_some] <;> rfl) | (simp [*, errW_none, errW_some] <;> rfl), by repeat (first | (with_reducible first | exact HI0.out | apply IsS146.alloc | apply IsS146.drewN | apply IsS146.drew | apply IsS146.set_1 | apply IsS146.set_2) | exact HI0.out), by repeat (first | (with_reducible first | exact HB.out | apply below_alloc | apply pw_below_drewN | apply below_drew1 | refine below_set ?_ (IsS146.ge HI0.out)) | exact HB.out), by repeat (first | (with_reducible first | exact HK.out | apply KeepBut.set_ | apply keep_drewN | apply keep_drew | apply keep_alloc) | exact HK.out)⟩
end Go.Proofs.Ytomfjhpiemipkaa.PFnFlowValues
end
section
namespace Go.Proofs.Ytomfjhpiemipkaa.PFnFlowValues
open Go.RowKit Go.Proofs.YtomfjhpiemipkaaW.PrintWords Go.Proofs.YtomfjhpiemipkaaW.PrintLast Go.Proofs.YtomfjhpiemipkaaW.PrintMore
attribute [local go_sem] max2_int min2_int max_two min_two max_three min_three max_four min_four   -- for this text's walks alone
set_option linter.unusedVariables false
set_option linter.unusedSimpArgs false
mutual
def spec_l1Cur_network.l0 : Nat → Int → List (S99) → Int → List Int → Int → Int → Option (Int × (List (S99)) × Int × Int)
  | 0, _, _, _, _, _, _ => none
  | k + 1, x4, x5, x6, x1000, x1001, x1002 => if x6 > 0 then ((spec_l1Cur_pick.f x1000 x1001 x1002 x4).bind fun bt301 => ((spec_l1Cur_pick.f x1000 bt301.2.1 bt301.2.2 x4).bind fun bt304 => ((spec_l1Cur_pick.f x1000 bt304.2.1 bt304.2.2 40).bind fun bt307 => ((spec_l1Cur_among.f x1000 bt307.2.1 bt307.2.2 (([0, 1, 2, 3, 5, 9, bt307.1] : List Int))).bind fun bt313 => (if x5.length < 5864062014805 then (spec_l1Cur_network.l0 k x4 (x5 ++ [(⟨bt301.1, bt304.1, bt313.1⟩ : S99)]) (wrap64 (x6 - 1)) x1000 bt313.2.1 bt313.2.2) else (none)))))) else ((spec_l1Cur_one.f x1000 x1001 x1002 2).bind fun bt319 => (if bt319.1 = true then (spec_l1Cur_network.l1 k x4 x5 1 x1000 bt319.2.1 bt319.2.2) else (spec_l1Cur_network.j2 k x4 x5 x1000 bt319.2.1 bt319.2.2)))
def spec_l1Cur_network.j2 : Nat → Int → List (S99) → List Int → Int → Int → Option (Int × (List (S99)) × Int × Int)
  | 0, _, _, _, _, _ => none
  | k + 1, x4, x5, x1000, x1001, x1002 => (spec_l1Cur_pick.f x1000 x1001 x1002 30).bind fun bt328 => (if bt328.1 = 0 then ((spec_l1Cur_among.f x1000 bt328.2.1 bt328.2.2 (([0, 1, (-1), wrap64 (x4 - 1)] : List Int))).bind fun bt334 => (some (bt334.1, x5, bt334.2.1, bt334.2.2))) else (if bt328.1 = 1 then ((spec_l1Cur_among.f x1000 bt328.2.1 bt328.2.2 (([(-1), x4, 0] : List Int))).bind fun bt340 => ((spec_l1Cur_among.f x1000 bt340.2.1 bt340.2.2 (([(-1), x4, 0] : List Int))).bind fun bt346 => (if x5.length < 5864062014805 then (some (x4, (x5 ++ [(⟨bt340.1, bt346.1, 1⟩ : S99)]), bt346.2.1, bt346.2.2)) else (none)))) else (if bt328.1 = 2 then ((spec_l1Cur_among.f x1000 bt328.2.1 bt328.2.2 (([(-1), 1000000000, 1000000001] : List Int))).bind fun bt355 => (if x5.length < 5864062014805 then (some (x4, (x5 ++ [(⟨0, wrap64 (x4 - 1), bt355.1⟩ : S99)]), bt355.2.1, bt355.2.2)) else (none))) else (if bt328.1 = 3 then ((spec_l1Cur_pick.f x1000 bt328.2.1 bt328.2.2 2).bind fun bt361 => (if x5.length < 5864062014805 then (some (wrap64 (130 + bt361.1), (x5 ++ [(⟨0, wrap64 ((wrap64 (130 + bt361.1)) - 1), 3⟩ : S99)]), bt361.2.1, bt361.2.2)) else (none))) else (if bt328.1 = 4 then ((spec_l1Cur_pick.f x1000 bt328.2.1 bt328.2.2 2).bind fun bt367 => (spec_l1Cur_network.l2 k x4 x5 (wrap64 (2000 + bt367.1)) x1000 bt367.2.1 bt367.2.2)) else (some (x4, x5, bt328.2.1, bt328.2.2)))))))
def spec_l1Cur_network.l2 : Nat → Int → List (S99) → Int → List Int → Int → Int → Option (Int × (List (S99)) × Int × Int)
  | 0, _, _, _, _, _, _ => none
  | k + 1, x4, x5, x8, x1000, x1001, x1002 => if (x5.length : Int) < x8 then (if x5.length < 5864062014805 then (spec_l1Cur_network.l2 k x4 (x5 ++ [(⟨0, wrap64 (x4 - 1), 1⟩ : S99)]) x8 x1000 x1001 x1002) else (none)) else (some (x4, x5, x1001, x1002))
def spec_l1Cur_network.l1 : Nat → Int → List (S99) → Int → List Int → Int → Int → Option (Int × (List (S99)) × Int × Int)
  | 0, _, _, _, _, _, _ => none
  | k + 1, x4, x5, x7, x1000, x1001, x1002 => if x7 < x4 then ((spec_l1Cur_pick.f x1000 x1001 x1002 9).bind fun bt322 => (if x5.length < 5864062014805 then (spec_l1Cur_network.l1 k x4 (x5 ++ [(⟨wrap64 (x7 - 1), x7, wrap64 (1 + bt322.1)⟩ : S99)]) (wrap64 (x7 + 1)) x1000 bt322.2.1 bt322.2.2) else (none))) else (spec_l1Cur_network.j2 k x4 x5 x1000 x1001 x1002)
end
def spec_l1Cur_network.f (k : Nat) (s0_0 : List Int) (s0_1 : Int) (s0_2 : Int) : Option (Int × (List (S99)) × Int × Int) := (spec_l1Cur_pick.f s0_0 s0_1 s0_2 7).bind fun bt295 => ((spec_l1Cur_pick.f s0_0 bt295.2.1 bt295.2.2 16).bind fun bt298 => (spec_l1Cur_network.l0 k (wrap64 (2 + bt295.1)) ([] : List (S99)) bt298.1 s0_0 bt298.2.1 bt298.2.2))
set_option maxHeartbeats 8000000 in
set_option maxRecDepth 100000 in
theorem spec_l1Cur_network.calls (k : Nat) (g : Nat) (s0_0 : List Int) (s0_1 : Int) (s0_2 : Int) (r1 : Int) (r2 : List (S99)) (r3 : Int) (r4 : Int) (w0 w : World) (hI : IsS146 w0 w g s0_0 s0_1 s0_2) (hB : Below w0.heap.size w0 w) (h : spec_l1Cur_network.f k s0_0 s0_1 s0_2 = some (r1, r2, r3, r4)) :
    Calls Try.prog 136 #[.pointer (some ⟨g, 0, none⟩)] w fun e w' => ∃ v1_ : Value, e = .returned (.tuple #[.int .i64 r1, v1_]) ∧ Kd.R k99 99 w' w.heap.size (fun _ => True) v1_ r2 ∧ IsS146 w0 w' g s0_0 r3 r4 ∧ Below w0.heap.size w0 w' ∧ KeepBut w w' g none := by
  have hu99 := Try.underlying99
  have HI0 := Aside0.mk hI
  have HK := Aside0.mk (KeepBut.refl w g none)
  have HL := Aside0.mk hB.size
  clear hI
  have HW0 := Aside0.mk hB.size
  have HB := Aside0.mk hB
  clear hB
  have H : ((spec_l1Cur_pick.f s0_0 s0_1 s0_2 7).bind fun bt295 => ((spec_l1Cur_pick.f s0_0 bt295.2.1 bt295.2.2 16).bind fun bt298 => (spec_l1Cur_network.l0 k (wrap64 (2 + bt295.1)) ([] : List (S99)) bt298.1 s0_0 bt298.2.1 bt298.2.2))) = some (r1, r2, r3, r4) := h
  clear h
  replace H := Option.bind_eq_some_iff.mp H
  obtain ⟨⟨t295, t296, t297⟩, A20, H⟩ := H
  replace H : ((spec_l1Cur_pick.f s0_0 t296 t297 16).bind fun bt298 => (spec_l1Cur_network.l0 k (wrap64 (2 + t295)) ([] : List (S99)) bt298.1 s0_0 bt298.2.1 bt298.2.2)) = some (r1, r2, r3, r4) := H
  have A2 := Aside0.mk A20
  clear A20
  replace H := Option.bind_eq_some_iff.mp H
  obtain ⟨⟨t298, t299, t300⟩, A30, H⟩ := H
  replace H : (spec_l1Cur_network.l0 k (wrap64 (2 + t295)) ([] : List (S99)) t298 s0_0 t299 t300) = some (r1, r2, r3, r4) := H
  have A3 := Aside0.mk A30
  clear A30
  have H' := Aside0.mk H
  clear H
  go_enter Try.func136, Try.ntmps136
  go_wp2_with (first | ((with_reducible refine gate_callee (f := 135) rfl ?_); refine goesL_ (some 10) rfl rfl Try.func135 (by kernel_rfl) rfl #[.pointer (some ⟨g, 0, none⟩), .int .i64 7] rfl (by (try simp only [List.map_toArray, List.map_cons, List.map_nil]); first | done | rfl | (simp only [List.length_drop, List.length_take]; rfl)) ?_; (with_reducible refine (spec_l1Cur_pick.calls g s0_0 s0_1 s0_2 7 t295 t296 t297 w0 _ ?side1 ?side2 A2.out).mono ?_); (case side1 => repeat (first | (with_reducible first | exact HI0.out | apply IsS146.alloc | apply IsS146.drewN | apply IsS146.drew | apply IsS146.set_1 | apply IsS146.set_2) | exact HI0.out)); (case side2 => repeat (first | (with_reducible first | exact HB.out | apply below_alloc | apply pw_below_drewN | apply below_drew1 | refine below_set ?_ (IsS146.ge HI0.out)) | exact HB.out)); rintro e w4 ⟨rfl, hi, hb, hk⟩; refine ⟨_, rfl, ?_⟩; have n0_ := Aside0.mk (KeepBut.trans (by repeat (first | (with_reducible first | exact HK.out | apply KeepBut.set_ | apply keep_drewN | apply keep_drew | apply keep_alloc) | exact HK.out)) hk (.inl rfl)); have n1_ := Aside0.mk (hb); have n2_ := Aside0.mk (hi); clear HK; clear HB; clear HI0; have HK := n0_; have HB := n1_; have HI0 := n2_; clear n0_ n1_ n2_; (try clear hb); (try clear hb2); (try clear hk); (try clear hi)) | ((with_reducible refine gate_callee (f := 135) rfl ?_); refine goesL_ (some 13) rfl rfl Try.func135 (by kernel_rfl) rfl #[.pointer (some ⟨g, 0, none⟩), .int .i64 16] rfl (by (try simp only [List.map_toArray, List.map_cons, List.map_nil]); first | done | rfl | (simp only [List.length_drop, List.length_take]; rfl)) ?_; (with_reducible refine (spec_l1Cur_pick.calls g s0_0 t296 t297 16 t298 t299 t300 w0 _ ?side1 ?side2 A3.out).mono ?_); (case side1 => repeat (first | (with_reducible first | exact HI0.out | apply IsS146.alloc | apply IsS146.drewN | apply IsS146.drew | apply IsS146.set_1 | apply IsS146.set_2) | exact HI0.out)); (case side2 => repeat (first | (with_reducible first | exact HB.out | apply below_alloc | apply pw_below_drewN | apply below_drew1 | refine below_set ?_ (IsS146.ge HI0.out)) | exact HB.out)); rintro e w5 ⟨rfl, hi, hb, hk⟩; refine ⟨_, rfl, ?_⟩; have n0_ := Aside0.mk (KeepBut.trans (by repeat (first | (with_reducible first | exact HK.out | apply KeepBut.set_ | apply keep_drewN | apply keep_drew | apply keep_alloc) | exact HK.out)) hk (.inl rfl)); have n1_ := Aside0.mk (hb); have n2_ := Aside0.mk (hi); clear HK; clear HB; clear HI0; have HK := n0_; have HB := n1_; have HI0 := n2_; clear n0_ n1_ n2_; (try clear hb); (try clear hb2); (try clear hk); (try clear hi)))
  go_loopg [5, 6] k (fun kq v5 v6 w' => ∃ (x5_1 : List (S99)) (x6_1 : Int) (x1001_1 : Int) (x1002_1 : Int), v6 = .int .i64 x6_1 ∧ Aside0 (spec_l1Cur_network.l0 kq (wrap64 (2 + t295)) x5_1 x6_1 s0_0 x1001_1 x1002_1 = some (r1, r2, r3, r4)) ∧ Aside0 (kq ≤ k) ∧ Aside0 (Kd.R k99 99 w' w.heap.size (fun _ => True) v5 x5_1) ∧ Aside0 (IsS146 w0 w' g s0_0 x1001_1 x1002_1) ∧ Aside0 (KeepBut w w' g none) ∧ Aside0 (Below w0.heap.size w0 w'))
  case atStart => exact ⟨(([] : List (S99))), (t298), (t299), (t300), (by first | rfl | (simp; done) | (simp [*]; done)), H', ⟨Nat.le_refl _⟩, ⟨by first | exact Kd.R_nil _ _ _ _ _ | exact Kd.N_nil _ _ _ _ _ | exact Kd.V_nil _ _ _ _ _ | exact Kd.Q_nil _ _ _ _ _ | exact Kd.S_nil _ _ _ _ _⟩, ⟨by repeat (first | (with_reducible first | exact HI0.out | apply IsS146.alloc | apply IsS146.drewN | apply IsS146.drew | apply IsS146.set_1 | apply IsS146.set_2) | exact HI0.out)⟩, ⟨by repeat (first | (with_reducible first | exact HK.out | apply KeepBut.set_ | apply keep_drewN | apply keep_drew | apply keep_alloc) | exact HK.out)⟩, ⟨by repeat (first | (with_reducible first | exact HB.out | apply below_alloc | apply pw_below_drewN | apply below_drew1 | refine below_set ?_ (IsS146.ge HI0.out)) | exact HB.out)⟩⟩
  case round =>
    clear H'
    try clear c1
    try clear p2
    obtain ⟨x5_1, x6_1, x1001_1, x1002_1, rfl, HA, HK1, HO_5, HI0, HK, HB⟩ := hrel
    cases gk with
    | zero => exact absurd HA.out (by simp [spec_l1Cur_network.l0])
    | succ k1 =>
      have H := HA.out
      clear HA
      simp only [spec_l1Cur_network.l0] at H
      by_cases c6 : x6_1 > 0
      · rw [if_pos c6] at H
        have c6b0 : decide (0 < x6_1) = true := decide_eq_true c6
        clear c6
        replace H := Option.bind_eq_some_iff.mp H
        obtain ⟨⟨t301, t302, t303⟩, A70, H⟩ := H
        replace H : ((spec_l1Cur_pick.f s0_0 t302 t303 (wrap64 (2 + t295))).bind fun bt304 => ((spec_l1Cur_pick.f s0_0 bt304.2.1 bt304.2.2 40).bind fun bt307 => ((spec_l1Cur_among.f s0_0 bt307.2.1 bt307.2.2 (([0, 1, 2, 3, 5, 9, bt307.1] : List Int))).bind fun bt313 => (if x5_1.length < 5864062014805 then (spec_l1Cur_network.l0 k1 (wrap64 (2 + t295)) (x5_1 ++ [(⟨t301, bt304.1, bt313.1⟩ : S99)]) (wrap64 (x6_1 - 1)) s0_0 bt313.2.1 bt313.2.2) else (none))))) = some (r1, r2, r3, r4) := H
        have A7 := Aside0.mk A70
        clear A70
        replace H := Option.bind_eq_some_iff.mp H
        obtain ⟨⟨t304, t305, t306⟩, A80, H⟩ := H
        replace H : ((spec_l1Cur_pick.f s0_0 t305 t306 40).bind fun bt307 => ((spec_l1Cur_among.f s0_0 bt307.2.1 bt307.2.2 (([0, 1, 2, 3, 5, 9, bt307.1] : List Int))).bind fun bt313 => (if x5_1.length < 5864062014805 then (spec_l1Cur_network.l0 k1 (wrap64 (2 + t295)) (x5_1 ++ [(⟨t301, t304, bt313.1⟩ : S99)]) (wrap64 (x6_1 - 1)) s0_0 bt313.2.1 bt313.2.2) else (none)))) = some (r1, r2, r3, r4) := H
        have A8 := Aside0.mk A80
        clear A80
        replace H := Option.bind_eq_some_iff.mp H
        obtain ⟨⟨t307, t308, t309⟩, A90, H⟩ := H
        replace H : ((spec_l1Cur_among.f s0_0 t308 t309 (([0, 1, 2, 3, 5, 9, t307] : List Int))).bind fun bt313 => (if x5_1.length < 5864062014805 then (spec_l1Cur_network.l0 k1 (wrap64 (2 + t295)) (x5_1 ++ [(⟨t301, t304, bt313.1⟩ : S99)]) (wrap64 (x6_1 - 1)) s0_0 bt313.2.1 bt313.2.2) else (none))) = some (r1, r2, r3, r4) := H
        have A9 := Aside0.mk A90
        clear A90
        obtain ⟨y310, hy310⟩ : ∃ y_ : List Int, y_ = (([0, 1, 2, 3, 5, 9, t307] : List Int)) := ⟨_, rfl⟩
        replace H : ((spec_l1Cur_among.f s0_0 t308 t309 y310).bind fun bt313 => (if x5_1.length < 5864062014805 then (spec_l1Cur_network.l0 k1 (wrap64 (2 + t295)) (x5_1 ++ [(⟨t301, t304, bt313.1⟩ : S99)]) (wrap64 (x6_1 - 1)) s0_0 bt313.2.1 bt313.2.2) else (none))) = some (r1, r2, r3, r4) := by first | (rw [hy310]; with_reducible exact H) | (have H2_ := (Option.bind_some _ _).symm.trans H; rw [hy310]; with_reducible exact H2_) | (have H2_ := (Option.bind_some _ _).symm.trans H; with_reducible exact H2_) | with_reducible exact H | (rw [hy310]; exact H) | exact H
        have Ny310 := Aside0.mk hy310
        clear hy310
        replace H := Option.bind_eq_some_iff.mp H
        obtain ⟨⟨t313, t314, t315⟩, A100, H⟩ := H
        replace H : (if x5_1.length < 5864062014805 then (spec_l1Cur_network.l0 k1 (wrap64 (2 + t295)) (x5_1 ++ [(⟨t301, t304, t313⟩ : S99)]) (wrap64 (x6_1 - 1)) s0_0 t314 t315) else (none)) = some (r1, r2, r3, r4) := H
        have A10 := Aside0.mk A100
        clear A100
        by_cases c11 : x5_1.length < 5864062014805
        · rw [if_pos c11] at H
          have LMc11 := Aside0.mk c11
          clear c11
          obtain ⟨y316, hy316⟩ : ∃ y_ : List (S99), y_ = (x5_1 ++ [(⟨t301, t304, t313⟩ : S99)]) := ⟨_, rfl⟩
          replace H : (spec_l1Cur_network.l0 k1 (wrap64 (2 + t295)) y316 (wrap64 (x6_1 - 1)) s0_0 t314 t315) = some (r1, r2, r3, r4) := by first | (rw [hy316]; with_reducible exact H) | (have H2_ := (Option.bind_some _ _).symm.trans H; rw [hy316]; with_reducible exact H2_) | (have H2_ := (Option.bind_some _ _).symm.trans H; with_reducible exact H2_) | with_reducible exact H | (rw [hy316]; exact H) | exact H
          have Ny316 := Aside0.mk hy316
          clear hy316
          have H' := Aside0.mk H
          clear H
          go_wp2_with (first | ((with_reducible refine gate_callee (f := 135) rfl ?_); refine goesL_ (some 21) rfl rfl Try.func135 (by kernel_rfl) rfl #[.pointer (some ⟨g, 0, none⟩), .int .i64 (wrap64 (2 + t295))] rfl (by (try simp only [List.map_toArray, List.map_cons, List.map_nil]); first | done | rfl | (simp only [List.length_drop, List.length_take]; rfl)) ?_; (with_reducible refine (spec_l1Cur_pick.calls g s0_0 x1001_1 x1002_1 (wrap64 (2 + t295)) t301 t302 t303 w0 _ ?side1 ?side2 A7.out).mono ?_); (case side1 => repeat (first | (with_reducible first | exact HI0.out | apply IsS146.alloc | apply IsS146.drewN | apply IsS146.drew | apply IsS146.set_1 | apply IsS146.set_2) | exact HI0.out)); (case side2 => repeat (first | (with_reducible first | exact HB.out | apply below_alloc | apply pw_below_drewN | apply below_drew1 | refine below_set ?_ (IsS146.ge HI0.out)) | exact HB.out)); rintro e w12 ⟨rfl, hi, hb, hk⟩; refine ⟨_, rfl, ?_⟩; have n0_ := Aside0.mk (Kd.R_mono (Kd.R_keep (IsS146.apart (show IsS146 w0 _ g s0_0 x1001_1 x1002_1 from by repeat (first | (with_reducible first | exact HI0.out | apply IsS146.alloc | apply IsS146.drewN | apply IsS146.drew | apply IsS146.set_1 | apply IsS146.set_2) | exact HI0.out)) (by (with_reducible repeat (first | apply Kd.R_alloc | apply Kd.R_drewN | apply Kd.R_drew)); exact HO_5.out) (by decide)) hk (fun _ h => h.2)) (fun _ h => h.1)); have n1_ := Aside0.mk (KeepBut.trans (by repeat (first | (with_reducible first | exact HK.out | apply KeepBut.set_ | apply keep_drewN | apply keep_drew | apply keep_alloc) | exact HK.out)) hk (.inl rfl)); have n2_ := Aside0.mk (hb); have n3_ := Aside0.mk (hi); clear HO_5; clear HK; clear HB; clear HI0; have HO_5 := n0_; have HK := n1_; have HB := n2_; have HI0 := n3_; clear n0_ n1_ n2_ n3_; (try clear hb); (try clear hb2); (try clear hk); (try clear hi)) | ((with_reducible refine gate_callee (f := 135) rfl ?_); refine goesL_ (some 24) rfl rfl Try.func135 (by kernel_rfl) rfl #[.pointer (some ⟨g, 0, none⟩), .int .i64 (wrap64 (2 + t295))] rfl (by (try simp only [List.map_toArray, List.map_cons, List.map_nil]); first | done | rfl | (simp only [List.length_drop, List.length_take]; rfl)) ?_; (with_reducible refine (spec_l1Cur_pick.calls g s0_0 t302 t303 (wrap64 (2 + t295)) t304 t305 t306 w0 _ ?side1 ?side2 A8.out).mono ?_); (case side1 => repeat (first | (with_reducible first | exact HI0.out | apply IsS146.alloc | apply IsS146.drewN | apply IsS146.drew | apply IsS146.set_1 | apply IsS146.set_2) | exact HI0.out)); (case side2 => repeat (first | (with_reducible first | exact HB.out | apply below_alloc | apply pw_below_drewN | apply below_drew1 | refine below_set ?_ (IsS146.ge HI0.out)) | exact HB.out)); rintro e w13 ⟨rfl, hi, hb, hk⟩; refine ⟨_, rfl, ?_⟩; have n0_ := Aside0.mk (Kd.R_mono (Kd.R_keep (IsS146.apart (show IsS146 w0 _ g s0_0 t302 t303 from by repeat (first | (with_reducible first | exact HI0.out | apply IsS146.alloc | apply IsS146.drewN | apply IsS146.drew | apply IsS146.set_1 | apply IsS146.set_2) | exact HI0.out)) (by (with_reducible repeat (first | apply Kd.R_alloc | apply Kd.R_drewN | apply Kd.R_drew)); exact HO_5.out) (by decide)) hk (fun _ h => h.2)) (fun _ h => h.1)); have n1_ := Aside0.mk (KeepBut.trans (by repeat (first | (with_reducible first | exact HK.out | apply KeepBut.set_ | apply keep_drewN | apply keep_drew | apply keep_alloc) | exact HK.out)) hk (.inl rfl)); have n2_ := Aside0.mk (hb); have n3_ := Aside0.mk (hi); clear HO_5; clear HK; clear HB; clear HI0; have HO_5 := n0_; have HK := n1_; have HB := n2_; have HI0 := n3_; clear n0_ n1_ n2_ n3_; (try clear hb); (try clear hb2); (try clear hk); (try clear hi)) | ((with_reducible refine gate_callee (f := 135) rfl ?_); refine goesL_ (some 27) rfl rfl Try.func135 (by kernel_rfl) rfl #[.pointer (some ⟨g, 0, none⟩), .int .i64 40] rfl (by (try simp only [List.map_toArray, List.map_cons, List.map_nil]); first | done | rfl | (simp only [List.length_drop, List.length_take]; rfl)) ?_; (with_reducible refine (spec_l1Cur_pick.calls g s0_0 t305 t306 40 t307 t308 t309 w0 _ ?side1 ?side2 A9.out).mono ?_); (case side1 => repeat (first | (with_reducible first | exact HI0.out | apply IsS146.alloc | apply IsS146.drewN | apply IsS146.drew | apply IsS146.set_1 | apply IsS146.set_2) | exact HI0.out)); (case side2 => repeat (first | (with_reducible first | exact HB.out | apply below_alloc | apply pw_below_drewN | apply below_drew1 | refine below_set ?_ (IsS146.ge HI0.out)) | exact HB.out)); rintro e w14 ⟨rfl, hi, hb, hk⟩; refine ⟨_, rfl, ?_⟩; have n0_ := Aside0.mk (Kd.R_mono (Kd.R_keep (IsS146.apart (show IsS146 w0 _ g s0_0 t305 t306 from by repeat (first | (with_reducible first | exact HI0.out | apply IsS146.alloc | apply IsS146.drewN | apply IsS146.drew | apply IsS146.set_1 | apply IsS146.set_2) | exact HI0.out)) (by (with_reducible repeat (first | apply Kd.R_alloc | apply Kd.R_drewN | apply Kd.R_drew)); exact HO_5.out) (by decide)) hk (fun _ h => h.2)) (fun _ h => h.1)); have n1_ := Aside0.mk (KeepBut.trans (by repeat (first | (with_reducible first | exact HK.out | apply KeepBut.set_ | apply keep_drewN | apply keep_drew | apply keep_alloc) | exact HK.out)) hk (.inl rfl)); have n2_ := Aside0.mk (hb); have n3_ := Aside0.mk (hi); clear HO_5; clear HK; clear HB; clear HI0; have HO_5 := n0_; have HK := n1_; have HB := n2_; have HI0 := n3_; clear n0_ n1_ n2_ n3_; (try clear hb); (try clear hb2); (try clear hk); (try clear hi)) | ((with_reducible refine gate_dst (N := 28) rfl ?_); refine Kd.R_lit (Kd.int .i64) _ 3 ?hg (N := 28) ?hd (xs := ([0, 1, 2, 3, 5, 9, t307] : List Int)) (inner := [.int .i64 0, .int .i64 1, .int .i64 2, .int .i64 3, .int .i64 5, .int .i64 9, .int .i64 t307]) (ok := fun _ => True) (okp := fun _ => True) ?hr ?hp (fun _ hk => hk) trivial (Below.refl _ _) (Nat.le_refl _) (by simp) ?_; (case hd => rfl); (case hg => rfl); (case hr => first | (go_simp; done) | (go_simp; rfl)); (case hp => exact (Reps.one (show Kd.M (Kd.int .i64) _ _ _ 0 [.int .i64 0] from rfl) (Reps.one (show Kd.M (Kd.int .i64) _ _ _ 1 [.int .i64 1] from rfl) (Reps.one (show Kd.M (Kd.int .i64) _ _ _ 2 [.int .i64 2] from rfl) (Reps.one (show Kd.M (Kd.int .i64) _ _ _ 3 [.int .i64 3] from rfl) (Reps.one (show Kd.M (Kd.int .i64) _ _ _ 5 [.int .i64 5] from rfl) (Reps.one (show Kd.M (Kd.int .i64) _ _ _ 9 [.int .i64 9] from rfl) (Reps.one (show Kd.M (Kd.int .i64) _ _ _ t307 [.int .i64 t307] from rfl) (Reps.none _ _))))))))); intro v311 w15 ho16 hb hg_ hnew_; clear hg_ hnew_; (first | rw [← Ny310.out] at ho16 | (simp only [Int.reduceToNat] at ho16; rw [← Ny310.out] at ho16)); have n0_ := Aside0.mk (Kd.R_below (by (with_reducible repeat (first | apply Kd.R_alloc | apply Kd.R_drewN | apply Kd.R_drew)); exact HO_5.out) hb); have n1_ := Aside0.mk (Kd.R_lower ho16 (keep_size (w := w) (g := g) (row := none) (by repeat (first | (with_reducible first | exact HK.out | apply KeepBut.set_ | apply keep_drewN | apply keep_drew | apply keep_alloc) | exact HK.out)))); have n2_ := Aside0.mk (IsS146.below (by repeat (first | (with_reducible first | exact HI0.out | apply IsS146.alloc | apply IsS146.drewN | apply IsS146.drew | apply IsS146.set_1 | apply IsS146.set_2) | exact HI0.out)) hb); have n3_ := Aside0.mk (KeepBut.trans (by repeat (first | (with_reducible first | exact HK.out | apply KeepBut.set_ | apply keep_drewN | apply keep_drew | apply keep_alloc) | exact HK.out)) (KeepBut.of_below hb g none) (.inl rfl)); have n4_ := Aside0.mk (below_step (by repeat (first | (with_reducible first | exact HB.out | apply below_alloc | apply pw_below_drewN | apply below_drew1 | refine below_set ?_ (IsS146.ge HI0.out)) | exact HB.out)) hb); clear HO_5; clear HI0; clear HK; clear HB; have HO_5 := n0_; have HO312 := n1_; have HI0 := n2_; have HK := n3_; have HB := n4_; clear n0_ n1_ n2_ n3_ n4_; clear hb ho16; obtain ⟨Ao17, co17, eo17⟩ := Kd.R_slice HO312.out; subst eo17) | ((with_reducible refine gate_callee (f := 128) rfl ?_); refine goesL_ (some 29) rfl rfl Try.func128 (by kernel_rfl) rfl #[.pointer (some ⟨g, 0, none⟩), .slice Ao17 y310.length co17] rfl (by (try simp only [List.map_toArray, List.map_cons, List.map_nil]); first | done | rfl | (simp only [List.length_drop, List.length_take]; rfl)) ?_; (with_reducible refine (spec_l1Cur_among.calls g s0_0 t308 t309 _ _ y310 t313 t314 t315 w0 _ ?side1 ?side2 ?side3 ?side4 ?side5 A10.out).mono ?_); (case side1 => repeat (first | (with_reducible first | exact HI0.out | apply IsS146.alloc | apply IsS146.drewN | apply IsS146.drew | apply IsS146.set_1 | apply IsS146.set_2) | exact HI0.out)); (case side2 => repeat (first | (with_reducible first | exact HB.out | apply below_alloc | apply pw_below_drewN | apply below_drew1 | refine below_set ?_ (IsS146.ge HI0.out)) | exact HB.out)); (case side3 => repeat (first | exact (Kd.R_reads' HO312.out).2.2 | (with_reducible refine Kd.C_alloc ?_ _) | (with_reducible refine Kd.C_drewN ?_ _) | (with_reducible refine Kd.C_drew ?_))); (case side4 => exact (Kd.R_reads' HO312.out).2.1); (case side5 => exact far_slice (IsS146.own_ne HI0.out HO312.out (by decide))); rintro e w18 ⟨rfl, hi, hb, hk⟩; refine ⟨_, rfl, ?_⟩; have n0_ := Aside0.mk (Kd.R_mono (Kd.R_keep (IsS146.apart (show IsS146 w0 _ g s0_0 t308 t309 from by repeat (first | (with_reducible first | exact HI0.out | apply IsS146.alloc | apply IsS146.drewN | apply IsS146.drew | apply IsS146.set_1 | apply IsS146.set_2) | exact HI0.out)) (by (with_reducible repeat (first | apply Kd.R_alloc | apply Kd.R_drewN | apply Kd.R_drew)); exact HO_5.out) (by decide)) hk (fun _ h => h.2)) (fun _ h => h.1)); have n1_ := Aside0.mk (Kd.R_mono (Kd.R_keep (IsS146.apart (show IsS146 w0 _ g s0_0 t308 t309 from by repeat (first | (with_reducible first | exact HI0.out | apply IsS146.alloc | apply IsS146.drewN | apply IsS146.drew | apply IsS146.set_1 | apply IsS146.set_2) | exact HI0.out)) (by (with_reducible repeat (first | apply Kd.R_alloc | apply Kd.R_drewN | apply Kd.R_drew)); exact HO312.out) (by decide)) hk (fun _ h => h.2)) (fun _ h => h.1)); have n2_ := Aside0.mk (KeepBut.trans (by repeat (first | (with_reducible first | exact HK.out | apply KeepBut.set_ | apply keep_drewN | apply keep_drew | apply keep_alloc) | exact HK.out)) hk (.inl rfl)); have n3_ := Aside0.mk (hb); have n4_ := Aside0.mk (hi); clear HO_5; clear HO312; clear HK; clear HB; clear HI0; have HO_5 := n0_; have HO312 := n1_; have HK := n2_; have HB := n3_; have HI0 := n4_; clear n0_ n1_ n2_ n3_ n4_; (try clear hb); (try clear hb2); (try clear hk); (try clear hi)) | ((with_reducible refine gate_builtin (b := .append) (xs := #[.tmp 18, .tmp 31]) rfl ?_); at_builtin; refine Kd.R_append k99 w.heap.size rfl (.tmp 18) (.tmp 31) 89 99 (.agg #[(.int .i64 0), (.int .i64 0), (.int .i64 0)]) 24 rfl Try.underlying89 info99 rfl (by decide) (by omega) u5 x5_1 (⟨t301, t304, t313⟩ : S99) [.int .i64 t301, .int .i64 t304, .int .i64 t313] (fun _ => True) (fun _ => False) rfl rfl ?aP (fun _ hk => hk.elim) ?aF ?aO (Below.refl _ _) ?aS ?aL ?_; (case aP => exact k99_mkM _ _ _ (⟨t301, t304, t313⟩ : S99)); (case aF => exact (fun _ _ => trivial)); (case aO => exact (by (with_reducible repeat (first | apply Kd.R_alloc | apply Kd.R_drewN | apply Kd.R_drew)); exact HO_5.out)); (case aS => exact (keep_size (w := w) (g := g) (row := none) (by repeat (first | (with_reducible first | exact HK.out | apply KeepBut.set_ | apply keep_drewN | apply keep_drew | apply keep_alloc) | exact HK.out)))); (case aL => have := LMc11.out; omega); intro v317 w19 ho hb hg hat; rw [← Ny316.out] at ho; have n0_ := Aside0.mk (IsS146.grown (by repeat (first | (with_reducible first | exact HI0.out | apply IsS146.alloc | apply IsS146.drewN | apply IsS146.drew | apply IsS146.set_1 | apply IsS146.set_2) | exact HI0.out)) hg (IsS146.own_ne HI0.out HO_5.out (by decide))); have n1_ := Aside0.mk (Kd.R_over' (by (with_reducible repeat (first | apply Kd.R_alloc | apply Kd.R_drewN | apply Kd.R_drew)); exact HO312.out) (Kd.R_typed (by (with_reducible repeat (first | apply Kd.R_alloc | apply Kd.R_drewN | apply Kd.R_drew)); exact HO_5.out)) (by decide) hg); have n2_ := Aside0.mk (below_weaken (by repeat (first | (with_reducible first | exact HB.out | apply below_alloc | apply pw_below_drewN | apply below_drew1 | refine below_set ?_ (IsS146.ge HI0.out)) | exact HB.out)) HL.out hb); have n3_ := Aside0.mk (KeepBut.trans (by repeat (first | (with_reducible first | exact HK.out | apply KeepBut.set_ | apply keep_drewN | apply keep_drew | apply keep_alloc) | exact HK.out)) (KeepBut.of_grown hg g) (Kd.R_base2 HO_5.out)); have n4_ := Aside0.mk (ho); clear HI0; clear HO312; clear HB; clear HK; clear HO_5; have HI0 := n0_; have HO312 := n1_; have HB := n2_; have HK := n3_; have HO318 := n4_; clear n0_ n1_ n2_ n3_ n4_; clear ho hb hg hat))
          go_roundg k1
          case measure => have := HK1.out; omega
          case rel => exact ⟨(y316), (wrap64 (x6_1 - 1)), (t314), (t315), (by first | rfl | (simp; done) | (simp [*]; done)), H', ⟨by have := HK1.out; omega⟩, ⟨by (with_reducible repeat (first | apply Kd.R_alloc | apply Kd.R_drewN | apply Kd.R_drew)); exact HO318.out⟩, ⟨by repeat (first | (with_reducible first | exact HI0.out | apply IsS146.alloc | apply IsS146.drewN | apply IsS146.drew | apply IsS146.set_1 | apply IsS146.set_2) | exact HI0.out)⟩, ⟨by repeat (first | (with_reducible first | exact HK.out | apply KeepBut.set_ | apply keep_drewN | apply keep_drew | apply keep_alloc) | exact HK.out)⟩, ⟨by repeat (first | (with_reducible first | exact HB.out | apply below_alloc | apply pw_below_drewN | apply below_drew1 | refine below_set ?_ (IsS146.ge HI0.out)) | exact HB.out)⟩⟩
        · rw [if_neg c11] at H
          exact absurd H (by simp)
      · rw [if_neg c6] at H
        have c6b0 : decide (0 < x6_1) = false := decide_eq_false c6
        clear c6
        replace H := Option.bind_eq_some_iff.mp H
        obtain ⟨⟨t319, t320, t321⟩, A200, H⟩ := H
        replace H : (if t319 = true then (spec_l1Cur_network.l1 k1 (wrap64 (2 + t295)) x5_1 1 s0_0 t320 t321) else (spec_l1Cur_network.j2 k1 (wrap64 (2 + t295)) x5_1 s0_0 t320 t321)) = some (r1, r2, r3, r4) := H
        have A20 := Aside0.mk A200
        clear A200
        have HC21 := Aside0.mk H
        clear H
        go_upto_if 34 with (first | ((with_reducible refine gate_callee (f := 141) rfl ?_); refine goesL_ (some 34) rfl rfl Try.func141 (by kernel_rfl) rfl #[.pointer (some ⟨g, 0, none⟩), .int .i64 2] rfl (by (try simp only [List.map_toArray, List.map_cons, List.map_nil]); first | done | rfl | (simp only [List.length_drop, List.length_take]; rfl)) ?_; (with_reducible refine (spec_l1Cur_one.calls g s0_0 x1001_1 x1002_1 2 t319 t320 t321 w0 _ ?side1 ?side2 A20.out).mono ?_); (case side1 => repeat (first | (with_reducible first | exact HI0.out | apply IsS146.alloc | apply IsS146.drewN | apply IsS146.drew | apply IsS146.set_1 | apply IsS146.set_2) | exact HI0.out)); (case side2 => repeat (first | (with_reducible first | exact HB.out | apply below_alloc | apply pw_below_drewN | apply below_drew1 | refine below_set ?_ (IsS146.ge HI0.out)) | exact HB.out)); rintro e w22 ⟨rfl, hi, hb, hk⟩; refine ⟨_, rfl, ?_⟩; have n0_ := Aside0.mk (Kd.R_mono (Kd.R_keep (IsS146.apart (show IsS146 w0 _ g s0_0 x1001_1 x1002_1 from by repeat (first | (with_reducible first | exact HI0.out | apply IsS146.alloc | apply IsS146.drewN | apply IsS146.drew | apply IsS146.set_1 | apply IsS146.set_2) | exact HI0.out)) (by (with_reducible repeat (first | apply Kd.R_alloc | apply Kd.R_drewN | apply Kd.R_drew)); exact HO_5.out) (by decide)) hk (fun _ h => h.2)) (fun _ h => h.1)); have n1_ := Aside0.mk (KeepBut.trans (by repeat (first | (with_reducible first | exact HK.out | apply KeepBut.set_ | apply keep_drewN | apply keep_drew | apply keep_alloc) | exact HK.out)) hk (.inl rfl)); have n2_ := Aside0.mk (hb); have n3_ := Aside0.mk (hi); clear HO_5; clear HK; clear HB; clear HI0; have HO_5 := n0_; have HK := n1_; have HB := n2_; have HI0 := n3_; clear n0_ n1_ n2_ n3_; (try clear hb); (try clear hb2); (try clear hk); (try clear hi)))
        (try simp only [Act.put, List.setIfInBounds_toArray, List.set_cons_zero, List.set_cons_succ])
        go_cut [5] (fun v5 wc => ∃ (kq : Nat) (x5_20 : List (S99)) (x1001_20 : Int) (x1002_20 : Int), Aside0 (spec_l1Cur_network.j2 kq (wrap64 (2 + t295)) x5_20 s0_0 x1001_20 x1002_20 = some (r1, r2, r3, r4)) ∧ Aside0 (kq ≤ k1) ∧ Aside0 (Kd.R k99 99 wc w.heap.size (fun _ => True) v5 x5_20) ∧ Aside0 (IsS146 w0 wc g s0_0 x1001_20 x1002_20) ∧ Aside0 (KeepBut w wc g none) ∧ Aside0 (Below w0.heap.size w0 wc))
        case first =>
          have H := HC21.out
          clear HC21
          by_cases c23 : t319 = true
          · subst c23
            have H1 : (spec_l1Cur_network.l1 k1 (wrap64 (2 + t295)) x5_1 1 s0_0 t320 t321) = some (r1, r2, r3, r4) := by rw [if_pos rfl] at H; exact H
            clear H
            have H := H1
            clear H1
            have H' := Aside0.mk H
            clear H
            go_wp2
            go_loopg [5, 7] k1 (fun kq v5 v7 w' => ∃ (x5_2 : List (S99)) (x7_2 : Int) (x1001_2 : Int) (x1002_2 : Int), v7 = .int .i64 x7_2 ∧ Aside0 (spec_l1Cur_network.l1 kq (wrap64 (2 + t295)) x5_2 x7_2 s0_0 x1001_2 x1002_2 = some (r1, r2, r3, r4)) ∧ Aside0 (kq ≤ k1) ∧ Aside0 (Kd.R k99 99 w' w.heap.size (fun _ => True) v5 x5_2) ∧ Aside0 (IsS146 w0 w' g s0_0 x1001_2 x1002_2) ∧ Aside0 (KeepBut w w' g none) ∧ Aside0 (Below w0.heap.size w0 w'))
            case atStart => exact ⟨(x5_1), (1), (t320), (t321), (by first | rfl | (simp; done) | (simp [*]; done)), H', ⟨Nat.le_refl _⟩, ⟨by (with_reducible repeat (first | apply Kd.R_alloc | apply Kd.R_drewN | apply Kd.R_drew)); exact HO_5.out⟩, ⟨by repeat (first | (with_reducible first | exact HI0.out | apply IsS146.alloc | apply IsS146.drewN | apply IsS146.drew | apply IsS146.set_1 | apply IsS146.set_2) | exact HI0.out)⟩, ⟨by repeat (first | (with_reducible first | exact HK.out | apply KeepBut.set_ | apply keep_drewN | apply keep_drew | apply keep_alloc) | exact HK.out)⟩, ⟨by repeat (first | (with_reducible first | exact HB.out | apply below_alloc | apply pw_below_drewN | apply below_drew1 | refine below_set ?_ (IsS146.ge HI0.out)) | exact HB.out)⟩⟩
            case round =>
              clear H'
              try clear c1
              try clear c2
              try clear p2
              try clear c6
              try clear c6b0
              try clear p6
              try clear c11
              try clear c12
              try clear c13
              try clear c14
              try clear c23
              try clear p2
              obtain ⟨x5_2, x7_2, x1001_2, x1002_2, rfl, HA, HK2, HO_5, HI0, HK, HB⟩ := hrel
              cases gk with
              | zero => exact absurd HA.out (by simp [spec_l1Cur_network.l1])
              | succ k2 =>
                have H := HA.out
                clear HA
                simp only [spec_l1Cur_network.l1] at H
                by_cases c24 : x7_2 < (wrap64 (2 + t295))
                · rw [if_pos c24] at H
                  have c24b0 : decide (x7_2 < (wrap64 (2 + t295))) = true := decide_eq_true c24
                  clear c24
                  (first | rw [c24b0] | (simp only [i64_w, i32_w]; rw [c24b0]) | skip)
                  replace H := Option.bind_eq_some_iff.mp H
                  obtain ⟨⟨t322, t323, t324⟩, A250, H⟩ := H
                  replace H : (if x5_2.length < 5864062014805 then (spec_l1Cur_network.l1 k2 (wrap64 (2 + t295)) (x5_2 ++ [(⟨wrap64 (x7_2 - 1), x7_2, wrap64 (1 + t322)⟩ : S99)]) (wrap64 (x7_2 + 1)) s0_0 t323 t324) else (none)) = some (r1, r2, r3, r4) := H
                  have A25 := Aside0.mk A250
                  clear A250
                  by_cases c26 : x5_2.length < 5864062014805
                  · rw [if_pos c26] at H
                    have LMc26 := Aside0.mk c26
                    clear c26
                    obtain ⟨y325, hy325⟩ : ∃ y_ : List (S99), y_ = (x5_2 ++ [(⟨wrap64 (x7_2 - 1), x7_2, wrap64 (1 + t322)⟩ : S99)]) := ⟨_, rfl⟩
                    replace H : (spec_l1Cur_network.l1 k2 (wrap64 (2 + t295)) y325 (wrap64 (x7_2 + 1)) s0_0 t323 t324) = some (r1, r2, r3, r4) := by first | (rw [hy325]; with_reducible exact H) | (have H2_ := (Option.bind_some _ _).symm.trans H; rw [hy325]; with_reducible exact H2_) | (have H2_ := (Option.bind_some _ _).symm.trans H; with_reducible exact H2_) | with_reducible exact H | (rw [hy325]; exact H) | exact H
                    have Ny325 := Aside0.mk hy325
                    clear hy325
                    have H' := Aside0.mk H
                    clear H
                    go_wp2_with (first | ((with_reducible refine gate_callee (f := 135) rfl ?_); refine goesL_ (some 45) rfl rfl Try.func135 (by kernel_rfl) rfl #[.pointer (some ⟨g, 0, none⟩), .int .i64 9] rfl (by (try simp only [List.map_toArray, List.map_cons, List.map_nil]); first | done | rfl | (simp only [List.length_drop, List.length_take]; rfl)) ?_; (with_reducible refine (spec_l1Cur_pick.calls g s0_0 x1001_2 x1002_2 9 t322 t323 t324 w0 _ ?side1 ?side2 A25.out).mono ?_); (case side1 => repeat (first | (with_reducible first | exact HI0.out | apply IsS146.alloc | apply IsS146.drewN | apply IsS146.drew | apply IsS146.set_1 | apply IsS146.set_2) | exact HI0.out)); (case side2 => repeat (first | (with_reducible first | exact HB.out | apply below_alloc | apply pw_below_drewN | apply below_drew1 | refine below_set ?_ (IsS146.ge HI0.out)) | exact HB.out)); rintro e w27 ⟨rfl, hi, hb, hk⟩; refine ⟨_, rfl, ?_⟩; have n0_ := Aside0.mk (Kd.R_mono (Kd.R_keep (IsS146.apart (show IsS146 w0 _ g s0_0 x1001_2 x1002_2 from by repeat (first | (with_reducible first | exact HI0.out | apply IsS146.alloc | apply IsS146.drewN | apply IsS146.drew | apply IsS146.set_1 | apply IsS146.set_2) | exact HI0.out)) (by (with_reducible repeat (first | apply Kd.R_alloc | apply Kd.R_drewN | apply Kd.R_drew)); exact HO_5.out) (by decide)) hk (fun _ h => h.2)) (fun _ h => h.1)); have n1_ := Aside0.mk (KeepBut.trans (by repeat (first | (with_reducible first | exact HK.out | apply KeepBut.set_ | apply keep_drewN | apply keep_drew | apply keep_alloc) | exact HK.out)) hk (.inl rfl)); have n2_ := Aside0.mk (hb); have n3_ := Aside0.mk (hi); clear HO_5; clear HK; clear HB; clear HI0; have HO_5 := n0_; have HK := n1_; have HB := n2_; have HI0 := n3_; clear n0_ n1_ n2_ n3_; (try clear hb); (try clear hb2); (try clear hk); (try clear hi)) | ((with_reducible refine gate_builtin (b := .append) (xs := #[.tmp 40, .tmp 48]) rfl ?_); at_builtin; refine Kd.R_append k99 w.heap.size rfl (.tmp 40) (.tmp 48) 89 99 (.agg #[(.int .i64 0), (.int .i64 0), (.int .i64 0)]) 24 rfl Try.underlying89 info99 rfl (by decide) (by omega) u5 x5_2 (⟨wrap64 (x7_2 - 1), x7_2, wrap64 (1 + t322)⟩ : S99) [.int .i64 (wrap64 (x7_2 - 1)), .int .i64 x7_2, .int .i64 (wrap64 (1 + t322))] (fun _ => True) (fun _ => False) rfl rfl ?aP (fun _ hk => hk.elim) ?aF ?aO (Below.refl _ _) ?aS ?aL ?_; (case aP => exact k99_mkM _ _ _ (⟨wrap64 (x7_2 - 1), x7_2, wrap64 (1 + t322)⟩ : S99)); (case aF => exact (fun _ _ => trivial)); (case aO => exact (by (with_reducible repeat (first | apply Kd.R_alloc | apply Kd.R_drewN | apply Kd.R_drew)); exact HO_5.out)); (case aS => exact (keep_size (w := w) (g := g) (row := none) (by repeat (first | (with_reducible first | exact HK.out | apply KeepBut.set_ | apply keep_drewN | apply keep_drew | apply keep_alloc) | exact HK.out)))); (case aL => have := LMc26.out; omega); intro v326 w28 ho hb hg hat; rw [← Ny325.out] at ho; have n0_ := Aside0.mk (IsS146.grown (by repeat (first | (with_reducible first | exact HI0.out | apply IsS146.alloc | apply IsS146.drewN | apply IsS146.drew | apply IsS146.set_1 | apply IsS146.set_2) | exact HI0.out)) hg (IsS146.own_ne HI0.out HO_5.out (by decide))); have n1_ := Aside0.mk (below_weaken (by repeat (first | (with_reducible first | exact HB.out | apply below_alloc | apply pw_below_drewN | apply below_drew1 | refine below_set ?_ (IsS146.ge HI0.out)) | exact HB.out)) HL.out hb); have n2_ := Aside0.mk (KeepBut.trans (by repeat (first | (with_reducible first | exact HK.out | apply KeepBut.set_ | apply keep_drewN | apply keep_drew | apply keep_alloc) | exact HK.out)) (KeepBut.of_grown hg g) (Kd.R_base2 HO_5.out)); have n3_ := Aside0.mk (ho); clear HI0; clear HB; clear HK; clear HO_5; have HI0 := n0_; have HB := n1_; have HK := n2_; have HO327 := n3_; clear n0_ n1_ n2_ n3_; clear ho hb hg hat))
                    go_roundg k2
                    case measure => have := HK1.out; have := HK2.out; omega
                    case rel => exact ⟨(y325), (wrap64 (x7_2 + 1)), (t323), (t324), (by first | rfl | (simp; done) | (simp [*]; done)), H', ⟨by have := HK1.out; have := HK2.out; omega⟩, ⟨by (with_reducible repeat (first | apply Kd.R_alloc | apply Kd.R_drewN | apply Kd.R_drew)); exact HO327.out⟩, ⟨by repeat (first | (with_reducible first | exact HI0.out | apply IsS146.alloc | apply IsS146.drewN | apply IsS146.drew | apply IsS146.set_1 | apply IsS146.set_2) | exact HI0.out)⟩, ⟨by repeat (first | (with_reducible first | exact HK.out | apply KeepBut.set_ | apply keep_drewN | apply keep_drew | apply keep_alloc) | exact HK.out)⟩, ⟨by repeat (first | (with_reducible first | exact HB.out | apply below_alloc | apply pw_below_drewN | apply below_drew1 | refine below_set ?_ (IsS146.ge HI0.out)) | exact HB.out)⟩⟩
                  · rw [if_neg c26] at H
                    exact absurd H (by simp)
                · rw [if_neg c24] at H
                  have c24b0 : decide (x7_2 < (wrap64 (2 + t295))) = false := decide_eq_false c24
                  clear c24
                  (first | rw [c24b0] | (simp only [i64_w, i32_w]; rw [c24b0]) | skip)
                  have H' := Aside0.mk H
                  clear H
                  go_wp2
                  go_meet
                  case rel => exact ⟨_, (x5_2), (x1001_2), (x1002_2), H', ⟨by have := HK1.out; have := HK2.out; first | omega | exact Nat.le_refl _⟩, ⟨by (with_reducible repeat (first | apply Kd.R_alloc | apply Kd.R_drewN | apply Kd.R_drew)); exact HO_5.out⟩, ⟨by repeat (first | (with_reducible first | exact HI0.out | apply IsS146.alloc | apply IsS146.drewN | apply IsS146.drew | apply IsS146.set_1 | apply IsS146.set_2) | exact HI0.out)⟩, ⟨by repeat (first | (with_reducible first | exact HK.out | apply KeepBut.set_ | apply keep_drewN | apply keep_drew | apply keep_alloc) | exact HK.out)⟩, ⟨by repeat (first | (with_reducible first | exact HB.out | apply below_alloc | apply pw_below_drewN | apply below_drew1 | refine below_set ?_ (IsS146.ge HI0.out)) | exact HB.out)⟩⟩
          · replace c23 := Bool.eq_false_iff.mpr c23
            subst c23
            have H1 : (spec_l1Cur_network.j2 k1 (wrap64 (2 + t295)) x5_1 s0_0 t320 t321) = some (r1, r2, r3, r4) := by rw [if_neg (show ¬ (false = true) by decide)] at H; exact H
            clear H
            have H := H1
            clear H1
            have H' := Aside0.mk H
            clear H
            go_wp2
            go_meet
            case rel => exact ⟨_, (x5_1), (t320), (t321), H', ⟨by have := HK1.out; first | omega | exact Nat.le_refl _⟩, ⟨by (with_reducible repeat (first | apply Kd.R_alloc | apply Kd.R_drewN | apply Kd.R_drew)); exact HO_5.out⟩, ⟨by repeat (first | (with_reducible first | exact HI0.out | apply IsS146.alloc | apply IsS146.drewN | apply IsS146.drew | apply IsS146.set_1 | apply IsS146.set_2) | exact HI0.out)⟩, ⟨by repeat (first | (with_reducible first | exact HK.out | apply KeepBut.set_ | apply keep_drewN | apply keep_drew | apply keep_alloc) | exact HK.out)⟩, ⟨by repeat (first | (with_reducible first | exact HB.out | apply below_alloc | apply pw_below_drewN | apply below_drew1 | refine below_set ?_ (IsS146.ge HI0.out)) | exact HB.out)⟩⟩
        case rest =>
          clear HC21
          try clear c1
          try clear c2
          try clear p2
          try clear c6
          try clear c6b0
          try clear p6
          try clear c11
          try clear c12
          try clear c13
          try clear c14
          try clear c23
          try clear c24
          try clear c24b0
          try clear c26
          try clear p2
          try clear p6
          obtain ⟨kq, x5_20, x1001_20, x1002_20, HA, HJ20, HO_5, HI0, HK, HB⟩ := hcut
          cases kq with
          | zero => exact absurd HA.out (by simp [spec_l1Cur_network.j2])
          | succ kj20 =>
            have H := HA.out
            clear HA
            simp only [spec_l1Cur_network.j2] at H
            replace H := Option.bind_eq_some_iff.mp H
            obtain ⟨⟨t328, t329, t330⟩, A290, H⟩ := H
            replace H : (if t328 = 0 then ((spec_l1Cur_among.f s0_0 t329 t330 (([0, 1, (-1), wrap64 ((wrap64 (2 + t295)) - 1)] : List Int))).bind fun bt334 => (some (bt334.1, x5_20, bt334.2.1, bt334.2.2))) else (if t328 = 1 then ((spec_l1Cur_among.f s0_0 t329 t330 (([(-1), (wrap64 (2 + t295)), 0] : List Int))).bind fun bt340 => ((spec_l1Cur_among.f s0_0 bt340.2.1 bt340.2.2 (([(-1), (wrap64 (2 + t295)), 0] : List Int))).bind fun bt346 => (if x5_20.length < 5864062014805 then (some ((wrap64 (2 + t295)), (x5_20 ++ [(⟨bt340.1, bt346.1, 1⟩ : S99)]), bt346.2.1, bt346.2.2)) else (none)))) else (if t328 = 2 then ((spec_l1Cur_among.f s0_0 t329 t330 (([(-1), 1000000000, 1000000001] : List Int))).bind fun bt355 => (if x5_20.length < 5864062014805 then (some ((wrap64 (2 + t295)), (x5_20 ++ [(⟨0, wrap64 ((wrap64 (2 + t295)) - 1), bt355.1⟩ : S99)]), bt355.2.1, bt355.2.2)) else (none))) else (if t328 = 3 then ((spec_l1Cur_pick.f s0_0 t329 t330 2).bind fun bt361 => (if x5_20.length < 5864062014805 then (some (wrap64 (130 + bt361.1), (x5_20 ++ [(⟨0, wrap64 ((wrap64 (130 + bt361.1)) - 1), 3⟩ : S99)]), bt361.2.1, bt361.2.2)) else (none))) else (if t328 = 4 then ((spec_l1Cur_pick.f s0_0 t329 t330 2).bind fun bt367 => (spec_l1Cur_network.l2 kj20 (wrap64 (2 + t295)) x5_20 (wrap64 (2000 + bt367.1)) s0_0 bt367.2.1 bt367.2.2)) else (some ((wrap64 (2 + t295)), x5_20, t329, t330))))))) = some (r1, r2, r3, r4) := H
            have A29 := Aside0.mk A290
            clear A290
            by_cases c30 : t328 = 0
            · rw [if_pos c30] at H
              have c30b0 : (t328 == 0) = true := beq_iff_eq.mpr c30
              have c30b1 : (t328 != 0) = false := bne_eq_false_iff_eq.mpr c30
              clear c30
              obtain ⟨y331, hy331⟩ : ∃ y_ : List Int, y_ = (([0, 1, (-1), wrap64 ((wrap64 (2 + t295)) - 1)] : List Int)) := ⟨_, rfl⟩
              replace H : ((spec_l1Cur_among.f s0_0 t329 t330 y331).bind fun bt334 => (some (bt334.1, x5_20, bt334.2.1, bt334.2.2))) = some (r1, r2, r3, r4) := by first | (rw [hy331]; with_reducible exact H) | (have H2_ := (Option.bind_some _ _).symm.trans H; rw [hy331]; with_reducible exact H2_) | (have H2_ := (Option.bind_some _ _).symm.trans H; with_reducible exact H2_) | with_reducible exact H | (rw [hy331]; exact H) | exact H
              have Ny331 := Aside0.mk hy331
              clear hy331
              replace H := Option.bind_eq_some_iff.mp H
              obtain ⟨⟨t334, t335, t336⟩, A310, H⟩ := H
              replace H : (some (t334, x5_20, t335, t336)) = some (r1, r2, r3, r4) := H
              have A31 := Aside0.mk A310
              clear A310
              simp only [Option.some.injEq, Prod.mk.injEq] at H
              obtain ⟨rfl, rfl, rfl, rfl⟩ := H
              go_wp2_with (first | ((with_reducible refine gate_callee (f := 135) rfl ?_); refine goesL_ (some 51) rfl rfl Try.func135 (by kernel_rfl) rfl #[.pointer (some ⟨g, 0, none⟩), .int .i64 30] rfl (by (try simp only [List.map_toArray, List.map_cons, List.map_nil]); first | done | rfl | (simp only [List.length_drop, List.length_take]; rfl)) ?_; (with_reducible refine (spec_l1Cur_pick.calls g s0_0 x1001_20 x1002_20 30 t328 t329 t330 w0 _ ?side1 ?side2 A29.out).mono ?_); (case side1 => repeat (first | (with_reducible first | exact HI0.out | apply IsS146.alloc | apply IsS146.drewN | apply IsS146.drew | apply IsS146.set_1 | apply IsS146.set_2) | exact HI0.out)); (case side2 => repeat (first | (with_reducible first | exact HB.out | apply below_alloc | apply pw_below_drewN | apply below_drew1 | refine below_set ?_ (IsS146.ge HI0.out)) | exact HB.out)); rintro e w32 ⟨rfl, hi, hb, hk⟩; refine ⟨_, rfl, ?_⟩; have n0_ := Aside0.mk (Kd.R_mono (Kd.R_keep (IsS146.apart (show IsS146 w0 _ g s0_0 x1001_20 x1002_20 from by repeat (first | (with_reducible first | exact HI0.out | apply IsS146.alloc | apply IsS146.drewN | apply IsS146.drew | apply IsS146.set_1 | apply IsS146.set_2) | exact HI0.out)) (by (with_reducible repeat (first | apply Kd.R_alloc | apply Kd.R_drewN | apply Kd.R_drew)); exact HO_5.out) (by decide)) hk (fun _ h => h.2)) (fun _ h => h.1)); have n1_ := Aside0.mk (KeepBut.trans (by repeat (first | (with_reducible first | exact HK.out | apply KeepBut.set_ | apply keep_drewN | apply keep_drew | apply keep_alloc) | exact HK.out)) hk (.inl rfl)); have n2_ := Aside0.mk (hb); have n3_ := Aside0.mk (hi); clear HO_5; clear HK; clear HB; clear HI0; have HO_5 := n0_; have HK := n1_; have HB := n2_; have HI0 := n3_; clear n0_ n1_ n2_ n3_; (try clear hb); (try clear hb2); (try clear hk); (try clear hi)) | ((with_reducible refine gate_dst (N := 57) rfl ?_); refine Kd.R_lit (Kd.int .i64) _ 3 ?hg (N := 57) ?hd (xs := ([0, 1, (-1), wrap64 ((wrap64 (2 + t295)) - 1)] : List Int)) (inner := [.int .i64 0, .int .i64 1, .int .i64 (-1), .int .i64 (wrap64 ((wrap64 (2 + t295)) - 1))]) (ok := fun _ => True) (okp := fun _ => True) ?hr ?hp (fun _ hk => hk) trivial (Below.refl _ _) (Nat.le_refl _) (by simp) ?_; (case hd => rfl); (case hg => rfl); (case hr => first | (go_simp; done) | (go_simp; rfl)); (case hp => exact (Reps.one (show Kd.M (Kd.int .i64) _ _ _ 0 [.int .i64 0] from rfl) (Reps.one (show Kd.M (Kd.int .i64) _ _ _ 1 [.int .i64 1] from rfl) (Reps.one (show Kd.M (Kd.int .i64) _ _ _ (-1) [.int .i64 (-1)] from rfl) (Reps.one (show Kd.M (Kd.int .i64) _ _ _ (wrap64 ((wrap64 (2 + t295)) - 1)) [.int .i64 (wrap64 ((wrap64 (2 + t295)) - 1))] from rfl) (Reps.none _ _)))))); intro v332 w33 ho34 hb hg_ hnew_; clear hg_ hnew_; (first | rw [← Ny331.out] at ho34 | (simp only [Int.reduceToNat] at ho34; rw [← Ny331.out] at ho34)); have n0_ := Aside0.mk (Kd.R_below (by (with_reducible repeat (first | apply Kd.R_alloc | apply Kd.R_drewN | apply Kd.R_drew)); exact HO_5.out) hb); have n1_ := Aside0.mk (Kd.R_lower ho34 (keep_size (w := w) (g := g) (row := none) (by repeat (first | (with_reducible first | exact HK.out | apply KeepBut.set_ | apply keep_drewN | apply keep_drew | apply keep_alloc) | exact HK.out)))); have n2_ := Aside0.mk (IsS146.below (by repeat (first | (with_reducible first | exact HI0.out | apply IsS146.alloc | apply IsS146.drewN | apply IsS146.drew | apply IsS146.set_1 | apply IsS146.set_2) | exact HI0.out)) hb); have n3_ := Aside0.mk (KeepBut.trans (by repeat (first | (with_reducible first | exact HK.out | apply KeepBut.set_ | apply keep_drewN | apply keep_drew | apply keep_alloc) | exact HK.out)) (KeepBut.of_below hb g none) (.inl rfl)); have n4_ := Aside0.mk (below_step (by repeat (first | (with_reducible first | exact HB.out | apply below_alloc | apply pw_below_drewN | apply below_drew1 | refine below_set ?_ (IsS146.ge HI0.out)) | exact HB.out)) hb); clear HO_5; clear HI0; clear HK; clear HB; have HO_5 := n0_; have HO333 := n1_; have HI0 := n2_; have HK := n3_; have HB := n4_; clear n0_ n1_ n2_ n3_ n4_; clear hb ho34; obtain ⟨Ao35, co35, eo35⟩ := Kd.R_slice HO333.out; subst eo35) | ((with_reducible refine gate_callee (f := 128) rfl ?_); refine goesL_ (some 58) rfl rfl Try.func128 (by kernel_rfl) rfl #[.pointer (some ⟨g, 0, none⟩), .slice Ao35 y331.length co35] rfl (by (try simp only [List.map_toArray, List.map_cons, List.map_nil]); first | done | rfl | (simp only [List.length_drop, List.length_take]; rfl)) ?_; (with_reducible refine (spec_l1Cur_among.calls g s0_0 t329 t330 _ _ y331 t334 t335 t336 w0 _ ?side1 ?side2 ?side3 ?side4 ?side5 A31.out).mono ?_); (case side1 => repeat (first | (with_reducible first | exact HI0.out | apply IsS146.alloc | apply IsS146.drewN | apply IsS146.drew | apply IsS146.set_1 | apply IsS146.set_2) | exact HI0.out)); (case side2 => repeat (first | (with_reducible first | exact HB.out | apply below_alloc | apply pw_below_drewN | apply below_drew1 | refine below_set ?_ (IsS146.ge HI0.out)) | exact HB.out)); (case side3 => repeat (first | exact (Kd.R_reads' HO333.out).2.2 | (with_reducible refine Kd.C_alloc ?_ _) | (with_reducible refine Kd.C_drewN ?_ _) | (with_reducible refine Kd.C_drew ?_))); (case side4 => exact (Kd.R_reads' HO333.out).2.1); (case side5 => exact far_slice (IsS146.own_ne HI0.out HO333.out (by decide))); rintro e w36 ⟨rfl, hi, hb, hk⟩; refine ⟨_, rfl, ?_⟩; have n0_ := Aside0.mk (Kd.R_mono (Kd.R_keep (IsS146.apart (show IsS146 w0 _ g s0_0 t329 t330 from by repeat (first | (with_reducible first | exact HI0.out | apply IsS146.alloc | apply IsS146.drewN | apply IsS146.drew | apply IsS146.set_1 | apply IsS146.set_2) | exact HI0.out)) (by (with_reducible repeat (first | apply Kd.R_alloc | apply Kd.R_drewN | apply Kd.R_drew)); exact HO_5.out) (by decide)) hk (fun _ h => h.2)) (fun _ h => h.1)); have n1_ := Aside0.mk (Kd.R_mono (Kd.R_keep (IsS146.apart (show IsS146 w0 _ g s0_0 t329 t330 from by repeat (first | (with_reducible first | exact HI0.out | apply IsS146.alloc | apply IsS146.drewN | apply IsS146.drew | apply IsS146.set_1 | apply IsS146.set_2) | exact HI0.out)) (by (with_reducible repeat (first | apply Kd.R_alloc | apply Kd.R_drewN | apply Kd.R_drew)); exact HO333.out) (by decide)) hk (fun _ h => h.2)) (fun _ h => h.1)); have n2_ := Aside0.mk (KeepBut.trans (by repeat (first | (with_reducible first | exact HK.out | apply KeepBut.set_ | apply keep_drewN | apply keep_drew | apply keep_alloc) | exact HK.out)) hk (.inl rfl)); have n3_ := Aside0.mk (hb); have n4_ := Aside0.mk (hi); clear HO_5; clear HO333; clear HK; clear HB; clear HI0; have HO_5 := n0_; have HO333 := n1_; have HK := n2_; have HB := n3_; have HI0 := n4_; clear n0_ n1_ n2_ n3_ n4_; (try clear hb); (try clear hb2); (try clear hk); (try clear hi)))
              go_ret2
              exact ⟨_, by first | rfl | (simp [errW_none, errW_some] <;> rfl) | (simp [*, errW_none, errW_some] <;> rfl), by (with_reducible repeat (first | apply Kd.R_alloc | apply Kd.R_drewN | apply Kd.R_drew)); exact HO_5.out, by repeat (first | (with_reducible first | exact HI0.out | apply IsS146.alloc | apply IsS146.drewN | apply IsS146.drew | apply IsS146.set_1 | apply IsS146.set_2) | exact HI0.out), by repeat (first | (with_reducible first | exact HB.out | apply below_alloc | apply pw_below_drewN | apply below_drew1 | refine below_set ?_ (IsS146.ge HI0.out)) | exact HB.out), by repeat (first | (with_reducible first | exact HK.out | apply KeepBut.set_ | apply keep_drewN | apply keep_drew | apply keep_alloc) | exact HK.out)⟩
            · rw [if_neg c30] at H
              have c30b0 : (t328 == 0) = false := beq_eq_false_iff_ne.mpr c30
              have c30b1 : (t328 != 0) = true := bne_iff_ne.mpr c30
              by_cases c37 : t328 = 1
              · rw [if_pos c37] at H
                have c37b0 : (t328 == 1) = true := beq_iff_eq.mpr c37
                have c37b1 : (t328 != 1) = false := bne_eq_false_iff_eq.mpr c37
                clear c37
                obtain ⟨y337, hy337⟩ : ∃ y_ : List Int, y_ = (([(-1), (wrap64 (2 + t295)), 0] : List Int)) := ⟨_, rfl⟩
                replace H : ((spec_l1Cur_among.f s0_0 t329 t330 y337).bind fun bt340 => ((spec_l1Cur_among.f s0_0 bt340.2.1 bt340.2.2 (([(-1), (wrap64 (2 + t295)), 0] : List Int))).bind fun bt346 => (if x5_20.length < 5864062014805 then (some ((wrap64 (2 + t295)), (x5_20 ++ [(⟨bt340.1, bt346.1, 1⟩ : S99)]), bt346.2.1, bt346.2.2)) else (none)))) = some (r1, r2, r3, r4) := by first | (rw [hy337]; with_reducible exact H) | (have H2_ := (Option.bind_some _ _).symm.trans H; rw [hy337]; with_reducible exact H2_) | (have H2_ := (Option.bind_some _ _).symm.trans H; with_reducible exact H2_) | with_reducible exact H | (rw [hy337]; exact H) | exact H
                have Ny337 := Aside0.mk hy337
                clear hy337
                replace H := Option.bind_eq_some_iff.mp H
                obtain ⟨⟨t340, t341, t342⟩, A380, H⟩ := H
                replace H : ((spec_l1Cur_among.f s0_0 t341 t342 (([(-1), (wrap64 (2 + t295)), 0] : List Int))).bind fun bt346 => (if x5_20.length < 5864062014805 then (some ((wrap64 (2 + t295)), (x5_20 ++ [(⟨t340, bt346.1, 1⟩ : S99)]), bt346.2.1, bt346.2.2)) else (none))) = some (r1, r2, r3, r4) := H
                have A38 := Aside0.mk A380
                clear A380
                obtain ⟨y343, hy343⟩ : ∃ y_ : List Int, y_ = (([(-1), (wrap64 (2 + t295)), 0] : List Int)) := ⟨_, rfl⟩
                replace H : ((spec_l1Cur_among.f s0_0 t341 t342 y343).bind fun bt346 => (if x5_20.length < 5864062014805 then (some ((wrap64 (2 + t295)), (x5_20 ++ [(⟨t340, bt346.1, 1⟩ : S99)]), bt346.2.1, bt346.2.2)) else (none))) = some (r1, r2, r3, r4) := by first | (rw [hy343]; with_reducible exact H) | (have H2_ := (Option.bind_some _ _).symm.trans H; rw [hy343]; with_reducible exact H2_) | (have H2_ := (Option.bind_some _ _).symm.trans H; with_reducible exact H2_) | with_reducible exact H | (rw [hy343]; exact H) | exact H
                have Ny343 := Aside0.mk hy343
                clear hy343
                replace H := Option.bind_eq_some_iff.mp H
                obtain ⟨⟨t346, t347, t348⟩, A390, H⟩ := H
                replace H : (if x5_20.length < 5864062014805 then (some ((wrap64 (2 + t295)), (x5_20 ++ [(⟨t340, t346, 1⟩ : S99)]), t347, t348)) else (none)) = some (r1, r2, r3, r4) := H
                have A39 := Aside0.mk A390
                clear A390
                by_cases c40 : x5_20.length < 5864062014805
                · rw [if_pos c40] at H
                  have LMc40 := Aside0.mk c40
                  clear c40
                  obtain ⟨y349, hy349⟩ : ∃ y_ : List (S99), y_ = (x5_20 ++ [(⟨t340, t346, 1⟩ : S99)]) := ⟨_, rfl⟩
                  replace H : (some ((wrap64 (2 + t295)), y349, t347, t348)) = some (r1, r2, r3, r4) := by first | (rw [hy349]; with_reducible exact H) | (have H2_ := (Option.bind_some _ _).symm.trans H; rw [hy349]; with_reducible exact H2_) | (have H2_ := (Option.bind_some _ _).symm.trans H; with_reducible exact H2_) | with_reducible exact H | (rw [hy349]; exact H) | exact H
                  have Ny349 := Aside0.mk hy349
                  clear hy349
                  simp only [Option.some.injEq, Prod.mk.injEq] at H
                  obtain ⟨rfl, rfl, rfl, rfl⟩ := H
                  go_wp2_with (first | ((with_reducible refine gate_callee (f := 135) rfl ?_); refine goesL_ (some 51) rfl rfl Try.func135 (by kernel_rfl) rfl #[.pointer (some ⟨g, 0, none⟩), .int .i64 30] rfl (by (try simp only [List.map_toArray, List.map_cons, List.map_nil]); first | done | rfl | (simp only [List.length_drop, List.length_take]; rfl)) ?_; (with_reducible refine (spec_l1Cur_pick.calls g s0_0 x1001_20 x1002_20 30 t328 t329 t330 w0 _ ?side1 ?side2 A29.out).mono ?_); (case side1 => repeat (first | (with_reducible first | exact HI0.out | apply IsS146.alloc | apply IsS146.drewN | apply IsS146.drew | apply IsS146.set_1 | apply IsS146.set_2) | exact HI0.out)); (case side2 => repeat (first | (with_reducible first | exact HB.out | apply below_alloc | apply pw_below_drewN | apply below_drew1 | refine below_set ?_ (IsS146.ge HI0.out)) | exact HB.out)); rintro e w41 ⟨rfl, hi, hb, hk⟩; refine ⟨_, rfl, ?_⟩; have n0_ := Aside0.mk (Kd.R_mono (Kd.R_keep (IsS146.apart (show IsS146 w0 _ g s0_0 x1001_20 x1002_20 from by repeat (first | (with_reducible first | exact HI0.out | apply IsS146.alloc | apply IsS146.drewN | apply IsS146.drew | apply IsS146.set_1 | apply IsS146.set_2) | exact HI0.out)) (by (with_reducible repeat (first | apply Kd.R_alloc | apply Kd.R_drewN | apply Kd.R_drew)); exact HO_5.out) (by decide)) hk (fun _ h => h.2)) (fun _ h => h.1)); have n1_ := Aside0.mk (KeepBut.trans (by repeat (first | (with_reducible first | exact HK.out | apply KeepBut.set_ | apply keep_drewN | apply keep_drew | apply keep_alloc) | exact HK.out)) hk (.inl rfl)); have n2_ := Aside0.mk (hb); have n3_ := Aside0.mk (hi); clear HO_5; clear HK; clear HB; clear HI0; have HO_5 := n0_; have HK := n1_; have HB := n2_; have HI0 := n3_; clear n0_ n1_ n2_ n3_; (try clear hb); (try clear hb2); (try clear hk); (try clear hi)) | ((with_reducible refine gate_dst (N := 64) rfl ?_); refine Kd.R_lit (Kd.int .i64) _ 3 ?hg (N := 64) ?hd (xs := ([(-1), (wrap64 (2 + t295)), 0] : List Int)) (inner := [.int .i64 (-1), .int .i64 (wrap64 (2 + t295)), .int .i64 0]) (ok := fun _ => True) (okp := fun _ => True) ?hr ?hp (fun _ hk => hk) trivial (Below.refl _ _) (Nat.le_refl _) (by simp) ?_; (case hd => rfl); (case hg => rfl); (case hr => first | (go_simp; done) | (go_simp; rfl)); (case hp => exact (Reps.one (show Kd.M (Kd.int .i64) _ _ _ (-1) [.int .i64 (-1)] from rfl) (Reps.one (show Kd.M (Kd.int .i64) _ _ _ (wrap64 (2 + t295)) [.int .i64 (wrap64 (2 + t295))] from rfl) (Reps.one (show Kd.M (Kd.int .i64) _ _ _ 0 [.int .i64 0] from rfl) (Reps.none _ _))))); intro v338 w42 ho43 hb hg_ hnew_; clear hg_ hnew_; (first | rw [← Ny337.out] at ho43 | (simp only [Int.reduceToNat] at ho43; rw [← Ny337.out] at ho43)); have n0_ := Aside0.mk (Kd.R_below (by (with_reducible repeat (first | apply Kd.R_alloc | apply Kd.R_drewN | apply Kd.R_drew)); exact HO_5.out) hb); have n1_ := Aside0.mk (Kd.R_lower ho43 (keep_size (w := w) (g := g) (row := none) (by repeat (first | (with_reducible first | exact HK.out | apply KeepBut.set_ | apply keep_drewN | apply keep_drew | apply keep_alloc) | exact HK.out)))); have n2_ := Aside0.mk (IsS146.below (by repeat (first | (with_reducible first | exact HI0.out | apply IsS146.alloc | apply IsS146.drewN | apply IsS146.drew | apply IsS146.set_1 | apply IsS146.set_2) | exact HI0.out)) hb); have n3_ := Aside0.mk (KeepBut.trans (by repeat (first | (with_reducible first | exact HK.out | apply KeepBut.set_ | apply keep_drewN | apply keep_drew | apply keep_alloc) | exact HK.out)) (KeepBut.of_below hb g none) (.inl rfl)); have n4_ := Aside0.mk (below_step (by repeat (first | (with_reducible first | exact HB.out | apply below_alloc | apply pw_below_drewN | apply below_drew1 | refine below_set ?_ (IsS146.ge HI0.out)) | exact HB.out)) hb); clear HO_5; clear HI0; clear HK; clear HB; have HO_5 := n0_; have HO339 := n1_; have HI0 := n2_; have HK := n3_; have HB := n4_; clear n0_ n1_ n2_ n3_ n4_; clear hb ho43; obtain ⟨Ao44, co44, eo44⟩ := Kd.R_slice HO339.out; subst eo44) | ((with_reducible refine gate_callee (f := 128) rfl ?_); refine goesL_ (some 65) rfl rfl Try.func128 (by kernel_rfl) rfl #[.pointer (some ⟨g, 0, none⟩), .slice Ao44 y337.length co44] rfl (by (try simp only [List.map_toArray, List.map_cons, List.map_nil]); first | done | rfl | (simp only [List.length_drop, List.length_take]; rfl)) ?_; (with_reducible refine (spec_l1Cur_among.calls g s0_0 t329 t330 _ _ y337 t340 t341 t342 w0 _ ?side1 ?side2 ?side3 ?side4 ?side5 A38.out).mono ?_); (case side1 => repeat (first | (with_reducible first | exact HI0.out | apply IsS146.alloc | apply IsS146.drewN | apply IsS146.drew | apply IsS146.set_1 | apply IsS146.set_2) | exact HI0.out)); (case side2 => repeat (first | (with_reducible first | exact HB.out | apply below_alloc | apply pw_below_drewN | apply below_drew1 | refine below_set ?_ (IsS146.ge HI0.out)) | exact HB.out)); (case side3 => repeat (first | exact (Kd.R_reads' HO339.out).2.2 | (with_reducible refine Kd.C_alloc ?_ _) | (with_reducible refine Kd.C_drewN ?_ _) | (with_reducible refine Kd.C_drew ?_))); (case side4 => exact (Kd.R_reads' HO339.out).2.1); (case side5 => exact far_slice (IsS146.own_ne HI0.out HO339.out (by decide))); rintro e w45 ⟨rfl, hi, hb, hk⟩; refine ⟨_, rfl, ?_⟩; have n0_ := Aside0.mk (Kd.R_mono (Kd.R_keep (IsS146.apart (show IsS146 w0 _ g s0_0 t329 t330 from by repeat (first | (with_reducible first | exact HI0.out | apply IsS146.alloc | apply IsS146.drewN | apply IsS146.drew | apply IsS146.set_1 | apply IsS146.set_2) | exact HI0.out)) (by (with_reducible repeat (first | apply Kd.R_alloc | apply Kd.R_drewN | apply Kd.R_drew)); exact HO_5.out) (by decide)) hk (fun _ h => h.2)) (fun _ h => h.1)); have n1_ := Aside0.mk (Kd.R_mono (Kd.R_keep (IsS146.apart (show IsS146 w0 _ g s0_0 t329 t330 from by repeat (first | (with_reducible first | exact HI0.out | apply IsS146.alloc | apply IsS146.drewN | apply IsS146.drew | apply IsS146.set_1 | apply IsS146.set_2) | exact HI0.out)) (by (with_reducible repeat (first | apply Kd.R_alloc | apply Kd.R_drewN | apply Kd.R_drew)); exact HO339.out) (by decide)) hk (fun _ h => h.2)) (fun _ h => h.1)); have n2_ := Aside0.mk (KeepBut.trans (by repeat (first | (with_reducible first | exact HK.out | apply KeepBut.set_ | apply keep_drewN | apply keep_drew | apply keep_alloc) | exact HK.out)) hk (.inl rfl)); have n3_ := Aside0.mk (hb); have n4_ := Aside0.mk (hi); clear HO_5; clear HO339; clear HK; clear HB; clear HI0; have HO_5 := n0_; have HO339 := n1_; have HK := n2_; have HB := n3_; have HI0 := n4_; clear n0_ n1_ n2_ n3_ n4_; (try clear hb); (try clear hb2); (try clear hk); (try clear hi)) | ((with_reducible refine gate_dst (N := 68) rfl ?_); refine Kd.R_lit (Kd.int .i64) _ 3 ?hg (N := 68) ?hd (xs := ([(-1), (wrap64 (2 + t295)), 0] : List Int)) (inner := [.int .i64 (-1), .int .i64 (wrap64 (2 + t295)), .int .i64 0]) (ok := fun _ => True) (okp := fun _ => True) ?hr ?hp (fun _ hk => hk) trivial (Below.refl _ _) (Nat.le_refl _) (by simp) ?_; (case hd => rfl); (case hg => rfl); (case hr => first | (go_simp; done) | (go_simp; rfl)); (case hp => exact (Reps.one (show Kd.M (Kd.int .i64) _ _ _ (-1) [.int .i64 (-1)] from rfl) (Reps.one (show Kd.M (Kd.int .i64) _ _ _ (wrap64 (2 + t295)) [.int .i64 (wrap64 (2 + t295))] from rfl) (Reps.one (show Kd.M (Kd.int .i64) _ _ _ 0 [.int .i64 0] from rfl) (Reps.none _ _))))); intro v344 w46 ho47 hb hg_ hnew_; clear hg_ hnew_; (first | rw [← Ny343.out] at ho47 | (simp only [Int.reduceToNat] at ho47; rw [← Ny343.out] at ho47)); have n0_ := Aside0.mk (Kd.R_below (by (with_reducible repeat (first | apply Kd.R_alloc | apply Kd.R_drewN | apply Kd.R_drew)); exact HO_5.out) hb); have n1_ := Aside0.mk (Kd.R_elder' (by (with_reducible repeat (first | apply Kd.R_alloc | apply Kd.R_drewN | apply Kd.R_drew)); exact HO339.out) (Kd.R_base ho47) hb); have n2_ := Aside0.mk (Kd.R_lower (Kd.R_new' ho47 (Kd.R_lt (by (with_reducible repeat (first | apply Kd.R_alloc | apply Kd.R_drewN | apply Kd.R_drew)); exact HO339.out))) (keep_size (w := w) (g := g) (row := none) (by repeat (first | (with_reducible first | exact HK.out | apply KeepBut.set_ | apply keep_drewN | apply keep_drew | apply keep_alloc) | exact HK.out)))); have n3_ := Aside0.mk (IsS146.below (by repeat (first | (with_reducible first | exact HI0.out | apply IsS146.alloc | apply IsS146.drewN | apply IsS146.drew | apply IsS146.set_1 | apply IsS146.set_2) | exact HI0.out)) hb); have n4_ := Aside0.mk (KeepBut.trans (by repeat (first | (with_reducible first | exact HK.out | apply KeepBut.set_ | apply keep_drewN | apply keep_drew | apply keep_alloc) | exact HK.out)) (KeepBut.of_below hb g none) (.inl rfl)); have n5_ := Aside0.mk (below_step (by repeat (first | (with_reducible first | exact HB.out | apply below_alloc | apply pw_below_drewN | apply below_drew1 | refine below_set ?_ (IsS146.ge HI0.out)) | exact HB.out)) hb); clear HO_5; clear HO339; clear HI0; clear HK; clear HB; have HO_5 := n0_; have HO339 := n1_; have HO345 := n2_; have HI0 := n3_; have HK := n4_; have HB := n5_; clear n0_ n1_ n2_ n3_ n4_ n5_; clear hb ho47; obtain ⟨Ao48, co48, eo48⟩ := Kd.R_slice HO345.out; subst eo48) | ((with_reducible refine gate_callee (f := 128) rfl ?_); refine goesL_ (some 69) rfl rfl Try.func128 (by kernel_rfl) rfl #[.pointer (some ⟨g, 0, none⟩), .slice Ao48 y343.length co48] rfl (by (try simp only [List.map_toArray, List.map_cons, List.map_nil]); first | done | rfl | (simp only [List.length_drop, List.length_take]; rfl)) ?_; (with_reducible refine (spec_l1Cur_among.calls g s0_0 t341 t342 _ _ y343 t346 t347 t348 w0 _ ?side1 ?side2 ?side3 ?side4 ?side5 A39.out).mono ?_); (case side1 => repeat (first | (with_reducible first | exact HI0.out | apply IsS146.alloc | apply IsS146.drewN | apply IsS146.drew | apply IsS146.set_1 | apply IsS146.set_2) | exact HI0.out)); (case side2 => repeat (first | (with_reducible first | exact HB.out | apply below_alloc | apply pw_below_drewN | apply below_drew1 | refine below_set ?_ (IsS146.ge HI0.out)) | exact HB.out)); (case side3 => repeat (first | exact (Kd.R_reads' HO345.out).2.2 | (with_reducible refine Kd.C_alloc ?_ _) | (with_reducible refine Kd.C_drewN ?_ _) | (with_reducible refine Kd.C_drew ?_))); (case side4 => exact (Kd.R_reads' HO345.out).2.1); (case side5 => exact far_slice (IsS146.own_ne HI0.out HO345.out (by decide))); rintro e w49 ⟨rfl, hi, hb, hk⟩; refine ⟨_, rfl, ?_⟩; have n0_ := Aside0.mk (Kd.R_mono (Kd.R_keep (IsS146.apart (show IsS146 w0 _ g s0_0 t341 t342 from by repeat (first | (with_reducible first | exact HI0.out | apply IsS146.alloc | apply IsS146.drewN | apply IsS146.drew | apply IsS146.set_1 | apply IsS146.set_2) | exact HI0.out)) (by (with_reducible repeat (first | apply Kd.R_alloc | apply Kd.R_drewN | apply Kd.R_drew)); exact HO_5.out) (by decide)) hk (fun _ h => h.2)) (fun _ h => h.1)); have n1_ := Aside0.mk (Kd.R_mono (Kd.R_keep (IsS146.apart (show IsS146 w0 _ g s0_0 t341 t342 from by repeat (first | (with_reducible first | exact HI0.out | apply IsS146.alloc | apply IsS146.drewN | apply IsS146.drew | apply IsS146.set_1 | apply IsS146.set_2) | exact HI0.out)) (by (with_reducible repeat (first | apply Kd.R_alloc | apply Kd.R_drewN | apply Kd.R_drew)); exact HO339.out) (by decide)) hk (fun _ h => h.2)) (fun _ h => h.1)); have n2_ := Aside0.mk (Kd.R_mono (Kd.R_keep (IsS146.apart (show IsS146 w0 _ g s0_0 t341 t342 from by repeat (first | (with_reducible first | exact HI0.out | apply IsS146.alloc | apply IsS146.drewN | apply IsS146.drew | apply IsS146.set_1 | apply IsS146.set_2) | exact HI0.out)) (by (with_reducible repeat (first | apply Kd.R_alloc | apply Kd.R_drewN | apply Kd.R_drew)); exact HO345.out) (by decide)) hk (fun _ h => h.2)) (fun _ h => h.1)); have n3_ := Aside0.mk (KeepBut.trans (by repeat (first | (with_reducible first | exact HK.out | apply KeepBut.set_ | apply keep_drewN | apply keep_drew | apply keep_alloc) | exact HK.out)) hk (.inl rfl)); have n4_ := Aside0.mk (hb); have n5_ := Aside0.mk (hi); clear HO_5; clear HO339; clear HO345; clear HK; clear HB; clear HI0; have HO_5 := n0_; have HO339 := n1_; have HO345 := n2_; have HK := n3_; have HB := n4_; have HI0 := n5_; clear n0_ n1_ n2_ n3_ n4_ n5_; (try clear hb); (try clear hb2); (try clear hk); (try clear hi)) | ((with_reducible refine gate_builtin (b := .append) (xs := #[.tmp 61, .tmp 71]) rfl ?_); at_builtin; refine Kd.R_append k99 w.heap.size rfl (.tmp 61) (.tmp 71) 89 99 (.agg #[(.int .i64 0), (.int .i64 0), (.int .i64 0)]) 24 rfl Try.underlying89 info99 rfl (by decide) (by omega) u5 x5_20 (⟨t340, t346, 1⟩ : S99) [.int .i64 t340, .int .i64 t346, .int .i64 1] (fun _ => True) (fun _ => False) rfl rfl ?aP (fun _ hk => hk.elim) ?aF ?aO (Below.refl _ _) ?aS ?aL ?_; (case aP => exact k99_mkM _ _ _ (⟨t340, t346, 1⟩ : S99)); (case aF => exact (fun _ _ => trivial)); (case aO => exact (by (with_reducible repeat (first | apply Kd.R_alloc | apply Kd.R_drewN | apply Kd.R_drew)); exact HO_5.out)); (case aS => exact (keep_size (w := w) (g := g) (row := none) (by repeat (first | (with_reducible first | exact HK.out | apply KeepBut.set_ | apply keep_drewN | apply keep_drew | apply keep_alloc) | exact HK.out)))); (case aL => have := LMc40.out; omega); intro v350 w50 ho hb hg hat; rw [← Ny349.out] at ho; have n0_ := Aside0.mk (IsS146.grown (by repeat (first | (with_reducible first | exact HI0.out | apply IsS146.alloc | apply IsS146.drewN | apply IsS146.drew | apply IsS146.set_1 | apply IsS146.set_2) | exact HI0.out)) hg (IsS146.own_ne HI0.out HO_5.out (by decide))); have n1_ := Aside0.mk (Kd.R_over' (by (with_reducible repeat (first | apply Kd.R_alloc | apply Kd.R_drewN | apply Kd.R_drew)); exact HO339.out) (Kd.R_typed (by (with_reducible repeat (first | apply Kd.R_alloc | apply Kd.R_drewN | apply Kd.R_drew)); exact HO_5.out)) (by decide) hg); have n2_ := Aside0.mk (Kd.R_over' (by (with_reducible repeat (first | apply Kd.R_alloc | apply Kd.R_drewN | apply Kd.R_drew)); exact HO345.out) (Kd.R_typed (by (with_reducible repeat (first | apply Kd.R_alloc | apply Kd.R_drewN | apply Kd.R_drew)); exact HO_5.out)) (by decide) hg); have n3_ := Aside0.mk (below_weaken (by repeat (first | (with_reducible first | exact HB.out | apply below_alloc | apply pw_below_drewN | apply below_drew1 | refine below_set ?_ (IsS146.ge HI0.out)) | exact HB.out)) HL.out hb); have n4_ := Aside0.mk (KeepBut.trans (by repeat (first | (with_reducible first | exact HK.out | apply KeepBut.set_ | apply keep_drewN | apply keep_drew | apply keep_alloc) | exact HK.out)) (KeepBut.of_grown hg g) (Kd.R_base2 HO_5.out)); have n5_ := Aside0.mk (ho); clear HI0; clear HO339; clear HO345; clear HB; clear HK; clear HO_5; have HI0 := n0_; have HO339 := n1_; have HO345 := n2_; have HB := n3_; have HK := n4_; have HO351 := n5_; clear n0_ n1_ n2_ n3_ n4_ n5_; clear ho hb hg hat))
                  go_ret2
                  exact ⟨_, by first | rfl | (simp [errW_none, errW_some] <;> rfl) | (simp [*, errW_none, errW_some] <;> rfl), by (with_reducible repeat (first | apply Kd.R_alloc | apply Kd.R_drewN | apply Kd.R_drew)); exact HO351.out, by repeat (first | (with_reducible first | exact HI0.out | apply IsS146.alloc | apply IsS146.drewN | apply IsS146.drew | apply IsS146.set_1 | apply IsS146.set_2) | exact HI0.out), by repeat (first | (with_reducible first | exact HB.out | apply below_alloc | apply pw_below_drewN | apply below_drew1 | refine below_set ?_ (IsS146.ge HI0.out)) | exact HB.out), by repeat (first | (with_reducible first | exact HK.out | apply KeepBut.set_ | apply keep_drewN | apply keep_drew | apply keep_alloc) | exact HK.out)⟩
                · rw [if_neg c40] at H
                  exact absurd H (by simp)
              · rw [if_neg c37] at H
                have c37b0 : (t328 == 1) = false := beq_eq_false_iff_ne.mpr c37
                have c37b1 : (t328 != 1) = true := bne_iff_ne.mpr c37
                by_cases c51 : t328 = 2
                · rw [if_pos c51] at H
                  have c51b0 : (t328 == 2) = true := beq_iff_eq.mpr c51
                  have c51b1 : (t328 != 2) = false := bne_eq_false_iff_eq.mpr c51
                  clear c51
                  obtain ⟨y352, hy352⟩ : ∃ y_ : List Int, y_ = (([(-1), 1000000000, 1000000001] : List Int)) := ⟨_, rfl⟩
                  replace H : ((spec_l1Cur_among.f s0_0 t329 t330 y352).bind fun bt355 => (if x5_20.length < 5864062014805 then (some ((wrap64 (2 + t295)), (x5_20 ++ [(⟨0, wrap64 ((wrap64 (2 + t295)) - 1), bt355.1⟩ : S99)]), bt355.2.1, bt355.2.2)) else (none))) = some (r1, r2, r3, r4) := by first | (rw [hy352]; with_reducible exact H) | (have H2_ := (Option.bind_some _ _).symm.trans H; rw [hy352]; with_reducible exact H2_) | (have H2_ := (Option.bind_some _ _).symm.trans H; with_reducible exact H2_) | with_reducible exact H | (rw [hy352]; exact H) | exact H
                  have Ny352 := Aside0.mk hy352
                  clear hy352
                  replace H := Option.bind_eq_some_iff.mp H
                  obtain ⟨⟨t355, t356, t357⟩, A520, H⟩ := H
                  replace H : (if x5_20.length < 5864062014805 then (some ((wrap64 (2 + t295)), (x5_20 ++ [(⟨0, wrap64 ((wrap64 (2 + t295)) - 1), t355⟩ : S99)]), t356, t357)) else (none)) = some (r1, r2, r3, r4) := H
                  have A52 := Aside0.mk A520
                  clear A520
                  by_cases c53 : x5_20.length < 5864062014805
                  · rw [if_pos c53] at H
                    have LMc53 := Aside0.mk c53
                    clear c53
                    obtain ⟨y358, hy358⟩ : ∃ y_ : List (S99), y_ = (x5_20 ++ [(⟨0, wrap64 ((wrap64 (2 + t295)) - 1), t355⟩ : S99)]) := ⟨_, rfl⟩
                    replace H : (some ((wrap64 (2 + t295)), y358, t356, t357)) = some (r1, r2, r3, r4) := by first | (rw [hy358]; with_reducible exact H) | (have H2_ := (Option.bind_some _ _).symm.trans H; rw [hy358]; with_reducible exact H2_) | (have H2_ := (Option.bind_some _ _).symm.trans H; with_reducible exact H2_) | with_reducible exact H | (rw [hy358]; exact H) | exact H
                    have Ny358 := Aside0.mk hy358
                    clear hy358
                    simp only [Option.some.injEq, Prod.mk.injEq] at H
                    obtain ⟨rfl, rfl, rfl, rfl⟩ := H
                    go_wp2_with (first | ((with_reducible refine gate_callee (f := 135) rfl ?_); refine goesL_ (some 51) rfl rfl Try.func135 (by kernel_rfl) rfl #[.pointer (some ⟨g, 0, none⟩), .int .i64 30] rfl (by (try simp only [List.map_toArray, List.map_cons, List.map_nil]); first | done | rfl | (simp only [List.length_drop, List.length_take]; rfl)) ?_; (with_reducible refine (spec_l1Cur_pick.calls g s0_0 x1001_20 x1002_20 30 t328 t329 t330 w0 _ ?side1 ?side2 A29.out).mono ?_); (case side1 => repeat (first | (with_reducible first | exact HI0.out | apply IsS146.alloc | apply IsS146.drewN | apply IsS146.drew | apply IsS146.set_1 | apply IsS146.set_2) | exact HI0.out)); (case side2 => repeat (first | (with_reducible first | exact HB.out | apply below_alloc | apply pw_below_drewN | apply below_drew1 | refine below_set ?_ (IsS146.ge HI0.out)) | exact HB.out)); rintro e w54 ⟨rfl, hi, hb, hk⟩; refine ⟨_, rfl, ?_⟩; have n0_ := Aside0.mk (Kd.R_mono (Kd.R_keep (IsS146.apart (show IsS146 w0 _ g s0_0 x1001_20 x1002_20 from by repeat (first | (with_reducible first | exact HI0.out | apply IsS146.alloc | apply IsS146.drewN | apply IsS146.drew | apply IsS146.set_1 | apply IsS146.set_2) | exact HI0.out)) (by (with_reducible repeat (first | apply Kd.R_alloc | apply Kd.R_drewN | apply Kd.R_drew)); exact HO_5.out) (by decide)) hk (fun _ h => h.2)) (fun _ h => h.1)); have n1_ := Aside0.mk (KeepBut.trans (by repeat (first | (with_reducible first | exact HK.out | apply KeepBut.set_ | apply keep_drewN | apply keep_drew | apply keep_alloc) | exact HK.out)) hk (.inl rfl)); have n2_ := Aside0.mk (hb); have n3_ := Aside0.mk (hi); clear HO_5; clear HK; clear HB; clear HI0; have HO_5 := n0_; have HK := n1_; have HB := n2_; have HI0 := n3_; clear n0_ n1_ n2_ n3_; (try clear hb); (try clear hb2); (try clear hk); (try clear hi)) | ((with_reducible refine gate_dst (N := 79) rfl ?_); refine Kd.R_lit (Kd.int .i64) _ 3 ?hg (N := 79) ?hd (xs := ([(-1), 1000000000, 1000000001] : List Int)) (inner := [.int .i64 (-1), .int .i64 1000000000, .int .i64 1000000001]) (ok := fun _ => True) (okp := fun _ => True) ?hr ?hp (fun _ hk => hk) trivial (Below.refl _ _) (Nat.le_refl _) (by simp) ?_; (case hd => rfl); (case hg => rfl); (case hr => first | (go_simp; done) | (go_simp; rfl)); (case hp => exact (Reps.one (show Kd.M (Kd.int .i64) _ _ _ (-1) [.int .i64 (-1)] from rfl) (Reps.one (show Kd.M (Kd.int .i64) _ _ _ 1000000000 [.int .i64 1000000000] from rfl) (Reps.one (show Kd.M (Kd.int .i64) _ _ _ 1000000001 [.int .i64 1000000001] from rfl) (Reps.none _ _))))); intro v353 w55 ho56 hb hg_ hnew_; clear hg_ hnew_; (first | rw [← Ny352.out] at ho56 | (simp only [Int.reduceToNat] at ho56; rw [← Ny352.out] at ho56)); have n0_ := Aside0.mk (Kd.R_below (by (with_reducible repeat (first | apply Kd.R_alloc | apply Kd.R_drewN | apply Kd.R_drew)); exact HO_5.out) hb); have n1_ := Aside0.mk (Kd.R_lower ho56 (keep_size (w := w) (g := g) (row := none) (by repeat (first | (with_reducible first | exact HK.out | apply KeepBut.set_ | apply keep_drewN | apply keep_drew | apply keep_alloc) | exact HK.out)))); have n2_ := Aside0.mk (IsS146.below (by repeat (first | (with_reducible first | exact HI0.out | apply IsS146.alloc | apply IsS146.drewN | apply IsS146.drew | apply IsS146.set_1 | apply IsS146.set_2) | exact HI0.out)) hb); have n3_ := Aside0.mk (KeepBut.trans (by repeat (first | (with_reducible first | exact HK.out | apply KeepBut.set_ | apply keep_drewN | apply keep_drew | apply keep_alloc) | exact HK.out)) (KeepBut.of_below hb g none) (.inl rfl)); have n4_ := Aside0.mk (below_step (by repeat (first | (with_reducible first | exact HB.out | apply below_alloc | apply pw_below_drewN | apply below_drew1 | refine below_set ?_ (IsS146.ge HI0.out)) | exact HB.out)) hb); clear HO_5; clear HI0; clear HK; clear HB; have HO_5 := n0_; have HO354 := n1_; have HI0 := n2_; have HK := n3_; have HB := n4_; clear n0_ n1_ n2_ n3_ n4_; clear hb ho56; obtain ⟨Ao57, co57, eo57⟩ := Kd.R_slice HO354.out; subst eo57) | ((with_reducible refine gate_callee (f := 128) rfl ?_); refine goesL_ (some 80) rfl rfl Try.func128 (by kernel_rfl) rfl #[.pointer (some ⟨g, 0, none⟩), .slice Ao57 y352.length co57] rfl (by (try simp only [List.map_toArray, List.map_cons, List.map_nil]); first | done | rfl | (simp only [List.length_drop, List.length_take]; rfl)) ?_; (with_reducible refine (spec_l1Cur_among.calls g s0_0 t329 t330 _ _ y352 t355 t356 t357 w0 _ ?side1 ?side2 ?side3 ?side4 ?side5 A52.out).mono ?_); (case side1 => repeat (first | (with_reducible first | exact HI0.out | apply IsS146.alloc | apply IsS146.drewN | apply IsS146.drew | apply IsS146.set_1 | apply IsS146.set_2) | exact HI0.out)); (case side2 => repeat (first | (with_reducible first | exact HB.out | apply below_alloc | apply pw_below_drewN | apply below_drew1 | refine below_set ?_ (IsS146.ge HI0.out)) | exact HB.out)); (case side3 => repeat (first | exact (Kd.R_reads' HO354.out).2.2 | (with_reducible refine Kd.C_alloc ?_ _) | (with_reducible refine Kd.C_drewN ?_ _) | (with_reducible refine Kd.C_drew ?_))); (case side4 => exact (Kd.R_reads' HO354.out).2.1); (case side5 => exact far_slice (IsS146.own_ne HI0.out HO354.out (by decide))); rintro e w58 ⟨rfl, hi, hb, hk⟩; refine ⟨_, rfl, ?_⟩; have n0_ := Aside0.mk (Kd.R_mono (Kd.R_keep (IsS146.apart (show IsS146 w0 _ g s0_0 t329 t330 from by repeat (first | (with_reducible first | exact HI0.out | apply IsS146.alloc | apply IsS146.drewN | apply IsS146.drew | apply IsS146.set_1 | apply IsS146.set_2) | exact HI0.out)) (by (with_reducible repeat (first | apply Kd.R_alloc | apply Kd.R_drewN | apply Kd.R_drew)); exact HO_5.out) (by decide)) hk (fun _ h => h.2)) (fun _ h => h.1)); have n1_ := Aside0.mk (Kd.R_mono (Kd.R_keep (IsS146.apart (show IsS146 w0 _ g s0_0 t329 t330 from by repeat (first | (with_reducible first | exact HI0.out | apply IsS146.alloc | apply IsS146.drewN | apply IsS146.drew | apply IsS146.set_1 | apply IsS146.set_2) | exact HI0.out)) (by (with_reducible repeat (first | apply Kd.R_alloc | apply Kd.R_drewN | apply Kd.R_drew)); exact HO354.out) (by decide)) hk (fun _ h => h.2)) (fun _ h => h.1)); have n2_ := Aside0.mk (KeepBut.trans (by repeat (first | (with_reducible first | exact HK.out | apply KeepBut.set_ | apply keep_drewN | apply keep_drew | apply keep_alloc) | exact HK.out)) hk (.inl rfl)); have n3_ := Aside0.mk (hb); have n4_ := Aside0.mk (hi); clear HO_5; clear HO354; clear HK; clear HB; clear HI0; have HO_5 := n0_; have HO354 := n1_; have HK := n2_; have HB := n3_; have HI0 := n4_; clear n0_ n1_ n2_ n3_ n4_; (try clear hb); (try clear hb2); (try clear hk); (try clear hi)) | ((with_reducible refine gate_builtin (b := .append) (xs := #[.tmp 75, .tmp 82]) rfl ?_); at_builtin; refine Kd.R_append k99 w.heap.size rfl (.tmp 75) (.tmp 82) 89 99 (.agg #[(.int .i64 0), (.int .i64 0), (.int .i64 0)]) 24 rfl Try.underlying89 info99 rfl (by decide) (by omega) u5 x5_20 (⟨0, wrap64 ((wrap64 (2 + t295)) - 1), t355⟩ : S99) [.int .i64 0, .int .i64 (wrap64 ((wrap64 (2 + t295)) - 1)), .int .i64 t355] (fun _ => True) (fun _ => False) rfl rfl ?aP (fun _ hk => hk.elim) ?aF ?aO (Below.refl _ _) ?aS ?aL ?_; (case aP => exact k99_mkM _ _ _ (⟨0, wrap64 ((wrap64 (2 + t295)) - 1), t355⟩ : S99)); (case aF => exact (fun _ _ => trivial)); (case aO => exact (by (with_reducible repeat (first | apply Kd.R_alloc | apply Kd.R_drewN | apply Kd.R_drew)); exact HO_5.out)); (case aS => exact (keep_size (w := w) (g := g) (row := none) (by repeat (first | (with_reducible first | exact HK.out | apply KeepBut.set_ | apply keep_drewN | apply keep_drew | apply keep_alloc) | exact HK.out)))); (case aL => have := LMc53.out; omega); intro v359 w59 ho hb hg hat; rw [← Ny358.out] at ho; have n0_ := Aside0.mk (IsS146.grown (by repeat (first | (with_reducible first | exact HI0.out | apply IsS146.alloc | apply IsS146.drewN | apply IsS146.drew | apply IsS146.set_1 | apply IsS146.set_2) | exact HI0.out)) hg (IsS146.own_ne HI0.out HO_5.out (by decide))); have n1_ := Aside0.mk (Kd.R_over' (by (with_reducible repeat (first | apply Kd.R_alloc | apply Kd.R_drewN | apply Kd.R_drew)); exact HO354.out) (Kd.R_typed (by (with_reducible repeat (first | apply Kd.R_alloc | apply Kd.R_drewN | apply Kd.R_drew)); exact HO_5.out)) (by decide) hg); have n2_ := Aside0.mk (below_weaken (by repeat (first | (with_reducible first | exact HB.out | apply below_alloc | apply pw_below_drewN | apply below_drew1 | refine below_set ?_ (IsS146.ge HI0.out)) | exact HB.out)) HL.out hb); have n3_ := Aside0.mk (KeepBut.trans (by repeat (first | (with_reducible first | exact HK.out | apply KeepBut.set_ | apply keep_drewN | apply keep_drew | apply keep_alloc) | exact HK.out)) (KeepBut.of_grown hg g) (Kd.R_base2 HO_5.out)); have n4_ := Aside0.mk (ho); clear HI0; clear HO354; clear HB; clear HK; clear HO_5; have HI0 := n0_; have HO354 := n1_; have HB := n2_; have HK := n3_; have HO360 := n4_; clear n0_ n1_ n2_ n3_ n4_; clear ho hb hg hat))
                    go_ret2
                    exact ⟨_, by first | rfl | (simp [errW_none, errW_some] <;> rfl) | (simp [*, errW_none, errW_some] <;> rfl), by (with_reducible repeat (first | apply Kd.R_alloc | apply Kd.R_drewN | apply Kd.R_drew)); exact HO360.out, by repeat (first | (with_reducible first | exact HI0.out | apply IsS146.alloc | apply IsS146.drewN | apply IsS146.drew | apply IsS146.set_1 | apply IsS146.set_2) | exact HI0.out), by repeat (first | (with_reducible first | exact HB.out | apply below_alloc | apply pw_below_drewN | apply below_drew1 | refine below_set ?_ (IsS146.ge HI0.out)) | exact HB.out), by repeat (first | (with_reducible first | exact HK.out | apply KeepBut.set_ | apply keep_drewN | apply keep_drew | apply keep_alloc) | exact HK.out)⟩
                  · rw [if_neg c53] at H
                    exact absurd H (by simp)
                · rw [if_neg c51] at H
                  have c51b0 : (t328 == 2) = false := beq_eq_false_iff_ne.mpr c51
                  have c51b1 : (t328 != 2) = true := bne_iff_ne.mpr c51
                  by_cases c60 : t328 = 3
                  · rw [if_pos c60] at H
                    have c60b0 : (t328 == 3) = true := beq_iff_eq.mpr c60
                    have c60b1 : (t328 != 3) = false := bne_eq_false_iff_eq.mpr c60
                    clear c60
                    replace H := Option.bind_eq_some_iff.mp H
                    obtain ⟨⟨t361, t362, t363⟩, A610, H⟩ := H
                    replace H : (if x5_20.length < 5864062014805 then (some (wrap64 (130 + t361), (x5_20 ++ [(⟨0, wrap64 ((wrap64 (130 + t361)) - 1), 3⟩ : S99)]), t362, t363)) else (none)) = some (r1, r2, r3, r4) := H
                    have A61 := Aside0.mk A610
                    clear A610
                    by_cases c62 : x5_20.length < 5864062014805
                    · rw [if_pos c62] at H
                      have LMc62 := Aside0.mk c62
                      clear c62
                      obtain ⟨y364, hy364⟩ : ∃ y_ : List (S99), y_ = (x5_20 ++ [(⟨0, wrap64 ((wrap64 (130 + t361)) - 1), 3⟩ : S99)]) := ⟨_, rfl⟩
                      replace H : (some (wrap64 (130 + t361), y364, t362, t363)) = some (r1, r2, r3, r4) := by first | (rw [hy364]; with_reducible exact H) | (have H2_ := (Option.bind_some _ _).symm.trans H; rw [hy364]; with_reducible exact H2_) | (have H2_ := (Option.bind_some _ _).symm.trans H; with_reducible exact H2_) | with_reducible exact H | (rw [hy364]; exact H) | exact H
                      have Ny364 := Aside0.mk hy364
                      clear hy364
                      simp only [Option.some.injEq, Prod.mk.injEq] at H
                      obtain ⟨rfl, rfl, rfl, rfl⟩ := H
                      go_wp2_with (first | ((with_reducible refine gate_callee (f := 135) rfl ?_); refine goesL_ (some 51) rfl rfl Try.func135 (by kernel_rfl) rfl #[.pointer (some ⟨g, 0, none⟩), .int .i64 30] rfl (by (try simp only [List.map_toArray, List.map_cons, List.map_nil]); first | done | rfl | (simp only [List.length_drop, List.length_take]; rfl)) ?_; (with_reducible refine (spec_l1Cur_pick.calls g s0_0 x1001_20 x1002_20 30 t328 t329 t330 w0 _ ?side1 ?side2 A29.out).mono ?_); (case side1 => repeat (first | (with_reducible first | exact HI0.out | apply IsS146.alloc | apply IsS146.drewN | apply IsS146.drew | apply IsS146.set_1 | apply IsS146.set_2) | exact HI0.out)); (case side2 => repeat (first | (with_reducible first | exact HB.out | apply below_alloc | apply pw_below_drewN | apply below_drew1 | refine below_set ?_ (IsS146.ge HI0.out)) | exact HB.out)); rintro e w63 ⟨rfl, hi, hb, hk⟩; refine ⟨_, rfl, ?_⟩; have n0_ := Aside0.mk (Kd.R_mono (Kd.R_keep (IsS146.apart (show IsS146 w0 _ g s0_0 x1001_20 x1002_20 from by repeat (first | (with_reducible first | exact HI0.out | apply IsS146.alloc | apply IsS146.drewN | apply IsS146.drew | apply IsS146.set_1 | apply IsS146.set_2) | exact HI0.out)) (by (with_reducible repeat (first | apply Kd.R_alloc | apply Kd.R_drewN | apply Kd.R_drew)); exact HO_5.out) (by decide)) hk (fun _ h => h.2)) (fun _ h => h.1)); have n1_ := Aside0.mk (KeepBut.trans (by repeat (first | (with_reducible first | exact HK.out | apply KeepBut.set_ | apply keep_drewN | apply keep_drew | apply keep_alloc) | exact HK.out)) hk (.inl rfl)); have n2_ := Aside0.mk (hb); have n3_ := Aside0.mk (hi); clear HO_5; clear HK; clear HB; clear HI0; have HO_5 := n0_; have HK := n1_; have HB := n2_; have HI0 := n3_; clear n0_ n1_ n2_ n3_; (try clear hb); (try clear hb2); (try clear hk); (try clear hi)) | ((with_reducible refine gate_callee (f := 135) rfl ?_); refine goesL_ (some 87) rfl rfl Try.func135 (by kernel_rfl) rfl #[.pointer (some ⟨g, 0, none⟩), .int .i64 2] rfl (by (try simp only [List.map_toArray, List.map_cons, List.map_nil]); first | done | rfl | (simp only [List.length_drop, List.length_take]; rfl)) ?_; (with_reducible refine (spec_l1Cur_pick.calls g s0_0 t329 t330 2 t361 t362 t363 w0 _ ?side1 ?side2 A61.out).mono ?_); (case side1 => repeat (first | (with_reducible first | exact HI0.out | apply IsS146.alloc | apply IsS146.drewN | apply IsS146.drew | apply IsS146.set_1 | apply IsS146.set_2) | exact HI0.out)); (case side2 => repeat (first | (with_reducible first | exact HB.out | apply below_alloc | apply pw_below_drewN | apply below_drew1 | refine below_set ?_ (IsS146.ge HI0.out)) | exact HB.out)); rintro e w64 ⟨rfl, hi, hb, hk⟩; refine ⟨_, rfl, ?_⟩; have n0_ := Aside0.mk (Kd.R_mono (Kd.R_keep (IsS146.apart (show IsS146 w0 _ g s0_0 t329 t330 from by repeat (first | (with_reducible first | exact HI0.out | apply IsS146.alloc | apply IsS146.drewN | apply IsS146.drew | apply IsS146.set_1 | apply IsS146.set_2) | exact HI0.out)) (by (with_reducible repeat (first | apply Kd.R_alloc | apply Kd.R_drewN | apply Kd.R_drew)); exact HO_5.out) (by decide)) hk (fun _ h => h.2)) (fun _ h => h.1)); have n1_ := Aside0.mk (KeepBut.trans (by repeat (first | (with_reducible first | exact HK.out | apply KeepBut.set_ | apply keep_drewN | apply keep_drew | apply keep_alloc) | exact HK.out)) hk (.inl rfl)); have n2_ := Aside0.mk (hb); have n3_ := Aside0.mk (hi); clear HO_5; clear HK; clear HB; clear HI0; have HO_5 := n0_; have HK := n1_; have HB := n2_; have HI0 := n3_; clear n0_ n1_ n2_ n3_; (try clear hb); (try clear hb2); (try clear hk); (try clear hi)) | ((with_reducible refine gate_builtin (b := .append) (xs := #[.tmp 89, .tmp 93]) rfl ?_); at_builtin; refine Kd.R_append k99 w.heap.size rfl (.tmp 89) (.tmp 93) 89 99 (.agg #[(.int .i64 0), (.int .i64 0), (.int .i64 0)]) 24 rfl Try.underlying89 info99 rfl (by decide) (by omega) u5 x5_20 (⟨0, wrap64 ((wrap64 (130 + t361)) - 1), 3⟩ : S99) [.int .i64 0, .int .i64 (wrap64 ((wrap64 (130 + t361)) - 1)), .int .i64 3] (fun _ => True) (fun _ => False) rfl rfl ?aP (fun _ hk => hk.elim) ?aF ?aO (Below.refl _ _) ?aS ?aL ?_; (case aP => exact k99_mkM _ _ _ (⟨0, wrap64 ((wrap64 (130 + t361)) - 1), 3⟩ : S99)); (case aF => exact (fun _ _ => trivial)); (case aO => exact (by (with_reducible repeat (first | apply Kd.R_alloc | apply Kd.R_drewN | apply Kd.R_drew)); exact HO_5.out)); (case aS => exact (keep_size (w := w) (g := g) (row := none) (by repeat (first | (with_reducible first | exact HK.out | apply KeepBut.set_ | apply keep_drewN | apply keep_drew | apply keep_alloc) | exact HK.out)))); (case aL => have := LMc62.out; omega); intro v365 w65 ho hb hg hat; rw [← Ny364.out] at ho; have n0_ := Aside0.mk (IsS146.grown (by repeat (first | (with_reducible first | exact HI0.out | apply IsS146.alloc | apply IsS146.drewN | apply IsS146.drew | apply IsS146.set_1 | apply IsS146.set_2) | exact HI0.out)) hg (IsS146.own_ne HI0.out HO_5.out (by decide))); have n1_ := Aside0.mk (below_weaken (by repeat (first | (with_reducible first | exact HB.out | apply below_alloc | apply pw_below_drewN | apply below_drew1 | refine below_set ?_ (IsS146.ge HI0.out)) | exact HB.out)) HL.out hb); have n2_ := Aside0.mk (KeepBut.trans (by repeat (first | (with_reducible first | exact HK.out | apply KeepBut.set_ | apply keep_drewN | apply keep_drew | apply keep_alloc) | exact HK.out)) (KeepBut.of_grown hg g) (Kd.R_base2 HO_5.out)); have n3_ := Aside0.mk (ho); clear HI0; clear HB; clear HK; clear HO_5; have HI0 := n0_; have HB := n1_; have HK := n2_; have HO366 := n3_; clear n0_ n1_ n2_ n3_; clear ho hb hg hat))
                      go_ret2
                      exact ⟨_, by first | rfl | (simp [errW_none, errW_some] <;> rfl) | (simp [*, errW_none, errW_some] <;> rfl), by (with_reducible repeat (first | apply Kd.R_alloc | apply Kd.R_drewN | apply Kd.R_drew)); exact HO366.out, by repeat (first | (with_reducible first | exact HI0.out | apply IsS146.alloc | apply IsS146.drewN | apply IsS146.drew | apply IsS146.set_1 | apply IsS146.set_2) | exact HI0.out), by repeat (first | (with_reducible first | exact HB.out | apply below_alloc | apply pw_below_drewN | apply below_drew1 | refine below_set ?_ (IsS146.ge HI0.out)) | exact HB.out), by repeat (first | (with_reducible first | exact HK.out | apply KeepBut.set_ | apply keep_drewN | apply keep_drew | apply keep_alloc) | exact HK.out)⟩
                    · rw [if_neg c62] at H
                      exact absurd H (by simp)
                  · rw [if_neg c60] at H
                    have c60b0 : (t328 == 3) = false := beq_eq_false_iff_ne.mpr c60
                    have c60b1 : (t328 != 3) = true := bne_iff_ne.mpr c60
                    by_cases c66 : t328 = 4
                    · rw [if_pos c66] at H
                      have c66b0 : (t328 == 4) = true := beq_iff_eq.mpr c66
                      have c66b1 : (t328 != 4) = false := bne_eq_false_iff_eq.mpr c66
                      clear c66
                      replace H := Option.bind_eq_some_iff.mp H
                      obtain ⟨⟨t367, t368, t369⟩, A670, H⟩ := H
                      replace H : (spec_l1Cur_network.l2 kj20 (wrap64 (2 + t295)) x5_20 (wrap64 (2000 + t367)) s0_0 t368 t369) = some (r1, r2, r3, r4) := H
                      have A67 := Aside0.mk A670
                      clear A670
                      have H' := Aside0.mk H
                      clear H
                      go_wp2_with (first | ((with_reducible refine gate_callee (f := 135) rfl ?_); refine goesL_ (some 51) rfl rfl Try.func135 (by kernel_rfl) rfl #[.pointer (some ⟨g, 0, none⟩), .int .i64 30] rfl (by (try simp only [List.map_toArray, List.map_cons, List.map_nil]); first | done | rfl | (simp only [List.length_drop, List.length_take]; rfl)) ?_; (with_reducible refine (spec_l1Cur_pick.calls g s0_0 x1001_20 x1002_20 30 t328 t329 t330 w0 _ ?side1 ?side2 A29.out).mono ?_); (case side1 => repeat (first | (with_reducible first | exact HI0.out | apply IsS146.alloc | apply IsS146.drewN | apply IsS146.drew | apply IsS146.set_1 | apply IsS146.set_2) | exact HI0.out)); (case side2 => repeat (first | (with_reducible first | exact HB.out | apply below_alloc | apply pw_below_drewN | apply below_drew1 | refine below_set ?_ (IsS146.ge HI0.out)) | exact HB.out)); rintro e w68 ⟨rfl, hi, hb, hk⟩; refine ⟨_, rfl, ?_⟩; have n0_ := Aside0.mk (Kd.R_mono (Kd.R_keep (IsS146.apart (show IsS146 w0 _ g s0_0 x1001_20 x1002_20 from by repeat (first | (with_reducible first | exact HI0.out | apply IsS146.alloc | apply IsS146.drewN | apply IsS146.drew | apply IsS146.set_1 | apply IsS146.set_2) | exact HI0.out)) (by (with_reducible repeat (first | apply Kd.R_alloc | apply Kd.R_drewN | apply Kd.R_drew)); exact HO_5.out) (by decide)) hk (fun _ h => h.2)) (fun _ h => h.1)); have n1_ := Aside0.mk (KeepBut.trans (by repeat (first | (with_reducible first | exact HK.out | apply KeepBut.set_ | apply keep_drewN | apply keep_drew | apply keep_alloc) | exact HK.out)) hk (.inl rfl)); have n2_ := Aside0.mk (hb); have n3_ := Aside0.mk (hi); clear HO_5; clear HK; clear HB; clear HI0; have HO_5 := n0_; have HK := n1_; have HB := n2_; have HI0 := n3_; clear n0_ n1_ n2_ n3_; (try clear hb); (try clear hb2); (try clear hk); (try clear hi)) | ((with_reducible refine gate_callee (f := 135) rfl ?_); refine goesL_ (some 98) rfl rfl Try.func135 (by kernel_rfl) rfl #[.pointer (some ⟨g, 0, none⟩), .int .i64 2] rfl (by (try simp only [List.map_toArray, List.map_cons, List.map_nil]); first | done | rfl | (simp only [List.length_drop, List.length_take]; rfl)) ?_; (with_reducible refine (spec_l1Cur_pick.calls g s0_0 t329 t330 2 t367 t368 t369 w0 _ ?side1 ?side2 A67.out).mono ?_); (case side1 => repeat (first | (with_reducible first | exact HI0.out | apply IsS146.alloc | apply IsS146.drewN | apply IsS146.drew | apply IsS146.set_1 | apply IsS146.set_2) | exact HI0.out)); (case side2 => repeat (first | (with_reducible first | exact HB.out | apply below_alloc | apply pw_below_drewN | apply below_drew1 | refine below_set ?_ (IsS146.ge HI0.out)) | exact HB.out)); rintro e w69 ⟨rfl, hi, hb, hk⟩; refine ⟨_, rfl, ?_⟩; have n0_ := Aside0.mk (Kd.R_mono (Kd.R_keep (IsS146.apart (show IsS146 w0 _ g s0_0 t329 t330 from by repeat (first | (with_reducible first | exact HI0.out | apply IsS146.alloc | apply IsS146.drewN | apply IsS146.drew | apply IsS146.set_1 | apply IsS146.set_2) | exact HI0.out)) (by (with_reducible repeat (first | apply Kd.R_alloc | apply Kd.R_drewN | apply Kd.R_drew)); exact HO_5.out) (by decide)) hk (fun _ h => h.2)) (fun _ h => h.1)); have n1_ := Aside0.mk (KeepBut.trans (by repeat (first | (with_reducible first | exact HK.out | apply KeepBut.set_ | apply keep_drewN | apply keep_drew | apply keep_alloc) | exact HK.out)) hk (.inl rfl)); have n2_ := Aside0.mk (hb); have n3_ := Aside0.mk (hi); clear HO_5; clear HK; clear HB; clear HI0; have HO_5 := n0_; have HK := n1_; have HB := n2_; have HI0 := n3_; clear n0_ n1_ n2_ n3_; (try clear hb); (try clear hb2); (try clear hk); (try clear hi)))
                      go_loopg [5] kj20 (fun kq v5 w' => ∃ (x5_3 : List (S99)), Aside0 (spec_l1Cur_network.l2 kq (wrap64 (2 + t295)) x5_3 (wrap64 (2000 + t367)) s0_0 t368 t369 = some (r1, r2, r3, r4)) ∧ Aside0 (kq ≤ kj20) ∧ Aside0 (Kd.R k99 99 w' w.heap.size (fun _ => True) v5 x5_3) ∧ Aside0 (IsS146 w0 w' g s0_0 t368 t369) ∧ Aside0 (KeepBut w w' g none) ∧ Aside0 (Below w0.heap.size w0 w'))
                      case atStart => exact ⟨(x5_20), H', ⟨Nat.le_refl _⟩, ⟨by (with_reducible repeat (first | apply Kd.R_alloc | apply Kd.R_drewN | apply Kd.R_drew)); exact HO_5.out⟩, ⟨by repeat (first | (with_reducible first | exact HI0.out | apply IsS146.alloc | apply IsS146.drewN | apply IsS146.drew | apply IsS146.set_1 | apply IsS146.set_2) | exact HI0.out)⟩, ⟨by repeat (first | (with_reducible first | exact HK.out | apply KeepBut.set_ | apply keep_drewN | apply keep_drew | apply keep_alloc) | exact HK.out)⟩, ⟨by repeat (first | (with_reducible first | exact HB.out | apply below_alloc | apply pw_below_drewN | apply below_drew1 | refine below_set ?_ (IsS146.ge HI0.out)) | exact HB.out)⟩⟩
                      case round =>
                        clear H'
                        try clear c1
                        try clear c2
                        try clear p2
                        try clear c3
                        try clear c4
                        try clear c5
                        try clear c6
                        try clear c6b0
                        try clear p6
                        try clear c11
                        try clear c12
                        try clear c13
                        try clear c14
                        try clear c23
                        try clear c24
                        try clear c24b0
                        try clear c26
                        try clear c30
                        try clear c30b0
                        try clear c30b1
                        try clear c37
                        try clear c37b0
                        try clear c37b1
                        try clear c40
                        try clear c51
                        try clear c51b0
                        try clear c51b1
                        try clear c53
                        try clear c60
                        try clear c60b0
                        try clear c60b1
                        try clear c62
                        try clear p64
                        try clear c66
                        try clear c66b0
                        try clear c66b1
                        try clear p2
                        try clear p6
                        obtain ⟨x5_3, HA, HK3, HO_5, HI0, HK, HB⟩ := hrel
                        cases gk with
                        | zero => exact absurd HA.out (by simp [spec_l1Cur_network.l2])
                        | succ k3 =>
                          have H := HA.out
                          clear HA
                          simp only [spec_l1Cur_network.l2] at H
                          by_cases c70 : (x5_3.length : Int) < (wrap64 (2000 + t367))
                          · rw [if_pos c70] at H
                            have c70b0 : decide ((x5_3.length : Int) < (wrap64 (2000 + t367))) = true := decide_eq_true c70
                            clear c70
                            by_cases c71 : x5_3.length < 5864062014805
                            · rw [if_pos c71] at H
                              have LMc71 := Aside0.mk c71
                              clear c71
                              obtain ⟨y370, hy370⟩ : ∃ y_ : List (S99), y_ = (x5_3 ++ [(⟨0, wrap64 ((wrap64 (2 + t295)) - 1), 1⟩ : S99)]) := ⟨_, rfl⟩
                              replace H : (spec_l1Cur_network.l2 k3 (wrap64 (2 + t295)) y370 (wrap64 (2000 + t367)) s0_0 t368 t369) = some (r1, r2, r3, r4) := by first | (rw [hy370]; with_reducible exact H) | (have H2_ := (Option.bind_some _ _).symm.trans H; rw [hy370]; with_reducible exact H2_) | (have H2_ := (Option.bind_some _ _).symm.trans H; with_reducible exact H2_) | with_reducible exact H | (rw [hy370]; exact H) | exact H
                              have Ny370 := Aside0.mk hy370
                              clear hy370
                              have H' := Aside0.mk H
                              clear H
                              obtain ⟨Ao72, co72, eo72⟩ := Kd.R_slice HO_5.out
                              subst eo72
                              go_wp2_with (first | ((with_reducible refine gate_builtin (b := .append) (xs := #[.tmp 104, .tmp 108]) rfl ?_); at_builtin; refine Kd.R_append k99 w.heap.size rfl (.tmp 104) (.tmp 108) 89 99 (.agg #[(.int .i64 0), (.int .i64 0), (.int .i64 0)]) 24 rfl Try.underlying89 info99 rfl (by decide) (by omega) (.slice Ao72 x5_3.length co72) x5_3 (⟨0, wrap64 ((wrap64 (2 + t295)) - 1), 1⟩ : S99) [.int .i64 0, .int .i64 (wrap64 ((wrap64 (2 + t295)) - 1)), .int .i64 1] (fun _ => True) (fun _ => False) rfl rfl ?aP (fun _ hk => hk.elim) ?aF ?aO (Below.refl _ _) ?aS ?aL ?_; (case aP => exact k99_mkM _ _ _ (⟨0, wrap64 ((wrap64 (2 + t295)) - 1), 1⟩ : S99)); (case aF => exact (fun _ _ => trivial)); (case aO => exact (by (with_reducible repeat (first | apply Kd.R_alloc | apply Kd.R_drewN | apply Kd.R_drew)); exact HO_5.out)); (case aS => exact (keep_size (w := w) (g := g) (row := none) (by repeat (first | (with_reducible first | exact HK.out | apply KeepBut.set_ | apply keep_drewN | apply keep_drew | apply keep_alloc) | exact HK.out)))); (case aL => have := LMc71.out; omega); intro v371 w73 ho hb hg hat; rw [← Ny370.out] at ho; have n0_ := Aside0.mk (IsS146.grown (by repeat (first | (with_reducible first | exact HI0.out | apply IsS146.alloc | apply IsS146.drewN | apply IsS146.drew | apply IsS146.set_1 | apply IsS146.set_2) | exact HI0.out)) hg (IsS146.own_ne HI0.out HO_5.out (by decide))); have n1_ := Aside0.mk (below_weaken (by repeat (first | (with_reducible first | exact HB.out | apply below_alloc | apply pw_below_drewN | apply below_drew1 | refine below_set ?_ (IsS146.ge HI0.out)) | exact HB.out)) HL.out hb); have n2_ := Aside0.mk (KeepBut.trans (by repeat (first | (with_reducible first | exact HK.out | apply KeepBut.set_ | apply keep_drewN | apply keep_drew | apply keep_alloc) | exact HK.out)) (KeepBut.of_grown hg g) (Kd.R_base2 HO_5.out)); have n3_ := Aside0.mk (ho); clear HI0; clear HB; clear HK; clear HO_5; have HI0 := n0_; have HB := n1_; have HK := n2_; have HO372 := n3_; clear n0_ n1_ n2_ n3_; clear ho hb hg hat))
                              go_roundg k3
                              case measure => have := HK1.out; have := HJ20.out; have := HK3.out; omega
                              case rel => exact ⟨(y370), H', ⟨by have := HK1.out; have := HJ20.out; have := HK3.out; omega⟩, ⟨by (with_reducible repeat (first | apply Kd.R_alloc | apply Kd.R_drewN | apply Kd.R_drew)); exact HO372.out⟩, ⟨by repeat (first | (with_reducible first | exact HI0.out | apply IsS146.alloc | apply IsS146.drewN | apply IsS146.drew | apply IsS146.set_1 | apply IsS146.set_2) | exact HI0.out)⟩, ⟨by repeat (first | (with_reducible first | exact HK.out | apply KeepBut.set_ | apply keep_drewN | apply keep_drew | apply keep_alloc) | exact HK.out)⟩, ⟨by repeat (first | (with_reducible first | exact HB.out | apply below_alloc | apply pw_below_drewN | apply below_drew1 | refine below_set ?_ (IsS146.ge HI0.out)) | exact HB.out)⟩⟩
                            · rw [if_neg c71] at H
                              exact absurd H (by simp)
                          · rw [if_neg c70] at H
                            have c70b0 : decide ((x5_3.length : Int) < (wrap64 (2000 + t367))) = false := decide_eq_false c70
                            clear c70
                            simp only [Option.some.injEq, Prod.mk.injEq] at H
                            obtain ⟨rfl, rfl, rfl, rfl⟩ := H
                            obtain ⟨Ao74, co74, eo74⟩ := Kd.R_slice HO_5.out
                            subst eo74
                            go_wp2
                            go_ret2
                            exact ⟨_, by first | rfl | (simp [errW_none, errW_some] <;> rfl) | (simp [*, errW_none, errW_some] <;> rfl), by (with_reducible repeat (first | apply Kd.R_alloc | apply Kd.R_drewN | apply Kd.R_drew)); exact HO_5.out, by repeat (first | (with_reducible first | exact HI0.out | apply IsS146.alloc | apply IsS146.drewN | apply IsS146.drew | apply IsS146.set_1 | apply IsS146.set_2) | exact HI0.out), by repeat (first | (with_reducible first | exact HB.out | apply below_alloc | apply pw_below_drewN | apply below_drew1 | refine below_set ?_ (IsS146.ge HI0.out)) | exact HB.out), by repeat (first | (with_reducible first | exact HK.out | apply KeepBut.set_ | apply keep_drewN | apply keep_drew | apply keep_alloc) | exact HK.out)⟩
                    · rw [if_neg c66] at H
                      have c66b0 : (t328 == 4) = false := beq_eq_false_iff_ne.mpr c66
                      have c66b1 : (t328 != 4) = true := bne_iff_ne.mpr c66
                      simp only [Option.some.injEq, Prod.mk.injEq] at H
                      obtain ⟨rfl, rfl, rfl, rfl⟩ := H
                      go_wp2_with (first | ((with_reducible refine gate_callee (f := 135) rfl ?_); refine goesL_ (some 51) rfl rfl Try.func135 (by kernel_rfl) rfl #[.pointer (some ⟨g, 0, none⟩), .int .i64 30] rfl (by (try simp only [List.map_toArray, List.map_cons, List.map_nil]); first | done | rfl | (simp only [List.length_drop, List.length_take]; rfl)) ?_; (with_reducible refine (spec_l1Cur_pick.calls g s0_0 x1001_20 x1002_20 30 t328 t329 t330 w0 _ ?side1 ?side2 A29.out).mono ?_); (case side1 => repeat (first | (with_reducible first | exact HI0.out | apply IsS146.alloc | apply IsS146.drewN | apply IsS146.drew | apply IsS146.set_1 | apply IsS146.set_2) | exact HI0.out)); (case side2 => repeat (first | (with_reducible first | exact HB.out | apply below_alloc | apply pw_below_drewN | apply below_drew1 | refine below_set ?_ (IsS146.ge HI0.out)) | exact HB.out)); rintro e w75 ⟨rfl, hi, hb, hk⟩; refine ⟨_, rfl, ?_⟩; have n0_ := Aside0.mk (Kd.R_mono (Kd.R_keep (IsS146.apart (show IsS146 w0 _ g s0_0 x1001_20 x1002_20 from by repeat (first | (with_reducible first | exact HI0.out | apply IsS146.alloc | apply IsS146.drewN | apply IsS146.drew | apply IsS146.set_1 | apply IsS146.set_2) | exact HI0.out)) (by (with_reducible repeat (first | apply Kd.R_alloc | apply Kd.R_drewN | apply Kd.R_drew)); exact HO_5.out) (by decide)) hk (fun _ h => h.2)) (fun _ h => h.1)); have n1_ := Aside0.mk (KeepBut.trans (by repeat (first | (with_reducible first | exact HK.out | apply KeepBut.set_ | apply keep_drewN | apply keep_drew | apply keep_alloc) | exact HK.out)) hk (.inl rfl)); have n2_ := Aside0.mk (hb); have n3_ := Aside0.mk (hi); clear HO_5; clear HK; clear HB; clear HI0; have HO_5 := n0_; have HK := n1_; have HB := n2_; have HI0 := n3_; clear n0_ n1_ n2_ n3_; (try clear hb); (try clear hb2); (try clear hk); (try clear hi)))
                      go_ret2
                      exact ⟨_, by first | rfl | (simp [errW_none, errW_some] <;> rfl) | (simp [*, errW_none, errW_some] <;> rfl), by (with_reducible repeat (first | apply Kd.R_alloc | apply Kd.R_drewN | apply Kd.R_drew)); exact HO_5.out, by repeat (first | (with_reducible first | exact HI0.out | apply IsS146.alloc | apply IsS146.drewN | apply IsS146.drew | apply IsS146.set_1 | apply IsS146.set_2) | exact HI0.out), by repeat (first | (with_reducible first | exact HB.out | apply below_alloc | apply pw_below_drewN | apply below_drew1 | refine below_set ?_ (IsS146.ge HI0.out)) | exact HB.out), by repeat (first | (with_reducible first | exact HK.out | apply KeepBut.set_ | apply keep_drewN | apply keep_drew | apply keep_alloc) | exact HK.out)⟩
end Go.Proofs.Ytomfjhpiemipkaa.PFnFlowValues
end
section
namespace Go.Proofs.Ytomfjhpiemipkaa.PFnFlowValues
open Go.RowKit Go.Proofs.YtomfjhpiemipkaaW.PrintWords Go.Proofs.YtomfjhpiemipkaaW.PrintLast Go.Proofs.YtomfjhpiemipkaaW.PrintMore
attribute [local go_sem] max2_int min2_int max_two min_two max_three min_three max_four min_four   -- for this text's walks alone
set_option linter.unusedVariables false
set_option linter.unusedSimpArgs false
def impl_TurnNetwork.l0 : Nat → Int → List (S99) → List (S99) → Int → Int → Option ((List (S99)) × Bool)
  | 0, _, _, _, _, _ => none
  | k + 1, x0, x6, x14, x15, x16 => if x16 < x15 then (if 0 ≤ x16 then (if x16 < (x14.length : Int) then (if x6.length < 5864062014805 then (impl_TurnNetwork.l0 k x0 (x6 ++ [(⟨wrap64 ((wrap64 (x0 - 1)) - ((rd_T99 x14 x16).f1)), wrap64 ((wrap64 (x0 - 1)) - ((rd_T99 x14 x16).f0)), (rd_T99 x14 x16).f2⟩ : S99)]) x14 x15 (wrap64 (x16 + 1))) else (none)) else (none)) else (none)) else (some (x6, true))
def impl_TurnNetwork.f (k : Nat) (a0 : Int) (l1 : List (S99)) : Option ((List (S99)) × Bool) := (impl_IsNetwork.f k a0 l1).bind fun t381 => (if t381 = true then (impl_TurnNetwork.l0 k a0 (([] : List (S99))) l1 (l1.length : Int) 0) else (some (([] : List (S99)), false)))
set_option maxHeartbeats 8000000 in
set_option maxRecDepth 100000 in
theorem impl_TurnNetwork.calls (k : Nat) (a0 : Int) (A1 : Option Addr) (c1 : Nat) (l1 : List (S99)) (r1 : List (S99)) (r2 : Bool) (w : World) (hr1 : Kd.C k99 w A1 l1.length l1) (hc1 : l1.length ≤ c1) (h : impl_TurnNetwork.f k a0 l1 = some (r1, r2)) :
    Calls Try.prog 74 #[.int .i64 a0, .slice A1 l1.length c1] w fun e w' => ∃ v0_ : Value, e = .returned (.tuple #[v0_, .bool r2]) ∧ Kd.R k99 99 w' w.heap.size (fun _ => True) v0_ r1 ∧ Below w.heap.size w w' := by
  have hu99 := Try.underlying99
  have HR1 := Aside0.mk hr1
  have HC1 := Aside0.mk hc1
  clear hr1 hc1
  have HB := Aside0.mk (Below.refl w.heap.size w)
  have H : ((impl_IsNetwork.f k a0 l1).bind fun t381 => (if t381 = true then (impl_TurnNetwork.l0 k a0 (([] : List (S99))) l1 (l1.length : Int) 0) else (some (([] : List (S99)), false)))) = some (r1, r2) := h
  clear h
  replace H := Option.bind_eq_some_iff.mp H
  obtain ⟨t381, A30, H⟩ := H
  replace H : (if t381 = true then (impl_TurnNetwork.l0 k a0 (([] : List (S99))) l1 (l1.length : Int) 0) else (some (([] : List (S99)), false))) = some (r1, r2) := H
  have A3 := Aside0.mk A30
  clear A30
  by_cases c4 : t381 = true
  · subst c4
    have H1 : (impl_TurnNetwork.l0 k a0 (([] : List (S99))) l1 (l1.length : Int) 0) = some (r1, r2) := by rw [if_pos rfl] at H; exact H
    clear H
    have H := H1
    clear H1
    obtain ⟨y382, hy382⟩ : ∃ y_ : List (S99), y_ = (([] : List (S99))) := ⟨_, rfl⟩
    replace H : (impl_TurnNetwork.l0 k a0 y382 l1 (l1.length : Int) 0) = some (r1, r2) := by first | (rw [hy382]; with_reducible exact H) | (have H2_ := (Option.bind_some _ _).symm.trans H; rw [hy382]; with_reducible exact H2_) | (have H2_ := (Option.bind_some _ _).symm.trans H; with_reducible exact H2_) | with_reducible exact H | (rw [hy382]; exact H) | exact H
    have Ny382 := Aside0.mk hy382
    clear hy382
    have H' := Aside0.mk H
    clear H
    go_enter Try.func74, Try.ntmps74
    go_wp2_with (first | ((with_reducible refine gate_callee (f := 82) rfl ?_); refine goesL_ (some 11) rfl rfl Try.func82 (by kernel_rfl) rfl #[.int .i64 a0, .slice A1 l1.length c1] rfl (by (try simp only [List.map_toArray, List.map_cons, List.map_nil]); first | done | rfl | (simp only [List.length_drop, List.length_take]; rfl)) ?_; (with_reducible refine (impl_IsNetwork.calls k a0 _ _ l1 true _ ?side1 ?side2 A3.out).mono ?_); (case side1 => repeat (first | exact HR1.out | (with_reducible refine Kd.C_alloc ?_ _) | (with_reducible refine Kd.C_drewN ?_ _) | (with_reducible refine Kd.C_drew ?_))); (case side2 => exact HC1.out); rintro e w5 ⟨rfl, hb⟩; refine ⟨_, rfl, ?_⟩; have n0_ := Aside0.mk (below_step (by repeat (first | (with_reducible first | exact HB.out | apply below_alloc | apply pw_below_drewN | apply below_drew1) | exact HB.out)) hb); clear HB; have HB := n0_; clear n0_; (try clear hb); (try clear hb2); (try clear hk); (try clear hi)) | ((with_reducible refine gate_dst (N := 13) rfl ?_); refine Kd.R_lit k99 _ 99 ?hg (N := 13) ?hd (xs := ([] : List (S99))) (inner := []) (ok := fun _ => True) (okp := fun _ => True) ?hr ?hp (fun _ hk => hk) trivial (Below.refl _ _) (Nat.le_refl _) (by simp) ?_; (case hd => rfl); (case hg => rfl); (case hr => first | (go_simp; done) | (go_simp; rfl)); (case hp => exact (Reps.none _ _)); intro v383 w6 ho7 hb hg_ hnew_; clear hg_ hnew_; (first | rw [← Ny382.out] at ho7 | (simp only [Int.reduceToNat] at ho7; rw [← Ny382.out] at ho7)); have n0_ := Aside0.mk (Kd.R_lower ho7 (below_size (by repeat (first | (with_reducible first | exact HB.out | apply below_alloc | apply pw_below_drewN | apply below_drew1) | exact HB.out)))); have n1_ := Aside0.mk (below_step (by repeat (first | (with_reducible first | exact HB.out | apply below_alloc | apply pw_below_drewN | apply below_drew1) | exact HB.out)) hb); clear HB; have HO384 := n0_; have HB := n1_; clear n0_ n1_; clear hb ho7))
    go_loopg [6, 16] k (fun kq v6 v16 w' => ∃ (x6_1 : List (S99)) (x16_1 : Int), v16 = .int .i64 x16_1 ∧ Aside0 (impl_TurnNetwork.l0 kq a0 x6_1 l1 (l1.length : Int) x16_1 = some (r1, r2)) ∧ Aside0 (kq ≤ k) ∧ Aside0 (Kd.R k99 99 w' w.heap.size (fun _ => True) v6 x6_1) ∧ Aside0 (Below w.heap.size w w'))
    case atStart => exact ⟨(y382), (0), (by first | rfl | (simp; done) | (simp [*]; done)), H', ⟨Nat.le_refl _⟩, ⟨by (with_reducible repeat (first | apply Kd.R_alloc | apply Kd.R_drewN | apply Kd.R_drew)); exact HO384.out⟩, ⟨by repeat (first | (with_reducible first | exact HB.out | apply below_alloc | apply pw_below_drewN | apply below_drew1) | exact HB.out)⟩⟩
    case round =>
      clear H'
      try clear c1
      try clear p2
      try clear c4
      try clear c7
      obtain ⟨x6_1, x16_1, rfl, HA, HK1, HO_6, HB⟩ := hrel
      cases gk with
      | zero => exact absurd HA.out (by simp [impl_TurnNetwork.l0])
      | succ k1 =>
        have H := HA.out
        clear HA
        simp only [impl_TurnNetwork.l0] at H
        by_cases c8 : x16_1 < (l1.length : Int)
        · rw [if_pos c8] at H
          have c8b0 : decide (x16_1 < (l1.length : Int)) = true := decide_eq_true c8
          clear c8
          by_cases c9 : 0 ≤ x16_1
          · rw [if_pos c9] at H
            have c9b0 : decide (0 ≤ x16_1) = true := decide_eq_true c9
            clear c9
            by_cases c10 : x16_1 < (l1.length : Int)
            · rw [if_pos c10] at H
              have c10b0 : decide (x16_1 < (l1.length : Int)) = true := decide_eq_true c10
              clear c10
              by_cases c11 : x6_1.length < 5864062014805
              · rw [if_pos c11] at H
                have LMc11 := Aside0.mk c11
                clear c11
                obtain ⟨y387, hy387⟩ : ∃ y_ : List (S99), y_ = (x6_1 ++ [(⟨wrap64 ((wrap64 (a0 - 1)) - ((rd_T99 l1 x16_1).f1)), wrap64 ((wrap64 (a0 - 1)) - ((rd_T99 l1 x16_1).f0)), (rd_T99 l1 x16_1).f2⟩ : S99)]) := ⟨_, rfl⟩
                replace H : (impl_TurnNetwork.l0 k1 a0 y387 l1 (l1.length : Int) (wrap64 (x16_1 + 1))) = some (r1, r2) := by first | (rw [hy387]; with_reducible exact H) | (have H2_ := (Option.bind_some _ _).symm.trans H; rw [hy387]; with_reducible exact H2_) | (have H2_ := (Option.bind_some _ _).symm.trans H; with_reducible exact H2_) | with_reducible exact H | (rw [hy387]; exact H) | exact H
                have Ny387 := Aside0.mk hy387
                clear hy387
                have H' := Aside0.mk H
                clear H
                have p385 : 0 ≤ (x16_1 : Int) := of_decide_eq_true (by first | (with_reducible assumption) | assumption)
                have q385 : x16_1 < (l1.length : Int) := of_decide_eq_true (by first | (with_reducible assumption) | assumption)
                obtain ⟨ad385, e385, hx385_0, hx385_1, hx385_2⟩ := at_T99 HR1.out x16_1 p385 q385
                cases e385
                replace hx385_0 := (HB.out.cell (World.block_lt_of_cell? w _ hx385_0)).trans hx385_0
                replace hx385_1 := (HB.out.cell (World.block_lt_of_cell? w _ hx385_1)).trans hx385_1
                replace hx385_2 := (HB.out.cell (World.block_lt_of_cell? w _ hx385_2)).trans hx385_2
                replace p385 := eq_true p385
                replace q385 := eq_true q385
                go_wp2_with (first | ((with_reducible refine gate_dst (N := 8) rfl ?_); refine box_event ?hg (N := 8) ?hd (cs := #[.int .i64 0, .int .i64 0, .int .i64 0]) (t := 99) ?hr ?_; (case hd => rfl); (case hg => rfl); (case hr => first | (go_simp; done) | (go_simp; rfl)); intro gb386 hg w12 hbox hb; have n0_ := Aside0.mk (Kd.R_below (Kd.R_elderB (by (with_reducible repeat (first | apply Kd.R_alloc | apply Kd.R_drewN | apply Kd.R_drew)); exact HO_6.out) gb386 (Nat.le_of_eq hg.symm)) hb); have n1_ := Aside0.mk (below_step (by repeat (first | (with_reducible first | exact HB.out | apply below_alloc | apply pw_below_drewN | apply below_drew1) | exact HB.out)) hb); have n2_ := Aside0.mk (hbox); have n3_ := Aside0.mk ((by rw [hg]; exact (below_size (by repeat (first | (with_reducible first | exact HB.out | apply below_alloc | apply pw_below_drewN | apply below_drew1) | exact HB.out))) : w.heap.size ≤ gb386)); have n4_ := Aside0.mk ((by rw [hg]; exact (below_size (by repeat (first | (with_reducible first | exact HB.out | apply below_alloc | apply pw_below_drewN | apply below_drew1) | exact HB.out))) : w.heap.size ≤ gb386)); clear HO_6; clear HB; have HO_6 := n0_; have HB := n1_; have BK386 := n2_; have GW386 := n3_; have GE386 := n4_; clear n0_ n1_ n2_ n3_ n4_; clear hb hbox hg; have hcz13_0 : w12.cell? ⟨gb386, 0, none⟩ = some (.int .i64 0) := (blk_cell BK386.out 0).trans rfl; have hcz13_1 : w12.cell? ⟨gb386, 1, none⟩ = some (.int .i64 0) := (blk_cell BK386.out 1).trans rfl; have hcz13_2 : w12.cell? ⟨gb386, 2, none⟩ = some (.int .i64 0) := (blk_cell BK386.out 2).trans rfl; have hfz13_0 := blk_frozen BK386.out 0; have hfz13_1 := blk_frozen BK386.out 1; have hfz13_2 := blk_frozen BK386.out 2) | ((with_reducible refine gate_builtin (b := .append) (xs := #[.tmp 20, .tmp 34]) rfl ?_); at_builtin; refine Kd.R_append k99 (w0 := w) w.heap.size rfl (.tmp 20) (.tmp 34) 89 99 (.agg #[(.int .i64 0), (.int .i64 0), (.int .i64 0)]) 24 rfl Try.underlying89 info99 rfl (by decide) (by omega) u6 x6_1 (⟨wrap64 ((wrap64 (a0 - 1)) - ((rd_T99 l1 x16_1).f1)), wrap64 ((wrap64 (a0 - 1)) - ((rd_T99 l1 x16_1).f0)), (rd_T99 l1 x16_1).f2⟩ : S99) [.int .i64 (wrap64 ((wrap64 (a0 - 1)) - ((rd_T99 l1 x16_1).f1))), .int .i64 (wrap64 ((wrap64 (a0 - 1)) - ((rd_T99 l1 x16_1).f0))), .int .i64 ((rd_T99 l1 x16_1).f2)] (fun k_ => k_ ≠ gb386) (fun _ => False) rfl (by first | (go_simp; done) | (go_simp; rfl)) ?aP (fun _ hk => hk.elim) ?aF ?aO ?aB ?aS ?aL ?_; (case aP => exact k99_mkM _ _ _ (⟨wrap64 ((wrap64 (a0 - 1)) - ((rd_T99 l1 x16_1).f1)), wrap64 ((wrap64 (a0 - 1)) - ((rd_T99 l1 x16_1).f0)), (rd_T99 l1 x16_1).f2⟩ : S99)); (case aB => exact (by repeat (first | (with_reducible first | exact HB.out | apply below_alloc | apply pw_below_drewN | apply below_drew1 | refine below_set ?_ GE386.out) | exact HB.out))); (case aF => exact (fun k_ hk => Kd.freshB (g := gb386) (o := .cells #[.int .i64 ((rd_T99 l1 x16_1).f0), .int .i64 ((rd_T99 l1 x16_1).f1), .int .i64 ((rd_T99 l1 x16_1).f2)] 99 (0, 0)) (by (with_reducible repeat (first | refine blk_drewN ?_ _ | refine blk_drew ?_ | refine blk_alloc ?_ _)); refine blk_put (cs := #[.int .i64 ((rd_T99 l1 x16_1).f0), .int .i64 ((rd_T99 l1 x16_1).f1), .int .i64 0]) ?_ 2 _ rfl; (with_reducible repeat (first | refine blk_drewN ?_ _ | refine blk_drew ?_ | refine blk_alloc ?_ _)); refine blk_put (cs := #[.int .i64 ((rd_T99 l1 x16_1).f0), .int .i64 0, .int .i64 0]) ?_ 1 _ rfl; (with_reducible repeat (first | refine blk_drewN ?_ _ | refine blk_drew ?_ | refine blk_alloc ?_ _)); refine blk_put (cs := #[.int .i64 0, .int .i64 0, .int .i64 0]) ?_ 0 _ rfl; (with_reducible repeat (first | refine blk_drewN ?_ _ | refine blk_drew ?_ | refine blk_alloc ?_ _)); exact BK386.out) k_ hk)); (case aO => exact (by (with_reducible repeat (first | apply Kd.R_alloc | apply Kd.R_drewN | apply Kd.R_drew)); exact Kd.R_mono (Kd.R_far (p := ⟨gb386, 2, none⟩) (Kd.R_far (p := ⟨gb386, 1, none⟩) (Kd.R_far (p := ⟨gb386, 0, none⟩) (Kd.R_mono HO_6.out (fun k_ hk => (⟨hk, hk.2⟩ : _ ∧ k_ ≠ gb386))) (fun _ hk => hk.2) (.int .i64 ((rd_T99 l1 x16_1).f0))) (fun _ hk => hk.2) (.int .i64 ((rd_T99 l1 x16_1).f1))) (fun _ hk => hk.2) (.int .i64 ((rd_T99 l1 x16_1).f2))) (fun _ hk => hk.1.2))); (case aS => exact (below_size (by repeat (first | (with_reducible first | exact HB.out | apply below_alloc | apply pw_below_drewN | apply below_drew1 | refine below_set ?_ GE386.out) | exact HB.out)))); (case aL => have := LMc11.out; omega); intro v388 w14 ho hb hg hat; rw [← Ny387.out] at ho; have n0_ := Aside0.mk (blk_grown (g := gb386) (o := .cells #[.int .i64 ((rd_T99 l1 x16_1).f0), .int .i64 ((rd_T99 l1 x16_1).f1), .int .i64 ((rd_T99 l1 x16_1).f2)] 99 (0, 0)) (by (with_reducible repeat (first | refine blk_drewN ?_ _ | refine blk_drew ?_ | refine blk_alloc ?_ _)); refine blk_put (cs := #[.int .i64 ((rd_T99 l1 x16_1).f0), .int .i64 ((rd_T99 l1 x16_1).f1), .int .i64 0]) ?_ 2 _ rfl; (with_reducible repeat (first | refine blk_drewN ?_ _ | refine blk_drew ?_ | refine blk_alloc ?_ _)); refine blk_put (cs := #[.int .i64 ((rd_T99 l1 x16_1).f0), .int .i64 0, .int .i64 0]) ?_ 1 _ rfl; (with_reducible repeat (first | refine blk_drewN ?_ _ | refine blk_drew ?_ | refine blk_alloc ?_ _)); refine blk_put (cs := #[.int .i64 0, .int .i64 0, .int .i64 0]) ?_ 0 _ rfl; (with_reducible repeat (first | refine blk_drewN ?_ _ | refine blk_drew ?_ | refine blk_alloc ?_ _)); exact BK386.out) hg (Kd.R_away HO_6.out (fun _ hk => hk.2))); have n1_ := Aside0.mk (hb); have n2_ := Aside0.mk (ho); clear BK386; clear HB; clear HO_6; have BK386 := n0_; have HB := n1_; have HO389 := n2_; clear n0_ n1_ n2_; clear ho hb hg hat))
                go_roundg k1
                case measure => have := HK1.out; omega
                case rel => exact ⟨(y387), (wrap64 (x16_1 + 1)), (by first | rfl | (simp; done) | (simp [*]; done)), H', ⟨by have := HK1.out; omega⟩, ⟨by (with_reducible repeat (first | apply Kd.R_alloc | apply Kd.R_drewN | apply Kd.R_drew)); exact Kd.R_mono HO389.out (fun _ hk => trivial)⟩, ⟨by repeat (first | (with_reducible first | exact HB.out | apply below_alloc | apply pw_below_drewN | apply below_drew1 | refine below_set ?_ GE386.out) | exact HB.out)⟩⟩
              · rw [if_neg c11] at H
                exact absurd H (by simp)
            · rw [if_neg c10] at H
              exact absurd H (by simp)
          · rw [if_neg c9] at H
            exact absurd H (by simp)
        · rw [if_neg c8] at H
          have c8b0 : decide (x16_1 < (l1.length : Int)) = false := decide_eq_false c8
          clear c8
          simp only [Option.some.injEq, Prod.mk.injEq] at H
          obtain ⟨rfl, rfl⟩ := H
          go_wp2
          go_ret2
          exact ⟨_, by first | rfl | (simp [errW_none, errW_some] <;> rfl) | (simp [*, errW_none, errW_some] <;> rfl), by (with_reducible repeat (first | apply Kd.R_alloc | apply Kd.R_drewN | apply Kd.R_drew)); exact HO_6.out, by repeat (first | (with_reducible first | exact HB.out | apply below_alloc | apply pw_below_drewN | apply below_drew1) | exact HB.out)⟩
  · replace c4 := Bool.eq_false_iff.mpr c4
    subst c4
    have H1 : (some (([] : List (S99)), false)) = some (r1, r2) := by rw [if_neg (show ¬ (false = true) by decide)] at H; exact H
    clear H
    have H := H1
    clear H1
    simp only [Option.some.injEq, Prod.mk.injEq] at H
    obtain ⟨rfl, rfl⟩ := H
    go_enter Try.func74, Try.ntmps74
    go_wp2_with (first | ((with_reducible refine gate_callee (f := 82) rfl ?_); refine goesL_ (some 11) rfl rfl Try.func82 (by kernel_rfl) rfl #[.int .i64 a0, .slice A1 l1.length c1] rfl (by (try simp only [List.map_toArray, List.map_cons, List.map_nil]); first | done | rfl | (simp only [List.length_drop, List.length_take]; rfl)) ?_; (with_reducible refine (impl_IsNetwork.calls k a0 _ _ l1 false _ ?side1 ?side2 A3.out).mono ?_); (case side1 => repeat (first | exact HR1.out | (with_reducible refine Kd.C_alloc ?_ _) | (with_reducible refine Kd.C_drewN ?_ _) | (with_reducible refine Kd.C_drew ?_))); (case side2 => exact HC1.out); rintro e w15 ⟨rfl, hb⟩; refine ⟨_, rfl, ?_⟩; have n0_ := Aside0.mk (below_step (by repeat (first | (with_reducible first | exact HB.out | apply below_alloc | apply pw_below_drewN | apply below_drew1) | exact HB.out)) hb); clear HB; have HB := n0_; clear n0_; (try clear hb); (try clear hb2); (try clear hk); (try clear hi)))
    go_ret2
    exact ⟨_, by first | rfl | (simp [errW_none, errW_some] <;> rfl) | (simp [*, errW_none, errW_some] <;> rfl), by first | exact Kd.R_nil _ _ _ _ _ | exact Kd.N_nil _ _ _ _ _ | exact Kd.V_nil _ _ _ _ _ | exact Kd.Q_nil _ _ _ _ _ | exact Kd.S_nil _ _ _ _ _, by repeat (first | (with_reducible first | exact HB.out | apply below_alloc | apply pw_below_drewN | apply below_drew1) | exact HB.out)⟩
end Go.Proofs.Ytomfjhpiemipkaa.PFnFlowValues
end
section
namespace Go.Proofs.Ytomfjhpiemipkaa.PFnFlowValues
open Go.RowKit Go.Proofs.YtomfjhpiemipkaaW.PrintWords Go.Proofs.YtomfjhpiemipkaaW.PrintLast Go.Proofs.YtomfjhpiemipkaaW.PrintMore
attribute [local go_sem] max2_int min2_int max_two min_two max_three min_three max_four min_four   -- for this text's walks alone
set_option linter.unusedVariables false
set_option linter.unusedSimpArgs false
def spec_TurnNetwork.f (k : Nat) (a0 : Int) (l1 : List (S99)) : Option ((List (S99)) × Bool) := (spec_mfGood.f k a0 l1).bind fun t390 => (if t390 = true then ((spec_mfTurn.f k a0 l1).bind fun t391 => (some (t391, true))) else (some (([] : List (S99)), false)))
set_option maxHeartbeats 8000000 in
set_option maxRecDepth 100000 in
theorem spec_TurnNetwork.calls (k : Nat) (a0 : Int) (A1 : Option Addr) (c1 : Nat) (l1 : List (S99)) (r1 : List (S99)) (r2 : Bool) (w : World) (hr1 : Kd.C k99 w A1 l1.length l1) (hc1 : l1.length ≤ c1) (h : spec_TurnNetwork.f k a0 l1 = some (r1, r2)) :
    Calls Try.prog 75 #[.int .i64 a0, .slice A1 l1.length c1] w fun e w' => ∃ v0_ : Value, e = .returned (.tuple #[v0_, .bool r2]) ∧ Kd.R k99 99 w' w.heap.size (fun _ => True) v0_ r1 ∧ Below w.heap.size w w' := by
  have HR1 := Aside0.mk hr1
  have HC1 := Aside0.mk hc1
  clear hr1 hc1
  have HB := Aside0.mk (Below.refl w.heap.size w)
  have H : ((spec_mfGood.f k a0 l1).bind fun t390 => (if t390 = true then ((spec_mfTurn.f k a0 l1).bind fun t391 => (some (t391, true))) else (some (([] : List (S99)), false)))) = some (r1, r2) := h
  clear h
  replace H := Option.bind_eq_some_iff.mp H
  obtain ⟨t390, A30, H⟩ := H
  replace H : (if t390 = true then ((spec_mfTurn.f k a0 l1).bind fun t391 => (some (t391, true))) else (some (([] : List (S99)), false))) = some (r1, r2) := H
  have A3 := Aside0.mk A30
  clear A30
  by_cases c4 : t390 = true
  · subst c4
    have H1 : ((spec_mfTurn.f k a0 l1).bind fun t391 => (some (t391, true))) = some (r1, r2) := by rw [if_pos rfl] at H; exact H
    clear H
    have H := H1
    clear H1
    replace H := Option.bind_eq_some_iff.mp H
    obtain ⟨t391, A50, H⟩ := H
    replace H : (some (t391, true)) = some (r1, r2) := H
    have A5 := Aside0.mk A50
    clear A50
    simp only [Option.some.injEq, Prod.mk.injEq] at H
    obtain ⟨rfl, rfl⟩ := H
    go_enter Try.func75, Try.ntmps75
    go_wp2_with (first | ((with_reducible refine gate_callee (f := 138) rfl ?_); refine goesL_ (some 8) rfl rfl Try.func138 (by kernel_rfl) rfl #[.int .i64 a0, .slice A1 l1.length c1] rfl (by (try simp only [List.map_toArray, List.map_cons, List.map_nil]); first | done | rfl | (simp only [List.length_drop, List.length_take]; rfl)) ?_; (with_reducible refine (spec_mfGood.calls k a0 _ _ l1 true _ ?side1 ?side2 A3.out).mono ?_); (case side1 => repeat (first | exact HR1.out | (with_reducible refine Kd.C_alloc ?_ _) | (with_reducible refine Kd.C_drewN ?_ _) | (with_reducible refine Kd.C_drew ?_))); (case side2 => exact HC1.out); rintro e w6 ⟨rfl, hb⟩; refine ⟨_, rfl, ?_⟩; have n0_ := Aside0.mk (below_step (by repeat (first | (with_reducible first | exact HB.out | apply below_alloc | apply pw_below_drewN | apply below_drew1) | exact HB.out)) hb); clear HB; have HB := n0_; clear n0_; (try clear hb); (try clear hb2); (try clear hk); (try clear hi)) | ((with_reducible refine gate_callee (f := 153) rfl ?_); refine goesL_ (some 12) rfl rfl Try.func153 (by kernel_rfl) rfl #[.int .i64 a0, .slice A1 l1.length c1] rfl (by (try simp only [List.map_toArray, List.map_cons, List.map_nil]); first | done | rfl | (simp only [List.length_drop, List.length_take]; rfl)) ?_; (with_reducible refine (spec_mfTurn.calls k a0 _ _ l1 t391 _ ?side1 ?side2 A5.out).mono ?_); (case side1 => repeat (first | exact (Kd.C_below HR1.out HB.out) | (with_reducible refine Kd.C_alloc ?_ _) | (with_reducible refine Kd.C_drewN ?_ _) | (with_reducible refine Kd.C_drew ?_))); (case side2 => exact HC1.out); rintro e w7 ⟨v392, rfl, ho0, hb⟩; refine ⟨_, rfl, ?_⟩; have n0_ := Aside0.mk (Kd.R_lower ho0 (below_size (by repeat (first | (with_reducible first | exact HB.out | apply below_alloc | apply pw_below_drewN | apply below_drew1) | exact HB.out)))); have n1_ := Aside0.mk (below_step (by repeat (first | (with_reducible first | exact HB.out | apply below_alloc | apply pw_below_drewN | apply below_drew1) | exact HB.out)) hb); clear HB; have HO393 := n0_; have HB := n1_; clear n0_ n1_; (try clear hb); (try clear hb2); (try clear hk); (try clear hi); (try clear ho0)))
    go_ret2
    exact ⟨_, by first | rfl | (simp [errW_none, errW_some] <;> rfl) | (simp [*, errW_none, errW_some] <;> rfl), by (with_reducible repeat (first | apply Kd.R_alloc | apply Kd.R_drewN | apply Kd.R_drew)); exact HO393.out, by repeat (first | (with_reducible first | exact HB.out | apply below_alloc | apply pw_below_drewN | apply below_drew1) | exact HB.out)⟩
  · replace c4 := Bool.eq_false_iff.mpr c4
    subst c4
    have H1 : (some (([] : List (S99)), false)) = some (r1, r2) := by rw [if_neg (show ¬ (false = true) by decide)] at H; exact H
    clear H
    have H := H1
    clear H1
    simp only [Option.some.injEq, Prod.mk.injEq] at H
    obtain ⟨rfl, rfl⟩ := H
    go_enter Try.func75, Try.ntmps75
    go_wp2_with (first | ((with_reducible refine gate_callee (f := 138) rfl ?_); refine goesL_ (some 8) rfl rfl Try.func138 (by kernel_rfl) rfl #[.int .i64 a0, .slice A1 l1.length c1] rfl (by (try simp only [List.map_toArray, List.map_cons, List.map_nil]); first | done | rfl | (simp only [List.length_drop, List.length_take]; rfl)) ?_; (with_reducible refine (spec_mfGood.calls k a0 _ _ l1 false _ ?side1 ?side2 A3.out).mono ?_); (case side1 => repeat (first | exact HR1.out | (with_reducible refine Kd.C_alloc ?_ _) | (with_reducible refine Kd.C_drewN ?_ _) | (with_reducible refine Kd.C_drew ?_))); (case side2 => exact HC1.out); rintro e w8 ⟨rfl, hb⟩; refine ⟨_, rfl, ?_⟩; have n0_ := Aside0.mk (below_step (by repeat (first | (with_reducible first | exact HB.out | apply below_alloc | apply pw_below_drewN | apply below_drew1) | exact HB.out)) hb); clear HB; have HB := n0_; clear n0_; (try clear hb); (try clear hb2); (try clear hk); (try clear hi)))
    go_ret2
    exact ⟨_, by first | rfl | (simp [errW_none, errW_some] <;> rfl) | (simp [*, errW_none, errW_some] <;> rfl), by first | exact Kd.R_nil _ _ _ _ _ | exact Kd.N_nil _ _ _ _ _ | exact Kd.V_nil _ _ _ _ _ | exact Kd.Q_nil _ _ _ _ _ | exact Kd.S_nil _ _ _ _ _, by repeat (first | (with_reducible first | exact HB.out | apply below_alloc | apply pw_below_drewN | apply below_drew1) | exact HB.out)⟩
end Go.Proofs.Ytomfjhpiemipkaa.PFnFlowValues
end
section
namespace Go.Proofs.Ytomfjhpiemipkaa.PFnFlowValues
open Go.RowKit Go.Proofs.YtomfjhpiemipkaaW.PrintWords Go.Proofs.YtomfjhpiemipkaaW.PrintLast Go.Proofs.YtomfjhpiemipkaaW.PrintMore
attribute [local go_sem] max2_int min2_int max_two min_two max_three min_three max_four min_four   -- for this text's walks alone
set_option linter.unusedVariables false
set_option linter.unusedSimpArgs false
def spec_l1All.l0 : Nat → Int → Int → List Int → Int → Int → Option (Bool)
  | 0, _, _, _, _, _ => none
  | k + 1, x1, x2, x9, x10, x11 => if x11 < x10 then (if 0 ≤ x11 then (if x11 < (x9.length : Int) then ((spec_l1In.f (rd x9 x11) x1 x2).bind fun t426 => (if t426 = true then (spec_l1All.l0 k x1 x2 x9 x10 (wrap64 (x11 + 1))) else (some false))) else (none)) else (none)) else (some true)
def spec_l1All.f (k : Nat) (l0 : List Int) (a1 : Int) (a2 : Int) : Option (Bool) := spec_l1All.l0 k a1 a2 l0 (l0.length : Int) 0
set_option maxHeartbeats 8000000 in
set_option maxRecDepth 100000 in
theorem spec_l1All.calls (k : Nat) (A0 : Option Addr) (c0 : Nat) (l0 : List Int) (a1 : Int) (a2 : Int) (r : Bool) (w : World) (hr0 : Kd.C (Kd.int .i64) w A0 l0.length l0) (hc0 : l0.length ≤ c0) (h : spec_l1All.f k l0 a1 a2 = some r) :
    Calls Try.prog 161 #[.slice A0 l0.length c0, .int .i64 a1, .int .i64 a2] w fun e w' => e = .returned (.bool r) ∧ Drawn0 w w' := by
  have HR0 := Aside0.mk hr0
  have HC0 := Aside0.mk hc0
  clear hr0 hc0
  have H : (spec_l1All.l0 k a1 a2 l0 (l0.length : Int) 0) = some r := h
  clear h
  have H' := Aside0.mk H
  clear H
  go_enter Try.func161, Try.ntmps161
  go_wp2
  go_loopg [11] k (fun kq v11 w' => ∃ (x11_1 : Int), v11 = .int .i64 x11_1 ∧ Aside0 (spec_l1All.l0 kq a1 a2 l0 (l0.length : Int) x11_1 = some r) ∧ Aside0 (kq ≤ k) ∧ Drawn0 w w')
  case atStart => exact ⟨(0), (by first | rfl | (simp; done) | (simp [*]; done)), H', ⟨Nat.le_refl _⟩, by repeat (first | exact Drawn0.refl _ | apply Drawn0.step)⟩
  case round =>
    clear H'
    try clear c1
    try clear p2
    obtain ⟨x11_1, rfl, HA, HK1, ⟨m1, rfl⟩⟩ := hrel
    cases gk with
    | zero => exact absurd HA.out (by simp [spec_l1All.l0])
    | succ k1 =>
      have H := HA.out
      clear HA
      simp only [spec_l1All.l0] at H
      by_cases c4 : x11_1 < (l0.length : Int)
      · rw [if_pos c4] at H
        have c4b0 : decide (x11_1 < (l0.length : Int)) = true := decide_eq_true c4
        clear c4
        by_cases c5 : 0 ≤ x11_1
        · rw [if_pos c5] at H
          have c5b0 : decide (0 ≤ x11_1) = true := decide_eq_true c5
          clear c5
          by_cases c6 : x11_1 < (l0.length : Int)
          · rw [if_pos c6] at H
            have c6b0 : decide (x11_1 < (l0.length : Int)) = true := decide_eq_true c6
            clear c6
            replace H := Option.bind_eq_some_iff.mp H
            obtain ⟨t426, A70, H⟩ := H
            replace H : (if t426 = true then (spec_l1All.l0 k1 a1 a2 l0 (l0.length : Int) (wrap64 (x11_1 + 1))) else (some false)) = some r := H
            have A7 := Aside0.mk A70
            clear A70
            by_cases c8 : t426 = true
            · subst c8
              have H1 : (spec_l1All.l0 k1 a1 a2 l0 (l0.length : Int) (wrap64 (x11_1 + 1))) = some r := by rw [if_pos rfl] at H; exact H
              clear H
              have H := H1
              clear H1
              have H' := Aside0.mk H
              clear H
              have p425 : 0 ≤ (x11_1 : Int) := of_decide_eq_true (by first | (with_reducible assumption) | assumption)
              have q425 : x11_1 < (l0.length : Int) := of_decide_eq_true (by first | (with_reducible assumption) | assumption)
              obtain ⟨ad425, e425, hx425_0⟩ := Kd.at_int HR0.out x11_1 p425 q425
              cases e425
              replace p425 := eq_true p425
              replace q425 := eq_true q425
              go_wp2_with (first | ((with_reducible refine gate_callee (f := 108) rfl ?_); refine goesL_ (some 18) rfl rfl Try.func108 (by kernel_rfl) rfl #[.int .i64 (rd l0 x11_1), .int .i64 a1, .int .i64 a2] rfl (by (try simp only [List.map_toArray, List.map_cons, List.map_nil]); first | done | rfl | (simp only [List.length_drop, List.length_take]; rfl)) ?_; (with_reducible refine (spec_l1In.calls (rd l0 x11_1) a1 a2 true _ A7.out).mono ?_); rintro e w' ⟨rfl, ⟨nd, rfl⟩⟩; refine ⟨_, rfl, ?_⟩))
              go_roundg k1
              case measure => have := HK1.out; omega
              case rel => exact ⟨(wrap64 (x11_1 + 1)), (by first | rfl | (simp; done) | (simp [*]; done)), H', ⟨by have := HK1.out; omega⟩, by repeat (first | exact Drawn0.refl _ | apply Drawn0.step)⟩
            · replace c8 := Bool.eq_false_iff.mpr c8
              subst c8
              have H1 : (some false) = some r := by rw [if_neg (show ¬ (false = true) by decide)] at H; exact H
              clear H
              have H := H1
              clear H1
              obtain rfl := Option.some.inj H
              have p425 : 0 ≤ (x11_1 : Int) := of_decide_eq_true (by first | (with_reducible assumption) | assumption)
              have q425 : x11_1 < (l0.length : Int) := of_decide_eq_true (by first | (with_reducible assumption) | assumption)
              obtain ⟨ad425, e425, hx425_0⟩ := Kd.at_int HR0.out x11_1 p425 q425
              cases e425
              replace p425 := eq_true p425
              replace q425 := eq_true q425
              go_wp2_with (first | ((with_reducible refine gate_callee (f := 108) rfl ?_); refine goesL_ (some 18) rfl rfl Try.func108 (by kernel_rfl) rfl #[.int .i64 (rd l0 x11_1), .int .i64 a1, .int .i64 a2] rfl (by (try simp only [List.map_toArray, List.map_cons, List.map_nil]); first | done | rfl | (simp only [List.length_drop, List.length_take]; rfl)) ?_; (with_reducible refine (spec_l1In.calls (rd l0 x11_1) a1 a2 false _ A7.out).mono ?_); rintro e w' ⟨rfl, ⟨nd, rfl⟩⟩; refine ⟨_, rfl, ?_⟩))
              go_ret
              exact ⟨by first | rfl | (simp; done) | (simp [*]; done), by repeat (first | exact Drawn0.refl _ | apply Drawn0.step)⟩
          · rw [if_neg c6] at H
            exact absurd H (by simp)
        · rw [if_neg c5] at H
          exact absurd H (by simp)
      · rw [if_neg c4] at H
        have c4b0 : decide (x11_1 < (l0.length : Int)) = false := decide_eq_false c4
        clear c4
        obtain rfl := Option.some.inj H
        go_wp2
        go_ret
        exact ⟨by first | rfl | (simp; done) | (simp [*]; done), by repeat (first | exact Drawn0.refl _ | apply Drawn0.step)⟩
end Go.Proofs.Ytomfjhpiemipkaa.PFnFlowValues
end
