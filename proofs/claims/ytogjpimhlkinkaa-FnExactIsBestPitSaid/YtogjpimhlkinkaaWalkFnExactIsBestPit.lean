/- The law FnExactIsBestPit, walked by hand over its callees' contracts: for every input it returns true. -/
import Derived.Test.YtogjpimhlkinkaaComA
import Derived.Test.YtogjpimhlkinkaaOwnIsBestPit
namespace Go.Proofs.Ytogjpimhlkinkaa.WalkFnExactIsBestPit
open Go.RowKit Go.Proofs.Ytogjpimhlkinkaa.PFnExactIsBestPit Go.Proofs.YtogjpimhlkinkaaW.PrintWords Go.Proofs.YtogjpimhlkinkaaW.PrintLast Go.Proofs.YtogjpimhlkinkaaW.PrintMore Go.Proofs.Ytogjpimhlkinkaa.B Go.Proofs.Ytogjpimhlkinkaa.Com Go.Proofs.Ytogjpimhlkinkaa.OwnIsBestPit
set_option linter.unusedVariables false
set_option linter.unusedSimpArgs false
def Zn (W W' : World) (u : Value) (k : Nat) : Prop := Btw W W' k ∧ some k = u.ownBlock
/- hand.FnExactIsBestPit -/
theorem both (a : List (List Int)) (v p : List Int) (la : a.length ≤ 1048576) (lb : ∀ x ∈ a, x.length ≤ 1048576) (lv : v.length ≤ 1048576) (lp : p.length ≤ 1048576) : ∃ r : Bool × Bool, OwnIsBestPit.isR a v p r ∧ OwnIsBestPit.isR a v p r := by
  unfold OwnIsBestPit.isR
  by_cases h : (PitBest.valuedB a v && (asc p a.length && isClo a p)) = true
  · obtain ⟨x, b, hP⟩ := OwnPitC.pitsx_end (show PitBest.valuedB a v = true by rw [Bool.and_eq_true] at h; exact h.1)
    refine ⟨(decide (PitBest.valSum v p = PitBest.valSum v (OwnPitC.bestL a x)), true), by rw [if_pos h]; exact ⟨x, b, hP, rfl⟩, by rw [if_pos h]; exact ⟨x, b, hP, rfl⟩⟩
  · exact ⟨(false, false), by rw [if_neg h], by rw [if_neg h]⟩

set_option maxHeartbeats 4000000 in
set_option maxRecDepth 100000 in
theorem walk (a0 : List (List Int)) (a1 : List Int) (a2 : List Int) (Aa0 : Option Addr) (ca0 : Nat) (Aa1 : Option Addr) (ca1 : Nat) (Aa2 : Option Addr) (ca2 : Nat) (w : World) (hra0 : Kd.C kSS w Aa0 a0.length a0) (hca0 : a0.length ≤ ca0) (hra1 : Kd.C (Kd.int .i64) w Aa1 a1.length a1) (hca1 : a1.length ≤ ca1) (hra2 : Kd.C (Kd.int .i64) w Aa2 a2.length a2) (hca2 : a2.length ≤ ca2) (r0 : Int) (hsz0 : ∀ (Aa0 : Option Addr) (ca0 : Nat) (w : World), Kd.C kSS w Aa0 a0.length a0 → a0.length ≤ ca0 → Calls Try.prog 32 #[.slice Aa0 a0.length ca0, .int .i64 1048576] w fun e w' => e = .returned (.int .i64 r0) ∧ Below w.heap.size w w') (hlt0 : ¬ r0 < 0)  (g0 : Bool) (g1 : Bool) (hla0 : a0.length ≤ 1048576) (hba0 : ∀ x ∈ a0, x.length ≤ 1048576) (hla1 : a1.length ≤ 1048576) (hla2 : a2.length ≤ 1048576)  (hs : isR a0 a1 a2 (g0, g1)) (hi : isR a0 a1 a2 (g0, g1)) :
    Calls Try.prog 12 #[.slice Aa0 a0.length ca0, .slice Aa1 a1.length ca1, .slice Aa2 a2.length ca2] w fun e w' => e = .returned (.bool true) ∧ Below w.heap.size w w' := by
  have Hs := Aside0.mk hs
  have Hi := Aside0.mk hi
  have HRa0 := Aside0.mk hra0
  have HCa0 := Aside0.mk hca0
  have HLa0 := Aside0.mk hla0
  have HBa0 := Aside0.mk hba0
  have HRa1 := Aside0.mk hra1
  have HCa1 := Aside0.mk hca1
  have HLa1 := Aside0.mk hla1
  have xa1 : decide (1048576 < (a1.length : Int)) = false := decide_eq_false (by omega)
  have ya1 : decide (1048576 < a1.length) = false := decide_eq_false (by omega)
  have HRa2 := Aside0.mk hra2
  have HCa2 := Aside0.mk hca2
  have HLa2 := Aside0.mk hla2
  have xa2 : decide (1048576 < (a2.length : Int)) = false := decide_eq_false (by omega)
  have ya2 : decide (1048576 < a2.length) = false := decide_eq_false (by omega)
  have HSZ0 := Aside0.mk hsz0
  have d0 : decide (r0 < 0) = false := decide_eq_false hlt0
  clear hs hi hra0 hca0 hla0 hba0 hra1 hca1 hla1 hra2 hca2 hla2 hsz0 hlt0
  go_enter Try.func12, Try.ntmps12
  go_wp2_with fail
  refine (HSZ0.out Aa0 ca0 w HRa0.out HCa0.out).mono ?_
  rintro e w1 ⟨rfl, hb⟩
  have B1 := Aside0.mk hb
  have z1 := hb.size
  clear hb
  go_wp2_with fail
  refine (toIntSS_calls a0 HLa0.out HBa0.out Aa0 ca0 w1 (Kd.C_below HRa0.out B1.out) HCa0.out).mono ?_
  rintro e w2 ⟨v, rfl, ho, hb⟩
  have B2 := Aside0.mk (below_step B1.out hb)
  have z2 := hb.size
  obtain ⟨At0_0_2, ct0_0_2, rfl⟩ := Kd.S_slice ho
  have Ft0_0_2 := Aside0.mk (ivS (w := w) ho (by omega))
  clear ho
  clear hb
  go_wp2_with fail
  refine (toIntS_calls a1 (by have := HLa1.out; omega) Aa1 ca1 w2 (Kd.C_below HRa1.out B2.out) HCa1.out).mono ?_
  rintro e w3 ⟨v, rfl, ho, hb⟩
  have B3 := Aside0.mk (below_step B2.out hb)
  have z3 := hb.size
  obtain ⟨At1_0_3, ct1_0_3, rfl⟩ := Kd.R_slice ho
  have Ft1_0_3 := Aside0.mk (ivR (w := w) ho (by omega))
  clear ho
  have Ft0_0_3 := Aside0.mk (Kd.S_below Ft0_0_2.out hb)
  clear Ft0_0_2
  clear hb
  go_wp2_with fail
  refine (toIntS_calls a2 (by have := HLa2.out; omega) Aa2 ca2 w3 (Kd.C_below HRa2.out B3.out) HCa2.out).mono ?_
  rintro e w4 ⟨v, rfl, ho, hb⟩
  have B4 := Aside0.mk (below_step B3.out hb)
  have z4 := hb.size
  obtain ⟨At2_0_4, ct2_0_4, rfl⟩ := Kd.R_slice ho
  have Ft2_0_4 := Aside0.mk (ivR (w := w) ho (by omega))
  clear ho
  have Ft0_0_4 := Aside0.mk (Kd.S_below Ft0_0_3.out hb)
  clear Ft0_0_3
  have Ft1_0_4 := Aside0.mk (Kd.R_below Ft1_0_3.out hb)
  clear Ft1_0_3
  clear hb
  go_wp2_with fail
  refine (OwnIsBestPit.own_spec At0_0_2 ct0_0_2 a0 At1_0_3 ct1_0_3 a1 At2_0_4 ct2_0_4 a2 g0 g1 w4 (readsS Ft0_0_4.out).2.2 (readsS Ft0_0_4.out).2.1 (readsR Ft1_0_4.out).2.2 (readsR Ft1_0_4.out).2.1 (readsR Ft2_0_4.out).2.2 (readsR Ft2_0_4.out).2.1 HLa0.out HBa0.out HLa1.out HLa2.out Hs.out).mono ?_
  rintro e w5 ⟨rfl, hb⟩
  have B5 := Aside0.mk (below_step B4.out hb)
  have z5 := hb.size
  have Ft0_0_5 := Aside0.mk (Kd.S_below Ft0_0_4.out hb)
  clear Ft0_0_4
  have Ft1_0_5 := Aside0.mk (Kd.R_below Ft1_0_4.out hb)
  clear Ft1_0_4
  have Ft2_0_5 := Aside0.mk (Kd.R_below Ft2_0_4.out hb)
  clear Ft2_0_4
  clear hb
  go_wp2_with fail
  refine (toIntSS_calls a0 HLa0.out HBa0.out Aa0 ca0 w5 (Kd.C_below HRa0.out B5.out) HCa0.out).mono ?_
  rintro e w6 ⟨v, rfl, ho, hb⟩
  have B6 := Aside0.mk (below_step B5.out hb)
  have z6 := hb.size
  obtain ⟨Ax0_0_6, cx0_0_6, rfl⟩ := Kd.S_slice ho
  have Fx0_0_6 := Aside0.mk (ivS (w := w) ho (by omega))
  clear ho
  clear hb
  go_wp2_with fail
  refine (toIntS_calls a1 (by have := HLa1.out; omega) Aa1 ca1 w6 (Kd.C_below HRa1.out B6.out) HCa1.out).mono ?_
  rintro e w7 ⟨v, rfl, ho, hb⟩
  have B7 := Aside0.mk (below_step B6.out hb)
  have z7 := hb.size
  obtain ⟨Ax1_0_7, cx1_0_7, rfl⟩ := Kd.R_slice ho
  have Fx1_0_7 := Aside0.mk (ivR (w := w) ho (by omega))
  clear ho
  have Fx0_0_7 := Aside0.mk (Kd.S_below Fx0_0_6.out hb)
  clear Fx0_0_6
  clear hb
  go_wp2_with fail
  refine (toIntS_calls a2 (by have := HLa2.out; omega) Aa2 ca2 w7 (Kd.C_below HRa2.out B7.out) HCa2.out).mono ?_
  rintro e w8 ⟨v, rfl, ho, hb⟩
  have B8 := Aside0.mk (below_step B7.out hb)
  have z8 := hb.size
  obtain ⟨Ax2_0_8, cx2_0_8, rfl⟩ := Kd.R_slice ho
  have Fx2_0_8 := Aside0.mk (ivR (w := w) ho (by omega))
  clear ho
  have Fx0_0_8 := Aside0.mk (Kd.S_below Fx0_0_7.out hb)
  clear Fx0_0_7
  have Fx1_0_8 := Aside0.mk (Kd.R_below Fx1_0_7.out hb)
  clear Fx1_0_7
  clear hb
  go_wp2_with fail
  refine (OwnIsBestPit.own_impl Ax0_0_6 cx0_0_6 a0 Ax1_0_7 cx1_0_7 a1 Ax2_0_8 cx2_0_8 a2 g0 g1 w8 (readsS Fx0_0_8.out).2.2 (readsS Fx0_0_8.out).2.1 (readsR Fx1_0_8.out).2.2 (readsR Fx1_0_8.out).2.1 (readsR Fx2_0_8.out).2.2 (readsR Fx2_0_8.out).2.1 HLa0.out HBa0.out HLa1.out HLa2.out Hi.out).mono ?_
  rintro e w9 ⟨rfl, hb⟩
  have B9 := Aside0.mk (below_step B8.out hb)
  have z9 := hb.size
  have Fx0_0_9 := Aside0.mk (Kd.S_below Fx0_0_8.out hb)
  clear Fx0_0_8
  have Fx1_0_9 := Aside0.mk (Kd.R_below Fx1_0_8.out hb)
  clear Fx1_0_8
  have Fx2_0_9 := Aside0.mk (Kd.R_below Fx2_0_8.out hb)
  clear Fx2_0_8
  clear hb
  go_wp2_with fail
  refine (toIntSS_calls a0 HLa0.out HBa0.out Aa0 ca0 w9 (Kd.C_below HRa0.out B9.out) HCa0.out).mono ?_
  rintro e w10 ⟨v, rfl, ho, hb⟩
  have B10 := Aside0.mk (below_step B9.out hb)
  have z10 := hb.size
  obtain ⟨Au_0_10, cu_0_10, rfl⟩ := Kd.S_slice ho
  have Fu_0_10 := Aside0.mk (ivS (w := w) ho (by omega))
  clear ho
  have Fx0_0_10 := Aside0.mk (Kd.S_below Fx0_0_9.out hb)
  clear Fx0_0_9
  have Fx1_0_10 := Aside0.mk (Kd.R_below Fx1_0_9.out hb)
  clear Fx1_0_9
  have Fx2_0_10 := Aside0.mk (Kd.R_below Fx2_0_9.out hb)
  clear Fx2_0_9
  clear hb
  go_wp2_with fail
  refine (eqIntSS_calls a0 (maxLen_val (by have := HLa0.out; omega)) (fun x hx => maxLen_val (by have := HBa0.out x hx; omega)) Ax0_0_6 Au_0_10 cx0_0_6 cu_0_10 w10 (readsS Fx0_0_10.out).2.2 (readsS Fx0_0_10.out).2.1 (readsS Fu_0_10.out).2.2 (readsS Fu_0_10.out).2.1).mono ?_
  rintro e w11 ⟨rfl, hb⟩
  have B11 := Aside0.mk (below_step B10.out hb)
  have z11 := hb.size
  have Fx0_0_11 := Aside0.mk (Kd.S_below Fx0_0_10.out hb)
  clear Fx0_0_10
  have Fx1_0_11 := Aside0.mk (Kd.R_below Fx1_0_10.out hb)
  clear Fx1_0_10
  have Fx2_0_11 := Aside0.mk (Kd.R_below Fx2_0_10.out hb)
  clear Fx2_0_10
  have Fu_0_11 := Aside0.mk (Kd.S_below Fu_0_10.out hb)
  clear Fu_0_10
  clear hb
  go_wp2_with fail
  refine (toIntS_calls a1 (by have := HLa1.out; omega) Aa1 ca1 w11 (Kd.C_below HRa1.out B11.out) HCa1.out).mono ?_
  rintro e w12 ⟨v, rfl, ho, hb⟩
  have B12 := Aside0.mk (below_step B11.out hb)
  have z12 := hb.size
  obtain ⟨Au_0_12, cu_0_12, rfl⟩ := Kd.R_slice ho
  have Fu_0_12 := Aside0.mk (ivR (w := w) ho (by omega))
  clear ho
  have Fx0_0_12 := Aside0.mk (Kd.S_below Fx0_0_11.out hb)
  clear Fx0_0_11
  have Fx1_0_12 := Aside0.mk (Kd.R_below Fx1_0_11.out hb)
  clear Fx1_0_11
  have Fx2_0_12 := Aside0.mk (Kd.R_below Fx2_0_11.out hb)
  clear Fx2_0_11
  clear hb
  go_wp2_with fail
  refine (eqIntS_calls a1 (maxLen_val (by have := HLa1.out; omega)) Ax1_0_7 Au_0_12 cx1_0_7 cu_0_12 w12 (readsR Fx1_0_12.out).2.2 (readsR Fx1_0_12.out).2.1 (readsR Fu_0_12.out).2.2 (readsR Fu_0_12.out).2.1).mono ?_
  rintro e w13 ⟨rfl, hb⟩
  have B13 := Aside0.mk (below_step B12.out hb)
  have z13 := hb.size
  have Fx0_0_13 := Aside0.mk (Kd.S_below Fx0_0_12.out hb)
  clear Fx0_0_12
  have Fx1_0_13 := Aside0.mk (Kd.R_below Fx1_0_12.out hb)
  clear Fx1_0_12
  have Fx2_0_13 := Aside0.mk (Kd.R_below Fx2_0_12.out hb)
  clear Fx2_0_12
  have Fu_0_13 := Aside0.mk (Kd.R_below Fu_0_12.out hb)
  clear Fu_0_12
  clear hb
  go_wp2_with fail
  refine (toIntS_calls a2 (by have := HLa2.out; omega) Aa2 ca2 w13 (Kd.C_below HRa2.out B13.out) HCa2.out).mono ?_
  rintro e w14 ⟨v, rfl, ho, hb⟩
  have B14 := Aside0.mk (below_step B13.out hb)
  have z14 := hb.size
  obtain ⟨Au_0_14, cu_0_14, rfl⟩ := Kd.R_slice ho
  have Fu_0_14 := Aside0.mk (ivR (w := w) ho (by omega))
  clear ho
  have Fx0_0_14 := Aside0.mk (Kd.S_below Fx0_0_13.out hb)
  clear Fx0_0_13
  have Fx1_0_14 := Aside0.mk (Kd.R_below Fx1_0_13.out hb)
  clear Fx1_0_13
  have Fx2_0_14 := Aside0.mk (Kd.R_below Fx2_0_13.out hb)
  clear Fx2_0_13
  clear hb
  go_wp2_with fail
  refine (eqIntS_calls a2 (maxLen_val (by have := HLa2.out; omega)) Ax2_0_8 Au_0_14 cx2_0_8 cu_0_14 w14 (readsR Fx2_0_14.out).2.2 (readsR Fx2_0_14.out).2.1 (readsR Fu_0_14.out).2.2 (readsR Fu_0_14.out).2.1).mono ?_
  rintro e w15 ⟨rfl, hb⟩
  have B15 := Aside0.mk (below_step B14.out hb)
  have z15 := hb.size
  have Fx0_0_15 := Aside0.mk (Kd.S_below Fx0_0_14.out hb)
  clear Fx0_0_14
  have Fx1_0_15 := Aside0.mk (Kd.R_below Fx1_0_14.out hb)
  clear Fx1_0_14
  have Fx2_0_15 := Aside0.mk (Kd.R_below Fx2_0_14.out hb)
  clear Fx2_0_14
  have Fu_0_15 := Aside0.mk (Kd.R_below Fu_0_14.out hb)
  clear Fu_0_14
  clear hb
  go_wp2_with fail
  go_ret
  exact ⟨rfl, B15.out⟩
set_option maxRecDepth 100000 in
theorem walk_len0 (a0 : List (List Int)) (a1 : List Int) (a2 : List Int) (Aa0 : Option Addr) (ca0 : Nat) (Aa1 : Option Addr) (ca1 : Nat) (Aa2 : Option Addr) (ca2 : Nat) (w : World) (hra0 : Kd.C kSS w Aa0 a0.length a0) (hca0 : a0.length ≤ ca0) (hra1 : Kd.C (Kd.int .i64) w Aa1 a1.length a1) (hca1 : a1.length ≤ ca1) (hra2 : Kd.C (Kd.int .i64) w Aa2 a2.length a2) (hca2 : a2.length ≤ ca2)  (h : ¬ a1.length ≤ 1048576) : Calls Try.prog 12 #[.slice Aa0 a0.length ca0, .slice Aa1 a1.length ca1, .slice Aa2 a2.length ca2] w fun e w' => e = .returned (.bool true) ∧ Below w.heap.size w w' := by
  have xx : decide (1048576 < (a1.length : Int)) = true := decide_eq_true (by omega)
  have yy : decide (1048576 < a1.length) = true := decide_eq_true (by omega)
  clear h  hra0 hca0 hra1 hca1 hra2 hca2
  go_enter Try.func12, Try.ntmps12
  go_wp2
  go_ret
  exact ⟨rfl, Below.refl _ _⟩
set_option maxRecDepth 100000 in
theorem walk_len1 (a0 : List (List Int)) (a1 : List Int) (a2 : List Int) (Aa0 : Option Addr) (ca0 : Nat) (Aa1 : Option Addr) (ca1 : Nat) (Aa2 : Option Addr) (ca2 : Nat) (w : World) (hra0 : Kd.C kSS w Aa0 a0.length a0) (hca0 : a0.length ≤ ca0) (hra1 : Kd.C (Kd.int .i64) w Aa1 a1.length a1) (hca1 : a1.length ≤ ca1) (hra2 : Kd.C (Kd.int .i64) w Aa2 a2.length a2) (hca2 : a2.length ≤ ca2) (h0 : a1.length ≤ 1048576) (h : ¬ a2.length ≤ 1048576) : Calls Try.prog 12 #[.slice Aa0 a0.length ca0, .slice Aa1 a1.length ca1, .slice Aa2 a2.length ca2] w fun e w' => e = .returned (.bool true) ∧ Below w.heap.size w w' := by
  have x0 : decide (1048576 < (a1.length : Int)) = false := decide_eq_false (by omega)
  have y0 : decide (1048576 < a1.length) = false := decide_eq_false (by omega)
  have xx : decide (1048576 < (a2.length : Int)) = true := decide_eq_true (by omega)
  have yy : decide (1048576 < a2.length) = true := decide_eq_true (by omega)
  clear h h0 hra0 hca0 hra1 hca1 hra2 hca2
  go_enter Try.func12, Try.ntmps12
  go_wp2
  go_ret
  exact ⟨rfl, Below.refl _ _⟩
set_option maxRecDepth 100000 in
theorem walk_neg0 (a0 : List (List Int)) (a1 : List Int) (a2 : List Int) (Aa0 : Option Addr) (ca0 : Nat) (Aa1 : Option Addr) (ca1 : Nat) (Aa2 : Option Addr) (ca2 : Nat) (w : World) (hra0 : Kd.C kSS w Aa0 a0.length a0) (hca0 : a0.length ≤ ca0) (hra1 : Kd.C (Kd.int .i64) w Aa1 a1.length a1) (hca1 : a1.length ≤ ca1) (hra2 : Kd.C (Kd.int .i64) w Aa2 a2.length a2) (hca2 : a2.length ≤ ca2) (h0 : a1.length ≤ 1048576) (h1 : a2.length ≤ 1048576) (r0 : Int) (hsz0 : ∀ (Aa0 : Option Addr) (ca0 : Nat) (w : World), Kd.C kSS w Aa0 a0.length a0 → a0.length ≤ ca0 → Calls Try.prog 32 #[.slice Aa0 a0.length ca0, .int .i64 1048576] w fun e w' => e = .returned (.int .i64 r0) ∧ Below w.heap.size w w') (hlt0 : r0 < 0) : Calls Try.prog 12 #[.slice Aa0 a0.length ca0, .slice Aa1 a1.length ca1, .slice Aa2 a2.length ca2] w fun e w' => e = .returned (.bool true) ∧ Below w.heap.size w w' := by
  have x0 : decide (1048576 < (a1.length : Int)) = false := decide_eq_false (by omega)
  have x1 : decide (1048576 < (a2.length : Int)) = false := decide_eq_false (by omega)
  have y0 : decide (1048576 < a1.length) = false := decide_eq_false (by omega)
  have y1 : decide (1048576 < a2.length) = false := decide_eq_false (by omega)
  have HRa0 := Aside0.mk hra0
  have HRa1 := Aside0.mk hra1
  have HRa2 := Aside0.mk hra2
  have HCa0 := Aside0.mk hca0
  have HCa1 := Aside0.mk hca1
  have HCa2 := Aside0.mk hca2
  have HSZ0 := Aside0.mk hsz0
  have d0 : decide (r0 < 0) = true := decide_eq_true hlt0
  clear hsz0 hlt0 h0 h1 hra0 hca0 hra1 hca1 hra2 hca2
  go_enter Try.func12, Try.ntmps12
  go_wp2_with fail
  refine (HSZ0.out Aa0 ca0 w HRa0.out HCa0.out).mono ?_
  rintro e w1 ⟨rfl, hb⟩
  have B1 := Aside0.mk hb
  clear hb
  go_wp2_with fail
  go_ret
  exact ⟨rfl, B1.out⟩
theorem law (a0 : List (List Int)) (a1 : List Int) (a2 : List Int) (ha0 : a0.length ≤ maxLen) (ga0 : ∀ x ∈ a0, x.length ≤ maxLen ∧ ∀ y0 ∈ x, (Lit.int .i64 y0).wf = true) (ha1 : a1.length ≤ maxLen) (sa1 : a1.length * 8 ≤ 140737488351232) (ga1 : ∀ x ∈ a1, (Lit.int .i64 x).wf = true) (ha2 : a2.length ≤ maxLen) (sa2 : a2.length * 8 ≤ 140737488351232) (ga2 : ∀ x ∈ a2, (Lit.int .i64 x).wf = true) (Aa0 : Option Addr) (ca0 : Nat) (Aa1 : Option Addr) (ca1 : Nat) (Aa2 : Option Addr) (ca2 : Nat) (w : World) (hra0 : Kd.C kSS w Aa0 a0.length a0) (hca0 : a0.length ≤ ca0) (hra1 : Kd.C (Kd.int .i64) w Aa1 a1.length a1) (hca1 : a1.length ≤ ca1) (hra2 : Kd.C (Kd.int .i64) w Aa2 a2.length a2) (hca2 : a2.length ≤ ca2) : Calls Try.prog 12 #[.slice Aa0 a0.length ca0, .slice Aa1 a1.length ca1, .slice Aa2 a2.length ca2] w fun e w' => e = .returned (.bool true) ∧ Below w.heap.size w w' := by
  by_cases q0 : a1.length ≤ 1048576
  rotate_left
  · exact walk_len0 a0 a1 a2 Aa0 ca0 Aa1 ca1 Aa2 ca2 w hra0 hca0 hra1 hca1 hra2 hca2  q0
  by_cases q1 : a2.length ≤ 1048576
  rotate_left
  · exact walk_len1 a0 a1 a2 Aa0 ca0 Aa1 ca1 Aa2 ca2 w hra0 hca0 hra1 hca1 hra2 hca2 q0 q1
  obtain ⟨r0, hz, hsz0⟩ := szIntSS_calls a0 ha0 (fun x hx => (ga0 x hx).1)
  by_cases hlt0 : r0 < 0
  · exact walk_neg0 a0 a1 a2 Aa0 ca0 Aa1 ca1 Aa2 ca2 w hra0 hca0 hra1 hca1 hra2 hca2 q0 q1 r0 hsz0 hlt0
  obtain ⟨l1a0, l2a0⟩ := hz (by omega)
  obtain ⟨⟨g0, g1⟩, hs, hi⟩ := both a0 a1 a2 l1a0 l2a0 q0 q1
  exact walk a0 a1 a2 Aa0 ca0 Aa1 ca1 Aa2 ca2 w hra0 hca0 hra1 hca1 hra2 hca2 r0 hsz0 hlt0  g0 g1 l1a0 l2a0 q0 q1  hs hi
end Go.Proofs.Ytogjpimhlkinkaa.WalkFnExactIsBestPit
