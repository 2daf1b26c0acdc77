/- The law FnExactFreeBlocks, walked by hand over its callees' contracts: for every input it returns true. -/
import Derived.Test.YtogjpimhlkinkaaCom
import Derived.Test.YtogjpimhlkinkaaOwnFreeBlocks
namespace Go.Proofs.Ytogjpimhlkinkaa.WalkFnExactFreeBlocks
open Go.RowKit Go.Proofs.Ytogjpimhlkinkaa.PFnExactLargestPit Go.Proofs.YtogjpimhlkinkaaW.PrintWords Go.Proofs.YtogjpimhlkinkaaW.PrintLast Go.Proofs.YtogjpimhlkinkaaW.PrintMore Go.Proofs.Ytogjpimhlkinkaa.B Go.Proofs.Ytogjpimhlkinkaa.Com Go.Proofs.Ytogjpimhlkinkaa.OwnFreeBlocks
set_option linter.unusedVariables false
set_option linter.unusedSimpArgs false
def Zn (W W' : World) (u : Value) (k : Nat) : Prop := Btw W W' k ∧ some k = u.ownBlock
/- hand.FnExactFreeBlocks -/
theorem both (a : List (List Int)) (v : List Int) (la : a.length ≤ 1048576) (lb : ∀ x ∈ a, x.length ≤ 1048576) (lv : v.length ≤ 1048576) : ∃ r : List Int × Bool, OwnFreeBlocks.freeR a v r ∧ OwnFreeBlocks.freeR a v r ∧ r.1.length ≤ 1048576 := by
  unfold OwnFreeBlocks.freeR
  by_cases h : PitBest.valuedB a v = true
  · obtain ⟨x, y, b, hP⟩ := OwnPitC.pits_end h
    refine ⟨(B.listOf (OwnFreeBlocks.freeB a x b), true), by rw [if_pos h]; exact ⟨x, y, b, hP, rfl⟩, by rw [if_pos h]; exact ⟨x, y, b, hP, rfl⟩, ?_⟩
    exact Nat.le_trans (OwnFreeBlocks.free_len a x b) la
  · exact ⟨([], false), by rw [if_neg h], by rw [if_neg h], Nat.zero_le _⟩

set_option maxHeartbeats 4000000 in
set_option maxRecDepth 100000 in
theorem walk (a0 : List (List Int)) (a1 : List Int) (Aa0 : Option Addr) (ca0 : Nat) (Aa1 : Option Addr) (ca1 : Nat) (w : World) (hra0 : Kd.C kSS w Aa0 a0.length a0) (hca0 : a0.length ≤ ca0) (hra1 : Kd.C (Kd.int .i64) w Aa1 a1.length a1) (hca1 : a1.length ≤ ca1) (r0 : Int) (hsz0 : ∀ (Aa0 : Option Addr) (ca0 : Nat) (w : World), Kd.C kSS w Aa0 a0.length a0 → a0.length ≤ ca0 → Calls Try.prog 32 #[.slice Aa0 a0.length ca0, .int .i64 1048576] w fun e w' => e = .returned (.int .i64 r0) ∧ Below w.heap.size w w') (hlt0 : ¬ r0 < 0)  (g0 : List Int) (g1 : Bool) (hla0 : a0.length ≤ 1048576) (hba0 : ∀ x ∈ a0, x.length ≤ 1048576) (hla1 : a1.length ≤ 1048576) (hlg0 : g0.length ≤ 1048576) (hs : freeR a0 a1 (g0, g1)) (hi : freeR a0 a1 (g0, g1)) :
    Calls Try.prog 11 #[.slice Aa0 a0.length ca0, .slice Aa1 a1.length ca1] w fun e w' => e = .returned (.bool true) ∧ Below w.heap.size w w' := by
  have Hs := Aside0.mk hs
  have Hi := Aside0.mk hi
  have HRa0 := Aside0.mk hra0
  have HCa0 := Aside0.mk hca0
  have HLa0 := Aside0.mk hla0
  have HBa0 := Aside0.mk hba0
  have HRa1 := Aside0.mk hra1
  have HCa1 := Aside0.mk hca1
  have HLa1 := Aside0.mk hla1
  have xa1 : decide (1048576 < (a1.length : Int)) = false := decide_eq_false (by omega)
  have ya1 : decide (1048576 < a1.length) = false := decide_eq_false (by omega)
  have HLg0 := Aside0.mk hlg0
  have HSZ0 := Aside0.mk hsz0
  have d0 : decide (r0 < 0) = false := decide_eq_false hlt0
  clear hs hi hra0 hca0 hla0 hba0 hra1 hca1 hla1 hlg0 hsz0 hlt0
  go_enter Try.func11, Try.ntmps11
  go_wp2_with fail
  refine (HSZ0.out Aa0 ca0 w HRa0.out HCa0.out).mono ?_
  rintro e w1 ⟨rfl, hb⟩
  have B1 := Aside0.mk hb
  have z1 := hb.size
  clear hb
  go_wp2_with fail
  refine (toIntSS_calls a0 HLa0.out HBa0.out Aa0 ca0 w1 (Kd.C_below HRa0.out B1.out) HCa0.out).mono ?_
  rintro e w2 ⟨v, rfl, ho, hb⟩
  have B2 := Aside0.mk (below_step B1.out hb)
  have z2 := hb.size
  obtain ⟨At0_0_2, ct0_0_2, rfl⟩ := Kd.S_slice ho
  have Ft0_0_2 := Aside0.mk (ivS (w := w) ho (by omega))
  clear ho
  clear hb
  go_wp2_with fail
  refine (toIntS_calls a1 (by have := HLa1.out; omega) Aa1 ca1 w2 (Kd.C_below HRa1.out B2.out) HCa1.out).mono ?_
  rintro e w3 ⟨v, rfl, ho, hb⟩
  have B3 := Aside0.mk (below_step B2.out hb)
  have z3 := hb.size
  obtain ⟨At1_0_3, ct1_0_3, rfl⟩ := Kd.R_slice ho
  have Ft1_0_3 := Aside0.mk (ivR (w := w) ho (by omega))
  clear ho
  have Ft0_0_3 := Aside0.mk (Kd.S_below Ft0_0_2.out hb)
  clear Ft0_0_2
  clear hb
  go_wp2_with fail
  refine (OwnFreeBlocks.own_spec At0_0_2 ct0_0_2 a0 At1_0_3 ct1_0_3 a1 g0 g1 w3 (readsS Ft0_0_3.out).2.2 (readsS Ft0_0_3.out).2.1 (readsR Ft1_0_3.out).2.2 (readsR Ft1_0_3.out).2.1 HLa0.out HBa0.out HLa1.out Hs.out).mono ?_
  rintro e w4 ⟨v, rfl, ho, hb⟩
  have ho := Kd.R_mono ho (ok' := fun _ => True) (fun _ _ => trivial)
  have B4 := Aside0.mk (below_step B3.out hb)
  have z4 := hb.size
  obtain ⟨Aw0_0_4, cw0_0_4, rfl⟩ := Kd.R_slice ho
  have Fw0_0_4 := Aside0.mk (ivR (w := w) ho (by omega))
  clear ho
  have Ft0_0_4 := Aside0.mk (Kd.S_below Ft0_0_3.out hb)
  clear Ft0_0_3
  have Ft1_0_4 := Aside0.mk (Kd.R_below Ft1_0_3.out hb)
  clear Ft1_0_3
  clear hb
  go_wp2_with fail
  refine (toIntSS_calls a0 HLa0.out HBa0.out Aa0 ca0 w4 (Kd.C_below HRa0.out B4.out) HCa0.out).mono ?_
  rintro e w5 ⟨v, rfl, ho, hb⟩
  have B5 := Aside0.mk (below_step B4.out hb)
  have z5 := hb.size
  obtain ⟨Ax0_0_5, cx0_0_5, rfl⟩ := Kd.S_slice ho
  have Fx0_0_5 := Aside0.mk (ivS (w := w) ho (by omega))
  clear ho
  have Fw0_0_5 := Aside0.mk (Kd.R_below Fw0_0_4.out hb)
  clear Fw0_0_4
  clear hb
  go_wp2_with fail
  refine (toIntS_calls a1 (by have := HLa1.out; omega) Aa1 ca1 w5 (Kd.C_below HRa1.out B5.out) HCa1.out).mono ?_
  rintro e w6 ⟨v, rfl, ho, hb⟩
  have B6 := Aside0.mk (below_step B5.out hb)
  have z6 := hb.size
  obtain ⟨Ax1_0_6, cx1_0_6, rfl⟩ := Kd.R_slice ho
  have Fx1_0_6 := Aside0.mk (ivR (w := w) ho (by omega))
  clear ho
  have Fw0_0_6 := Aside0.mk (Kd.R_below Fw0_0_5.out hb)
  clear Fw0_0_5
  have Fx0_0_6 := Aside0.mk (Kd.S_below Fx0_0_5.out hb)
  clear Fx0_0_5
  clear hb
  go_wp2_with fail
  refine (OwnFreeBlocks.own_impl Ax0_0_5 cx0_0_5 a0 Ax1_0_6 cx1_0_6 a1 g0 g1 w6 (readsS Fx0_0_6.out).2.2 (readsS Fx0_0_6.out).2.1 (readsR Fx1_0_6.out).2.2 (readsR Fx1_0_6.out).2.1 HLa0.out HBa0.out HLa1.out Hi.out).mono ?_
  rintro e w7 ⟨v, rfl, ho, hb⟩
  have ho := Kd.R_mono ho (ok' := fun _ => True) (fun _ _ => trivial)
  have B7 := Aside0.mk (below_step B6.out hb)
  have z7 := hb.size
  obtain ⟨Ag0_0_7, cg0_0_7, rfl⟩ := Kd.R_slice ho
  have Fg0_0_7 := Aside0.mk (ivR (w := w) ho (by omega))
  clear ho
  have Fw0_0_7 := Aside0.mk (Kd.R_below Fw0_0_6.out hb)
  clear Fw0_0_6
  have Fx0_0_7 := Aside0.mk (Kd.S_below Fx0_0_6.out hb)
  clear Fx0_0_6
  have Fx1_0_7 := Aside0.mk (Kd.R_below Fx1_0_6.out hb)
  clear Fx1_0_6
  clear hb
  go_wp2_with fail
  refine (eqIntS_calls g0 (maxLen_val (by have := HLg0.out; omega)) Ag0_0_7 Aw0_0_4 cg0_0_7 cw0_0_4 w7 (readsR Fg0_0_7.out).2.2 (readsR Fg0_0_7.out).2.1 (readsR Fw0_0_7.out).2.2 (readsR Fw0_0_7.out).2.1).mono ?_
  rintro e w8 ⟨rfl, hb⟩
  have B8 := Aside0.mk (below_step B7.out hb)
  have z8 := hb.size
  have Fw0_0_8 := Aside0.mk (Kd.R_below Fw0_0_7.out hb)
  clear Fw0_0_7
  have Fx0_0_8 := Aside0.mk (Kd.S_below Fx0_0_7.out hb)
  clear Fx0_0_7
  have Fx1_0_8 := Aside0.mk (Kd.R_below Fx1_0_7.out hb)
  clear Fx1_0_7
  have Fg0_0_8 := Aside0.mk (Kd.R_below Fg0_0_7.out hb)
  clear Fg0_0_7
  clear hb
  go_wp2_with fail
  refine (toIntSS_calls a0 HLa0.out HBa0.out Aa0 ca0 w8 (Kd.C_below HRa0.out B8.out) HCa0.out).mono ?_
  rintro e w9 ⟨v, rfl, ho, hb⟩
  have B9 := Aside0.mk (below_step B8.out hb)
  have z9 := hb.size
  obtain ⟨Au_0_9, cu_0_9, rfl⟩ := Kd.S_slice ho
  have Fu_0_9 := Aside0.mk (ivS (w := w) ho (by omega))
  clear ho
  have Fw0_0_9 := Aside0.mk (Kd.R_below Fw0_0_8.out hb)
  clear Fw0_0_8
  have Fx0_0_9 := Aside0.mk (Kd.S_below Fx0_0_8.out hb)
  clear Fx0_0_8
  have Fx1_0_9 := Aside0.mk (Kd.R_below Fx1_0_8.out hb)
  clear Fx1_0_8
  have Fg0_0_9 := Aside0.mk (Kd.R_below Fg0_0_8.out hb)
  clear Fg0_0_8
  clear hb
  go_wp2_with fail
  refine (eqIntSS_calls a0 (maxLen_val (by have := HLa0.out; omega)) (fun x hx => maxLen_val (by have := HBa0.out x hx; omega)) Ax0_0_5 Au_0_9 cx0_0_5 cu_0_9 w9 (readsS Fx0_0_9.out).2.2 (readsS Fx0_0_9.out).2.1 (readsS Fu_0_9.out).2.2 (readsS Fu_0_9.out).2.1).mono ?_
  rintro e w10 ⟨rfl, hb⟩
  have B10 := Aside0.mk (below_step B9.out hb)
  have z10 := hb.size
  have Fw0_0_10 := Aside0.mk (Kd.R_below Fw0_0_9.out hb)
  clear Fw0_0_9
  have Fx0_0_10 := Aside0.mk (Kd.S_below Fx0_0_9.out hb)
  clear Fx0_0_9
  have Fx1_0_10 := Aside0.mk (Kd.R_below Fx1_0_9.out hb)
  clear Fx1_0_9
  have Fg0_0_10 := Aside0.mk (Kd.R_below Fg0_0_9.out hb)
  clear Fg0_0_9
  have Fu_0_10 := Aside0.mk (Kd.S_below Fu_0_9.out hb)
  clear Fu_0_9
  clear hb
  go_wp2_with fail
  refine (toIntS_calls a1 (by have := HLa1.out; omega) Aa1 ca1 w10 (Kd.C_below HRa1.out B10.out) HCa1.out).mono ?_
  rintro e w11 ⟨v, rfl, ho, hb⟩
  have B11 := Aside0.mk (below_step B10.out hb)
  have z11 := hb.size
  obtain ⟨Au_0_11, cu_0_11, rfl⟩ := Kd.R_slice ho
  have Fu_0_11 := Aside0.mk (ivR (w := w) ho (by omega))
  clear ho
  have Fw0_0_11 := Aside0.mk (Kd.R_below Fw0_0_10.out hb)
  clear Fw0_0_10
  have Fx0_0_11 := Aside0.mk (Kd.S_below Fx0_0_10.out hb)
  clear Fx0_0_10
  have Fx1_0_11 := Aside0.mk (Kd.R_below Fx1_0_10.out hb)
  clear Fx1_0_10
  have Fg0_0_11 := Aside0.mk (Kd.R_below Fg0_0_10.out hb)
  clear Fg0_0_10
  clear hb
  go_wp2_with fail
  refine (eqIntS_calls a1 (maxLen_val (by have := HLa1.out; omega)) Ax1_0_6 Au_0_11 cx1_0_6 cu_0_11 w11 (readsR Fx1_0_11.out).2.2 (readsR Fx1_0_11.out).2.1 (readsR Fu_0_11.out).2.2 (readsR Fu_0_11.out).2.1).mono ?_
  rintro e w12 ⟨rfl, hb⟩
  have B12 := Aside0.mk (below_step B11.out hb)
  have z12 := hb.size
  have Fw0_0_12 := Aside0.mk (Kd.R_below Fw0_0_11.out hb)
  clear Fw0_0_11
  have Fx0_0_12 := Aside0.mk (Kd.S_below Fx0_0_11.out hb)
  clear Fx0_0_11
  have Fx1_0_12 := Aside0.mk (Kd.R_below Fx1_0_11.out hb)
  clear Fx1_0_11
  have Fg0_0_12 := Aside0.mk (Kd.R_below Fg0_0_11.out hb)
  clear Fg0_0_11
  have Fu_0_12 := Aside0.mk (Kd.R_below Fu_0_11.out hb)
  clear Fu_0_11
  clear hb
  go_wp2_with fail
  refine (markIntSS_calls a0 HLa0.out HBa0.out 1 (by omega) (by have := HLa0.out; omega) (Btw w4 w5) (.slice Ax0_0_5 a0.length cx0_0_5) w w12 B12.out Fx0_0_12.out).mono ?_
  rintro e w13 ⟨rfl, ho, hb, hk⟩
  have z13 := hk.1
  have B13 := Aside0.mk hb
  have Fw0_0_13 := Aside0.mk (Kd.R_kept Fw0_0_12.out hk (apart (by omega)))
  clear Fw0_0_12
  have Fx1_0_13 := Aside0.mk (Kd.R_kept Fx1_0_12.out hk (apart (by omega)))
  clear Fx1_0_12
  have Fg0_0_13 := Aside0.mk (Kd.R_kept Fg0_0_12.out hk (apart (by omega)))
  clear Fg0_0_12
  have hbd := markAll_bd 1 a0 HBa0.out a0.length
  have hll := HLa0.out
  obtain ⟨m13, em13⟩ : ∃ z : Int, z = (markAll 1 a0 a0.length).1 := ⟨_, rfl⟩
  rw [← em13] at hbd ⊢
  have lm13 : 0 ≤ m13 ∧ m13 ≤ 1099511627777 := by omega
  have dm13 : decide (m13 < 0) = false := decide_eq_false (by omega)
  have Em13 := Aside0.mk em13
  have Lm13 := Aside0.mk lm13
  clear Fx0_0_12
  clear hb hk ho hll hbd em13 lm13
  go_wp2_with fail
  have lk := Lm13.out
  refine (markIntS_calls a1 (by have := HLa1.out; omega) m13 (by omega) (Btw w5 w6) (.slice Ax1_0_6 a1.length cx1_0_6) w w13 B13.out Fx1_0_13.out).mono ?_
  rintro e w14 ⟨rfl, ho, hb, hk⟩
  have z14 := hk.1
  have B14 := Aside0.mk hb
  have Fw0_0_14 := Aside0.mk (Kd.R_kept Fw0_0_13.out hk (apart (by omega)))
  clear Fw0_0_13
  have Fg0_0_14 := Aside0.mk (Kd.R_kept Fg0_0_13.out hk (apart (by omega)))
  clear Fg0_0_13
  have hll := HLa1.out
  obtain ⟨m14, em14⟩ : ∃ z : Int, z = m13 + (a1.length : Int) := ⟨_, rfl⟩
  rw [← em14]
  have lm14 : 0 ≤ m14 ∧ m14 ≤ 1099520016385 := by omega
  have dm14 : decide (m14 < 0) = false := decide_eq_false (by omega)
  have Em14 := Aside0.mk em14
  have Lm14 := Aside0.mk lm14
  clear Fx1_0_13
  clear hb hk ho hll em14 lm14 lk
  go_wp2_with fail
  refine (eqIntS_calls g0 (maxLen_val (by have := HLg0.out; omega)) Ag0_0_7 Aw0_0_4 cg0_0_7 cw0_0_4 w14 (readsR Fg0_0_14.out).2.2 (readsR Fg0_0_14.out).2.1 (readsR Fw0_0_14.out).2.2 (readsR Fw0_0_14.out).2.1).mono ?_
  rintro e w15 ⟨rfl, hb⟩
  have B15 := Aside0.mk (below_step B14.out hb)
  have z15 := hb.size
  have Fw0_0_15 := Aside0.mk (Kd.R_below Fw0_0_14.out hb)
  clear Fw0_0_14
  have Fg0_0_15 := Aside0.mk (Kd.R_below Fg0_0_14.out hb)
  clear Fg0_0_14
  clear hb
  go_wp2_with fail
  refine (markIntS_calls g0 (by have := HLg0.out; omega) 1 (by omega) (Btw w6 w7) (.slice Ag0_0_7 g0.length cg0_0_7) w w15 B15.out Fg0_0_15.out).mono ?_
  rintro e w16 ⟨rfl, ho, hb, hk⟩
  have z16 := hk.1
  have B16 := Aside0.mk hb
  have Fw0_0_16 := Aside0.mk (Kd.R_kept Fw0_0_15.out hk (apart (by omega)))
  clear Fw0_0_15
  have hll := HLg0.out
  obtain ⟨m16, em16⟩ : ∃ z : Int, z = 1 + (g0.length : Int) := ⟨_, rfl⟩
  rw [← em16]
  have lm16 : 0 ≤ m16 ∧ m16 ≤ 8388609 := by omega
  have dm16 : decide (m16 < 0) = false := decide_eq_false (by omega)
  have Em16 := Aside0.mk em16
  have Lm16 := Aside0.mk lm16
  have Fg0_0_16 := Aside0.mk ho
  clear Fg0_0_15
  clear hb hk ho hll em16 lm16
  go_wp2_with fail
  refine (heldIntS_calls g0.length (by have := HLg0.out; omega) 1 (by omega) Ag0_0_7 cg0_0_7 w16 (by have h := (readsR Fg0_0_16.out).2.2; rwa [Com.markRow_len] at h) (by have h := (readsR Fg0_0_16.out).2.1; rwa [Com.markRow_len] at h)).mono ?_
  rintro e w17 ⟨rfl, hb⟩
  have B17 := Aside0.mk (below_step B16.out hb)
  have z17 := hb.size
  have Fw0_0_17 := Aside0.mk (Kd.R_below Fw0_0_16.out hb)
  clear Fw0_0_16
  have Fg0_0_17 := Aside0.mk (Kd.R_below Fg0_0_16.out hb)
  clear Fg0_0_16
  rw [← Em16.out]
  clear hb
  go_wp2_with fail
  refine (toIntSS_calls a0 HLa0.out HBa0.out Aa0 ca0 w17 (Kd.C_below HRa0.out B17.out) HCa0.out).mono ?_
  rintro e w18 ⟨v, rfl, ho, hb⟩
  have B18 := Aside0.mk (below_step B17.out hb)
  have z18 := hb.size
  obtain ⟨At0_0_18, ct0_0_18, rfl⟩ := Kd.S_slice ho
  have Ft0_0_18 := Aside0.mk (ivS (w := w) ho (by omega))
  clear ho
  have Fw0_0_18 := Aside0.mk (Kd.R_below Fw0_0_17.out hb)
  clear Fw0_0_17
  have Fg0_0_18 := Aside0.mk (Kd.R_below Fg0_0_17.out hb)
  clear Fg0_0_17
  clear hb
  go_wp2_with fail
  refine (toIntS_calls a1 (by have := HLa1.out; omega) Aa1 ca1 w18 (Kd.C_below HRa1.out B18.out) HCa1.out).mono ?_
  rintro e w19 ⟨v, rfl, ho, hb⟩
  have B19 := Aside0.mk (below_step B18.out hb)
  have z19 := hb.size
  obtain ⟨At1_0_19, ct1_0_19, rfl⟩ := Kd.R_slice ho
  have Ft1_0_19 := Aside0.mk (ivR (w := w) ho (by omega))
  clear ho
  have Fw0_0_19 := Aside0.mk (Kd.R_below Fw0_0_18.out hb)
  clear Fw0_0_18
  have Fg0_0_19 := Aside0.mk (Kd.R_below Fg0_0_18.out hb)
  clear Fg0_0_18
  have Ft0_0_19 := Aside0.mk (Kd.S_below Ft0_0_18.out hb)
  clear Ft0_0_18
  clear hb
  go_wp2_with fail
  refine (OwnFreeBlocks.own_impl At0_0_18 ct0_0_18 a0 At1_0_19 ct1_0_19 a1 g0 g1 w19 (readsS Ft0_0_19.out).2.2 (readsS Ft0_0_19.out).2.1 (readsR Ft1_0_19.out).2.2 (readsR Ft1_0_19.out).2.1 HLa0.out HBa0.out HLa1.out Hi.out).mono ?_
  rintro e w20 ⟨v, rfl, ho, hb⟩
  have ho := Kd.R_mono ho (ok' := fun _ => True) (fun _ _ => trivial)
  have B20 := Aside0.mk (below_step B19.out hb)
  have z20 := hb.size
  obtain ⟨Ah0_0_20, ch0_0_20, rfl⟩ := Kd.R_slice ho
  have Fh0_0_20 := Aside0.mk (ivR (w := w) ho (by omega))
  clear ho
  have Fw0_0_20 := Aside0.mk (Kd.R_below Fw0_0_19.out hb)
  clear Fw0_0_19
  have Fg0_0_20 := Aside0.mk (Kd.R_below Fg0_0_19.out hb)
  clear Fg0_0_19
  have Ft0_0_20 := Aside0.mk (Kd.S_below Ft0_0_19.out hb)
  clear Ft0_0_19
  have Ft1_0_20 := Aside0.mk (Kd.R_below Ft1_0_19.out hb)
  clear Ft1_0_19
  clear hb
  go_wp2_with fail
  refine (eqIntS_calls g0 (maxLen_val (by have := HLg0.out; omega)) Ah0_0_20 Aw0_0_4 ch0_0_20 cw0_0_4 w20 (readsR Fh0_0_20.out).2.2 (readsR Fh0_0_20.out).2.1 (readsR Fw0_0_20.out).2.2 (readsR Fw0_0_20.out).2.1).mono ?_
  rintro e w21 ⟨rfl, hb⟩
  have B21 := Aside0.mk (below_step B20.out hb)
  have z21 := hb.size
  have Fw0_0_21 := Aside0.mk (Kd.R_below Fw0_0_20.out hb)
  clear Fw0_0_20
  have Fg0_0_21 := Aside0.mk (Kd.R_below Fg0_0_20.out hb)
  clear Fg0_0_20
  have Fh0_0_21 := Aside0.mk (Kd.R_below Fh0_0_20.out hb)
  clear Fh0_0_20
  clear hb
  go_wp2_with fail
  refine (heldIntS_calls g0.length (by have := HLg0.out; omega) 1 (by omega) Ag0_0_7 cg0_0_7 w21 (by have h := (readsR Fg0_0_21.out).2.2; rwa [Com.markRow_len] at h) (by have h := (readsR Fg0_0_21.out).2.1; rwa [Com.markRow_len] at h)).mono ?_
  rintro e w22 ⟨rfl, hb⟩
  have B22 := Aside0.mk (below_step B21.out hb)
  have z22 := hb.size
  have Fw0_0_22 := Aside0.mk (Kd.R_below Fw0_0_21.out hb)
  clear Fw0_0_21
  have Fg0_0_22 := Aside0.mk (Kd.R_below Fg0_0_21.out hb)
  clear Fg0_0_21
  have Fh0_0_22 := Aside0.mk (Kd.R_below Fh0_0_21.out hb)
  clear Fh0_0_21
  rw [← Em16.out]
  clear hb
  go_wp2_with fail
  go_ret
  exact ⟨rfl, B22.out⟩
set_option maxRecDepth 100000 in
theorem walk_len0 (a0 : List (List Int)) (a1 : List Int) (Aa0 : Option Addr) (ca0 : Nat) (Aa1 : Option Addr) (ca1 : Nat) (w : World) (hra0 : Kd.C kSS w Aa0 a0.length a0) (hca0 : a0.length ≤ ca0) (hra1 : Kd.C (Kd.int .i64) w Aa1 a1.length a1) (hca1 : a1.length ≤ ca1)  (h : ¬ a1.length ≤ 1048576) : Calls Try.prog 11 #[.slice Aa0 a0.length ca0, .slice Aa1 a1.length ca1] w fun e w' => e = .returned (.bool true) ∧ Below w.heap.size w w' := by
  have xx : decide (1048576 < (a1.length : Int)) = true := decide_eq_true (by omega)
  have yy : decide (1048576 < a1.length) = true := decide_eq_true (by omega)
  clear h  hra0 hca0 hra1 hca1
  go_enter Try.func11, Try.ntmps11
  go_wp2
  go_ret
  exact ⟨rfl, Below.refl _ _⟩
set_option maxRecDepth 100000 in
theorem walk_neg0 (a0 : List (List Int)) (a1 : List Int) (Aa0 : Option Addr) (ca0 : Nat) (Aa1 : Option Addr) (ca1 : Nat) (w : World) (hra0 : Kd.C kSS w Aa0 a0.length a0) (hca0 : a0.length ≤ ca0) (hra1 : Kd.C (Kd.int .i64) w Aa1 a1.length a1) (hca1 : a1.length ≤ ca1) (h0 : a1.length ≤ 1048576) (r0 : Int) (hsz0 : ∀ (Aa0 : Option Addr) (ca0 : Nat) (w : World), Kd.C kSS w Aa0 a0.length a0 → a0.length ≤ ca0 → Calls Try.prog 32 #[.slice Aa0 a0.length ca0, .int .i64 1048576] w fun e w' => e = .returned (.int .i64 r0) ∧ Below w.heap.size w w') (hlt0 : r0 < 0) : Calls Try.prog 11 #[.slice Aa0 a0.length ca0, .slice Aa1 a1.length ca1] w fun e w' => e = .returned (.bool true) ∧ Below w.heap.size w w' := by
  have x0 : decide (1048576 < (a1.length : Int)) = false := decide_eq_false (by omega)
  have y0 : decide (1048576 < a1.length) = false := decide_eq_false (by omega)
  have HRa0 := Aside0.mk hra0
  have HRa1 := Aside0.mk hra1
  have HCa0 := Aside0.mk hca0
  have HCa1 := Aside0.mk hca1
  have HSZ0 := Aside0.mk hsz0
  have d0 : decide (r0 < 0) = true := decide_eq_true hlt0
  clear hsz0 hlt0 h0 hra0 hca0 hra1 hca1
  go_enter Try.func11, Try.ntmps11
  go_wp2_with fail
  refine (HSZ0.out Aa0 ca0 w HRa0.out HCa0.out).mono ?_
  rintro e w1 ⟨rfl, hb⟩
  have B1 := Aside0.mk hb
  clear hb
  go_wp2_with fail
  go_ret
  exact ⟨rfl, B1.out⟩
theorem law (a0 : List (List Int)) (a1 : List Int) (ha0 : a0.length ≤ maxLen) (ga0 : ∀ x ∈ a0, x.length ≤ maxLen ∧ ∀ y0 ∈ x, (Lit.int .i64 y0).wf = true) (ha1 : a1.length ≤ maxLen) (sa1 : a1.length * 8 ≤ 140737488351232) (ga1 : ∀ x ∈ a1, (Lit.int .i64 x).wf = true) (Aa0 : Option Addr) (ca0 : Nat) (Aa1 : Option Addr) (ca1 : Nat) (w : World) (hra0 : Kd.C kSS w Aa0 a0.length a0) (hca0 : a0.length ≤ ca0) (hra1 : Kd.C (Kd.int .i64) w Aa1 a1.length a1) (hca1 : a1.length ≤ ca1) : Calls Try.prog 11 #[.slice Aa0 a0.length ca0, .slice Aa1 a1.length ca1] w fun e w' => e = .returned (.bool true) ∧ Below w.heap.size w w' := by
  by_cases q0 : a1.length ≤ 1048576
  rotate_left
  · exact walk_len0 a0 a1 Aa0 ca0 Aa1 ca1 w hra0 hca0 hra1 hca1  q0
  obtain ⟨r0, hz, hsz0⟩ := szIntSS_calls a0 ha0 (fun x hx => (ga0 x hx).1)
  by_cases hlt0 : r0 < 0
  · exact walk_neg0 a0 a1 Aa0 ca0 Aa1 ca1 w hra0 hca0 hra1 hca1 q0 r0 hsz0 hlt0
  obtain ⟨l1a0, l2a0⟩ := hz (by omega)
  obtain ⟨⟨g0, g1⟩, hs, hi, ng0⟩ := both a0 a1 l1a0 l2a0 q0
  exact walk a0 a1 Aa0 ca0 Aa1 ca1 w hra0 hca0 hra1 hca1 r0 hsz0 hlt0  g0 g1 l1a0 l2a0 q0 ng0 hs hi
end Go.Proofs.Ytogjpimhlkinkaa.WalkFnExactFreeBlocks
