/- The contracts of impl.IsBestPit and spec.IsBestPit by hand. -/
-- OWN impl isR %s %s
-- OWN spec isR %s %s
import Derived.Test.YtogjpimhlkinkaaOwnPitC
import Derived.Test.YtogjpimhlkinkaaOwnSums
namespace Go.Proofs.Ytogjpimhlkinkaa.OwnIsBestPit
open Go.RowKit Go.Proofs.Ytogjpimhlkinkaa.PFnExactIsBestPit Go.Proofs.YtogjpimhlkinkaaW.PrintWords Go.Proofs.YtogjpimhlkinkaaW.PrintLast Go.Proofs.YtogjpimhlkinkaaW.PrintMore Go.Proofs.Ytogjpimhlkinkaa.B Go.Proofs.Ytogjpimhlkinkaa.Flow Go.Proofs.Ytogjpimhlkinkaa.OwnPush Go.Proofs.Ytogjpimhlkinkaa.OwnLevels Go.Proofs.Ytogjpimhlkinkaa.OwnRows Go.Proofs.Ytogjpimhlkinkaa.OwnNet Go.Proofs.Ytogjpimhlkinkaa.OwnValue Go.Proofs.Ytogjpimhlkinkaa.OwnFrom Go.Proofs.Ytogjpimhlkinkaa.PitMath Go.Proofs.Ytogjpimhlkinkaa.PitBest Go.Proofs.Ytogjpimhlkinkaa.OwnPitB Go.Proofs.Ytogjpimhlkinkaa.OwnPitS Go.Proofs.Ytogjpimhlkinkaa.OwnPitC
set_option linter.unusedVariables false
set_option linter.unusedSimpArgs false
open Go.Proofs.Ytogjpimhlkinkaa.OwnSums (valueSum_calls vaSum_calls arePits_calls paPit_calls)
def isR (a : List (List Int)) (v : List Int) (p : List Int) (r : Bool × Bool) : Prop := if (valuedB a v && (asc p a.length && isClo a p)) = true then ∃ x b, PitsX a v x b ∧ r = (decide (valSum v p = valSum v (bestL a x)), true) else r = (false, false)
set_option maxHeartbeats 8000000 in
set_option maxRecDepth 100000 in
theorem own_impl (A0 : Option Addr) (c0 : Nat) (a : List (List Int)) (A1 : Option Addr) (c1 : Nat) (v : List Int) (A2 : Option Addr) (c2 : Nat) (p : List Int) (g0 : Bool) (g1 : Bool) (w : World) (h0 : Kd.C kRows w A0 a.length a) (e0 : a.length ≤ c0) (h1 : Kd.C (Kd.int .i64) w A1 v.length v) (e1 : v.length ≤ c1) (h2 : Kd.C (Kd.int .i64) w A2 p.length p) (e2 : p.length ≤ c2) (la : a.length ≤ 1048576) (lb : ∀ x ∈ a, x.length ≤ 1048576) (lv : v.length ≤ 1048576) (lp : p.length ≤ 1048576) (h : isR a v p (g0, g1)) :
    Calls Try.prog 46 #[.slice A0 a.length c0, .slice A1 v.length c1, .slice A2 p.length c2] w fun e w' => e = .returned (.tuple #[.bool g0, .bool g1]) ∧ Below w.heap.size w w' := by
  have hh := h
  unfold isR at hh
  clear h
  obtain ⟨kg, hkg⟩ := (areValued_ev a (maxLen_val (by omega)) (fun x hx => maxLen_val (by have := lb x hx; omega)) v (maxLen_val (by omega))).rounds
  have HKG := Aside0.mk hkg
  clear hkg
  have H0 := Aside0.mk h0
  have E0 := Aside0.mk e0
  have H1 := Aside0.mk h1
  have E1 := Aside0.mk e1
  have H2 := Aside0.mk h2
  have E2 := Aside0.mk e2
  have HLB := Aside0.mk (And.intro (And.intro la lb) (And.intro lv lp))
  clear h0 e0 h1 e1 h2 e2 la lb lv lp
  cases hv_ : valuedB a v with
  | false =>
    have HV := Aside0.mk hv_
    rw [if_neg (by rw [hv_, Bool.false_and]; decide)] at hh
    injection hh with hr0 hr1
    subst hr0 hr1
    clear hv_
    go_enter Try.func46, Try.ntmps46
    go_wp2_with fail
    refine Calls.mono ((impl_areValued.calls kg A0 c0 a A1 c1 v false w H0.out E0.out H1.out E1.out (by rw [← HV.out]; exact HKG.out))) ?_
    rintro e w1 ⟨rfl, hb⟩
    have hb := Go.Proofs.Ytogjpimhlkinkaa.OwnPitB.drawn_below hb
    have B1 := Aside0.mk hb
    clear hb
    go_wp2_with fail
    go_ret2
    exact ⟨rfl, B1.out⟩
  | true =>
    have HV := Aside0.mk hv_
    have HVA := Aside0.mk (valued_arcs hv_)
    have hpit0 : (valuedB a v && (asc p a.length && isClo a p)) = (asc p a.length && isClo a p) := by rw [hv_, Bool.true_and]
    rw [hpit0] at hh
    clear hv_ hpit0
    cases hp_ : (asc p a.length && isClo a p) with
    | false =>
      have HP := Aside0.mk hp_
      rw [if_neg (by rw [hp_]; decide)] at hh
      injection hh with hr0 hr1
      subst hr0 hr1
      clear hp_
      go_enter Try.func46, Try.ntmps46
      go_wp2_with fail
      refine Calls.mono ((impl_areValued.calls kg A0 c0 a A1 c1 v true w H0.out E0.out H1.out E1.out (by rw [← HV.out]; exact HKG.out))) ?_
      rintro e w1 ⟨rfl, hb⟩
      have hb := Go.Proofs.Ytogjpimhlkinkaa.OwnPitB.drawn_below hb
      have B1 := Aside0.mk hb
      clear hb
      go_wp2_with fail
      refine Calls.mono ((by have h := arePits_calls A0 c0 a A2 c2 p w1 (Kd.C_below H0.out B1.out) E0.out (Kd.C_below H2.out B1.out) E2.out HVA.out.1 HLB.out.1.2 HLB.out.2.2 33; rw [HP.out] at h; exact h)) ?_
      rintro e w2 ⟨rfl, hb⟩
      have B2 := Aside0.mk (below_step B1.out hb)
      clear hb
      go_wp2_with fail
      go_ret2
      exact ⟨rfl, B2.out⟩
    | true =>
      have HP := Aside0.mk hp_
      rw [if_pos hp_] at hh
      have HPA : Aside0 (asc p a.length = true) := ⟨by rw [Bool.and_eq_true] at hp_; exact hp_.1⟩
      clear hp_
      obtain ⟨x, b, hP, hr⟩ := hh
      injection hr with hr0 hr1
      subst hr0 hr1
      have HPT := Aside0.mk hP
      clear hP
      have HAB := Aside0.mk (bestL_asc HV.out HPT.out.rx)
      go_enter Try.func46, Try.ntmps46
      go_wp2_with fail
      refine Calls.mono ((impl_areValued.calls kg A0 c0 a A1 c1 v true w H0.out E0.out H1.out E1.out (by rw [← HV.out]; exact HKG.out))) ?_
      rintro e w1 ⟨rfl, hb⟩
      have hb := Go.Proofs.Ytogjpimhlkinkaa.OwnPitB.drawn_below hb
      have B1 := Aside0.mk hb
      clear hb
      go_wp2_with fail
      refine Calls.mono ((by have h := arePits_calls A0 c0 a A2 c2 p w1 (Kd.C_below H0.out B1.out) E0.out (Kd.C_below H2.out B1.out) E2.out HVA.out.1 HLB.out.1.2 HLB.out.2.2 33; rw [HP.out] at h; exact h)) ?_
      rintro e w2 ⟨rfl, hb⟩
      have B2 := Aside0.mk (below_step B1.out hb)
      clear hb
      go_wp2_with fail
      refine Calls.mono (valueSum_calls A1 c1 v A2 c2 p w2 (Kd.C_below H1.out B2.out) E1.out (Kd.C_below H2.out B2.out) E2.out HVA.out.2.1 (by rw [HVA.out.2.2]; exact HPA.out)) ?_
      rintro e w3 ⟨rfl, hb⟩
      have B3 := Aside0.mk (below_step B2.out hb)
      clear hb
      go_wp2_with fail
      refine (pit_calls A0 c0 a A1 c1 v false w3 (Kd.C_below H0.out B3.out) E0.out (Kd.C_below H1.out B3.out) E1.out HV.out x b HPT.out.rx HPT.out.rb).mono ?_
      rintro e w4 ⟨g4, d4, rfl, hv, hb⟩
      have V4 := Aside0.mk hv
      have B4 := Aside0.mk (below_step B3.out hb)
      clear hv hb
      go_wp2_with fail
      refine Calls.mono (list_calls (some ⟨g4, 1, none⟩) (d4 - 1) (pitB a.length (markL false x.2.2 b)) a.length w4 (pitB_len (marks_C V4.out HVA.out.1.pos).2.2) (marks_C V4.out HVA.out.1.pos).1 (marks_C V4.out HVA.out.1.pos).2.1 (by have := HLB.out.1.1; omega)) ?_
      rintro e w5 ⟨u5, rfl, hv, hb⟩
      have B5 := Aside0.mk (below_step B4.out hb)
      obtain ⟨R5, d5, rfl⟩ := Kd.R_slice hv
      have V5 := Aside0.mk (Kd.R_lower hv B4.out.size)
      clear hv
      clear hb
      go_wp2_with fail
      refine Calls.mono (valueSum_calls A1 c1 v R5 d5 (bestL a x) w5 (Kd.C_below H1.out B5.out) E1.out (Kd.R_reads' V5.out).2.2 (Kd.R_reads' V5.out).2.1 HVA.out.2.1 (by rw [HVA.out.2.2]; exact HAB.out)) ?_
      rintro e w6 ⟨rfl, hb⟩
      have B6 := Aside0.mk (below_step B5.out hb)
      clear hb
      go_wp2_with fail
      go_ret2
      exact ⟨congrArg (fun z => Ending.returned (.tuple #[.bool z, .bool true])) (by first | rfl | (rw [Bool.eq_iff_iff, beq_iff_eq, decide_eq_true_eq]) | simp), B6.out⟩
set_option maxHeartbeats 8000000 in
set_option maxRecDepth 100000 in
theorem own_spec (A0 : Option Addr) (c0 : Nat) (a : List (List Int)) (A1 : Option Addr) (c1 : Nat) (v : List Int) (A2 : Option Addr) (c2 : Nat) (p : List Int) (g0 : Bool) (g1 : Bool) (w : World) (h0 : Kd.C kRows w A0 a.length a) (e0 : a.length ≤ c0) (h1 : Kd.C (Kd.int .i64) w A1 v.length v) (e1 : v.length ≤ c1) (h2 : Kd.C (Kd.int .i64) w A2 p.length p) (e2 : p.length ≤ c2) (la : a.length ≤ 1048576) (lb : ∀ x ∈ a, x.length ≤ 1048576) (lv : v.length ≤ 1048576) (lp : p.length ≤ 1048576) (h : isR a v p (g0, g1)) :
    Calls Try.prog 45 #[.slice A0 a.length c0, .slice A1 v.length c1, .slice A2 p.length c2] w fun e w' => e = .returned (.tuple #[.bool g0, .bool g1]) ∧ Below w.heap.size w w' := by
  have hh := h
  unfold isR at hh
  clear h
  have H0 := Aside0.mk h0
  have E0 := Aside0.mk e0
  have H1 := Aside0.mk h1
  have E1 := Aside0.mk e1
  have H2 := Aside0.mk h2
  have E2 := Aside0.mk e2
  have HLB := Aside0.mk (And.intro (And.intro la lb) (And.intro lv lp))
  clear h0 e0 h1 e1 h2 e2 la lb lv lp
  cases hv_ : (valuedB a v && (asc p a.length && isClo a p)) with
  | false =>
    have HV := Aside0.mk hv_
    rw [if_neg (by rw [hv_]; decide)] at hh
    injection hh with hr0 hr1
    subst hr0 hr1
    clear hv_
    go_enter Try.func45, Try.ntmps45
    go_wp2_with fail
    refine Calls.mono ((by have h := paPit_calls A0 c0 a A1 c1 v A2 c2 p w H0.out E0.out H1.out E1.out H2.out E2.out HLB.out.1.1 HLB.out.1.2 HLB.out.2.1 HLB.out.2.2; rw [HV.out] at h; exact h)) ?_
    rintro e w1 ⟨rfl, hb⟩
    have B1 := Aside0.mk hb
    clear hb
    go_wp2_with fail
    go_ret2
    exact ⟨rfl, B1.out⟩
  | true =>
    have HV := Aside0.mk hv_
    rw [if_pos hv_] at hh
    have HVV : Aside0 (valuedB a v = true) := ⟨by rw [Bool.and_eq_true] at hv_; exact hv_.1⟩
    have HPA : Aside0 (asc p a.length = true) := ⟨by rw [Bool.and_eq_true, Bool.and_eq_true] at hv_; exact hv_.2.1⟩
    have HVA := Aside0.mk (valued_arcs HVV.out)
    clear hv_
    obtain ⟨x, b, hP, hr⟩ := hh
    injection hr with hr0 hr1
    subst hr0 hr1
    have HPT := Aside0.mk hP
    clear hP
    have HAB := Aside0.mk (bestL_asc HVV.out HPT.out.rx)
    go_enter Try.func45, Try.ntmps45
    go_wp2_with fail
    refine Calls.mono ((by have h := paPit_calls A0 c0 a A1 c1 v A2 c2 p w H0.out E0.out H1.out E1.out H2.out E2.out HLB.out.1.1 HLB.out.1.2 HLB.out.2.1 HLB.out.2.2; rw [HV.out] at h; exact h)) ?_
    rintro e w1 ⟨rfl, hb⟩
    have B1 := Aside0.mk hb
    clear hb
    go_wp2_with fail
    refine Calls.mono (vaSum_calls A1 c1 v A2 c2 p w1 (Kd.C_below H1.out B1.out) E1.out (Kd.C_below H2.out B1.out) E2.out HVA.out.2.1 (by rw [HVA.out.2.2]; exact HPA.out)) ?_
    rintro e w2 ⟨rfl, hb⟩
    have B2 := Aside0.mk (below_step B1.out hb)
    clear hb
    go_wp2_with fail
    refine Calls.mono (find_calls A0 c0 a A1 c1 v w2 (Kd.C_below H0.out B2.out) E0.out (Kd.C_below H1.out B2.out) E1.out HVV.out x HPT.out.rx) ?_
    rintro e w3 ⟨u3, rfl, hv, hb⟩
    have B3 := Aside0.mk (below_step B2.out hb)
    obtain ⟨R3, d3, rfl⟩ := Kd.R_slice hv
    have V3 := Aside0.mk (Kd.R_lower hv B2.out.size)
    clear hv
    clear hb
    go_wp2_with fail
    refine Calls.mono (vaSum_calls A1 c1 v R3 d3 (bestL a x) w3 (Kd.C_below H1.out B3.out) E1.out (Kd.R_reads' V3.out).2.2 (Kd.R_reads' V3.out).2.1 HVA.out.2.1 (by rw [HVA.out.2.2]; exact HAB.out)) ?_
    rintro e w4 ⟨rfl, hb⟩
    have B4 := Aside0.mk (below_step B3.out hb)
    clear hb
    go_wp2_with fail
    go_ret2
    exact ⟨congrArg (fun z => Ending.returned (.tuple #[.bool z, .bool true])) (by first | rfl | (rw [Bool.eq_iff_iff, beq_iff_eq, decide_eq_true_eq]) | simp), B4.out⟩
end Go.Proofs.Ytogjpimhlkinkaa.OwnIsBestPit
