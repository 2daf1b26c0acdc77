/- The contracts of impl.BestValue and spec.BestValue by hand. -/
-- OWN impl valR %s %s
-- OWN spec valR %s %s
import Derived.Test.YtogjpimhlkinkaaOwnPitC
import Derived.Test.YtogjpimhlkinkaaOwnSums
namespace Go.Proofs.Ytogjpimhlkinkaa.OwnBestValue
open Go.RowKit Go.Proofs.Ytogjpimhlkinkaa.PFnExactIsBestPit Go.Proofs.YtogjpimhlkinkaaW.PrintWords Go.Proofs.YtogjpimhlkinkaaW.PrintLast Go.Proofs.YtogjpimhlkinkaaW.PrintMore Go.Proofs.Ytogjpimhlkinkaa.B Go.Proofs.Ytogjpimhlkinkaa.Flow Go.Proofs.Ytogjpimhlkinkaa.OwnPush Go.Proofs.Ytogjpimhlkinkaa.OwnLevels Go.Proofs.Ytogjpimhlkinkaa.OwnRows Go.Proofs.Ytogjpimhlkinkaa.OwnNet Go.Proofs.Ytogjpimhlkinkaa.OwnValue Go.Proofs.Ytogjpimhlkinkaa.OwnFrom Go.Proofs.Ytogjpimhlkinkaa.PitMath Go.Proofs.Ytogjpimhlkinkaa.PitBest Go.Proofs.Ytogjpimhlkinkaa.OwnPitB Go.Proofs.Ytogjpimhlkinkaa.OwnPitS Go.Proofs.Ytogjpimhlkinkaa.OwnPitC
set_option linter.unusedVariables false
set_option linter.unusedSimpArgs false
open Go.Proofs.Ytogjpimhlkinkaa.OwnSums (valueSum_calls vaSum_calls arePits_calls paPit_calls)
def valR (a : List (List Int)) (v : List Int) (r : Int × Bool) : Prop := if valuedB a v = true then ∃ x b, PitsX a v x b ∧ r = (valSum v (bestL a x), true) else r = (0, false)
set_option maxHeartbeats 8000000 in
set_option maxRecDepth 100000 in
theorem own_impl (A0 : Option Addr) (c0 : Nat) (a : List (List Int)) (A1 : Option Addr) (c1 : Nat) (v : List Int) (g0 : Int) (g1 : Bool) (w : World) (h0 : Kd.C kRows w A0 a.length a) (e0 : a.length ≤ c0) (h1 : Kd.C (Kd.int .i64) w A1 v.length v) (e1 : v.length ≤ c1) (la : a.length ≤ 1048576) (lb : ∀ x ∈ a, x.length ≤ 1048576) (lv : v.length ≤ 1048576) (h : valR a v (g0, g1)) :
    Calls Try.prog 36 #[.slice A0 a.length c0, .slice A1 v.length c1] w fun e w' => e = .returned (.tuple #[.int .i64 g0, .bool g1]) ∧ Below w.heap.size w w' := by
  have hh := h
  unfold valR at hh
  clear h
  obtain ⟨kg, hkg⟩ := (areValued_ev a (maxLen_val (by omega)) (fun x hx => maxLen_val (by have := lb x hx; omega)) v (maxLen_val (by omega))).rounds
  have HKG := Aside0.mk hkg
  clear hkg
  have H0 := Aside0.mk h0
  have E0 := Aside0.mk e0
  have H1 := Aside0.mk h1
  have E1 := Aside0.mk e1
  have HLB := Aside0.mk (And.intro (And.intro la lb) (And.intro lv trivial))
  clear h0 e0 h1 e1 la lb lv
  cases hv_ : valuedB a v with
  | false =>
    have HV := Aside0.mk hv_
    rw [if_neg (by rw [hv_]; decide)] at hh
    injection hh with hr0 hr1
    subst hr0 hr1
    clear hv_
    go_enter Try.func36, Try.ntmps36
    go_wp2_with fail
    refine Calls.mono ((impl_areValued.calls kg A0 c0 a A1 c1 v false w H0.out E0.out H1.out E1.out (by rw [← HV.out]; exact HKG.out))) ?_
    rintro e w1 ⟨rfl, hb⟩
    have hb := Go.Proofs.Ytogjpimhlkinkaa.OwnPitB.drawn_below hb
    have B1 := Aside0.mk hb
    clear hb
    go_wp2_with fail
    go_ret2
    exact ⟨rfl, B1.out⟩
  | true =>
    have HV := Aside0.mk hv_
    rw [if_pos hv_] at hh
    have HVA := Aside0.mk (valued_arcs hv_)
    clear hv_
    obtain ⟨x, b, hP, hr⟩ := hh
    injection hr with hr0 hr1
    subst hr0 hr1
    have HPT := Aside0.mk hP
    clear hP
    have HAB := Aside0.mk (bestL_asc HV.out HPT.out.rx)
    go_enter Try.func36, Try.ntmps36
    go_wp2_with fail
    refine Calls.mono ((impl_areValued.calls kg A0 c0 a A1 c1 v true w H0.out E0.out H1.out E1.out (by rw [← HV.out]; exact HKG.out))) ?_
    rintro e w1 ⟨rfl, hb⟩
    have hb := Go.Proofs.Ytogjpimhlkinkaa.OwnPitB.drawn_below hb
    have B1 := Aside0.mk hb
    clear hb
    go_wp2_with fail
    refine (pit_calls A0 c0 a A1 c1 v false w1 (Kd.C_below H0.out B1.out) E0.out (Kd.C_below H1.out B1.out) E1.out HV.out x b HPT.out.rx HPT.out.rb).mono ?_
    rintro e w2 ⟨g2, d2, rfl, hv, hb⟩
    have V2 := Aside0.mk hv
    have B2 := Aside0.mk (below_step B1.out hb)
    clear hv hb
    go_wp2_with fail
    refine Calls.mono (list_calls (some ⟨g2, 1, none⟩) (d2 - 1) (pitB a.length (markL false x.2.2 b)) a.length w2 (pitB_len (marks_C V2.out HVA.out.1.pos).2.2) (marks_C V2.out HVA.out.1.pos).1 (marks_C V2.out HVA.out.1.pos).2.1 (by have := HLB.out.1.1; omega)) ?_
    rintro e w3 ⟨u3, rfl, hv, hb⟩
    have B3 := Aside0.mk (below_step B2.out hb)
    obtain ⟨R3, d3, rfl⟩ := Kd.R_slice hv
    have V3 := Aside0.mk (Kd.R_lower hv B2.out.size)
    clear hv
    clear hb
    go_wp2_with fail
    refine Calls.mono (valueSum_calls A1 c1 v R3 d3 (bestL a x) w3 (Kd.C_below H1.out B3.out) E1.out (Kd.R_reads' V3.out).2.2 (Kd.R_reads' V3.out).2.1 HVA.out.2.1 (by rw [HVA.out.2.2]; exact HAB.out)) ?_
    rintro e w4 ⟨rfl, hb⟩
    have B4 := Aside0.mk (below_step B3.out hb)
    clear hb
    go_wp2_with fail
    go_ret2
    exact ⟨rfl, B4.out⟩
set_option maxHeartbeats 8000000 in
set_option maxRecDepth 100000 in
theorem own_spec (A0 : Option Addr) (c0 : Nat) (a : List (List Int)) (A1 : Option Addr) (c1 : Nat) (v : List Int) (g0 : Int) (g1 : Bool) (w : World) (h0 : Kd.C kRows w A0 a.length a) (e0 : a.length ≤ c0) (h1 : Kd.C (Kd.int .i64) w A1 v.length v) (e1 : v.length ≤ c1) (la : a.length ≤ 1048576) (lb : ∀ x ∈ a, x.length ≤ 1048576) (lv : v.length ≤ 1048576) (h : valR a v (g0, g1)) :
    Calls Try.prog 33 #[.slice A0 a.length c0, .slice A1 v.length c1] w fun e w' => e = .returned (.tuple #[.int .i64 g0, .bool g1]) ∧ Below w.heap.size w w' := by
  have hh := h
  unfold valR at hh
  clear h
  obtain ⟨kg, hkg⟩ := (paGood_ev a (maxLen_val (by omega)) (fun x hx => maxLen_val (by have := lb x hx; omega)) v (maxLen_val (by omega))).rounds
  have HKG := Aside0.mk hkg
  clear hkg
  have H0 := Aside0.mk h0
  have E0 := Aside0.mk e0
  have H1 := Aside0.mk h1
  have E1 := Aside0.mk e1
  have HLB := Aside0.mk (And.intro (And.intro la lb) (And.intro lv trivial))
  clear h0 e0 h1 e1 la lb lv
  cases hv_ : valuedB a v with
  | false =>
    have HV := Aside0.mk hv_
    rw [if_neg (by rw [hv_]; decide)] at hh
    injection hh with hr0 hr1
    subst hr0 hr1
    clear hv_
    go_enter Try.func33, Try.ntmps33
    go_wp2_with fail
    refine Calls.mono ((spec_paGood.calls kg A0 c0 a A1 c1 v false w H0.out E0.out H1.out E1.out (by rw [← HV.out]; exact HKG.out))) ?_
    rintro e w1 ⟨rfl, hb⟩
    have hb := Go.Proofs.Ytogjpimhlkinkaa.OwnPitB.drawn_below hb
    have B1 := Aside0.mk hb
    clear hb
    go_wp2_with fail
    go_ret2
    exact ⟨rfl, B1.out⟩
  | true =>
    have HV := Aside0.mk hv_
    rw [if_pos hv_] at hh
    have HVA := Aside0.mk (valued_arcs hv_)
    clear hv_
    obtain ⟨x, b, hP, hr⟩ := hh
    injection hr with hr0 hr1
    subst hr0 hr1
    have HPT := Aside0.mk hP
    clear hP
    have HAB := Aside0.mk (bestL_asc HV.out HPT.out.rx)
    go_enter Try.func33, Try.ntmps33
    go_wp2_with fail
    refine Calls.mono ((spec_paGood.calls kg A0 c0 a A1 c1 v true w H0.out E0.out H1.out E1.out (by rw [← HV.out]; exact HKG.out))) ?_
    rintro e w1 ⟨rfl, hb⟩
    have hb := Go.Proofs.Ytogjpimhlkinkaa.OwnPitB.drawn_below hb
    have B1 := Aside0.mk hb
    clear hb
    go_wp2_with fail
    refine Calls.mono (find_calls A0 c0 a A1 c1 v w1 (Kd.C_below H0.out B1.out) E0.out (Kd.C_below H1.out B1.out) E1.out HV.out x HPT.out.rx) ?_
    rintro e w2 ⟨u2, rfl, hv, hb⟩
    have B2 := Aside0.mk (below_step B1.out hb)
    obtain ⟨R2, d2, rfl⟩ := Kd.R_slice hv
    have V2 := Aside0.mk (Kd.R_lower hv B1.out.size)
    clear hv
    clear hb
    go_wp2_with fail
    refine Calls.mono (vaSum_calls A1 c1 v R2 d2 (bestL a x) w2 (Kd.C_below H1.out B2.out) E1.out (Kd.R_reads' V2.out).2.2 (Kd.R_reads' V2.out).2.1 HVA.out.2.1 (by rw [HVA.out.2.2]; exact HAB.out)) ?_
    rintro e w3 ⟨rfl, hb⟩
    have B3 := Aside0.mk (below_step B2.out hb)
    clear hb
    go_wp2_with fail
    go_ret2
    exact ⟨rfl, B3.out⟩
end Go.Proofs.Ytogjpimhlkinkaa.OwnBestValue
