/- The law FnPitBest, walked by hand over its callees' contracts: for every input it returns true. Ahead of it: the contracts of BestPit, and what the law asks of lists of blocks. -/
import Derived.Test.YtogjpimhlkinkaaOwnPitC
import Derived.Test.YtogjpimhlkinkaaPitBest
import Derived.Test.YtogjpimhlkinkaaOwnPitT
section
namespace Go.Proofs.Ytogjpimhlkinkaa.OwnBestT
open Go.RowKit Go.Proofs.Ytogjpimhlkinkaa.PFnPitBest Go.Proofs.YtogjpimhlkinkaaW.PrintWords Go.Proofs.YtogjpimhlkinkaaW.PrintLast Go.Proofs.YtogjpimhlkinkaaW.PrintMore Go.Proofs.Ytogjpimhlkinkaa.B Go.Proofs.Ytogjpimhlkinkaa.Flow Go.Proofs.Ytogjpimhlkinkaa.OwnPush Go.Proofs.Ytogjpimhlkinkaa.OwnLevels Go.Proofs.Ytogjpimhlkinkaa.OwnRows Go.Proofs.Ytogjpimhlkinkaa.OwnNet Go.Proofs.Ytogjpimhlkinkaa.OwnValue Go.Proofs.Ytogjpimhlkinkaa.OwnFrom Go.Proofs.Ytogjpimhlkinkaa.PitMath Go.Proofs.Ytogjpimhlkinkaa.PitBest Go.Proofs.Ytogjpimhlkinkaa.OwnPitB Go.Proofs.Ytogjpimhlkinkaa.OwnPitS Go.Proofs.Ytogjpimhlkinkaa.OwnPitC
set_option linter.unusedVariables false
set_option linter.unusedSimpArgs false
def bestR (a : List (List Int)) (v : List Int) (r : List Int × Bool) : Prop := if valuedB a v = true then ∃ x b, PitsX a v x b ∧ r = (bestL a x, true) else r = ([], false)
set_option maxHeartbeats 8000000 in
set_option maxRecDepth 100000 in
theorem own_impl (A0 : Option Addr) (c0 : Nat) (a : List (List Int)) (A1 : Option Addr) (c1 : Nat) (v : List Int) (g0 : List Int) (g1 : Bool) (w : World) (h0 : Kd.C kRows w A0 a.length a) (e0 : a.length ≤ c0) (h1 : Kd.C (Kd.int .i64) w A1 v.length v) (e1 : v.length ≤ c1) (la : a.length ≤ 1048576) (lb : ∀ x ∈ a, x.length ≤ maxLen) (lv : v.length ≤ 1048576) (h : bestR a v (g0, g1)) :
    Calls Try.prog 39 #[.slice A0 a.length c0, .slice A1 v.length c1] w fun e w' => ∃ u : Value, e = .returned (.tuple #[u, .bool g1]) ∧ Kd.R (Kd.int .i64) 3 w' w.heap.size (fun _ => True) u g0 ∧ Below w.heap.size w w' := by
  have hh := h
  unfold bestR at hh
  clear h
  obtain ⟨kg, hkg⟩ := (areValued_ev a (maxLen_val (by omega)) lb v (maxLen_val (by omega))).rounds
  have HKG := Aside0.mk hkg
  clear hkg
  have H0 := Aside0.mk h0
  have E0 := Aside0.mk e0
  have H1 := Aside0.mk h1
  have E1 := Aside0.mk e1
  have HLB := Aside0.mk (And.intro (And.intro la lb) (And.intro lv trivial))
  clear h0 e0 h1 e1 la lb lv
  cases hv_ : valuedB a v with
  | false =>
    have HV := Aside0.mk hv_
    rw [if_neg (by rw [hv_]; decide)] at hh
    injection hh with hr0 hr1
    subst hr0 hr1
    clear hv_
    go_enter Try.func39, Try.ntmps39
    go_wp2_with fail
    refine Calls.mono ((impl_areValued.calls kg A0 c0 a A1 c1 v false w H0.out E0.out H1.out E1.out (by rw [← HV.out]; exact HKG.out))) ?_
    rintro e w1 ⟨rfl, hb⟩
    have hb := Go.Proofs.Ytogjpimhlkinkaa.OwnPitB.drawn_below hb
    have B1 := Aside0.mk hb
    clear hb
    go_wp2_with fail
    go_ret2
    exact ⟨_, rfl, Kd.R_nil _ _ _ _ _, B1.out⟩
  | true =>
    have HV := Aside0.mk hv_
    rw [if_pos hv_] at hh
    have HVA := Aside0.mk (valued_arcs hv_)
    clear hv_
    obtain ⟨x, b, hP, hr⟩ := hh
    injection hr with hr0 hr1
    subst hr0 hr1
    have HPT := Aside0.mk hP
    clear hP
    have HAB := Aside0.mk (bestL_asc HV.out HPT.out.rx)
    go_enter Try.func39, Try.ntmps39
    go_wp2_with fail
    refine Calls.mono ((impl_areValued.calls kg A0 c0 a A1 c1 v true w H0.out E0.out H1.out E1.out (by rw [← HV.out]; exact HKG.out))) ?_
    rintro e w1 ⟨rfl, hb⟩
    have hb := Go.Proofs.Ytogjpimhlkinkaa.OwnPitB.drawn_below hb
    have B1 := Aside0.mk hb
    clear hb
    go_wp2_with fail
    refine (pit_calls A0 c0 a A1 c1 v false w1 (Kd.C_below H0.out B1.out) E0.out (Kd.C_below H1.out B1.out) E1.out HV.out x b HPT.out.rx HPT.out.rb).mono ?_
    rintro e w2 ⟨g2, d2, rfl, hv, hb⟩
    have V2 := Aside0.mk hv
    have B2 := Aside0.mk (below_step B1.out hb)
    clear hv hb
    go_wp2_with fail
    refine Calls.mono (list_calls (some ⟨g2, 1, none⟩) (d2 - 1) (pitB a.length (markL false x.2.2 b)) a.length w2 (pitB_len (marks_C V2.out HVA.out.1.pos).2.2) (marks_C V2.out HVA.out.1.pos).1 (marks_C V2.out HVA.out.1.pos).2.1 (by have := HLB.out.1.1; omega)) ?_
    rintro e w3 ⟨u3, rfl, hv, hb⟩
    have B3 := Aside0.mk (below_step B2.out hb)
    obtain ⟨R3, d3, rfl⟩ := Kd.R_slice hv
    have V3 := Aside0.mk (Kd.R_lower hv B2.out.size)
    clear hv
    clear hb
    go_wp2_with fail
    go_ret2
    exact ⟨_, rfl, V3.out, B3.out⟩
set_option maxHeartbeats 8000000 in
set_option maxRecDepth 100000 in
theorem own_spec (A0 : Option Addr) (c0 : Nat) (a : List (List Int)) (A1 : Option Addr) (c1 : Nat) (v : List Int) (g0 : List Int) (g1 : Bool) (w : World) (h0 : Kd.C kRows w A0 a.length a) (e0 : a.length ≤ c0) (h1 : Kd.C (Kd.int .i64) w A1 v.length v) (e1 : v.length ≤ c1) (la : a.length ≤ 1048576) (lb : ∀ x ∈ a, x.length ≤ maxLen) (lv : v.length ≤ 1048576) (h : bestR a v (g0, g1)) :
    Calls Try.prog 38 #[.slice A0 a.length c0, .slice A1 v.length c1] w fun e w' => ∃ u : Value, e = .returned (.tuple #[u, .bool g1]) ∧ Kd.R (Kd.int .i64) 3 w' w.heap.size (fun _ => True) u g0 ∧ Below w.heap.size w w' := by
  have hh := h
  unfold bestR at hh
  clear h
  obtain ⟨kg, hkg⟩ := (paGood_ev a (maxLen_val (by omega)) lb v (maxLen_val (by omega))).rounds
  have HKG := Aside0.mk hkg
  clear hkg
  have H0 := Aside0.mk h0
  have E0 := Aside0.mk e0
  have H1 := Aside0.mk h1
  have E1 := Aside0.mk e1
  have HLB := Aside0.mk (And.intro (And.intro la lb) (And.intro lv trivial))
  clear h0 e0 h1 e1 la lb lv
  cases hv_ : valuedB a v with
  | false =>
    have HV := Aside0.mk hv_
    rw [if_neg (by rw [hv_]; decide)] at hh
    injection hh with hr0 hr1
    subst hr0 hr1
    clear hv_
    go_enter Try.func38, Try.ntmps38
    go_wp2_with fail
    refine Calls.mono ((spec_paGood.calls kg A0 c0 a A1 c1 v false w H0.out E0.out H1.out E1.out (by rw [← HV.out]; exact HKG.out))) ?_
    rintro e w1 ⟨rfl, hb⟩
    have hb := Go.Proofs.Ytogjpimhlkinkaa.OwnPitB.drawn_below hb
    have B1 := Aside0.mk hb
    clear hb
    go_wp2_with fail
    go_ret2
    exact ⟨_, rfl, Kd.R_nil _ _ _ _ _, B1.out⟩
  | true =>
    have HV := Aside0.mk hv_
    rw [if_pos hv_] at hh
    have HVA := Aside0.mk (valued_arcs hv_)
    clear hv_
    obtain ⟨x, b, hP, hr⟩ := hh
    injection hr with hr0 hr1
    subst hr0 hr1
    have HPT := Aside0.mk hP
    clear hP
    have HAB := Aside0.mk (bestL_asc HV.out HPT.out.rx)
    go_enter Try.func38, Try.ntmps38
    go_wp2_with fail
    refine Calls.mono ((spec_paGood.calls kg A0 c0 a A1 c1 v true w H0.out E0.out H1.out E1.out (by rw [← HV.out]; exact HKG.out))) ?_
    rintro e w1 ⟨rfl, hb⟩
    have hb := Go.Proofs.Ytogjpimhlkinkaa.OwnPitB.drawn_below hb
    have B1 := Aside0.mk hb
    clear hb
    go_wp2_with fail
    refine Calls.mono (find_calls A0 c0 a A1 c1 v w1 (Kd.C_below H0.out B1.out) E0.out (Kd.C_below H1.out B1.out) E1.out HV.out x HPT.out.rx) ?_
    rintro e w2 ⟨u2, rfl, hv, hb⟩
    have B2 := Aside0.mk (below_step B1.out hb)
    obtain ⟨R2, d2, rfl⟩ := Kd.R_slice hv
    have V2 := Aside0.mk (Kd.R_lower hv B1.out.size)
    clear hv
    clear hb
    go_wp2_with fail
    go_ret2
    exact ⟨_, rfl, V2.out, B2.out⟩
end Go.Proofs.Ytogjpimhlkinkaa.OwnBestT
end
section
namespace Go.Proofs.Ytogjpimhlkinkaa.PitLaw
open Go.RowKit Go.Proofs.Ytogjpimhlkinkaa.PFnPitBest Go.Proofs.YtogjpimhlkinkaaW.PrintWords Go.Proofs.YtogjpimhlkinkaaW.PrintLast Go.Proofs.YtogjpimhlkinkaaW.PrintMore Go.Proofs.Ytogjpimhlkinkaa.B Go.Proofs.Ytogjpimhlkinkaa.Flow Go.Proofs.Ytogjpimhlkinkaa.OwnRows Go.Proofs.Ytogjpimhlkinkaa.OwnNet Go.Proofs.Ytogjpimhlkinkaa.PitMath Go.Proofs.Ytogjpimhlkinkaa.PitBest
set_option linter.unusedVariables false
set_option linter.unusedSimpArgs false
theorem valSum_put (v l : List Int) (x : Int) : valSum v (l ++ [x]) = valSum v l + v.getD x.toNat 0 := by
  unfold valSum
  rw [List.length_append, show l.length + [x].length = l.length + 1 from rfl, foldR_last (Nat.zero_le _)]
  rw [foldR_congr (g := sumAt v l) (fun t j _ hj => by unfold sumAt; rw [List.getD_eq_getElem?_getD (l := l ++ [x]), List.getElem?_append_left hj, ← List.getD_eq_getElem?_getD])]
  unfold sumAt
  rw [List.getD_eq_getElem?_getD (l := l ++ [x]), List.getElem?_append_right (Nat.le_refl _), Nat.sub_self]
  rfl
theorem val_sel (v : List Int) (m : List Bool) (n : Nat) : valSum v (foldR (putAt m) 0 n []) = foldR (selAt m v) 0 n 0 := by
  induction n with
  | zero => rw [foldR_end (Nat.le_refl _), foldR_end (Nat.le_refl _)]; rfl
  | succ n ih =>
    rw [foldR_last (Nat.zero_le _), foldR_last (Nat.zero_le _), ← ih]
    unfold putAt selAt
    by_cases h : m.getD n false = true
    · rw [if_pos h, if_pos h, valSum_put, toNat_nat]
    · rw [if_neg h, if_neg h, Int.add_zero]
theorem val_list (v : List Int) (m : List Bool) : valSum v (listOf m) = selSum m v m.length := val_sel v m m.length
theorem list_mk {n : Nat} {s : List Int} (h : asc s n = true) : s = listOf (mk n s) := by
  have hl := listOf_asc (m := mk n s)
  refine asc_ext h hl (fun x => ?_)
  rw [listOf_mem]
  constructor
  · intro hx
    have := asc_mem h hx
    refine ⟨this.1, ?_⟩
    unfold at_
    exact (mk_at (fun y hy => asc_mem h hy) _).2 (by rw [Int.toNat_of_nonneg this.1]; exact hx)
  · rintro ⟨h0, h1⟩
    unfold at_ at h1
    have := (mk_at (fun y hy => asc_mem h hy) _).1 h1
    rwa [Int.toNat_of_nonneg h0] at this
theorem clo_mk {a : List (List Int)} (ha : Arcs a) {s : List Int} (h : asc s a.length = true) (hc : isClo a s = true) : Closed (mk a.length s) a := by
  intro i hi hm x hx
  have hd := ha.down hx
  have hmem := (mk_at (fun y hy => asc_mem h hy) _).1 hm
  refine (mk_at (fun y hy => asc_mem h hy) _).2 ?_
  rw [Int.toNat_of_nonneg hd.1]
  exact (isClo_iff ha h).1 hc _ hmem x (by rw [toNat_nat]; exact hx)
theorem list_clo {a : List (List Int)} (ha : Arcs a) {m : List Bool} (hm : m.length = a.length) (h : Closed m a) : isClo a (listOf m) = true := by
  have hl := listOf_asc (m := m)
  rw [hm] at hl
  refine (isClo_iff ha hl).2 (fun x hx y hy => ?_)
  have hxm := (listOf_mem x).1 hx
  have hxl := asc_mem hl hx
  have hd := ha.down hy
  refine (listOf_mem y).2 ⟨hd.1, ?_⟩
  exact h x.toNat (by omega) hxm.2 y hy
/-- what the law asks, of the told pit and of any list that is a closure -/
theorem pit_law {a : List (List Int)} {v : List Int} (hval : valuedB a v = true) {m : List Bool} (B : Best a v m) : asc (listOf m) a.length = true ∧ isClo a (listOf m) = true ∧ 0 ≤ valSum v (listOf m) ∧
    ∀ s : List Int, asc s a.length = true → isClo a s = true → valSum v s ≤ valSum v (listOf m) ∧ (valSum v s = valSum v (listOf m) → ∀ x ∈ listOf m, x ∈ s) := by
  obtain ⟨hA, hV, hN⟩ := valued_arcs hval
  have hl := listOf_asc (m := m)
  rw [B.len] at hl
  have hv : valSum v (listOf m) = selSum m v a.length := by rw [val_list, B.len]
  refine ⟨hl, list_clo hA B.len B.clo, ?_, ?_⟩
  · have h := B.most (List.replicate a.length false) List.length_replicate (fun i hi hx => by rw [getD_replicate hi] at hx; cases hx)
    rw [sel_none] at h
    rw [hv]; exact h
  · intro s hs hc
    have hm := list_mk hs
    have hvs : valSum v s = selSum (mk a.length s) v a.length := by
      have h := val_list v (mk a.length s)
      rw [← hm, mk_len] at h
      exact h
    rw [hv, hvs]
    refine ⟨B.most _ mk_len (clo_mk hA hs hc), fun he x hx => ?_⟩
    have hxm := (listOf_mem x).1 hx
    have hxl := asc_mem hl hx
    have h := B.sub _ mk_len (clo_mk hA hs hc) he x.toNat (by omega) hxm.2
    have := (mk_at (fun y hy => asc_mem hs hy) _).1 h
    rwa [Int.toNat_of_nonneg hxl.1] at this
end Go.Proofs.Ytogjpimhlkinkaa.PitLaw
end
section
namespace Go.Proofs.Ytogjpimhlkinkaa.WalkFnPitBest
open Go.RowKit Go.Proofs.Ytogjpimhlkinkaa.PFnPitBest Go.Proofs.YtogjpimhlkinkaaW.PrintWords Go.Proofs.YtogjpimhlkinkaaW.PrintLast Go.Proofs.YtogjpimhlkinkaaW.PrintMore Go.Proofs.Ytogjpimhlkinkaa.B Go.Proofs.Ytogjpimhlkinkaa.Flow Go.Proofs.Ytogjpimhlkinkaa.OwnPush Go.Proofs.Ytogjpimhlkinkaa.OwnRows Go.Proofs.Ytogjpimhlkinkaa.OwnNet Go.Proofs.Ytogjpimhlkinkaa.OwnValue Go.Proofs.Ytogjpimhlkinkaa.OwnFrom Go.Proofs.Ytogjpimhlkinkaa.PitMath Go.Proofs.Ytogjpimhlkinkaa.PitBest Go.Proofs.Ytogjpimhlkinkaa.OwnPitC Go.Proofs.Ytogjpimhlkinkaa.PitLaw Go.Proofs.Ytogjpimhlkinkaa.OwnPitT
set_option linter.unusedVariables false
set_option linter.unusedSimpArgs false
attribute [local go_sem] max2_int min2_int max_two min_two
abbrev kSS : Kd (List Int) := Kd.slice 3 (Kd.int .i64)
/-- what is left by a run is a best pit's marks -/
theorem best_pit {a : List (List Int)} {v : List Int} (h : valuedB a v = true) {x : Int × List Int × List Int} {b : List Int} (P : PitsX a v x b) : Best a v (pitB a.length (inB x.2.2)) := by
  obtain ⟨hA, hV, hN⟩ := valued_arcs h
  have hE := pit_at hA (valued_flow h) hN
  obtain ⟨kx, hx⟩ := P.rx
  have hT := run_told (net_of (a.length + 2) (pitE a v) (by omega) hE) (by omega) (by omega) kx 0 (leftL (pitE a v)) x hx (flows_of (a.length + 2) (pitE a v) hE)
  refine best_of h hT.1 hT.2.1 hT.2.2 (pitB_len (x_len h P.rx)) (fun i hi => ?_)
  rw [pitB_at hi]
  have := inB_at x.2.2 ((i + 1 : Nat) : Int) (by omega) (by have := x_len h P.rx; rw [inB_len] at this; omega)
  exact this
abbrev PitCall (A0 : Option Addr) (c0 : Nat) (a : List (List Int)) (A1 : Option Addr) (c1 : Nat) (v : List Int) (A2 : Option Addr) (c2 : Nat) (s : List Int) (w : World) : Prop :=
  Calls Try.prog 13 #[.slice A0 a.length c0, .slice A1 v.length c1, .slice A2 s.length c2] w fun e w' => e = .returned (.bool true) ∧ Below w.heap.size w w'
section
variable {A0 : Option Addr} {c0 : Nat} {a : List (List Int)} {A1 : Option Addr} {c1 : Nat} {v : List Int} {A2 : Option Addr} {c2 : Nat} {s : List Int} {w : World}
set_option maxRecDepth 100000 in
theorem walk_len0 (h : ¬ a.length ≤ 65536) : PitCall A0 c0 a A1 c1 v A2 c2 s w := by
  have x0 : decide (65536 < (a.length : Int)) = true := decide_eq_true (by omega)
  have y0 : decide (65536 < a.length) = true := decide_eq_true (by omega)
  clear h
  go_enter Try.func13, Try.ntmps13
  go_wp2_with fail
  go_ret
  exact ⟨rfl, Below.refl _ _⟩
set_option maxRecDepth 100000 in
theorem walk_len1 (h0 : a.length ≤ 65536) (h : ¬ v.length ≤ 65536) : PitCall A0 c0 a A1 c1 v A2 c2 s w := by
  have x0 : decide (65536 < (a.length : Int)) = false := decide_eq_false (by omega)
  have y0 : decide (65536 < a.length) = false := decide_eq_false (by omega)
  have x1 : decide (65536 < (v.length : Int)) = true := decide_eq_true (by omega)
  have y1 : decide (65536 < v.length) = true := decide_eq_true (by omega)
  clear h h0
  go_enter Try.func13, Try.ntmps13
  go_wp2_with fail
  go_ret
  exact ⟨rfl, Below.refl _ _⟩
set_option maxRecDepth 100000 in
theorem walk_len2 (h0 : a.length ≤ 65536) (h1 : v.length ≤ 65536) (h : ¬ s.length ≤ 65536) : PitCall A0 c0 a A1 c1 v A2 c2 s w := by
  have x0 : decide (65536 < (a.length : Int)) = false := decide_eq_false (by omega)
  have y0 : decide (65536 < a.length) = false := decide_eq_false (by omega)
  have x1 : decide (65536 < (v.length : Int)) = false := decide_eq_false (by omega)
  have y1 : decide (65536 < v.length) = false := decide_eq_false (by omega)
  have x2 : decide (65536 < (s.length : Int)) = true := decide_eq_true (by omega)
  have y2 : decide (65536 < s.length) = true := decide_eq_true (by omega)
  clear h h0 h1
  go_enter Try.func13, Try.ntmps13
  go_wp2_with fail
  go_ret
  exact ⟨rfl, Below.refl _ _⟩
set_option maxHeartbeats 8000000 in
set_option maxRecDepth 100000 in
theorem walk_bad (h0 : Kd.C kSS w A0 a.length a) (e0 : a.length ≤ c0) (h1 : Kd.C (Kd.int .i64) w A1 v.length v) (e1 : v.length ≤ c1) (q0 : a.length ≤ 65536) (q1 : v.length ≤ 65536) (q2 : s.length ≤ 65536) (lb : ∀ x ∈ a, x.length ≤ maxLen) (hv : valuedB a v = false) : PitCall A0 c0 a A1 c1 v A2 c2 s w := by
  have x0 : decide (65536 < (a.length : Int)) = false := decide_eq_false (by omega)
  have y0 : decide (65536 < a.length) = false := decide_eq_false (by omega)
  have x1 : decide (65536 < (v.length : Int)) = false := decide_eq_false (by omega)
  have y1 : decide (65536 < v.length) = false := decide_eq_false (by omega)
  have x2 : decide (65536 < (s.length : Int)) = false := decide_eq_false (by omega)
  have y2 : decide (65536 < s.length) = false := decide_eq_false (by omega)
  have hr : OwnBestT.bestR a v ([], false) := by unfold OwnBestT.bestR; rw [if_neg (by rw [hv]; decide)]
  have HR := Aside0.mk hr
  have H0 := Aside0.mk h0
  have E0 := Aside0.mk e0
  have H1 := Aside0.mk h1
  have E1 := Aside0.mk e1
  have LB := Aside0.mk lb
  have Q0 := Aside0.mk (And.intro q0 q1)
  clear h0 e0 h1 e1 q0 q1 q2 lb hv hr
  go_enter Try.func13, Try.ntmps13
  go_wp2_with fail
  refine (OwnBestT.own_impl A0 c0 a A1 c1 v [] false w H0.out E0.out H1.out E1.out (by have := Q0.out; omega) LB.out (by have := Q0.out; omega) HR.out).mono ?_
  rintro e w1 ⟨u1, rfl, hv, hb⟩
  have B1 := Aside0.mk hb
  obtain ⟨R1, d1, rfl⟩ := Kd.R_slice hv
  have V1 := Aside0.mk hv
  clear hv hb
  go_wp2_with fail
  refine (OwnBestT.own_spec A0 c0 a A1 c1 v [] false w1 (Kd.C_below H0.out B1.out) E0.out (Kd.C_below H1.out B1.out) E1.out (by have := Q0.out; omega) LB.out (by have := Q0.out; omega) HR.out).mono ?_
  rintro e w2 ⟨u2, rfl, hv, hb⟩
  have B2 := Aside0.mk (below_step B1.out hb)
  have n0_ := Aside0.mk (Kd.R_below V1.out hb)
  obtain ⟨R2, d2, rfl⟩ := Kd.R_slice hv
  have V2 := Aside0.mk hv
  clear hv hb V1
  go_wp2_with fail
  refine (same_calls R1 R2 d1 d2 [] w2 (Kd.R_reads' n0_.out).2.2 (Kd.R_reads' n0_.out).2.1 (Kd.R_reads' V2.out).2.2 (Kd.R_reads' V2.out).2.1 (Nat.zero_le _)).mono ?_
  rintro e w3 ⟨rfl, hb⟩
  have B3 := Aside0.mk (below_step B2.out hb)
  clear hb
  go_wp2_with fail
  go_ret
  exact ⟨rfl, B3.out⟩
set_option maxHeartbeats 16000000 in
set_option maxRecDepth 100000 in
theorem walk_good (h0 : Kd.C kSS w A0 a.length a) (e0 : a.length ≤ c0) (h1 : Kd.C (Kd.int .i64) w A1 v.length v) (e1 : v.length ≤ c1) (h2 : Kd.C (Kd.int .i64) w A2 s.length s) (e2 : s.length ≤ c2) (q0 : a.length ≤ 65536) (q1 : v.length ≤ 65536) (q2 : s.length ≤ 65536) (lb : ∀ x ∈ a, x.length ≤ maxLen) (hv : valuedB a v = true)
    (x : Int × List Int × List Int) (b : List Int) (P : PitsX a v x b) (f0 f1 f3 : Bool) (f2 : Int) (hc : (if asc s a.length then (isClo a s, true) else (false, false)) = (f0, f1)) (hvs : (if asc s v.length then (valSum v s, true) else (0, false)) = (f2, f3)) : PitCall A0 c0 a A1 c1 v A2 c2 s w := by
  have x0 : decide (65536 < (a.length : Int)) = false := decide_eq_false (by omega)
  have y0 : decide (65536 < a.length) = false := decide_eq_false (by omega)
  have x1 : decide (65536 < (v.length : Int)) = false := decide_eq_false (by omega)
  have y1 : decide (65536 < v.length) = false := decide_eq_false (by omega)
  have x2 : decide (65536 < (s.length : Int)) = false := decide_eq_false (by omega)
  have y2 : decide (65536 < s.length) = false := decide_eq_false (by omega)
  obtain ⟨hA, hV, hN⟩ := valued_arcs hv
  have hle := hA.le
  have hlaw := pit_law hv (best_pit hv P)
  obtain ⟨g, eg⟩ : ∃ z, z = bestL a x := ⟨_, rfl⟩
  rw [show listOf (pitB a.length (inB x.2.2)) = g from eg.symm] at hlaw
  have hr : OwnBestT.bestR a v (g, true) := by unfold OwnBestT.bestR; rw [if_pos hv, eg]; exact ⟨x, b, P, rfl⟩
  obtain ⟨hga, hgc, hg0, hgs⟩ := hlaw
  have hgl := asc_len hga
  obtain ⟨ws, ews⟩ : ∃ z, z = valSum v g := ⟨_, rfl⟩
  obtain ⟨ps, eps⟩ : ∃ z, z = posSum v := ⟨_, rfl⟩
  obtain ⟨cv, ecv⟩ : ∃ z, z = posSum v - valSum v g := ⟨_, rfl⟩
  have hpb := posSum_bd hV
  have hvb := valSum_bound (valsOk_iff.1 hV).2.2 (fun j hj => by have := asc_at hga hj; rw [← hN] at this; exact this) g.length (Nat.le_refl _)
  have hvb2 : -120000000 ≤ ws ∧ ws ≤ 120000000 := by rw [ews]; unfold valSum; omega
  have hsum : wrap64 (ws + cv) = ps := by rw [ecv, ← ews, ← eps, w64 (by omega) (by omega)]; omega
  have t15 : decide (ws < 0) = false := decide_eq_false (by rw [ews]; omega)
  have hne : (ps != ps) = false := by simp
  have hcg : (if asc g a.length then (isClo a g, true) else (false, false)) = (true, true) := by rw [if_pos hga, hgc]
  have hvg : (if asc g v.length then (valSum v g, true) else (0, false)) = (ws, true) := by rw [hN, if_pos hga, ews]
  have hall : f0 = true → f1 = true → f3 = true → f2 ≤ ws ∧ (f2 = ws → ∀ z ∈ g, z ∈ s) := by
    intro e0 e1 e3
    subst e0 e1 e3
    by_cases ha : asc s a.length = true
    · rw [if_pos ha] at hc
      rw [hN, if_pos ha] at hvs
      injection hc with hc1 _
      injection hvs with hv1 _
      have := hgs s ha hc1
      rw [hv1, ← ews] at this
      exact this
    · rw [if_neg ha] at hc; injection hc with hc1 _; cases hc1
  have HR := Aside0.mk hr
  have HV := Aside0.mk hv
  have HAV := Aside0.mk (And.intro hA hV)
  have HG := Aside0.mk (And.intro hga hgc)
  have HGL := Aside0.mk (show g.length ≤ 120 by omega)
  have HCG := Aside0.mk hcg
  have HVG := Aside0.mk hvg
  have HC := Aside0.mk hc
  have HVS := Aside0.mk hvs
  have HALL := Aside0.mk hall
  have ECV := Aside0.mk ecv
  have EPS := Aside0.mk eps
  have HPB := Aside0.mk hpb
  have HSUM := Aside0.mk hsum
  have T15 := Aside0.mk t15
  have HNE := Aside0.mk hne
  have H0 := Aside0.mk h0
  have E0 := Aside0.mk e0
  have H1 := Aside0.mk h1
  have E1 := Aside0.mk e1
  have H2 := Aside0.mk h2
  have E2 := Aside0.mk e2
  have LB := Aside0.mk lb
  have Q0 := Aside0.mk (And.intro (And.intro q0 q1) q2)
  have HVL := Aside0.mk (show v.length ≤ 120 by omega)
  clear h0 e0 h1 e1 h2 e2 q0 q1 q2 lb hv hr hA hV hN hle eg hga hgc hg0 hgs hgl ews eps ecv hpb hvb hvb2 hsum t15 hne hcg hvg hall hc hvs P
  go_enter Try.func13, Try.ntmps13
  go_wp2_with fail
  refine (OwnBestT.own_impl A0 c0 a A1 c1 v g true w H0.out E0.out H1.out E1.out (by have := Q0.out; omega) LB.out (by have := Q0.out; omega) HR.out).mono ?_
  rintro e w1 ⟨u1, rfl, hv, hb⟩
  have B1 := Aside0.mk hb
  obtain ⟨R1, d1, rfl⟩ := Kd.R_slice hv
  have V1 := Aside0.mk hv
  clear hv hb
  go_wp2_with fail
  refine (OwnBestT.own_spec A0 c0 a A1 c1 v g true w1 (Kd.C_below H0.out B1.out) E0.out (Kd.C_below H1.out B1.out) E1.out (by have := Q0.out; omega) LB.out (by have := Q0.out; omega) HR.out).mono ?_
  rintro e w2 ⟨u2, rfl, hv, hb⟩
  have B2 := Aside0.mk (below_step B1.out hb)
  have V2 := Aside0.mk (Kd.R_below V1.out hb)
  obtain ⟨R2, d2, rfl⟩ := Kd.R_slice hv
  have U2 := Aside0.mk hv
  clear hv hb V1
  go_wp2_with fail
  refine (same_calls R1 R2 d1 d2 g w2 (Kd.R_reads' V2.out).2.2 (Kd.R_reads' V2.out).2.1 (Kd.R_reads' U2.out).2.2 (Kd.R_reads' U2.out).2.1 (maxLen_val (by have := HGL.out; omega))).mono ?_
  rintro e w3 ⟨rfl, hb⟩
  have B3 := Aside0.mk (below_step B2.out hb)
  have V3 := Aside0.mk (Kd.R_below V2.out hb)
  clear hb V2 U2
  go_wp2_with fail
  refine (closure_calls A0 c0 a R1 d1 g true true w3 (Kd.C_below H0.out B3.out) E0.out (Kd.R_reads' V3.out).2.2 (Kd.R_reads' V3.out).2.1 HAV.out.1 LB.out (maxLen_val (by have := HGL.out; omega)) HCG.out).mono ?_
  rintro e w4 ⟨rfl, hb⟩
  have B4 := Aside0.mk (below_step B3.out hb)
  have V4 := Aside0.mk (Kd.R_below V3.out hb)
  clear hb V3
  go_wp2_with fail
  refine (cut_calls A0 c0 a A1 c1 v R1 d1 g w4 (Kd.C_below H0.out B4.out) E0.out (Kd.C_below H1.out B4.out) E1.out (Kd.R_reads' V4.out).2.2 (Kd.R_reads' V4.out).2.1 HV.out HG.out.1 HG.out.2).mono ?_
  rintro e w5 ⟨rfl, hb⟩
  have B5 := Aside0.mk (below_step B4.out hb)
  have V5 := Aside0.mk (Kd.R_below V4.out hb)
  clear hb V4
  rw [← ECV.out]
  go_wp2_with fail
  refine (value_calls A1 c1 v R1 d1 g ws true w5 (Kd.C_below H1.out B5.out) E1.out (Kd.R_reads' V5.out).2.2 (Kd.R_reads' V5.out).2.1 HAV.out.2 (maxLen_val (by have := HGL.out; omega)) HVG.out).mono ?_
  rintro e w6 ⟨rfl, hb⟩
  have B6 := Aside0.mk (below_step B5.out hb)
  have V6 := Aside0.mk (Kd.R_below V5.out hb)
  have HC1 := Aside0.mk (Kd.C_below H1.out (below_step B5.out hb))
  clear hb V5
  go_wp2_with fail
  have e0 : (0 : Int) = foldR (posAt v) 0 (0 : Int).toNat 0 := by rw [show (0 : Int).toNat = 0 from rfl, foldR_end (Nat.le_refl _)]
  have EZ := Aside0.mk e0
  clear e0
  go_loopg [17, 83] (v.length) (fun d v17 v83 wr => ∃ i : Int, v83 = .int .i64 i ∧ v17 = .int .i64 (foldR (posAt v) 0 i.toNat 0) ∧ Aside0 (0 ≤ i ∧ i + d = v.length) ∧ wr = w6)
  case atStart => exact ⟨0, rfl, congrArg _ EZ.out, ⟨by omega⟩, rfl⟩
  case round =>
    clear EZ
    obtain ⟨i, rfl, rfl, HI, rfl⟩ := hrel
    have h0 := HI.out.1
    cases gk with
    | succ d =>
      have hlt : i < (v.length : Int) := by have := HI.out.2; omega
      have hd : decide (i < (v.length : Int)) = true := decide_eq_true hlt
      obtain ⟨ad, eA, hcell⟩ := Kd.at_int HC1.out i h0 hlt
      subst eA
      have q0 := eq_true h0
      have q1 := eq_true hlt
      have HLT := Aside0.mk hlt
      clear h0 hlt
      go_wp2_with fail
      all_goals
        go_roundg d
        case measure => omega
        case rel =>
          have hI := HI.out
          have hlt := HLT.out
          have hl := HVL.out
          have hb := posAt_bd HAV.out.2 i.toNat (by omega)
          have hv := (valsOk_iff.1 HAV.out.2).2.2 i.toNat (by omega)
          have hr : rd v i = v.getD i.toNat 0 := rfl
          have ei : wrap64 (i + 1) = i + 1 := by rw [w64 (by omega) (by omega)]
          refine ⟨i + 1, by rw [ei], congrArg _ ?_, ⟨by omega⟩, rfl⟩
          rw [show (i + 1).toNat = i.toNat + 1 by omega, foldR_last (Nat.zero_le _)]
          unfold posAt at hb ⊢
          rw [w64 (by omega) (by omega)]
          omega
    | zero =>
      have hd : decide (i < (v.length : Int)) = false := decide_eq_false (by have := HI.out.2; omega)
      have hps : foldR (posAt v) 0 i.toNat 0 = ps := by rw [show i.toNat = v.length by have := HI.out; omega, EPS.out]; rfl
      rw [hps]
      have hsum := HSUM.out
      have t15 := T15.out
      have hne := HNE.out
      clear h0 hps HI HC1
      go_wp2_with fail
      clear hsum t15 hne
      refine (closure_calls A0 c0 a A2 c2 s f0 f1 wr (Kd.C_below H0.out B6.out) E0.out (Kd.C_below H2.out B6.out) E2.out HAV.out.1 LB.out (maxLen_val (by have := Q0.out; omega)) HC.out).mono ?_
      rintro e w7 ⟨rfl, hb⟩
      have B7 := Aside0.mk (below_step B6.out hb)
      have V7 := Aside0.mk (Kd.R_below V6.out hb)
      clear hb V6
      go_wp2_with fail
      refine (value_calls A1 c1 v A2 c2 s f2 f3 w7 (Kd.C_below H1.out B7.out) E1.out (Kd.C_below H2.out B7.out) E2.out HAV.out.2 (maxLen_val (by have := Q0.out; omega)) HVS.out).mono ?_
      rintro e w8 ⟨rfl, hb⟩
      have B8 := Aside0.mk (below_step B7.out hb)
      have V8 := Aside0.mk (Kd.R_below V7.out hb)
      clear hb V7
      cases f1 with
      | false =>
        go_wp2_with fail
        go_ret
        exact ⟨rfl, B8.out⟩
      | true =>
        cases f0 with
        | false =>
          go_wp2_with fail
          go_ret
          exact ⟨rfl, B8.out⟩
        | true =>
          cases f3 with
          | false =>
            go_wp2_with fail
            go_ret
            exact ⟨rfl, B8.out⟩
          | true =>
            have hall := HALL.out rfl rfl rfl
            have tw : decide (ws < f2) = false := decide_eq_false (by omega)
            have HEQ := Aside0.mk hall.2
            clear hall
            go_wp2_with fail
            go_loopg [144] (g.length) (fun d v144 wr2 => ∃ i : Int, v144 = .int .i64 i ∧ Aside0 (0 ≤ i ∧ i + d = g.length) ∧ Aside0 (Kd.R (Kd.int .i64) 3 wr2 w1.heap.size (fun _ => True) (.slice R1 g.length d1) g ∨ Kd.R (Kd.int .i64) 3 wr2 w.heap.size (fun _ => True) (.slice R1 g.length d1) g) ∧ Aside0 (Below w.heap.size w wr2))
            case atStart => exact ⟨0, rfl, ⟨by omega⟩, ⟨Or.inr V8.out⟩, B8⟩
            case round =>
              clear V8 B8
              obtain ⟨j, rfl, HJ, VV, BB⟩ := hrel
              have hj := HJ.out
              cases gk with
              | zero =>
                have td : decide (j < (g.length : Int)) = false := decide_eq_false (by omega)
                clear hj
                go_wp2_with fail
                go_ret
                exact ⟨rfl, BB.out⟩
              | succ d =>
                have td : decide (j < (g.length : Int)) = true := decide_eq_true (by omega)
                have q0 := eq_true hj.1
                have q1 := eq_true (show j < (g.length : Int) by omega)
                have hcg : Kd.C (Kd.int .i64) wr R1 g.length g := VV.out.elim (fun h => (Kd.R_reads' h).2.2) (fun h => (Kd.R_reads' h).2.2)
                obtain ⟨ad, eA, hcell⟩ := Kd.at_int hcg j hj.1 (by omega)
                subst eA
                obtain ⟨z, ez⟩ : ∃ z, z = rd g j := ⟨_, rfl⟩
                rw [← ez] at hcell
                have hzm : z ∈ g := by rw [ez]; exact row_mem hj.1 (by omega)
                have HZM := Aside0.mk hzm
                have hjb : j ≤ 130 := by have := HGL.out; omega
                have HJB := Aside0.mk hjb
                clear hj hcg ez hzm hjb
                by_cases he : f2 = ws
                · have tb : (f2 == ws) = true := beq_iff_eq.mpr he
                  have HZS := Aside0.mk (HEQ.out he z HZM.out)
                  clear he
                  go_wp2_with fail
                  refine (in_calls A2 c2 s z wr (Kd.C_below H2.out BB.out) E2.out (maxLen_val (by have := Q0.out; omega)) HZS.out).mono ?_
                  rintro e w9 ⟨rfl, hb⟩
                  have n0_ := Aside0.mk (VV.out.imp (fun h => Kd.R_below h hb) (fun h => Kd.R_below h hb))
                  have n1_ := Aside0.mk (below_step BB.out hb)
                  clear VV BB hb hcell
                  go_wp2_with fail
                  go_roundg d
                  case measure => omega
                  case rel =>
                    have hj := HJ.out
                    have hjb := HJB.out
                    exact ⟨j + 1, by rw [w64 (by omega) (by omega)], ⟨by omega⟩, n0_, n1_⟩
                · have tb : (f2 == ws) = false := beq_eq_false_iff_ne.mpr he
                  clear he
                  go_wp2_with fail
                  go_roundg d
                  case measure => omega
                  case rel =>
                    have hj := HJ.out
                    have hjb := HJB.out
                    exact ⟨j + 1, by rw [w64 (by omega) (by omega)], ⟨by omega⟩, VV, BB⟩
end
theorem law (a0 : List (List Int)) (a1 a2 : List Int) (ha0 : a0.length ≤ maxLen) (ga0 : ∀ x ∈ a0, x.length ≤ maxLen ∧ ∀ y0 ∈ x, (Lit.int .i64 y0).wf = true) (ha1 : a1.length ≤ maxLen) (sa1 : a1.length * 8 ≤ 140737488351232) (ga1 : ∀ x ∈ a1, (Lit.int .i64 x).wf = true) (ha2 : a2.length ≤ maxLen) (sa2 : a2.length * 8 ≤ 140737488351232) (ga2 : ∀ x ∈ a2, (Lit.int .i64 x).wf = true)
    (A0 : Option Addr) (c0 : Nat) (A1 : Option Addr) (c1 : Nat) (A2 : Option Addr) (c2 : Nat) (w : World) (h0 : Kd.C kSS w A0 a0.length a0) (e0 : a0.length ≤ c0) (h1 : Kd.C (Kd.int .i64) w A1 a1.length a1) (e1 : a1.length ≤ c1) (h2 : Kd.C (Kd.int .i64) w A2 a2.length a2) (e2 : a2.length ≤ c2) :
    Calls Try.prog 13 #[.slice A0 a0.length c0, .slice A1 a1.length c1, .slice A2 a2.length c2] w fun e w' => e = .returned (.bool true) ∧ Below w.heap.size w w' := by
  by_cases q0 : a0.length ≤ 65536
  rotate_left
  · exact walk_len0 q0
  by_cases q1 : a1.length ≤ 65536
  rotate_left
  · exact walk_len1 q0 q1
  by_cases q2 : a2.length ≤ 65536
  rotate_left
  · exact walk_len2 q0 q1 q2
  have lb : ∀ x ∈ a0, x.length ≤ maxLen := fun x hx => (ga0 x hx).1
  cases hv : valuedB a0 a1 with
  | false => exact walk_bad h0 e0 h1 e1 q0 q1 q2 lb hv
  | true =>
    obtain ⟨x, b, P⟩ := pitsx_end hv
    exact walk_good h0 e0 h1 e1 h2 e2 q0 q1 q2 lb hv x b P _ _ _ _ (Prod.eta _).symm (Prod.eta _).symm
end Go.Proofs.Ytogjpimhlkinkaa.WalkFnPitBest
end
