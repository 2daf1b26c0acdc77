/- The contracts of impl.FreeBlocks and spec.FreeBlocks by hand. -/
-- OWN impl freeR %s %s
-- OWN spec freeR %s %s
import Derived.Test.YtogjpimhlkinkaaOwnPitC
import Derived.Test.YtogjpimhlkinkaaMFnExactLargestPitx0
namespace Go.Proofs.Ytogjpimhlkinkaa.OwnFreeBlocks
open Go.RowKit Go.Proofs.Ytogjpimhlkinkaa.PFnExactLargestPit Go.Proofs.YtogjpimhlkinkaaW.PrintWords Go.Proofs.YtogjpimhlkinkaaW.PrintLast Go.Proofs.YtogjpimhlkinkaaW.PrintMore Go.Proofs.Ytogjpimhlkinkaa.B Go.Proofs.Ytogjpimhlkinkaa.Flow Go.Proofs.Ytogjpimhlkinkaa.OwnPush Go.Proofs.Ytogjpimhlkinkaa.OwnLevels Go.Proofs.Ytogjpimhlkinkaa.OwnRows Go.Proofs.Ytogjpimhlkinkaa.OwnNet Go.Proofs.Ytogjpimhlkinkaa.OwnValue Go.Proofs.Ytogjpimhlkinkaa.OwnFrom Go.Proofs.Ytogjpimhlkinkaa.OwnTurn Go.Proofs.Ytogjpimhlkinkaa.OwnMost Go.Proofs.Ytogjpimhlkinkaa.PitMath Go.Proofs.Ytogjpimhlkinkaa.PitBest Go.Proofs.Ytogjpimhlkinkaa.OwnPitB Go.Proofs.Ytogjpimhlkinkaa.OwnPitS Go.Proofs.Ytogjpimhlkinkaa.OwnPitC
set_option linter.unusedVariables false
set_option linter.unusedSimpArgs false
/-- marked in the largest, and not in the least -/
def freeB (a : List (List Int)) (x : Int × List Int × List Int) (b : List Int) : List Bool := (List.range a.length).map fun i => (pitB a.length (outB b)).getD i false && !((pitB a.length (inB x.2.2)).getD i false)
theorem freeB_len (a : List (List Int)) (x : Int × List Int × List Int) (b : List Int) : (freeB a x b).length = a.length := by unfold freeB; rw [List.length_map, List.length_range]
theorem freeB_at (a : List (List Int)) (x : Int × List Int × List Int) (b : List Int) (i : Nat) (h : i < a.length) : (freeB a x b).getD i false = ((pitB a.length (outB b)).getD i false && !((pitB a.length (inB x.2.2)).getD i false)) := by
  unfold freeB
  rw [List.getD_eq_getElem?_getD, List.getElem?_map, List.getElem?_range h]
  rfl
theorem free_len (a : List (List Int)) (x : Int × List Int × List Int) (b : List Int) : (listOf (freeB a x b)).length ≤ a.length := by
  have := listOf_len (m := freeB a x b)
  rwa [freeB_len] at this
theorem free_keep {a : List (List Int)} {v : List Int} (h : valuedB a v = true) {x y : Int × List Int × List Int} {b : List Int} (P : Pits a v x y b) : (mostL a b).filter (fun z => !(decide (z ∈ bestL a x))) = listOf (freeB a x b) := by
  have hm := mostL_asc h P
  refine asc_ext (filter_asc _ hm) (by have := listOf_asc (m := freeB a x b); rwa [freeB_len] at this) (fun z => ?_)
  rw [List.mem_filter, listOf_mem]
  unfold mostL bestL
  rw [listOf_mem]
  unfold at_
  constructor
  · rintro ⟨⟨h0, h1⟩, h2⟩
    refine ⟨h0, ?_⟩
    have hz : z.toNat < a.length := by
      by_cases c : z.toNat < a.length
      · exact c
      · rw [getD_none (by rw [pitB_len (by rw [outB_len]; exact (pits_same h P).2)]; omega)] at h1; cases h1
    rw [freeB_at a x b _ hz, h1, Bool.true_and]
    rw [Bool.not_eq_true', decide_eq_false_iff_not, listOf_mem] at h2
    unfold at_ at h2
    cases hc : (pitB a.length (inB x.2.2)).getD z.toNat false with
    | false => rfl
    | true => exact absurd ⟨h0, hc⟩ h2
  · rintro ⟨h0, h1⟩
    have hz : z.toNat < a.length := by
      by_cases c : z.toNat < a.length
      · exact c
      · rw [getD_none (by rw [freeB_len]; omega)] at h1; cases h1
    rw [freeB_at a x b _ hz, Bool.and_eq_true] at h1
    refine ⟨⟨h0, h1.1⟩, ?_⟩
    rw [Bool.not_eq_true', decide_eq_false_iff_not, listOf_mem]
    unfold at_
    rintro ⟨_, h2⟩
    rw [h2] at h1
    exact absurd h1.2 (by decide)
def freeR (a : List (List Int)) (v : List Int) (r : List Int × Bool) : Prop := if valuedB a v = true then ∃ x y b, Pits a v x y b ∧ r = (listOf (freeB a x b), true) else r = ([], false)
set_option maxHeartbeats 8000000 in
set_option maxRecDepth 100000 in
theorem own_impl (A0 : Option Addr) (c0 : Nat) (a : List (List Int)) (A1 : Option Addr) (c1 : Nat) (v : List Int) (g0 : List Int) (g1 : Bool) (w : World) (h0 : Kd.C kRows w A0 a.length a) (e0 : a.length ≤ c0) (h1 : Kd.C (Kd.int .i64) w A1 v.length v) (e1 : v.length ≤ c1) (la : a.length ≤ 1048576) (lb : ∀ x ∈ a, x.length ≤ 1048576) (lv : v.length ≤ 1048576) (h : freeR a v (g0, g1)) :
    Calls Try.prog 44 #[.slice A0 a.length c0, .slice A1 v.length c1] w fun e w' => ∃ u : Value, e = .returned (.tuple #[u, .bool g1]) ∧ Kd.R (Kd.int .i64) 3 w' w.heap.size (fun _ => True) u g0 ∧ Below w.heap.size w w' := by
  have hh := h
  unfold freeR at hh
  clear h
  obtain ⟨kg, hkg⟩ := (areValued_ev a (maxLen_val (by omega)) (fun x hx => maxLen_val (by have := lb x hx; omega)) v (maxLen_val (by omega))).rounds
  have HKG := Aside0.mk hkg
  clear hkg
  have H0 := Aside0.mk h0
  have E0 := Aside0.mk e0
  have H1 := Aside0.mk h1
  have E1 := Aside0.mk e1
  have HLB := Aside0.mk (And.intro (And.intro la lb) (And.intro lv trivial))
  clear h0 e0 h1 e1 la lb lv
  cases hv_ : valuedB a v with
  | false =>
    have HV := Aside0.mk hv_
    rw [if_neg (by rw [hv_]; decide)] at hh
    injection hh with hr0 hr1
    subst hr0 hr1
    clear hv_
    go_enter Try.func44, Try.ntmps44
    go_wp2_with fail
    refine Calls.mono ((impl_areValued.calls kg A0 c0 a A1 c1 v false w H0.out E0.out H1.out E1.out (by rw [← HV.out]; exact HKG.out))) ?_
    rintro e w1 ⟨rfl, hb⟩
    have hb := Go.Proofs.Ytogjpimhlkinkaa.OwnPitB.drawn_below hb
    have B1 := Aside0.mk hb
    clear hb
    go_wp2_with fail
    go_ret2
    exact ⟨_, rfl, Kd.R_nil _ _ _ _ _, B1.out⟩
  | true =>
    have HV := Aside0.mk hv_
    rw [if_pos hv_] at hh
    have HVA := Aside0.mk (valued_arcs hv_)
    clear hv_
    obtain ⟨x, y, b, hP, hr⟩ := hh
    injection hr with hr0 hr1
    subst hr0 hr1
    have HPT := Aside0.mk hP
    clear hP
    have HAB := Aside0.mk (bestL_asc HV.out HPT.out.rx)
    go_enter Try.func44, Try.ntmps44
    go_wp2_with fail
    refine Calls.mono ((impl_areValued.calls kg A0 c0 a A1 c1 v true w H0.out E0.out H1.out E1.out (by rw [← HV.out]; exact HKG.out))) ?_
    rintro e w1 ⟨rfl, hb⟩
    have hb := Go.Proofs.Ytogjpimhlkinkaa.OwnPitB.drawn_below hb
    have B1 := Aside0.mk hb
    clear hb
    have HW0 := Aside0.mk B1.out.size
    go_wp2_with fail
    refine (pit_calls A0 c0 a A1 c1 v false w1 (Kd.C_below H0.out B1.out) E0.out (Kd.C_below H1.out B1.out) E1.out HV.out x b HPT.out.rx HPT.out.rb).mono ?_
    rintro e w2 ⟨g2, d2, rfl, hv, hb⟩
    have V2 := Aside0.mk hv
    have B2 := Aside0.mk (below_step B1.out hb)
    clear hv hb
    have HW1 := Aside0.mk B2.out.size
    have HG1 := Aside0.mk (Kd.R_lt V2.out g2 rfl)
    have Z0 := Aside0.mk (Below.refl w2.heap.size w2)
    go_wp2_with (first | ((with_reducible refine gate_dst (N := 17) rfl ?_); refine Kd.R_lit (Kd.int .i64) _ 3 ?hg (N := 17) ?hd (xs := ([] : List Int)) (inner := []) (ok := fun _ => True) (okp := fun _ => True) ?hr ?hp (fun _ hk => hk) trivial (Below.refl _ _) (Nat.le_refl _) (by simp) ?_; (case hd => rfl); (case hg => rfl); (case hr => first | (go_simp; done) | (go_simp; rfl)); (case hp => exact (Reps.none _ _)); intro vo w3 ho hb hg_ hnew_; clear hg_ hnew_; have n0_ := Aside0.mk (Kd.R_below V2.out hb); have n1_ := Aside0.mk (below_step B2.out hb); have n2_ := Aside0.mk (below_step Z0.out hb); have n3_ := Aside0.mk (Kd.R_bound ho); clear V2 Z0; have V2 := n0_; have B3 := n1_; have Z1 := n2_; have HO := n3_; clear n0_ n1_ n2_ n3_ ho hb))
    refine (pit_calls A0 c0 a A1 c1 v true w3 (Kd.C_below H0.out B3.out) E0.out (Kd.C_below H1.out B3.out) E1.out HV.out x b HPT.out.rx HPT.out.rb).mono ?_
    rintro e w4 ⟨g4, d4, rfl, hv, hb⟩
    have n0_ := Aside0.mk (Kd.R_below V2.out hb)
    have n1_ := Aside0.mk (below_step B3.out hb)
    have n2_ := Aside0.mk (below_step Z1.out hb)
    have n3_ : Aside0 (Kd.R (Kd.int .i64) 3 w4 w2.heap.size (fun k => k ≠ g2 ∧ k ≠ g4) vo []) := ⟨Kd.R_below (Kd.R_mono HO.out (fun k hk => ⟨by have := Kd.R_lt V2.out g2 rfl; have := hk.2.1; have h3 := HG1.out; omega, by have := Kd.R_base hv g4 rfl; have := hk.2.2.1; omega⟩)) hb⟩
    have V4 := Aside0.mk hv
    clear V2 HO Z1 hv hb
    have V2 := n0_
    have B4 := n1_
    have Z1 := n2_
    have HO := n3_
    clear n0_ n1_ n2_ n3_
    have HM1 := Aside0.mk (marks_C V2.out HVA.out.1.pos).2.2
    have HM2 := Aside0.mk (marks_C V4.out HVA.out.1.pos).2.2
    obtain ⟨m1, em1⟩ : ∃ z, z = markL false x.2.2 b := ⟨_, rfl⟩
    obtain ⟨m2, em2⟩ : ∃ z, z = markL true x.2.2 b := ⟨_, rfl⟩
    rw [← em1] at V2 HM1
    rw [← em2] at V4 HM2
    have EM1 : Aside0 (m1 = inB x.2.2) := ⟨em1⟩
    have EM2 : Aside0 (m2 = outB b) := ⟨em2⟩
    have HN : Aside0 (1 ≤ a.length ∧ a.length ≤ 120) := ⟨HVA.out.1.pos, HVA.out.1.le⟩
    clear em1 em2
    go_wp2_with fail
    go_loopg [7, 22] (a.length) (fun q v7 v22 wr => ∃ (i : Int), v22 = .int .i64 i ∧ Aside0 (0 ≤ i ∧ i + q = (a.length : Int)) ∧ Aside0 (Kd.R Kd.bool 4 wr w.heap.size (fun k => k = g2 ∧ some k ≠ v7.ownBlock) (.slice (some ⟨g2, 0, none⟩) (a.length + 2) d2) m1) ∧ Aside0 (Kd.R Kd.bool 4 wr w.heap.size (fun k => k = g4 ∧ some k ≠ v7.ownBlock) (.slice (some ⟨g4, 0, none⟩) (a.length + 2) d4) m2) ∧ Aside0 (Kd.R (Kd.int .i64) 3 wr w.heap.size (fun k => k ≠ g2 ∧ k ≠ g4) v7 (foldR (putAt (freeB a x b)) 0 i.toNat [])) ∧ Aside0 (Below w.heap.size w wr))
    case atStart => exact ⟨0, rfl, ⟨by omega⟩, ⟨Kd.R_lower (Kd.R_mono V2.out (fun k hk => ⟨hk, by rw [hk]; exact Kd.R_away HO.out (fun _ h => h.1)⟩)) HW0.out⟩, ⟨Kd.R_lower (Kd.R_mono V4.out (fun k hk => ⟨hk, by rw [hk]; exact Kd.R_away HO.out (fun _ h => h.2)⟩)) B3.out.size⟩, ⟨by rw [show (0 : Int).toNat = 0 from rfl, foldR_end (Nat.le_refl _)]; exact Kd.R_lower HO.out HW1.out⟩, B4⟩
    case round =>
      clear V2 V4 HO B4 Z1
      obtain ⟨i, rfl, HI, V1, V2, HO, HB⟩ := hrel
      have hi := HI.out
      cases gk with
      | zero =>
        have t1 : decide (i < (a.length : Int)) = false := decide_eq_false (by omega)
        have ei : i.toNat = a.length := by omega
        rw [ei] at HO
        clear hi ei
        go_wp2_with fail
        go_ret2
        exact ⟨_, rfl, Kd.R_mono (by unfold listOf; rw [freeB_len]; exact HO.out) (fun _ _ => trivial), HB.out⟩
      | succ q =>
        have t1 : decide (i < (a.length : Int)) = true := decide_eq_true (by omega)
        have q0 := eq_true hi.1
        have q1 := eq_true (show i < (a.length : Int) by omega)
        obtain ⟨hc1, hf1⟩ := Kd.R_celln false V1.out (i + 1) (by omega) (by omega)
        obtain ⟨hc2, hf2⟩ := Kd.R_celln false V2.out (i + 1) (by omega) (by omega)
        rw [show (i + 1).toNat = 1 + i.toNat by omega] at hc1 hc2 hf1 hf2
        obtain ⟨x1, ex1⟩ : ∃ z, z = rdOf false m1 (i + 1) := ⟨_, rfl⟩
        obtain ⟨x2, ex2⟩ : ∃ z, z = rdOf false m2 (i + 1) := ⟨_, rfl⟩
        rw [← ex1] at hc1
        rw [← ex2] at hc2
        have hfree : (freeB a x b).getD i.toNat false = (x2 && !x1) := by
          rw [freeB_at a x b i.toNat (by omega), pitB_at (by omega), pitB_at (by omega), ex1, ex2, EM1.out, EM2.out]
          show _ = ((outB b).getD (i + 1).toNat false && !((inB x.2.2).getD (i + 1).toNat false))
          rw [show (i + 1).toNat = i.toNat + 1 by omega]
        have HFR := Aside0.mk hfree
        have HLN := Aside0.mk (putAt_len (m := freeB a x b) i.toNat)
        have hib : i ≤ 130 := by have := HN.out; omega
        have HIB := Aside0.mk hib
        obtain ⟨A6, c6, e6⟩ := Kd.R_slice HO.out
        obtain ⟨m6, em6⟩ : ∃ z, z = (foldR (putAt (freeB a x b)) 0 i.toNat []).length := ⟨_, rfl⟩
        rw [← em6] at e6
        subst e6
        clear hi em6 hib hfree ex1 ex2
        cases x2 with
        | false =>
          go_wp2_with fail
          go_roundg q
          case measure => omega
          case rel =>
            have hi := HI.out
            have hib := HIB.out
            refine ⟨i + 1, by rw [w64 (by omega) (by omega)], ⟨by omega⟩, V1, V2, ⟨?_⟩, HB⟩
            rw [show (i + 1).toNat = i.toNat + 1 by omega, foldR_last (Nat.zero_le _)]
            rw [show putAt (freeB a x b) (foldR (putAt (freeB a x b)) 0 i.toNat []) i.toNat = foldR (putAt (freeB a x b)) 0 i.toNat [] from by unfold putAt; rw [HFR.out]; rfl]
            exact HO.out
        | true =>
          cases x1 with
          | true =>
            go_wp2_with fail
            go_roundg q
            case measure => omega
            case rel =>
              have hi := HI.out
              have hib := HIB.out
              refine ⟨i + 1, by rw [w64 (by omega) (by omega)], ⟨by omega⟩, V1, V2, ⟨?_⟩, HB⟩
              rw [show (i + 1).toNat = i.toNat + 1 by omega, foldR_last (Nat.zero_le _)]
              rw [show putAt (freeB a x b) (foldR (putAt (freeB a x b)) 0 i.toNat []) i.toNat = foldR (putAt (freeB a x b)) 0 i.toNat [] from by unfold putAt; rw [HFR.out]; rfl]
              exact HO.out
          | false =>
            go_wp2_with (first | ((with_reducible refine gate_builtin (b := .append) (xs := #[.tmp 35, .tmp 37]) rfl ?_); at_builtin; refine Kd.R_append (Kd.int .i64) (w0 := w) w.heap.size rfl (.tmp 35) (.tmp 37) 33 3 (.int .i64 0) 8 rfl Try.underlying33 inf3 rfl (by decide) (by omega) (.slice A6 m6 c6) (foldR (putAt (freeB a x b)) 0 i.toNat []) i [.int .i64 i] (fun k => k ≠ g2 ∧ k ≠ g4) (fun _ => False) rfl rfl ?aP (fun _ hk => hk.elim) ?aF ?aO ?aB ?aS ?aL ?_; (case aP => exact rfl); (case aB => exact HB.out); (case aF => exact (fun k hk => ⟨by have h1_ := Kd.R_lt V1.out g2 rfl; omega, by have h1_ := Kd.R_lt V2.out g4 rfl; omega⟩)); (case aO => exact HO.out); (case aS => exact (below_size HB.out)); (case aL => have h1_ := HLN.out; have h2_ := HIB.out; omega); intro v229 w10 ho hb hg hat; have n0_ := Aside0.mk hb; have n1_ := Aside0.mk ho; have n2_ := Aside0.mk (Kd.R_after V1.out hg hat); have n3_ := Aside0.mk (Kd.R_after V2.out hg hat); clear HB HO V1 V2; have HB := n0_; have HO := n1_; have V1 := n2_; have V2 := n3_; clear n0_ n1_ n2_ n3_; clear ho hb hg hat hc1 hc2 hf1 hf2))
            go_roundg q
            case measure => omega
            case rel =>
              have hi := HI.out
              have hib := HIB.out
              refine ⟨i + 1, by rw [w64 (by omega) (by omega)], ⟨by omega⟩, V1, V2, ⟨?_⟩, HB⟩
              rw [show (i + 1).toNat = i.toNat + 1 by omega, foldR_last (Nat.zero_le _)]
              rw [show putAt (freeB a x b) (foldR (putAt (freeB a x b)) 0 i.toNat []) i.toNat = foldR (putAt (freeB a x b)) 0 i.toNat [] ++ [i] from by unfold putAt; rw [HFR.out, if_pos (show (true && !false) = true from rfl), show ((i.toNat : Nat) : Int) = i by omega]]
              exact HO.out
set_option maxHeartbeats 8000000 in
set_option maxRecDepth 100000 in
theorem own_spec (A0 : Option Addr) (c0 : Nat) (a : List (List Int)) (A1 : Option Addr) (c1 : Nat) (v : List Int) (g0 : List Int) (g1 : Bool) (w : World) (h0 : Kd.C kRows w A0 a.length a) (e0 : a.length ≤ c0) (h1 : Kd.C (Kd.int .i64) w A1 v.length v) (e1 : v.length ≤ c1) (la : a.length ≤ 1048576) (lb : ∀ x ∈ a, x.length ≤ 1048576) (lv : v.length ≤ 1048576) (h : freeR a v (g0, g1)) :
    Calls Try.prog 43 #[.slice A0 a.length c0, .slice A1 v.length c1] w fun e w' => ∃ u : Value, e = .returned (.tuple #[u, .bool g1]) ∧ Kd.R (Kd.int .i64) 3 w' w.heap.size (fun _ => True) u g0 ∧ Below w.heap.size w w' := by
  have hh := h
  unfold freeR at hh
  clear h
  obtain ⟨kg, hkg⟩ := (paGood_ev a (maxLen_val (by omega)) (fun x hx => maxLen_val (by have := lb x hx; omega)) v (maxLen_val (by omega))).rounds
  have HKG := Aside0.mk hkg
  clear hkg
  have H0 := Aside0.mk h0
  have E0 := Aside0.mk e0
  have H1 := Aside0.mk h1
  have E1 := Aside0.mk e1
  have HLB := Aside0.mk (And.intro (And.intro la lb) (And.intro lv trivial))
  clear h0 e0 h1 e1 la lb lv
  cases hv_ : valuedB a v with
  | false =>
    have HV := Aside0.mk hv_
    rw [if_neg (by rw [hv_]; decide)] at hh
    injection hh with hr0 hr1
    subst hr0 hr1
    clear hv_
    go_enter Try.func43, Try.ntmps43
    go_wp2_with fail
    refine Calls.mono ((spec_paGood.calls kg A0 c0 a A1 c1 v false w H0.out E0.out H1.out E1.out (by rw [← HV.out]; exact HKG.out))) ?_
    rintro e w1 ⟨rfl, hb⟩
    have hb := Go.Proofs.Ytogjpimhlkinkaa.OwnPitB.drawn_below hb
    have B1 := Aside0.mk hb
    clear hb
    go_wp2_with fail
    go_ret2
    exact ⟨_, rfl, Kd.R_nil _ _ _ _ _, B1.out⟩
  | true =>
    have HV := Aside0.mk hv_
    rw [if_pos hv_] at hh
    have HVA := Aside0.mk (valued_arcs hv_)
    clear hv_
    obtain ⟨x, y, b, hP, hr⟩ := hh
    injection hr with hr0 hr1
    subst hr0 hr1
    have HPT := Aside0.mk hP
    clear hP
    have HAB := Aside0.mk (bestL_asc HV.out HPT.out.rx)
    go_enter Try.func43, Try.ntmps43
    go_wp2_with fail
    refine Calls.mono ((spec_paGood.calls kg A0 c0 a A1 c1 v true w H0.out E0.out H1.out E1.out (by rw [← HV.out]; exact HKG.out))) ?_
    rintro e w1 ⟨rfl, hb⟩
    have hb := Go.Proofs.Ytogjpimhlkinkaa.OwnPitB.drawn_below hb
    have B1 := Aside0.mk hb
    clear hb
    go_wp2_with fail
    refine Calls.mono (find_calls A0 c0 a A1 c1 v w1 (Kd.C_below H0.out B1.out) E0.out (Kd.C_below H1.out B1.out) E1.out HV.out x HPT.out.rx) ?_
    rintro e w2 ⟨u2, rfl, hv, hb⟩
    have B2 := Aside0.mk (below_step B1.out hb)
    obtain ⟨R2, d2, rfl⟩ := Kd.R_slice hv
    have V2 := Aside0.mk (Kd.R_lower hv B1.out.size)
    clear hv
    clear hb
    go_wp2_with fail
    refine (pmost_calls A0 c0 a A1 c1 v w2 (Kd.C_below H0.out B2.out) E0.out (Kd.C_below H1.out B2.out) E1.out HV.out y HPT.out.ry).mono ?_
    rintro e w3 ⟨u3, rfl, hv, hb⟩
    rw [← (pits_same HV.out HPT.out).1] at hv
    have n0_ := Aside0.mk (Kd.R_reads' (Kd.R_below V2.out hb))
    obtain ⟨R3, d3, rfl⟩ := Kd.R_slice hv
    have n1_ := Aside0.mk (Kd.R_reads' hv)
    have B3 := Aside0.mk (below_step B2.out hb)
    have hbl : (bestL a x).length ≤ 120 := by have := asc_len HAB.out; have := HVA.out.1.le; omega
    have HBL := Aside0.mk hbl
    obtain ⟨l, el⟩ : ∃ z, z = mostL a b := ⟨_, rfl⟩
    have hml : l.length ≤ 120 := by rw [el]; have := asc_len (mostL_asc HV.out HPT.out); have := HVA.out.1.le; omega
    rw [show listOf (pitB a.length (outB b)) = l from el.symm] at n1_ ⊢
    obtain ⟨t, et⟩ : ∃ z, z = bestL a x := ⟨_, rfl⟩
    rw [show listOf (pitB a.length (inB x.2.2)) = t from et.symm] at n0_ ⊢
    rw [← et] at HBL
    have HML := Aside0.mk hml
    have ET := Aside0.mk et
    have EL := Aside0.mk el
    have hfin : l.filter (fun z => !(decide (z ∈ t))) = listOf (freeB a x b) := by rw [el, et]; exact free_keep HV.out HPT.out
    have HFIN := Aside0.mk hfin
    have Z := Aside0.mk (Below.refl w3.heap.size w3)
    clear hv hb hbl hml V2 el et hfin
    go_wp2_with fail
    go_loopg [7, 21] (l.length) (fun q v7 v21 wr => ∃ (i : Int), v21 = .int .i64 i ∧ Aside0 (0 ≤ i ∧ i + q = (l.length : Int)) ∧ Aside0 (Kd.R (Kd.int .i64) 3 wr w3.heap.size (fun _ => True) v7 (foldR (keepAt (fun z => !(decide (z ∈ t))) l) 0 i.toNat [])) ∧ Aside0 (Below w3.heap.size w3 wr))
    case atStart => exact ⟨0, rfl, ⟨by omega⟩, ⟨by rw [show (0 : Int).toNat = 0 from rfl, foldR_end (Nat.le_refl _)]; exact Kd.R_nil _ _ _ _ _⟩, Z⟩
    case round =>
      clear Z
      obtain ⟨i, rfl, HI, HO, HB⟩ := hrel
      have hi := HI.out
      cases gk with
      | zero =>
        have t1 : decide (i < (l.length : Int)) = false := decide_eq_false (by omega)
        have ei : i.toNat = l.length := by omega
        rw [ei, keepAt_filter _ _ _ (Nat.le_refl _), List.take_length, HFIN.out] at HO
        clear hi ei
        go_wp2_with fail
        go_ret2
        exact ⟨_, rfl, Kd.R_mono (Kd.R_lower HO.out B3.out.size) (fun _ _ => trivial), below_step B3.out HB.out⟩
      | succ q =>
        have t1 : decide (i < (l.length : Int)) = true := decide_eq_true (by omega)
        have q0 := eq_true hi.1
        have q1 := eq_true (show i < (l.length : Int) by omega)
        obtain ⟨ad, eA, hcell⟩ := Kd.at_int (Kd.C_below n1_.out.2.2 HB.out) i hi.1 (by omega)
        subst eA
        obtain ⟨z, ez⟩ : ∃ z, z = rd l i := ⟨_, rfl⟩
        rw [← ez] at hcell
        have EZ : Aside0 (z = l.getD i.toNat 0) := ⟨ez⟩
        obtain ⟨kh, hkh⟩ := (l1Has_ev t (maxLen_val (by have := HBL.out; omega)) z).rounds
        have HKH := Aside0.mk hkh
        have HLN := Aside0.mk (keepAt_len (fun z => !(decide (z ∈ t))) l i.toNat (by omega))
        have hib : i ≤ 130 := by have := HML.out; omega
        have HIB := Aside0.mk hib
        obtain ⟨A6, c6, e6⟩ := Kd.R_slice HO.out
        obtain ⟨m6, em6⟩ : ∃ z, z = (foldR (keepAt (fun z => !(decide (z ∈ t))) l) 0 i.toNat []).length := ⟨_, rfl⟩
        rw [← em6] at e6
        subst e6
        clear hi em6 hib ez hkh
        go_wp2_with fail
        refine (spec_l1Has.calls kh R2 d2 t z _ wr (Kd.C_below n0_.out.2.2 HB.out) n0_.out.2.1 HKH.out).mono ?_
        rintro e w8 ⟨rfl, hdr⟩
        have hb8 := Go.Proofs.Ytogjpimhlkinkaa.OwnPitB.drawn_below hdr
        have n3_ := Aside0.mk (Kd.R_below HO.out hb8)
        have n4_ := Aside0.mk (below_step HB.out hb8)
        clear HO HB hb8 hdr hcell
        have HO := n3_
        have HB := n4_
        clear n3_ n4_
        cases hz : decide (z ∈ t) with
        | true =>
          have HZ := Aside0.mk hz
          clear hz
          go_wp2_with fail
          go_roundg q
          case measure => omega
          case rel =>
            have hi := HI.out
            have hib := HIB.out
            refine ⟨i + 1, by rw [w64 (by omega) (by omega)], ⟨by omega⟩, ⟨?_⟩, HB⟩
            rw [show (i + 1).toNat = i.toNat + 1 by omega, foldR_last (Nat.zero_le _)]
            rw [show keepAt (fun z => !(decide (z ∈ t))) l (foldR (keepAt (fun z => !(decide (z ∈ t))) l) 0 i.toNat []) i.toNat = foldR (keepAt (fun z => !(decide (z ∈ t))) l) 0 i.toNat [] from by generalize foldR (keepAt (fun z => !(decide (z ∈ t))) l) 0 i.toNat [] = o; unfold keepAt; rw [← EZ.out]; show (if (!(decide (z ∈ t))) = true then o ++ [z] else o) = o; rw [HZ.out]; rfl]
            exact HO.out
        | false =>
          have HZ := Aside0.mk hz
          clear hz
          go_wp2_with (first | ((with_reducible refine gate_builtin (b := .append) (xs := #[.tmp 29, .tmp 31]) rfl ?_); at_builtin; refine Kd.R_append (Kd.int .i64) (w0 := w3) w3.heap.size rfl (.tmp 29) (.tmp 31) 33 3 (.int .i64 0) 8 rfl Try.underlying33 inf3 rfl (by decide) (by omega) (.slice A6 m6 c6) (foldR (keepAt (fun z => !(decide (z ∈ t))) l) 0 i.toNat []) z [.int .i64 z] (fun _ => True) (fun _ => False) rfl rfl ?aP (fun _ hk => hk.elim) ?aF ?aO ?aB ?aS ?aL ?_; (case aP => exact rfl); (case aB => exact HB.out); (case aF => exact (fun k hk => trivial)); (case aO => exact HO.out); (case aS => exact (below_size HB.out)); (case aL => have h1_ := HLN.out; have h2_ := HIB.out; omega); intro v229 w10 ho hb hg hat; have n3_ := Aside0.mk hb; have n4_ := Aside0.mk ho; clear HB HO; have HB := n3_; have HO := n4_; clear n3_ n4_; clear ho hb hg hat))
          go_roundg q
          case measure => omega
          case rel =>
            have hi := HI.out
            have hib := HIB.out
            refine ⟨i + 1, by rw [w64 (by omega) (by omega)], ⟨by omega⟩, ⟨?_⟩, HB⟩
            rw [show (i + 1).toNat = i.toNat + 1 by omega, foldR_last (Nat.zero_le _)]
            rw [show keepAt (fun z => !(decide (z ∈ t))) l (foldR (keepAt (fun z => !(decide (z ∈ t))) l) 0 i.toNat []) i.toNat = foldR (keepAt (fun z => !(decide (z ∈ t))) l) 0 i.toNat [] ++ [z] from by generalize foldR (keepAt (fun z => !(decide (z ∈ t))) l) 0 i.toNat [] = o; unfold keepAt; rw [← EZ.out]; show (if (!(decide (z ∈ t))) = true then o ++ [z] else o) = o ++ [z]; rw [HZ.out]; rfl]
            exact HO.out
end Go.Proofs.Ytogjpimhlkinkaa.OwnFreeBlocks
