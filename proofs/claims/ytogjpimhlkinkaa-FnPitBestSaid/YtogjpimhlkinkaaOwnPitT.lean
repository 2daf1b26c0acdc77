/- Contracts of what the law of best pits calls besides: closures, values, cuts of pits, equal lists, what is in a list. -/
import Derived.Test.YtogjpimhlkinkaaOwnSumI
import Derived.Test.YtogjpimhlkinkaaMFnPitBestx0
import Derived.Test.YtogjpimhlkinkaaMFnPitBestx1
import Derived.Test.YtogjpimhlkinkaaMFnPitBestx1
import Derived.Test.YtogjpimhlkinkaaMFnPitBestx1
import Derived.Test.YtogjpimhlkinkaaMFnPitBestx1
namespace Go.Proofs.Ytogjpimhlkinkaa.OwnPitT
open Go.RowKit Go.Proofs.Ytogjpimhlkinkaa.PFnPitBest Go.Proofs.YtogjpimhlkinkaaW.PrintWords Go.Proofs.YtogjpimhlkinkaaW.PrintLast Go.Proofs.YtogjpimhlkinkaaW.PrintMore Go.Proofs.Ytogjpimhlkinkaa.B Go.Proofs.Ytogjpimhlkinkaa.Flow Go.Proofs.Ytogjpimhlkinkaa.PitMath Go.Proofs.Ytogjpimhlkinkaa.PitBest Go.Proofs.Ytogjpimhlkinkaa.OwnSumI
set_option linter.unusedVariables false
set_option linter.unusedSimpArgs false
attribute [local go_sem] max2_int min2_int max_two min_two
theorem goodValues_l0 (l : List Int) (hl : l.length ≤ maxLen) : ∀ (d i : Nat), i + d = l.length → Ev (fun k => impl_goodValues.l0 k l (l.length : Int) (i : Int)) (allR (valAt l) i l.length) := by
  have hl := maxLen_le hl
  intro d
  induction d with
  | zero =>
    intro i hi
    exact Ev.step (fun k => impl_goodValues.l0.eq_2 l l.length i k) (ev_neg (by omega) (ev_some (allR_end (by omega)).symm))
  | succ d ih =>
    intro i hi
    refine Ev.step (fun k => impl_goodValues.l0.eq_2 l l.length i k) ?_
    rw [allR_step (by omega), w_succ (n := l.length) (by omega) (by omega), rd_nat]
    have no : ¬ (-1000000 ≤ l.getD i 0 ∧ l.getD i 0 ≤ 1000000) → false = (valAt l i && allR (valAt l) (i + 1) l.length) := by
      intro h; rw [show valAt l i = false from decide_eq_false h, Bool.false_and]
    refine ev_pos (by omega) (ev_pos (by omega) (ev_pos (by omega) ?_))
    refine ev_ite (fun h => ev_some (no (by omega))) (fun h => ?_)
    refine ev_ite (fun h1 => ev_some (no (by omega))) (fun h1 => ?_)
    rw [show valAt l i = true from decide_eq_true (by omega), Bool.true_and]; exact ih (i + 1) (by omega)
theorem goodValues_ev (l : List Int) (hl : l.length ≤ maxLen) : Ev (fun k => impl_goodValues.f k l) (valsOk l) := by
  unfold impl_goodValues.f valsOk
  refine ev_ite (fun h => ?_) (fun h => ?_)
  · refine Ev.step (fun k => impl_goodValues.j0.eq_2 l true k) (ev_pos rfl (ev_some ?_))
    rw [decide_eq_false (by omega), Bool.false_and]
  · refine Ev.step (fun k => impl_goodValues.j0.eq_2 l _ k) (ev_ite (fun h1 => ev_some ?_) (fun h1 => ?_))
    · simp only [decide_eq_true_eq] at h1
      rw [decide_eq_false (by omega), Bool.false_and]
    · simp only [decide_eq_true_eq] at h1
      rw [decide_eq_true (by omega), Bool.true_and]; exact goodValues_l0 l hl l.length 0 (by omega)
theorem areValued_ev (a : List (List Int)) (ha : a.length ≤ maxLen) (hb : ∀ x ∈ a, x.length ≤ maxLen) (v : List Int) (hv : v.length ≤ maxLen) : Ev (fun k => impl_areValued.f k a v) (valuedB a v) := by
  unfold impl_areValued.f valuedB
  refine Ev.bind (AreArcs_ev a ha hb) (ev_ite (fun h => ?_) (fun h => ?_))
  · rw [h, Bool.true_and]
    refine Ev.bind (goodValues_ev v hv) (ev_ite (fun h1 => ?_) (fun h1 => ?_))
    · rw [h1, Bool.true_and]; exact ev_some (by rw [Bool.eq_iff_iff, beq_iff_eq, decide_eq_true_eq])
    · rw [Bool.not_eq_true] at h1; rw [h1, Bool.false_and]; exact ev_some rfl
  · rw [Bool.not_eq_true] at h; rw [h, Bool.false_and]; exact ev_some rfl
theorem iIsClosure_ev (a : List (List Int)) (ha : a.length ≤ maxLen) (hb : ∀ x ∈ a, x.length ≤ maxLen) (l : List Int) (hl : l.length ≤ maxLen) : Ev (fun k => impl_IsClosure.f k a l) (if arcsOk a && asc l a.length then (isClo a l, true) else (false, false)) := by
  unfold impl_IsClosure.f
  refine Ev.bind (AreArcs_ev a ha hb) (ev_ite (fun h => ?_) (fun h => ?_))
  · refine Ev.bind (areBlocks_ev l hl _) (ev_ite (fun h1 => ?_) (fun h1 => ?_))
    · rw [h, h1]; exact Ev.bind (isClosure_ev a (arcsOk_iff.1 h) l h1) (ev_some rfl)
    · rw [Bool.not_eq_true] at h1; rw [h, h1]; exact ev_some rfl
  · rw [Bool.not_eq_true] at h; rw [h]; exact ev_some rfl
theorem iValueOf_ev (v l : List Int) (hv : v.length ≤ maxLen) (hl : l.length ≤ maxLen) : Ev (fun k => impl_ValueOf.f k v l) (if valsOk v && asc l v.length then (valSum v l, true) else (0, false)) := by
  unfold impl_ValueOf.f
  refine Ev.bind (goodValues_ev v hv) (ev_ite (fun h => ?_) (fun h => ev_some ?_))
  · refine Ev.bind (areBlocks_ev l hl _) (ev_ite (fun h1 => ?_) (fun h1 => ev_some ?_))
    · rw [h, h1]; exact Ev.bind (valueSum_ev v l h h1) (ev_some rfl)
    · rw [Bool.not_eq_true] at h1; rw [h, h1]; rfl
  · rw [Bool.not_eq_true] at h; rw [h]; rfl
theorem closure_calls (A0 : Option Addr) (c0 : Nat) (a : List (List Int)) (A2 : Option Addr) (c2 : Nat) (l : List Int) (g0 g1 : Bool) (w : World) (h0 : Kd.C kL w A0 a.length a) (e0 : a.length ≤ c0) (h2 : Kd.C (Kd.int .i64) w A2 l.length l) (e2 : l.length ≤ c2) (hA : Arcs a) (lb : ∀ x ∈ a, x.length ≤ maxLen) (hl : l.length ≤ maxLen) (h : (if asc l a.length then (isClo a l, true) else (false, false)) = (g0, g1)) :
    Calls Try.prog 48 #[.slice A0 a.length c0, .slice A2 l.length c2] w fun e w' => e = .returned (.tuple #[.bool g0, .bool g1]) ∧ Below w.heap.size w w' := by
  have hle := hA.le
  obtain ⟨k, hk⟩ := (iIsClosure_ev a (maxLen_val (by omega)) lb l hl).rounds
  rw [arcsOk_iff.2 hA, Bool.true_and, h] at hk
  exact impl_IsClosure.calls k A0 c0 a A2 c2 l g0 g1 w h0 e0 h2 e2 hk
theorem value_calls (A1 : Option Addr) (c1 : Nat) (v : List Int) (A2 : Option Addr) (c2 : Nat) (l : List Int) (g0 : Int) (g1 : Bool) (w : World) (h1 : Kd.C (Kd.int .i64) w A1 v.length v) (e1 : v.length ≤ c1) (h2 : Kd.C (Kd.int .i64) w A2 l.length l) (e2 : l.length ≤ c2) (hV : valsOk v = true) (hl : l.length ≤ maxLen) (h : (if asc l v.length then (valSum v l, true) else (0, false)) = (g0, g1)) :
    Calls Try.prog 50 #[.slice A1 v.length c1, .slice A2 l.length c2] w fun e w' => e = .returned (.tuple #[.int .i64 g0, .bool g1]) ∧ Below w.heap.size w w' := by
  have hv := (valsOk_iff.1 hV).2.1
  obtain ⟨k, hk⟩ := (iValueOf_ev v l (maxLen_val (by omega)) hl).rounds
  rw [hV, Bool.true_and, h] at hk
  exact (impl_ValueOf.calls k A1 c1 v A2 c2 l g0 g1 w h1 e1 h2 e2 hk).mono fun e w' h => ⟨h.1, Go.Proofs.Ytogjpimhlkinkaa.OwnSumI.drawn_below h.2⟩
theorem sameInts_l0 (l : List Int) (hl : l.length ≤ maxLen) : ∀ (d i : Nat), i + d = l.length → Ev (fun k => laws_sameInts.l0 k l l (l.length : Int) (i : Int)) true := by
  have hl := maxLen_le hl
  intro d
  induction d with
  | zero => intro i hi; exact Ev.step (fun k => laws_sameInts.l0.eq_2 l l l.length i k) (ev_neg (by omega) (ev_some rfl))
  | succ d ih =>
    intro i hi
    refine Ev.step (fun k => laws_sameInts.l0.eq_2 l l l.length i k) ?_
    rw [w_succ (n := l.length) (by omega) (by omega)]
    exact ev_pos (by omega) (ev_pos (by omega) (ev_pos (by omega) (ev_pos (by omega) (ev_pos rfl (ih (i + 1) (by omega))))))
theorem same_calls (A A' : Option Addr) (c c' : Nat) (l : List Int) (w : World) (h1 : Kd.C (Kd.int .i64) w A l.length l) (e1 : l.length ≤ c) (h2 : Kd.C (Kd.int .i64) w A' l.length l) (e2 : l.length ≤ c') (hl : l.length ≤ maxLen) :
    Calls Try.prog 47 #[.slice A l.length c, .slice A' l.length c'] w fun e w' => e = .returned (.bool true) ∧ Below w.heap.size w w' := by
  have hev : Ev (fun k => laws_sameInts.f k l l) true := by
    unfold laws_sameInts.f
    exact ev_pos rfl (sameInts_l0 l hl l.length 0 (by omega))
  obtain ⟨k, hk⟩ := hev.rounds
  exact (laws_sameInts.calls k A c l A' c' l true w h1 e1 h2 e2 hk).mono fun e w' h => ⟨h.1, Go.Proofs.Ytogjpimhlkinkaa.OwnSumI.drawn_below h.2⟩
theorem pIn_l0 (l : List Int) (hl : l.length ≤ maxLen) (x : Int) : ∀ (d i : Nat), i + d = l.length → Ev (fun k => laws_pIn.l0 k x l (l.length : Int) (i : Int)) (decide (x ∈ l.drop i)) := by
  have hl := maxLen_le hl
  intro d
  induction d with
  | zero =>
    intro i hi
    refine Ev.step (fun k => laws_pIn.l0.eq_2 x l l.length i k) (ev_neg (by omega) (ev_some ?_))
    rw [List.drop_of_length_le (by omega)]; simp
  | succ d ih =>
    intro i hi
    refine Ev.step (fun k => laws_pIn.l0.eq_2 x l l.length i k) ?_
    have hd : l.drop i = l.getD i 0 :: l.drop (i + 1) := by
      rw [List.drop_eq_getElem_cons (by omega)]; congr 1; simp [List.getD_eq_getElem?_getD, show i < l.length by omega]
    rw [w_succ (n := l.length) (by omega) (by omega), rd_nat, hd]
    refine ev_pos (by omega) (ev_pos (by omega) (ev_pos (by omega) (ev_ite (fun h => ev_some ?_) (fun h => ?_))))
    · symm; rw [decide_eq_true_eq]; rw [← h]; exact List.mem_cons_self
    · refine ev_eq ?_ (ih (i + 1) (by omega))
      rw [decide_eq_decide, List.mem_cons]
      exact ⟨.inr, fun h1 => h1.resolve_left (fun e => h e.symm)⟩
theorem in_calls (A : Option Addr) (c : Nat) (l : List Int) (x : Int) (w : World) (h1 : Kd.C (Kd.int .i64) w A l.length l) (e1 : l.length ≤ c) (hl : l.length ≤ maxLen) (hx : x ∈ l) :
    Calls Try.prog 51 #[.slice A l.length c, .int .i64 x] w fun e w' => e = .returned (.bool true) ∧ Below w.heap.size w w' := by
  have hev : Ev (fun k => laws_pIn.f k l x) true := by
    unfold laws_pIn.f
    have := pIn_l0 l hl x l.length 0 (by omega)
    rwa [List.drop_zero, decide_eq_true hx] at this
  obtain ⟨k, hk⟩ := hev.rounds
  exact (laws_pIn.calls k A c l x true w h1 e1 hk).mono fun e w' h => ⟨h.1, Go.Proofs.Ytogjpimhlkinkaa.OwnSumI.drawn_below h.2⟩
set_option maxHeartbeats 4000000 in
set_option maxRecDepth 100000 in
theorem cut_calls (A0 : Option Addr) (c0 : Nat) (a : List (List Int)) (A1 : Option Addr) (c1 : Nat) (v : List Int) (A2 : Option Addr) (c2 : Nat) (p : List Int) (w : World)
    (h0 : Kd.C kL w A0 a.length a) (e0 : a.length ≤ c0) (h1 : Kd.C (Kd.int .i64) w A1 v.length v) (e1 : v.length ≤ c1) (h2 : Kd.C (Kd.int .i64) w A2 p.length p) (e2 : p.length ≤ c2) (hval : valuedB a v = true) (hasc : asc p a.length = true) (hclo : isClo a p = true) :
    Calls Try.prog 49 #[.slice A0 a.length c0, .slice A1 v.length c1, .slice A2 p.length c2] w fun e w' => e = .returned (.tuple #[.int .i64 (posSum v - valSum v p), .bool true]) ∧ Below w.heap.size w w' := by
  have hvo := valued_arcs hval
  have hle := hvo.1.le
  have hlv : v.length ≤ 120 := by omega
  have lb : ∀ x ∈ a, x.length ≤ 1048576 := fun x hx => by
    obtain ⟨j, hj, rfl⟩ := mem_getD (z := []) hx
    have := hvo.1.len j
    omega
  have hpl := asc_len hasc
  obtain ⟨kv, hkv⟩ := (areValued_ev a (maxLen_val (by omega)) (fun x hx => maxLen_val (by have := lb x hx; omega)) v (maxLen_val (by omega))).rounds
  rw [hval] at hkv
  have H0 := Aside0.mk h0
  have E0 := Aside0.mk e0
  have H1 := Aside0.mk h1
  have E1 := Aside0.mk e1
  have H2 := Aside0.mk h2
  have E2 := Aside0.mk e2
  have HKV := Aside0.mk hkv
  have HVO := Aside0.mk hvo
  have HASC := Aside0.mk hasc
  have HP : Aside0 ((asc p a.length && isClo a p) = true) := ⟨by rw [hasc, hclo]; rfl⟩
  have LB := Aside0.mk lb
  have LP := Aside0.mk (show p.length ≤ 1048576 by omega)
  have lv : v.length ≤ 1048576 := by omega
  clear h0 e0 h1 e1 h2 e2 hkv hvo hasc hclo lb hval hpl hle hlv
  go_enter Try.func49, Try.ntmps49
  go_wp2_with fail
  refine (impl_areValued.calls kv A0 c0 a A1 c1 v true w H0.out E0.out H1.out E1.out HKV.out).mono ?_
  rintro e w1 ⟨rfl, hb⟩
  have B1 := Aside0.mk (Go.Proofs.Ytogjpimhlkinkaa.OwnSumI.drawn_below hb)
  clear hb
  go_wp2_with fail
  refine Calls.mono (by have h := arePits_calls A0 c0 a A2 c2 p w1 (Kd.C_below H0.out B1.out) E0.out (Kd.C_below H2.out B1.out) E2.out HVO.out.1 LB.out LP.out 33; rw [HP.out] at h; exact h) ?_
  rintro e w2 ⟨rfl, hb⟩
  have B2 := Aside0.mk (below_step B1.out hb)
  have HC1 := Aside0.mk (Kd.C_below H1.out B2.out)
  have HLV := Aside0.mk lv
  clear hb
  go_wp2_with fail
  have e0 : (0 : Int) = foldR (posAt v) 0 (0 : Int).toNat 0 := by rw [show (0 : Int).toNat = 0 from rfl, foldR_end (Nat.le_refl _)]
  have EZ := Aside0.mk e0
  clear e0
  go_loopg [8, 24] (v.length) (fun d v8 v24 wr => ∃ i : Int, v24 = .int .i64 i ∧ v8 = .int .i64 (foldR (posAt v) 0 i.toNat 0) ∧ Aside0 (0 ≤ i ∧ i + d = v.length) ∧ wr = w2)
  case atStart => exact ⟨0, rfl, congrArg _ EZ.out, ⟨by omega⟩, rfl⟩
  case round =>
    clear EZ
    obtain ⟨i, rfl, rfl, HI, rfl⟩ := hrel
    have h0 := HI.out.1
    cases gk with
    | zero =>
      have hd : decide (i < (v.length : Int)) = false := decide_eq_false (by have := HI.out.2; omega)
      have hi : i.toNat = v.length := by have := HI.out; omega
      have HI2 := Aside0.mk hi
      clear hi HI
      go_wp2_with fail
      refine (valueSum_calls A1 c1 v A2 c2 p wr HC1.out E1.out (Kd.C_below H2.out B2.out) E2.out HVO.out.2.1 (by rw [HVO.out.2.2]; exact HASC.out)).mono ?_
      rintro e w3 ⟨rfl, hb⟩
      have B3 := Aside0.mk (below_step B2.out hb)
      have hsub : wrap64 (foldR (posAt v) 0 i.toNat 0 - valSum v p) = posSum v - valSum v p := by
        rw [HI2.out]
        have h1 := posAt_bd HVO.out.2.1 v.length (Nat.le_refl _)
        have h2 := valSum_bound (valsOk_iff.1 HVO.out.2.1).2.2 (fun j hj => by have := asc_at HASC.out hj; rw [← HVO.out.2.2] at this; exact this) p.length (Nat.le_refl _)
        have h3 := asc_len HASC.out
        have h4 := HVO.out.1.le
        have h5 := HVO.out.2.2
        unfold posSum valSum
        rw [w64 (by omega) (by omega)]
      have HSUB := Aside0.mk hsub
      clear hb hsub
      go_wp2_with fail
      go_ret2
      exact ⟨congrArg (fun z => Ending.returned (.tuple #[.int .i64 z, .bool true])) HSUB.out, B3.out⟩
    | succ d =>
      have hlt : i < (v.length : Int) := by have := HI.out.2; omega
      have hd : decide (i < (v.length : Int)) = true := decide_eq_true hlt
      obtain ⟨ad, ce, eA, _, hK, hcc⟩ := Kd.C_get HC1.out 0 i h0 hlt
      subst eA
      have hce : ce = [.int .i64 (rd v i)] := hK
      subst hce
      have hcell := hcc 0 _ rfl
      simp only [show (Kd.int IntKind.i64).sz = 1 from rfl, Nat.mul_one, Nat.add_zero] at hcell
      have H0' := Aside0.mk h0
      have HLT := Aside0.mk hlt
      have q0 := eq_true h0
      have q1 := eq_true hlt
      clear h0 hlt hK hcc
      go_wp2_with fail
      all_goals
        go_roundg d
        case measure => omega
        case rel =>
          have hI := HI.out
          have hlt := HLT.out
          have hl := HLV.out
          have hb := posAt_bd HVO.out.2.1 i.toNat (by omega)
          have hv := (valsOk_iff.1 HVO.out.2.1).2.2 i.toNat (by omega)
          have hr : rd v i = v.getD i.toNat 0 := rfl
          have ei : wrap64 (i + 1) = i + 1 := by rw [w64 (by omega) (by omega)]
          refine ⟨i + 1, by rw [ei], congrArg _ ?_, ⟨by omega⟩, rfl⟩
          rw [show (i + 1).toNat = i.toNat + 1 by omega, foldR_last (Nat.zero_le _)]
          unfold posAt at hb ⊢
          rw [w64 (by omega) (by omega)]
          omega
end Go.Proofs.Ytogjpimhlkinkaa.OwnPitT
