/- The law FnExactAreArcs, walked by hand over its callees' contracts: for every input it returns true. -/
import Derived.Test.YtpdkackfdccedaaComA
import Derived.Test.YtpdkackfdccedaaPFnExactAreArcsx6
import Derived.Test.YtpdkackfdccedaaPFnExactAreArcsx10
namespace Go.Proofs.Ytpdkackfdccedaa.WalkFnExactAreArcs
open Go.RowKit Go.Proofs.Ytpdkackfdccedaa.PFnExactAreArcs Go.Proofs.YtpdkackfdccedaaW.PrintWords Go.Proofs.YtpdkackfdccedaaW.PrintLast Go.Proofs.YtpdkackfdccedaaW.PrintMore Go.Proofs.Ytpdkackfdccedaa.B Go.Proofs.Ytpdkackfdccedaa.Com
set_option linter.unusedVariables false
set_option linter.unusedSimpArgs false
/- spec_l1In -/
theorem l1In_eq (a b c : Int) : spec_l1In.f a b c = some (decide (b ≤ a ∧ a ≤ c)) := by
  unfold spec_l1In.f
  by_cases h : a ≥ b
  · rw [if_pos h]; simp [show b ≤ a from h]
  · rw [if_neg h]; simp [show ¬ b ≤ a from h]

/- spec_l1Rising -/
theorem l1Rising_l0 (l : List Int) (hl : l.length ≤ maxLen) (n : Int) : ∀ (d i : Nat), i + d = l.length → Ev (fun k => spec_l1Rising.l0 k l 0 (n - 1) l (l.length : Int) (i : Int)) (allR (ascAt l n) i l.length) := by
  have hl := maxLen_le hl
  intro d
  induction d with
  | zero =>
    intro i hi
    exact Ev.step (fun k => spec_l1Rising.l0.eq_2 l 0 (n - 1) l l.length i k) (ev_neg (by omega) (ev_some (allR_end (by omega)).symm))
  | succ d ih =>
    intro i hi
    refine Ev.step (fun k => spec_l1Rising.l0.eq_2 l 0 (n - 1) l l.length i k) ?_
    rw [allR_step (by omega), w_succ (n := l.length) (by omega) (by omega), rd_nat]
    refine ev_pos (by omega) (ev_pos (by omega) (ev_pos (by omega) (ev_bindc (l1In_eq _ _ _) ?_)))
    refine ev_ite (fun h => ?_) (fun h => ?_)
    · simp only [decide_eq_true_eq] at h
      refine ev_ite (fun h0 => ?_) (fun h0 => ?_)
      · rw [w64 (x := (i : Int) - 1) (by omega) (by omega), show (i : Int) - 1 = ((i - 1 : Nat) : Int) by omega, rd_nat]
        refine ev_pos (by omega) (ev_pos (by omega) ?_)
        refine ev_ite (fun h1 => ?_) (fun h1 => ?_)
        · refine ev_some ?_
          have : ascAt l n i = false := by unfold ascAt; simp only [decide_eq_false_iff_not]; intro hc; have := hc.2.2 (by omega); omega
          rw [this]; rfl
        · have : ascAt l n i = true := by unfold ascAt; simp only [decide_eq_true_eq]; exact ⟨by omega, by omega, fun _ => by omega⟩
          rw [this]; exact ih (i + 1) (by omega)
      · have : ascAt l n i = true := by unfold ascAt; simp only [decide_eq_true_eq]; exact ⟨by omega, by omega, fun _ => by omega⟩
        rw [this]; exact ih (i + 1) (by omega)
    · refine ev_some ?_
      have : ascAt l n i = false := by
        unfold ascAt; simp only [decide_eq_true_eq] at h; simp only [decide_eq_false_iff_not]; intro hc; exact h ⟨hc.1, by omega⟩
      rw [this]; rfl
theorem l1Rising_ev (l : List Int) (hl : l.length ≤ maxLen) (n : Int) : Ev (fun k => spec_l1Rising.f k l 0 (n - 1)) (asc l n) := by
  unfold spec_l1Rising.f asc
  exact l1Rising_l0 l hl n l.length 0 (by omega)

/- spec_clArcs -/
theorem clArcs_l0 (a : List (List Int)) (hl : a.length ≤ maxLen) (hb : ∀ x ∈ a, x.length ≤ maxLen) : ∀ (d i : Nat), i + d = a.length →
    Ev (fun k => spec_clArcs.l0 k a a (a.length : Int) (i : Int)) (decide (1 ≤ a.length ∧ a.length ≤ 120) && allR (fun i => asc (a.getD i []) i) i a.length) := by
  have hl := maxLen_le hl
  intro d
  induction d with
  | zero =>
    intro i hi
    refine Ev.step (fun k => spec_clArcs.l0.eq_2 a a a.length i k) (ev_neg (by omega) (ev_bindc (l1In_eq _ _ _) (ev_some ?_)))
    rw [allR_end (by omega), Bool.and_true, decide_eq_decide]; omega
  | succ d ih =>
    intro i hi
    refine Ev.step (fun k => spec_clArcs.l0.eq_2 a a a.length i k) ?_
    have hx : rd_L1 a (i : Int) = a.getD i [] := by unfold rd_L1; rw [toNat_nat]
    have hmem : a.getD i [] ∈ a := by
      rw [List.getD_eq_getElem?_getD, List.getElem?_eq_getElem (by omega)]; exact List.getElem_mem _
    rw [allR_step (by omega), w_succ (n := a.length) (by omega) (by omega), hx, w64 (x := (i : Int) - 1) (by omega) (by omega)]
    refine ev_pos (by omega) (ev_pos (by omega) (ev_pos (by omega) (Ev.bind (l1Rising_ev _ (hb _ hmem) _) ?_)))
    refine ev_ite (fun h => ?_) (fun h => ?_)
    · rw [h, Bool.true_and]; exact ih (i + 1) (by omega)
    · rw [Bool.not_eq_true] at h; rw [h, Bool.false_and, Bool.and_false]; exact ev_some rfl
theorem clArcs_ev (a : List (List Int)) (hl : a.length ≤ maxLen) (hb : ∀ x ∈ a, x.length ≤ maxLen) : Ev (fun k => spec_clArcs.f k a) (arcsOk a) := by
  unfold spec_clArcs.f arcsOk
  exact clArcs_l0 a hl hb a.length 0 (by omega)

/- impl_areBlocks -/
theorem areBlocks_l0 (l : List Int) (hl : l.length ≤ maxLen) (n : Int) : ∀ (d i : Nat), i + d = l.length → Ev (fun k => impl_areBlocks.l0 k l n l (l.length : Int) (i : Int)) (allR (ascAt l n) i l.length) := by
  have hl := maxLen_le hl
  intro d
  induction d with
  | zero =>
    intro i hi
    exact Ev.step (fun k => impl_areBlocks.l0.eq_2 l n l l.length i k) (ev_neg (by omega) (ev_some (allR_end (by omega)).symm))
  | succ d ih =>
    intro i hi
    refine Ev.step (fun k => impl_areBlocks.l0.eq_2 l n l l.length i k) ?_
    rw [allR_step (by omega), w_succ (n := l.length) (by omega) (by omega), rd_nat]
    refine ev_pos (by omega) (ev_pos (by omega) (ev_pos (by omega) ?_))
    have no : ¬ (0 ≤ l.getD i 0 ∧ l.getD i 0 < n ∧ (0 < i → l.getD (i - 1) 0 < l.getD i 0)) → false = (ascAt l n i && allR (ascAt l n) (i + 1) l.length) := by
      intro h
      have : ascAt l n i = false := by unfold ascAt; simp only [decide_eq_false_iff_not]; exact h
      rw [this]; rfl
    have yes : (0 ≤ l.getD i 0 ∧ l.getD i 0 < n ∧ (0 < i → l.getD (i - 1) 0 < l.getD i 0)) → Ev (fun k => impl_areBlocks.l0 k l n l (l.length : Int) ((i + 1 : Nat) : Int)) (ascAt l n i && allR (ascAt l n) (i + 1) l.length) := by
      intro h
      have : ascAt l n i = true := by unfold ascAt; simp only [decide_eq_true_eq]; exact h
      rw [this]; exact ih (i + 1) (by omega)
    refine ev_ite (fun h => ev_some (no (by omega))) (fun h => ?_)
    refine ev_ite (fun h1 => ev_some (no (by omega))) (fun h1 => ?_)
    refine ev_ite (fun h0 => ?_) (fun h0 => yes ⟨by omega, by omega, fun _ => by omega⟩)
    rw [w64 (x := (i : Int) - 1) (by omega) (by omega), show (i : Int) - 1 = ((i - 1 : Nat) : Int) by omega, rd_nat]
    refine ev_pos (by omega) (ev_pos (by omega) ?_)
    refine ev_ite (fun h2 => ev_some (no (fun hc => by have := hc.2.2 (by omega); omega))) (fun h2 => yes ⟨by omega, by omega, fun _ => by omega⟩)
theorem areBlocks_ev (l : List Int) (hl : l.length ≤ maxLen) (n : Int) : Ev (fun k => impl_areBlocks.f k l n) (asc l n) := by
  unfold impl_areBlocks.f asc
  exact areBlocks_l0 l hl n l.length 0 (by omega)

/- impl_AreArcs -/
theorem AreArcs_l0 (a : List (List Int)) (hl : a.length ≤ maxLen) (hb : ∀ x ∈ a, x.length ≤ maxLen) : ∀ (d i : Nat), i + d = a.length →
    Ev (fun k => impl_AreArcs.l0 k a (a.length : Int) (i : Int)) (allR (fun i => asc (a.getD i []) i) i a.length) := by
  have hl := maxLen_le hl
  intro d
  induction d with
  | zero =>
    intro i hi
    exact Ev.step (fun k => impl_AreArcs.l0.eq_2 a a.length i k) (ev_neg (by omega) (ev_some (allR_end (by omega)).symm))
  | succ d ih =>
    intro i hi
    refine Ev.step (fun k => impl_AreArcs.l0.eq_2 a a.length i k) ?_
    have hx : rd_L1 a (i : Int) = a.getD i [] := by unfold rd_L1; rw [toNat_nat]
    have hmem : a.getD i [] ∈ a := by
      rw [List.getD_eq_getElem?_getD, List.getElem?_eq_getElem (by omega)]; exact List.getElem_mem _
    rw [allR_step (by omega), w_succ (n := a.length) (by omega) (by omega), hx]
    refine ev_pos (by omega) (ev_pos (by omega) (ev_pos (by omega) (Ev.bind (areBlocks_ev _ (hb _ hmem) _) ?_)))
    refine ev_ite (fun h => ?_) (fun h => ?_)
    · rw [h, Bool.true_and]; exact ih (i + 1) (by omega)
    · rw [Bool.not_eq_true] at h; rw [h, Bool.false_and]; exact ev_some rfl
theorem AreArcs_ev (a : List (List Int)) (hl : a.length ≤ maxLen) (hb : ∀ x ∈ a, x.length ≤ maxLen) : Ev (fun k => impl_AreArcs.f k a) (arcsOk a) := by
  unfold impl_AreArcs.f arcsOk
  refine ev_ite (fun h => ?_) (fun h => ?_)
  · refine Ev.step (fun k => impl_AreArcs.j0.eq_2 a true k) (ev_pos rfl (ev_some ?_))
    rw [decide_eq_false (by omega), Bool.false_and]
  · refine Ev.step (fun k => impl_AreArcs.j0.eq_2 a _ k) (ev_ite (fun h1 => ev_some ?_) (fun h1 => ?_))
    · simp only [decide_eq_true_eq] at h1
      rw [decide_eq_false (by omega), Bool.false_and]
    · simp only [decide_eq_true_eq] at h1
      rw [decide_eq_true (by omega), Bool.true_and]; exact AreArcs_l0 a hl hb a.length 0 (by omega)

/- hand.FnExactAreArcs -/
theorem both (a : List (List Int)) (ha : a.length ≤ 1048576) (hb : ∀ x ∈ a, x.length ≤ 1048576) : ∃ r : Bool, Ev (fun k => spec_AreArcs.f k a) r ∧ Ev (fun k => impl_AreArcs.f k a) r := by
  refine ⟨arcsOk a, ?_, AreArcs_ev a (maxLen_val (by omega)) (fun x hx => maxLen_val (by have := hb x hx; omega))⟩
  unfold spec_AreArcs.f
  exact ev_id (clArcs_ev a (maxLen_val (by omega)) (fun x hx => maxLen_val (by have := hb x hx; omega)))

set_option maxHeartbeats 4000000 in
set_option maxRecDepth 100000 in
theorem walk (a0 : List (List Int)) (Aa0 : Option Addr) (ca0 : Nat) (w : World) (hra0 : Kd.C kSS w Aa0 a0.length a0) (hca0 : a0.length ≤ ca0) (r : Int) (hsz : ∀ (A : Option Addr) (c : Nat) (w : World), Kd.C kSS w A a0.length a0 → a0.length ≤ c → Calls Try.prog 28 #[.slice A a0.length c, .int .i64 1048576] w fun e w' => e = .returned (.int .i64 r) ∧ Below w.heap.size w w') (hlt : ¬ r < 0) (g0 : Bool) (hla0 : a0.length ≤ 1048576) (hba0 : ∀ x ∈ a0, x.length ≤ 1048576)   (hs : ∃ k, spec_AreArcs.f k a0 = some g0) (hi : ∃ k, impl_AreArcs.f k a0 = some g0) :
    Calls Try.prog 6 #[.slice Aa0 a0.length ca0] w fun e w' => e = .returned (.bool true) ∧ Below w.heap.size w w' := by
  obtain ⟨ks, hs⟩ := hs
  obtain ⟨ki, hi⟩ := hi
  have Hs := Aside0.mk hs
  have Hi := Aside0.mk hi
  have HRa0 := Aside0.mk hra0
  have HCa0 := Aside0.mk hca0
  have HLa0 := Aside0.mk hla0
  have HBa0 := Aside0.mk hba0
  have HSZ := Aside0.mk hsz
  have d1 : decide (r < 0) = false := decide_eq_false hlt
  clear hs hi hra0 hca0 hla0 hba0 hsz hlt
  go_enter Try.func6, Try.ntmps6
  go_wp2_with fail
  refine (HSZ.out Aa0 ca0 w HRa0.out HCa0.out).mono ?_
  rintro e w1 ⟨rfl, hb⟩
  have B1 := Aside0.mk hb
  have z1 := hb.size
  clear hb
  go_wp2_with fail
  refine (toIntSS_calls a0 HLa0.out HBa0.out Aa0 ca0 w1 (Kd.C_below HRa0.out B1.out) HCa0.out).mono ?_
  rintro e w2 ⟨v, rfl, ho, hb⟩
  have B2 := Aside0.mk (below_step B1.out hb)
  have z2 := hb.size
  obtain ⟨At0_2, ct0_2, rfl⟩ := Kd.S_slice ho
  have Ft0_2 := Aside0.mk (ivS (w := w) ho (by omega))
  clear ho
  clear hb
  go_wp2_with fail
  refine (spec_AreArcs.calls ks At0_2 ct0_2 a0 g0 w2 (readsS Ft0_2.out).2.2 (readsS Ft0_2.out).2.1 Hs.out).mono ?_
  rintro e w3 ⟨rfl, hb⟩
  have hb := drawn_below hb
  have B3 := Aside0.mk (below_step B2.out hb)
  have z3 := hb.size
  have Ft0_3 := Aside0.mk (Kd.S_below Ft0_2.out hb)
  clear Ft0_2
  clear hb
  go_wp2_with fail
  refine (toIntSS_calls a0 HLa0.out HBa0.out Aa0 ca0 w3 (Kd.C_below HRa0.out B3.out) HCa0.out).mono ?_
  rintro e w4 ⟨v, rfl, ho, hb⟩
  have B4 := Aside0.mk (below_step B3.out hb)
  have z4 := hb.size
  obtain ⟨Ax0_4, cx0_4, rfl⟩ := Kd.S_slice ho
  have Fx0_4 := Aside0.mk (ivS (w := w) ho (by omega))
  clear ho
  clear hb
  go_wp2_with fail
  refine (impl_AreArcs.calls ki Ax0_4 cx0_4 a0 g0 w4 (readsS Fx0_4.out).2.2 (readsS Fx0_4.out).2.1 Hi.out).mono ?_
  rintro e w5 ⟨rfl, hb⟩
  have hb := drawn_below hb
  have B5 := Aside0.mk (below_step B4.out hb)
  have z5 := hb.size
  have Fx0_5 := Aside0.mk (Kd.S_below Fx0_4.out hb)
  clear Fx0_4
  clear hb
  go_wp2_with fail
  refine (toIntSS_calls a0 HLa0.out HBa0.out Aa0 ca0 w5 (Kd.C_below HRa0.out B5.out) HCa0.out).mono ?_
  rintro e w6 ⟨v, rfl, ho, hb⟩
  have B6 := Aside0.mk (below_step B5.out hb)
  have z6 := hb.size
  obtain ⟨Au_6, cu_6, rfl⟩ := Kd.S_slice ho
  have Fu_6 := Aside0.mk (ivS (w := w) ho (by omega))
  clear ho
  have Fx0_6 := Aside0.mk (Kd.S_below Fx0_5.out hb)
  clear Fx0_5
  clear hb
  go_wp2_with fail
  refine (eqIntSS_calls a0 (maxLen_val (by have := HLa0.out; omega)) (fun x hx => maxLen_val (by have := HBa0.out x hx; omega)) Ax0_4 Au_6 cx0_4 cu_6 w6 (readsS Fx0_6.out).2.2 (readsS Fx0_6.out).2.1 (readsS Fu_6.out).2.2 (readsS Fu_6.out).2.1).mono ?_
  rintro e w7 ⟨rfl, hb⟩
  have B7 := Aside0.mk (below_step B6.out hb)
  have z7 := hb.size
  have Fx0_7 := Aside0.mk (Kd.S_below Fx0_6.out hb)
  clear Fx0_6
  have Fu_7 := Aside0.mk (Kd.S_below Fu_6.out hb)
  clear Fu_6
  clear hb
  go_wp2_with fail
  go_ret
  exact ⟨rfl, B7.out⟩
set_option maxRecDepth 100000 in
theorem walk_neg (a0 : List (List Int)) (Aa0 : Option Addr) (ca0 : Nat) (w : World) (hra0 : Kd.C kSS w Aa0 a0.length a0) (hca0 : a0.length ≤ ca0)  (r : Int) (hsz : ∀ (A : Option Addr) (c : Nat) (w : World), Kd.C kSS w A a0.length a0 → a0.length ≤ c → Calls Try.prog 28 #[.slice A a0.length c, .int .i64 1048576] w fun e w' => e = .returned (.int .i64 r) ∧ Below w.heap.size w w') (hlt : r < 0) : Calls Try.prog 6 #[.slice Aa0 a0.length ca0] w fun e w' => e = .returned (.bool true) ∧ Below w.heap.size w w' := by
  have HSZ := Aside0.mk hsz
  have HR := Aside0.mk hra0
  have HC := Aside0.mk hca0
  have d1 : decide (r < 0) = true := decide_eq_true hlt
  clear hsz hlt  hra0 hca0
  go_enter Try.func6, Try.ntmps6
  go_wp2_with fail
  refine (HSZ.out Aa0 ca0 w HR.out HC.out).mono ?_
  rintro e w1 ⟨rfl, hb⟩
  have B1 := Aside0.mk hb
  clear hb
  go_wp2_with fail
  go_ret
  exact ⟨rfl, B1.out⟩
theorem law (a0 : List (List Int)) (ha0 : a0.length ≤ maxLen) (ga0 : ∀ x ∈ a0, x.length ≤ maxLen ∧ ∀ y0 ∈ x, (Lit.int .i64 y0).wf = true) (Aa0 : Option Addr) (ca0 : Nat) (w : World) (hra0 : Kd.C kSS w Aa0 a0.length a0) (hca0 : a0.length ≤ ca0) : Calls Try.prog 6 #[.slice Aa0 a0.length ca0] w fun e w' => e = .returned (.bool true) ∧ Below w.heap.size w w' := by
  obtain ⟨r, hz, hsz⟩ := szIntSS_calls a0 ha0 (fun x hx => (ga0 x hx).1)
  by_cases hlt : r < 0
  · exact walk_neg a0 Aa0 ca0 w hra0 hca0  r hsz hlt
  obtain ⟨l1, l2⟩ := hz (by omega)
  obtain ⟨g0, hs, hi⟩ := both a0 l1 l2
  exact walk a0 Aa0 ca0 w hra0 hca0 r hsz hlt g0 l1 l2  hs.rounds hi.rounds
end Go.Proofs.Ytpdkackfdccedaa.WalkFnExactAreArcs
