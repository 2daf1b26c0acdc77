/- The contract of impl.CountClosures, by hand: its closure counts as CountMath's C does. -/
-- OWN impl ccR %s = %s
import Derived.Test.YtbhlffakpneecaaTOwnAllIn
import Derived.Test.YtbhlffakpneecaaTCountMath
import Derived.Test.YtbhlffakpneecaaTWTab
import Derived.Test.YtbhlffakpneecaaTWKept
import Derived.Test.YtbhlffakpneecaaTMFnClosuresx6
import Derived.Laws.EntriesVeiled
namespace Go.Proofs.Ytbhlffakpneecaa.OwnCountClosures
open Go.RowKit Go.Proofs.Ytbhlffakpneecaa.PFnClosures Go.Proofs.YtbhlffakpneecaaW.PrintWords Go.Proofs.YtbhlffakpneecaaW.PrintLast Go.Proofs.YtbhlffakpneecaaW.PrintMore Go.Proofs.Ytbhlffakpneecaa.B Go.Proofs.Ytbhlffakpneecaa.CountMath
set_option linter.unusedVariables false
set_option linter.unusedSimpArgs false
theorem aMs:type_of% @Aside0.mk:=@Aside0.mk
theorem uAs:type_of% @List.setIfInBounds_toArray.{0}:=@List.setIfInBounds_toArray.{0}
theorem areBlocks_l0 (l : List Int) (hl : l.length ≤ maxLen) (n : Int) : ∀ (d i : Nat), i + d = l.length → Ev (fun k => impl_areBlocks.l0 k l n l (l.length : Int) (i : Int)) (allR (ascAt l n) i l.length) := by
 have hl := maxLen_le hl
 intro d
 induction d with
 | zero =>
  intro i hi
  exact Ev.step (fun k => impl_areBlocks.l0.eq_2 l n l l.length i k) (ev_neg (by omega) (ev_some (allR_end (by omega)).symm))
 | succ d ih =>
  intro i hi
  refine Ev.step (fun k => impl_areBlocks.l0.eq_2 l n l l.length i k) ?_
  rw [allR_step (by omega), w_succ (n := l.length) (by omega) (by omega), rd_nat]
  refine ev_pos (by omega) (ev_pos (by omega) (ev_pos (by omega) ?_))
  have no : ¬ (0 ≤ l.getD i 0 ∧ l.getD i 0 < n ∧ (0 < i → l.getD (i - 1) 0 < l.getD i 0)) → false = (ascAt l n i && allR (ascAt l n) (i + 1) l.length) := by
   intro h
   have : ascAt l n i = false := by unfold ascAt; simp only [decide_eq_false_iff_not]; exact h
   rw [this]; rfl
  have yes : (0 ≤ l.getD i 0 ∧ l.getD i 0 < n ∧ (0 < i → l.getD (i - 1) 0 < l.getD i 0)) → Ev (fun k => impl_areBlocks.l0 k l n l (l.length : Int) ((i + 1 : Nat) : Int)) (ascAt l n i && allR (ascAt l n) (i + 1) l.length) := by
   intro h
   have : ascAt l n i = true := by unfold ascAt; simp only [decide_eq_true_eq]; exact h
   rw [this]; exact ih (i + 1) (by omega)
  refine ev_ite (fun h => ev_some (no (by omega))) (fun h => ?_)
  refine ev_ite (fun h1 => ev_some (no (by omega))) (fun h1 => ?_)
  refine ev_ite (fun h0 => ?_) (fun h0 => yes ⟨by omega, by omega, fun _ => by omega⟩)
  rw [w64 (x := (i : Int) - 1) (by omega) (by omega), show (i : Int) - 1 = ((i - 1 : Nat) : Int) by omega, rd_nat]
  refine ev_pos (by omega) (ev_pos (by omega) ?_)
  refine ev_ite (fun h2 => ev_some (no (fun hc => by have := hc.2.2 (by omega); omega))) (fun h2 => yes ⟨by omega, by omega, fun _ => by omega⟩)
theorem areBlocks_ev (l : List Int) (hl : l.length ≤ maxLen) (n : Int) : Ev (fun k => impl_areBlocks.f k l n) (asc l n) := by
 unfold impl_areBlocks.f asc
 exact areBlocks_l0 l hl n l.length 0 (by omega)
theorem AreArcs_l0 (a : List (List Int)) (hl : a.length ≤ maxLen) (hb : ∀ x ∈ a, x.length ≤ maxLen) : ∀ (d i : Nat), i + d = a.length →
  Ev (fun k => impl_AreArcs.l0 k a (a.length : Int) (i : Int)) (allR (fun i => asc (a.getD i []) i) i a.length) := by
 have hl := maxLen_le hl
 intro d
 induction d with
 | zero =>
  intro i hi
  exact Ev.step (fun k => impl_AreArcs.l0.eq_2 a a.length i k) (ev_neg (by omega) (ev_some (allR_end (by omega)).symm))
 | succ d ih =>
  intro i hi
  refine Ev.step (fun k => impl_AreArcs.l0.eq_2 a a.length i k) ?_
  have hx : rd_L1 a (i : Int) = a.getD i [] := by unfold rd_L1; rw [toNat_nat]
  have hmem : a.getD i [] ∈ a := by
   rw [List.getD_eq_getElem?_getD, List.getElem?_eq_getElem (by omega)]; exact List.getElem_mem _
  rw [allR_step (by omega), w_succ (n := a.length) (by omega) (by omega), hx]
  refine ev_pos (by omega) (ev_pos (by omega) (ev_pos (by omega) (Ev.bind (areBlocks_ev _ (hb _ hmem) _) ?_)))
  refine ev_ite (fun h => ?_) (fun h => ?_)
  ·rw [h, Bool.true_and]; exact ih (i + 1) (by omega)
  ·rw [Bool.not_eq_true] at h; rw [h, Bool.false_and]; exact ev_some rfl
theorem AreArcs_ev (a : List (List Int)) (hl : a.length ≤ maxLen) (hb : ∀ x ∈ a, x.length ≤ maxLen) : Ev (fun k => impl_AreArcs.f k a) (arcsOk a) := by
 unfold impl_AreArcs.f arcsOk
 refine ev_ite (fun h => ?_) (fun h => ?_)
 ·refine Ev.step (fun k => impl_AreArcs.j0.eq_2 a true k) (ev_pos rfl (ev_some ?_))
  rw [decide_eq_false (by omega), Bool.false_and]
 ·refine Ev.step (fun k => impl_AreArcs.j0.eq_2 a _ k) (ev_ite (fun h1 => ev_some ?_) (fun h1 => ?_))
  ·simp only [decide_eq_true_eq] at h1
   rw [decide_eq_false (by omega), Bool.false_and]
  ·simp only [decide_eq_true_eq] at h1
   rw [decide_eq_true (by omega), Bool.true_and]; exact AreArcs_l0 a hl hb a.length 0 (by omega)
def impl_CountClosures_1_T4 : Bool × List (List Nat × List Nat) := (true, [([], []), ([], []), ([], []), ([1, 2], [1, 2]), ([3], [3]), ([0, 4], [0, 4])])
def impl_CountClosures_1_B4 : List Nat := [0, 0, 0, 6, 14, 31]
theorem impl_CountClosures_1_tab4 : rtab .any (opsOf Try.f49 4) = impl_CountClosures_1_T4 := by kernel_rfl
theorem impl_CountClosures_1_bits4 : waitsOk impl_CountClosures_1_T4.2 impl_CountClosures_1_B4 = true := by kernel_rfl
theorem inf4 : (Try.prog.info? 4).map (fun i => (i.zero, i.size, i.bytes)) = some (some (.bool false), 1, 1) := by kernel_rfl
abbrev kCq : Kd (List Int) := Kd.slice 3 (Kd.int .i64)
theorem at_ss {w : World} {A : Option Addr} {n : Nat} {xs : List (List Int)} (h : Kd.C kCq w A n xs) (i : Int) (h0 : 0 ≤ i) (h1 : i < n) : ∃ ad A0 c0, A = some ad ∧ w.cell? (ad.add i.toNat) = some (.slice A0 (xs.getD i.toNat []).length c0) ∧ (xs.getD i.toNat []).length ≤ c0 ∧ (Kd.int .i64).C w A0 (xs.getD i.toNat []).length (xs.getD i.toNat []) := by
 obtain ⟨ad, c, e, _, hK, hc0⟩ := Kd.C_get h ([] : List Int) i h0 h1
 have hc : ∀ j u, c[j]? = some u → w.cell? (ad.add (i.toNat * 1 + j)) = some u := hc0
 obtain ⟨A0, c0, rfl, l0, g0⟩ := hK
 exact ⟨ad, A0, c0, e, by have hq := hc 0 _ rfl; rwa [Nat.mul_one, Nat.add_zero] at hq, l0, g0⟩
def U (a : List (List Int)) (i : Nat) : List Nat := (a.getD i []).map Int.toNat
def mkB (L s : Nat) : List Bool := (List.range L).map (fun (j : Nat) => s.testBit j)
theorem mkB_len (L s : Nat) : (mkB L s).length = L := by unfold mkB; rw [List.length_map, List.length_range]
theorem mkB_at (L s j : Nat) (h : j < L) : (mkB L s).getD j false = s.testBit j := by
 unfold mkB; rw [List.getD_eq_getElem?_getD, List.getElem?_map, List.getElem?_range h]; rfl
theorem mkB_zero (L : Nat) : mkB L 0 = List.replicate L false := by
 refine getD_ext false (by rw [mkB_len, List.length_replicate]) (fun j hj => ?_)
 rw [mkB_len] at hj
 rw [mkB_at L 0 j hj, Nat.zero_testBit, List.getD_eq_getElem?_getD, List.getElem?_replicate_of_lt hj]; rfl
theorem add_bit (i s j : Nat) (hs : s < 2 ^ i) : (s + 2 ^ i).testBit j = if j = i then true else s.testBit j := by
 rw [Nat.add_comm]
 by_cases h : j = i
 ·subst h; rw [if_pos rfl, Nat.testBit_two_pow_add_eq, Nat.testBit_lt_two_pow hs]; rfl
 ·rw [if_neg h]
  by_cases hj : j < i
  ·exact Nat.testBit_two_pow_add_gt hj s
  ·have h1 : s < 2 ^ j := Nat.lt_of_lt_of_le hs (Nat.pow_le_pow_right (by omega) (by omega))
   have h2 : 2 ^ i + s < 2 ^ j := by
    have : 2 ^ (i + 1) ≤ 2 ^ j := Nat.pow_le_pow_right (by omega) (by omega)
    rw [Nat.pow_succ] at this
    omega
   rw [Nat.testBit_lt_two_pow h2, Nat.testBit_lt_two_pow h1]
theorem mkB_set (L i s : Nat) (hs : s < 2 ^ i) (hi : i < L) : (mkB L s).set i true = mkB L (s + 2 ^ i) := by
 refine getD_ext false (by rw [List.length_set, mkB_len, mkB_len]) (fun j hj => ?_)
 rw [List.length_set, mkB_len] at hj
 rw [getD_set, mkB_len, mkB_at L (s + 2 ^ i) j hj, add_bit i s j hs]
 by_cases h : i = j
 ·subst h; rw [if_pos ⟨rfl, hj⟩, if_pos rfl]
 ·rw [if_neg (fun z => h z.1), if_neg (fun z => h z.symm), mkB_at L s j hj]
theorem mkB_unset (L i s : Nat) (hs : s < 2 ^ i) (hi : i < L) : (mkB L (s + 2 ^ i)).set i false = mkB L s := by
 refine getD_ext false (by rw [List.length_set, mkB_len, mkB_len]) (fun j hj => ?_)
 rw [List.length_set, mkB_len] at hj
 rw [getD_set, mkB_len, mkB_at L (s + 2 ^ i) j hj, mkB_at L s j hj, add_bit i s j hs]
 by_cases h : i = j
 ·subst h; rw [if_pos ⟨rfl, hj⟩, Nat.testBit_lt_two_pow hs]
 ·rw [if_neg (fun z => h z.1), if_neg (fun z => h z.symm)]
theorem arc_row {a : List (List Int)} (ha : Arcs a) {i : Nat} (hi : i < a.length) : ∀ x ∈ a.getD i [], 0 ≤ x ∧ x < i := by
 intro x hx
 obtain ⟨j, hj, rfl⟩ := List.getElem_of_mem hx
 have := asc_iff.1 (ha.row i hi) j hj
 rw [List.getD_eq_getElem?_getD, List.getElem?_eq_getElem hj] at this
 exact ⟨this.1, this.2.1⟩
theorem arc_len {a : List (List Int)} (ha : Arcs a) {i : Nat} (hi : i < a.length) : (a.getD i []).length ≤ i := by
 have h1 := asc_iff.1 (ha.row i hi)
 suffices ∀ j, j < (a.getD i []).length → (j : Int) ≤ (a.getD i []).getD j 0 by
  by_cases h : (a.getD i []).length = 0
  ·omega
  ·have h2 := this ((a.getD i []).length - 1) (by omega)
   have h3 := h1 ((a.getD i []).length - 1) (by omega)
   omega
 intro j
 induction j with
 | zero => intro hj; exact (h1 0 hj).1
 | succ j ih =>
  intro hj
  have h2 := ih (by omega)
  have h3 := (h1 (j + 1) hj).2.2 (by omega)
  rw [Nat.add_sub_cancel] at h3
  omega
theorem U_lt {a : List (List Int)} (ha : Arcs a) : ∀ i, ∀ k ∈ U a i, k < i := by
 intro i k hk
 unfold U at hk
 obtain ⟨x, hx, rfl⟩ := List.mem_map.1 hk
 by_cases hi : i < a.length
 ·have := arc_row ha hi x hx; omega
 ·rw [getD_none (by omega)] at hx; simp at hx
theorem allIn_sub {a : List (List Int)} (ha : Arcs a) (i s : Nat) (hi : i < a.length) : allIn (mkB a.length s) (a.getD i []) = sub (U a) i s := by
 unfold allIn sub U
 rw [Bool.eq_iff_iff, allR_iff, List.all_eq_true]
 constructor
 ·intro h k hk
  obtain ⟨x, hx, rfl⟩ := List.mem_map.1 hk
  obtain ⟨j, hj, rfl⟩ := List.getElem_of_mem hx
  have h1 := arc_row ha hi _ hx
  have := h j (Nat.zero_le _) hj
  unfold inAt at_ at this
  have e : (a.getD i []).getD j 0 = (a.getD i [])[j] := by rw [List.getD_eq_getElem?_getD (l := a.getD i []), List.getElem?_eq_getElem hj]; rfl
  rw [e, mkB_at _ _ _ (by omega)] at this
  exact this
 ·intro h j _ hj
  have hx : (a.getD i []).getD j 0 ∈ a.getD i [] := getD_mem hj
  have h1 := arc_row ha hi _ hx
  unfold inAt at_
  rw [mkB_at _ _ _ (by omega)]
  exact h _ (List.mem_map.2 ⟨_, hx, rfl⟩)
theorem C_bd (V : Nat → List Nat) : ∀ (d i s : Nat), C V d i s ≤ 2 ^ d := by
 intro d
 induction d with
 | zero => intro i s; simp [C]
 | succ d ih =>
  intro i s
  have h1 := ih (i + 1) s
  have h2 := ih (i + 1) (s + 2 ^ i)
  unfold C
  rw [Nat.pow_succ]
  split <;> omega
set_option maxHeartbeats 16000000 in
set_option maxRecDepth 100000 in
theorem count_calls (a : List (List Int)) (ha : Arcs a) (hL : a.length ≤ 20) (A : Option Addr) (c : Nat) (w0 : World) (HA : Aside0 (Kd.C kCq w0 A a.length a)) (ga gc gi gm cm : Nat) (hac : ga ≠ gm) (hcc : gc ≠ gm) (hic : gi ≠ gm) (hgm : w0.heap.size ≤ gm) :
  ∀ (d i s : Nat), i + d = a.length → s < 2 ^ i → ∀ (w : World), Aside0 (w.heap[ga]? = some (.cells #[.slice A a.length c] 22 (0, 0))) → Aside0 (w.heap[gc]? = some (.cells #[.func (.func 49) #[] #[.pointer (some ⟨ga, 0, none⟩), .pointer (some ⟨gc, 0, none⟩), .pointer (some ⟨gi, 0, none⟩)]] 56 (0, 0))) → Aside0 (w.heap[gi]? = some (.cells #[.slice (some ⟨gm, 0, none⟩) a.length cm] 55 (0, 0))) →
   Aside0 (Kd.R Kd.bool 4 w w0.heap.size (fun k => k = gm) (.slice (some ⟨gm, 0, none⟩) a.length cm) (mkB a.length s)) → Aside0 (Below w0.heap.size w0 w) →
   Calls Try.prog 49 #[.int .i64 (i : Int), .pointer (some ⟨ga, 0, none⟩), .pointer (some ⟨gc, 0, none⟩), .pointer (some ⟨gi, 0, none⟩)] w fun e w' => e = .returned (.int .i64 (C (U a) d i s : Nat)) ∧
    Kd.R Kd.bool 4 w' w0.heap.size (fun k => k = gm) (.slice (some ⟨gm, 0, none⟩) a.length cm) (mkB a.length s) ∧ Below w0.heap.size w0 w' ∧ Kept w w' (fun k => k = gm) := by
 have HNE := aMs (show ga ≠ gm ∧ gc ≠ gm ∧ gi ≠ gm from ⟨hac, hcc, hic⟩)
 have HGM := aMs hgm
 have HARC := aMs ha
 have HLL := aMs hL
 clear hac hcc hic hgm ha hL
 intro d
 induction d with
 | zero =>
  intro i s hi hs w KA KC KI HM HB
  have hd : ((i : Int) == (a.length : Int)) = true := beq_iff_eq.mpr (by omega)
  have hc0 : w.cell? ⟨ga, 0, none⟩ = some (.slice A a.length c) := (blk_cell KA.out 0).trans rfl
  clear hi hs
  go_enter Try.func49, Try.ntmps49
  go_wp2_with fail
  go_ret
  exact ⟨rfl, HM.out, HB.out, Kept.refl _ _⟩
 | succ d ih =>
  intro i s hi hs w KA KC KI HM HB
  have HI := aMs hi
  have HS := aMs hs
  have hd : ((i : Int) == (a.length : Int)) = false := beq_eq_false_iff_ne.mpr (by omega)
  have hw1 : wrap64 ((i : Int) + 1) = ((i + 1 : Nat) : Int) := w_succ (n := a.length) (by omega) (by have := HLL.out; omega)
  have hw2 : IntKind.i64.wrap ((i : Int) + 1) = ((i + 1 : Nat) : Int) := (i64_w _).trans hw1
  have IH := aMs ih
  have hc0 : w.cell? ⟨ga, 0, none⟩ = some (.slice A a.length c) := (blk_cell KA.out 0).trans rfl
  have hc1 : w.cell? ⟨gc, 0, none⟩ = some (.func (.func 49) #[] #[.pointer (some ⟨ga, 0, none⟩), .pointer (some ⟨gc, 0, none⟩), .pointer (some ⟨gi, 0, none⟩)]) := (blk_cell KC.out 0).trans rfl
  clear hi hs ih
  go_enter Try.func49, Try.ntmps49
  go_wp2_with fail
  refine (IH.out (i + 1) s (by have := HI.out; omega) (by have := HS.out; rw [Nat.pow_succ]; omega) w KA KC KI HM HB).mono ?_
  rintro e w1 ⟨rfl, hM, hb, hk⟩
  have n0_ := aMs (blk_kept KA.out hk HNE.out.1)
  have n1_ := aMs (blk_kept KC.out hk HNE.out.2.1)
  have n2_ := aMs (blk_kept KI.out hk HNE.out.2.2)
  have n3_ := aMs hM
  have n4_ := aMs hb
  have HK := aMs hk
  clear KA KC KI HM HB hM hb hk hc0 hc1
  have KA := n0_
  have KC := n1_
  have KI := n2_
  have HM := n3_
  have HB := n4_
  clear n0_ n1_ n2_ n3_ n4_
  obtain ⟨c1, ec1⟩ : ∃ z : Nat, z = C (U a) d (i + 1) s := ⟨_, rfl⟩
  rw [← ec1]
  have EC1 := aMs ec1
  clear ec1
  go_upto_region 4 with fail
  have hiL : (i : Int) < (a.length : Int) := by have := HI.out; omega
  have q0 := eq_true (show 0 ≤ (i : Int) by omega)
  have q1 := eq_true hiL
  have n0_ := aMs (blk_drew KA.out)
  have n1_ := aMs (blk_drew KC.out)
  have n2_ := aMs (blk_drew KI.out)
  have n3_ := aMs (Kd.R_drew HM.out)
  have n4_ := aMs (below_drew1 HB.out)
  have n5_ := aMs (Kept.drew HK.out)
  clear KA KC KI HM HB HK
  have KA := n0_
  have KC := n1_
  have KI := n2_
  have HM := n3_
  have HB := n4_
  have HK := n5_
  clear n0_ n1_ n2_ n3_ n4_ n5_
  obtain ⟨ad, Ar, cr, eA, hcr, hlr, hrr⟩ := at_ss (Kd.C_below HA.out HB.out) (i : Int) (by omega) hiL
  subst eA
  rw [Int.toNat_natCast] at hcr hlr hrr
  obtain ⟨rw_, erw⟩ : ∃ z, z = a.getD i [] := ⟨_, rfl⟩
  rw [← erw] at hcr hlr hrr
  have ERW := aMs erw
  have HRR := aMs hrr
  have HLR := aMs hlr
  clear erw hlr hrr
  refine start_ (n := 6) (S := fun w' => w'.cell? ⟨gi, 0, none⟩ = some (.slice (some ⟨gm, 0, none⟩) a.length cm) ∧ w'.cell? ⟨ga, 0, none⟩ = some (.slice (some ad) a.length c) ∧ w'.cell? (ad.add i) = some (.slice Ar rw_.length cr)) (ds := []) #[false, false, false, false, false, false] (by kernel_rfl) rfl rfl ⟨(blk_cell KI.out 0).trans rfl, (blk_cell KA.out 0).trans rfl, hcr⟩ (fun hHeld => ?_)
  refine with_tabW impl_CountClosures_1_tab4 impl_CountClosures_1_bits4 (fun HT_ HW_ => ?_)
  generalize w1.drew = wd at KA KC KI HM HB HK hcr HRR hHeld ⊢
  refine pure_ (i := 2) (N := some 17) (v := ?_) (a' := ?_) #[false, false, true, false, false, false] rfl rfl (any_of HT_.out (by kernel_rfl)) (fun _ _ _ h => h) (Or.inl ⟨by rfl, ?_⟩) ?_ ?_
  rotate_left
  ·intro w'
   go_simp
   with_reducible rfl
  rotate_left
  ·simp only [Act.put, uAs, List.set_cons_zero, List.set_cons_succ, i64_w, i32_w]
   rfl
  refine take_ (i := 0) (N := some 15) (v := ?_) (a' := ?_) #[true, false, true, false, false, false] rfl rfl (take_ofW HT_.out HW_.out (by kernel_rfl)) (fun _ _ _ h => h) (Or.inl ⟨by rfl, ?_⟩) hHeld ?_ ?_
  rotate_left
  ·rintro w' ⟨s0, s1, s2⟩
   go_simp
   with_reducible rfl
  rotate_left
  ·simp only [Act.put, uAs, List.set_cons_zero, List.set_cons_succ, i64_w, i32_w]
   rfl
  refine take_ (i := 1) (N := some 16) (v := ?_) (a' := ?_) #[true, true, true, false, false, false] rfl rfl (take_ofW HT_.out HW_.out (by kernel_rfl)) (fun _ _ _ h => h) (Or.inl ⟨by rfl, ?_⟩) hHeld ?_ ?_
  rotate_left
  ·rintro w' ⟨s0, s1, s2⟩
   go_simp
   with_reducible rfl
  rotate_left
  ·simp only [Act.put, uAs, List.set_cons_zero, List.set_cons_succ, i64_w, i32_w]
   rfl
  refine pure_ (i := 3) (N := some 18) (v := ?_) (a' := ?_) #[true, true, true, true, false, false] rfl rfl (any_of HT_.out (by kernel_rfl)) (fun _ _ _ h => h) (Or.inl ⟨by rfl, ?_⟩) ?_ ?_
  rotate_left
  ·intro w'
   go_simp
   with_reducible rfl
  rotate_left
  ·simp only [Act.put, uAs, List.set_cons_zero, List.set_cons_succ, i64_w, i32_w]
   rfl
  refine take_ (i := 4) (N := some 19) (v := ?_) (a' := ?_) #[true, true, true, true, true, false] rfl rfl (take_ofW HT_.out HW_.out (by kernel_rfl)) (fun _ _ _ h => h) (Or.inl ⟨by rfl, ?_⟩) hHeld ?_ ?_
  rotate_left
  ·rintro w' ⟨s0, s1, s2⟩
   go_simp
   with_reducible rfl
  rotate_left
  ·simp only [Act.put, uAs, List.set_cons_zero, List.set_cons_succ, i64_w, i32_w]
   rfl
  refine one_ (i := 5) (N := some 20) #[true, true, true, true, true, true] rfl rfl (one_of HT_.out (by kernel_rfl)) (by decide) (fun K hK => ?_)
  refine goes_ Try.func50 (by kernel_rfl) rfl #[.slice (some ⟨gm, 0, none⟩) a.length cm, .slice Ar rw_.length cr] (by rfl) rfl rfl (by (try simp only [List.map_toArray, List.map_cons, List.map_nil]); first | done | rfl | (simp only [List.length_drop, List.length_take]; rfl)) ?_
  obtain ⟨mm, emm⟩ : ∃ z, z = mkB a.length s := ⟨_, rfl⟩
  have hml : mm.length = a.length := by rw [emm, mkB_len]
  have hmc := Kd.R_reads' HM.out
  have hi2 := HI.out
  have hall := OwnAllIn.allIn_calls (some ⟨gm, 0, none⟩) cm mm Ar cr rw_ (maxLen_val (by rw [ERW.out]; have := arc_len HARC.out (show i < a.length by omega); have := HLL.out; omega)) (fun x hx => by rw [hml]; rw [ERW.out] at hx; have := arc_row HARC.out (show i < a.length by omega) x hx; omega) wd (by rw [emm]; exact hmc.2.2) (by rw [hml]; exact hmc.2.1) HRR.out HLR.out
  rw [hml] at hall
  refine hall.mono ?_
  rintro e w2 ⟨rfl, hb⟩
  refine ⟨_, rfl, ?_⟩
  rw [emm, ERW.out, allIn_sub HARC.out i s (by omega)]
  have n0_ := aMs (blk_below KA.out hb)
  have n1_ := aMs (blk_below KC.out hb)
  have n2_ := aMs (blk_below KI.out hb)
  have n3_ := aMs (Kd.R_below HM.out hb)
  have n4_ := aMs (below_step HB.out hb)
  have n5_ := aMs (HK.out.below hb)
  have hcr := (hb.cell (World.block_lt_of_cell? wd _ hcr)).trans hcr
  clear KA KC KI HM HB HK hb hml hmc hi2 hall emm HRR
  have KA := n0_
  have KC := n1_
  have KI := n2_
  have HM := n3_
  have HB := n4_
  have HK := n5_
  clear n0_ n1_ n2_ n3_ n4_ n5_
  refine hK.out _ _ ⟨(blk_cell KI.out 0).trans rfl, (blk_cell KA.out 0).trans rfl, hcr⟩ (fun hHeld => ?_)
  clear hK K
  refine done_ (done_of HT_.out (by kernel_rfl)) ?_
  clear hcr
  have hgm0 : (mkB a.length s).length = a.length := mkB_len _ _
  have hi2 := HI.out
  have hs2 := HS.out
  have hadd := HLL.out
  obtain ⟨b, eb⟩ : ∃ z, z = sub (U a) i s := ⟨_, rfl⟩
  rw [← eb]
  have EB := aMs eb
  clear eb
  cases b with
  | false =>
   clear hgm0 hi2 hs2 hadd
   go_wp2_with fail
   go_ret
   refine ⟨?_, HM.out, HB.out, HK.out⟩
   rw [EC1.out]
   show _ = Ending.returned (.int .i64 ((C (U a) d (i + 1) s + if sub (U a) i s = true then C (U a) d (i + 1) (s + 2 ^ i) else 0 : Nat) : Int))
   rw [← EB.out]
   rfl
  | true =>
   obtain ⟨hcm, hfm⟩ := Kd.R_celln false HM.out (i : Int) (by omega) (by omega)
   rw [Int.toNat_natCast] at hcm hfm
   have hci : w2.cell? ⟨gi, 0, none⟩ = some (.slice (some ⟨gm, 0, none⟩) a.length cm) := (blk_cell KI.out 0).trans rfl
   clear hgm0 hi2 hadd
   go_upto_region 6 with fail
   clear hcm hfm hci
   have hset : (mkB a.length s).set ((i : Int)).toNat true = mkB a.length (s + 2 ^ i) := by rw [Int.toNat_natCast]; exact mkB_set a.length i s hs2 (by have := HI.out; omega)
   have n3_ : Aside0 (Kd.R Kd.bool 4 (w2.setCell ⟨gm, i, none⟩ (.bool true)) w0.heap.size (fun k => k = gm) (.slice (some ⟨gm, 0, none⟩) a.length cm) (mkB a.length (s + 2 ^ i))) := ⟨by rw [← hset]; exact Kd.R_putn HM.out (i : Int) true⟩
   have n0_ := aMs (blk_far (p := ⟨gm, i, none⟩) KA.out HNE.out.1 (.bool true))
   have n1_ := aMs (blk_far (p := ⟨gm, i, none⟩) KC.out HNE.out.2.1 (.bool true))
   have n2_ := aMs (blk_far (p := ⟨gm, i, none⟩) KI.out HNE.out.2.2 (.bool true))
   have n4_ : Aside0 (Below w0.heap.size w0 (w2.setCell ⟨gm, i, none⟩ (.bool true))) := ⟨below_set HB.out HGM.out⟩
   have n5_ := aMs (Kept.setCell (p := ⟨gm, i, none⟩) HK.out (Or.inl rfl) (.bool true))
   clear KA KC KI HM HB HK hset hs2
   generalize w2.setCell ⟨gm, i, none⟩ (.bool true) = w3 at n0_ n1_ n2_ n3_ n4_ n5_ ⊢
   have KA := n0_
   have KC := n1_
   have KI := n2_
   have HM := n3_
   have HB := n4_
   have HK := n5_
   clear n0_ n1_ n2_ n3_ n4_ n5_
   have hc1 : w3.cell? ⟨gc, 0, none⟩ = some (.func (.func 49) #[] #[.pointer (some ⟨ga, 0, none⟩), .pointer (some ⟨gc, 0, none⟩), .pointer (some ⟨gi, 0, none⟩)]) := (blk_cell KC.out 0).trans rfl
   go_wp2_with fail
   clear hc1
   refine (IH.out (i + 1) (s + 2 ^ i) (by have := HI.out; omega) (by have := HS.out; rw [Nat.pow_succ]; omega) w3 KA KC KI HM HB).mono ?_
   rintro e w4 ⟨rfl, hM, hb, hk⟩
   have n0_ := aMs (blk_kept KA.out hk HNE.out.1)
   have n1_ := aMs (blk_kept KC.out hk HNE.out.2.1)
   have n2_ := aMs (blk_kept KI.out hk HNE.out.2.2)
   have n3_ := aMs hM
   have n4_ := aMs hb
   have n5_ := aMs (HK.out.then_ hk (fun k h => Or.inl h))
   clear KA KC KI HM HB HK hM hb hk
   have KA := n0_
   have KC := n1_
   have KI := n2_
   have HM := n3_
   have HB := n4_
   have HK := n5_
   clear n0_ n1_ n2_ n3_ n4_ n5_
   obtain ⟨c2, ec2⟩ : ∃ z : Nat, z = C (U a) d (i + 1) (s + 2 ^ i) := ⟨_, rfl⟩
   rw [← ec2]
   have EC2 := aMs ec2
   clear ec2
   have hb1 := C_bd (U a) d (i + 1) s
   have hb2 := C_bd (U a) d (i + 1) (s + 2 ^ i)
   rw [← EC1.out] at hb1
   rw [← EC2.out] at hb2
   have hpw : 2 ^ d ≤ 2 ^ 20 := Nat.pow_le_pow_right (by omega) (by have := HI.out; have := HLL.out; omega)
   have hw3 : wrap64 ((c1 : Int) + (c2 : Int)) = ((c1 + c2 : Nat) : Int) := by rw [w64 (by omega) (by omega)]; omega
   have hw4 : IntKind.i64.wrap ((c1 : Int) + (c2 : Int)) = ((c1 + c2 : Nat) : Int) := (i64_w _).trans hw3
   obtain ⟨hcm, hfm⟩ := Kd.R_celln false HM.out (i : Int) (by omega) (by omega)
   rw [Int.toNat_natCast] at hcm hfm
   have hci : w4.cell? ⟨gi, 0, none⟩ = some (.slice (some ⟨gm, 0, none⟩) a.length cm) := (blk_cell KI.out 0).trans rfl
   clear hb1 hb2 hpw
   go_wp2_with fail
   clear hcm hfm hci
   have hset : (mkB a.length (s + 2 ^ i)).set ((i : Int)).toNat false = mkB a.length s := by rw [Int.toNat_natCast]; exact mkB_unset a.length i s HS.out (by have := HI.out; omega)
   have n3_ : Aside0 (Kd.R Kd.bool 4 (w4.setCell ⟨gm, i, none⟩ (.bool false)) w0.heap.size (fun k => k = gm) (.slice (some ⟨gm, 0, none⟩) a.length cm) (mkB a.length s)) := ⟨by rw [← hset]; exact Kd.R_putn HM.out (i : Int) false⟩
   go_ret
   refine ⟨?_, n3_.out, below_set HB.out HGM.out, Kept.setCell (p := ⟨gm, i, none⟩) HK.out (Or.inl rfl) (.bool false)⟩
   rw [EC1.out, EC2.out]
   show _ = Ending.returned (.int .i64 ((C (U a) d (i + 1) s + if sub (U a) i s = true then C (U a) d (i + 1) (s + 2 ^ i) else 0 : Nat) : Int))
   rw [← EB.out]
   rfl
def ccR (a : List (List Int)) : Int × Bool := if arcsOk a = true ∧ a.length ≤ 20 then ((C (U a) a.length 0 0 : Nat), true) else (0, false)
theorem drawn_below' {w w' : World} (h : Drawn0 w w') : Below w.heap.size w w' := by
 obtain ⟨n, rfl⟩ := h
 exact pw_below_drewN (Below.refl _ _) n
set_option maxHeartbeats 16000000 in
set_option maxRecDepth 100000 in
theorem own_impl (A : Option Addr) (c : Nat) (a : List (List Int)) (g0 : Int) (g1 : Bool) (w : World) (h1 : Kd.C kCq w A a.length a) (e1 : a.length ≤ c) (l1 : a.length ≤ 1048576) (b1 : ∀ x ∈ a, x.length ≤ 1048576) (h : ccR a = (g0, g1)) :
  Calls Try.prog 9 #[.slice A a.length c] w fun e w' => e = .returned (.tuple #[.int .i64 g0, .bool g1]) ∧ Below w.heap.size w w' := by
 have hmf : ∀ (fn : Fn) (first cap : Array Value) (w : World), (Instr.makeFunc fn first cap).run Try.prog w = .ok (.func fn first cap) w := fun _ _ _ _ => rfl
 have H1 := aMs h1
 have E1 := aMs e1
 have HB := aMs (Below.refl w.heap.size w)
 obtain ⟨ka, hka⟩ := (AreArcs_ev a (maxLen_val (by omega)) (fun x hx => maxLen_val (by have := b1 x hx; omega))).rounds
 have HKA := aMs hka
 have HH := aMs h
 have L1 := aMs l1
 clear h1 e1 l1 b1 hka h
 go_enter Try.func9, Try.ntmps9
 go_wp2_with (first | ((with_reducible refine gate_dst (N := 1) rfl ?_); refine box_event ?hg (N := 1) ?hd (cs := #[.slice A a.length c]) (t := 22) ?hr ?_; (case hd => rfl); (case hg => rfl); (case hr => first | (go_simp; done) | (go_simp; rfl)); intro ga hg w1 hbox hb; have n0_ := aMs (below_step HB.out hb); have KA := aMs hbox; have GA := aMs ((by rw [hg]; exact (below_size HB.out)) : w.heap.size ≤ ga); clear HB; have HB := n0_; clear n0_ hb hbox hg; have hc0 : w1.cell? ⟨ga, 0, none⟩ = some (.slice A a.length c) := (blk_cell KA.out 0).trans rfl))
 clear hc0
 refine (impl_AreArcs.calls ka A c a _ w1 (Kd.C_below H1.out HB.out) E1.out HKA.out).mono ?_
 rintro e w2 ⟨rfl, hb⟩
 replace hb := drawn_below' hb
 have n0_ := aMs (below_step HB.out hb)
 have n1_ := aMs (blk_below KA.out hb)
 clear HB KA hb
 have HB := n0_
 have KA := n1_
 clear n0_ n1_
 have hc0 : w2.cell? ⟨ga, 0, none⟩ = some (.slice A a.length c) := (blk_cell KA.out 0).trans rfl
 by_cases hgood : arcsOk a = true ∧ a.length ≤ 20
 ·have e4 := HH.out
  unfold ccR at e4
  rw [if_pos hgood] at e4
  injection e4 with e4 e5
  subst e4 e5
  rw [hgood.1]
  have HAR := aMs (arcsOk_iff.1 hgood.1)
  have HL20 := aMs hgood.2
  have t0 : decide (20 < (a.length : Int)) = false := decide_eq_false (by omega)
  have t1 : decide (20 < a.length) = false := decide_eq_false (by omega)
  obtain ⟨m, em⟩ : ∃ m : Nat, m = a.length := ⟨_, rfl⟩
  have EM := aMs em
  have MB := aMs (show m ≤ 20 by omega)
  have MP := aMs (show 0 < m by have := HAR.out.pos; omega)
  rw [← em] at hc0 t0 t1 KA
  have q0 := eq_true (show 0 ≤ (m : Int) by omega)
  have q1 : decide (0 ≤ (m : Int)) = true := decide_eq_true (by omega)
  have q2 : decide ((m : Int).toNat ≤ 35184372088832) = true := decide_eq_true (by omega)
  have q3 := eq_true (show (m : Int).toNat ≤ 35184372088832 by omega)
  clear hgood em HH
  go_wp2_with (first
   | ((with_reducible refine gate_dst (N := 16) rfl ?_); refine Kd.R_make Kd.bool _ 4 rfl (N := 16) rfl 55 _ _ rfl (m : Int) rfl rfl Try.underlying55 (.bool false) 1 inf4 rfl (by decide) (by omega) false (ok := fun _ => True) (okp := fun _ => True) rfl (fun _ hk => hk) trivial (by omega) (by have h1_ := MB.out; omega) (Below.refl _ _) (Nat.le_refl _) ?_; intro vm w3 ho hb hg_ hnew_; clear hg_ hnew_; rw [Int.toNat_natCast] at ho; obtain ⟨gm, cm, eo, gb, gl_, cl_, HG_⟩ := Kd.R_form ho (by rw [List.length_replicate]; exact MP.out); rw [List.length_replicate] at eo; subst eo; have n0_ := aMs (below_step HB.out hb); have n1_ := aMs (blk_below KA.out hb); have n2_ := aMs (Kd.R_mono (Kd.R_lower (Kd.R_tight rfl ho) (below_size HB.out)) (ok' := fun k => k = gm) (fun k hk => Option.some.inj hk)); have GM := aMs (Nat.le_trans (below_size HB.out) gb); have GMA : Aside0 (ga ≠ gm) := ⟨by have h1_ := blk_lt KA.out; omega⟩; have GML := aMs gl_; clear HB KA ho hb gb gl_ cl_ HG_ hc0; have HB := n0_; have KA := n1_; have HM := n2_; clear n0_ n1_ n2_)
   | ((with_reducible refine gate_dst (N := 4) rfl ?_); refine box_event ?hg (N := 4) ?hd (cs := #[.slice none 0 0]) (t := 55) ?hr ?_; (case hd => rfl); (case hg => rfl); (case hr => first | (go_simp; done) | (go_simp; rfl)); intro gi hg w4 hbox hb; have n0_ := aMs (below_step HB.out hb); have n1_ := aMs (blk_below KA.out hb); have n2_ := aMs (Kd.R_below HM.out hb); have KI := aMs hbox; have GI := aMs ((by rw [hg]; exact (below_size HB.out)) : w.heap.size ≤ gi); have GIM : Aside0 (gi ≠ gm) := ⟨by rw [hg]; have h1_ := Kd.R_lt HM.out gm rfl; omega⟩; have GIA : Aside0 (ga ≠ gi) := ⟨by rw [hg]; have h1_ := blk_lt KA.out; omega⟩; clear HB KA HM; have HB := n0_; have KA := n1_; have HM := n2_; clear n0_ n1_ n2_ hb hbox hg; have hci : w4.cell? ⟨gi, 0, none⟩ = some (.slice none 0 0) := (blk_cell KI.out 0).trans rfl; have hfi := blk_frozen KI.out 0)
   )
  clear hci hfi
  have hsz : (w4.setCell ⟨gi, 0, none⟩ (.slice (some ⟨gm, 0, none⟩) m cm)).heap.size = w4.heap.size := by simp [World.setCell]
  have n0_ := aMs (blk_alloc (blk_far (p := ⟨gi, 0, none⟩) KA.out GIA.out (.slice (some ⟨gm, 0, none⟩) m cm)) (.cells #[.func (.func 49) #[] #[.pointer (some ⟨ga, 0, none⟩), .pointer (some ⟨w4.heap.size, 0, none⟩), .pointer (some ⟨gi, 0, none⟩)]] 56))
  have n1_ := aMs (blk_alloc (blk_put (cs := #[.slice none 0 0]) KI.out 0 (.slice (some ⟨gm, 0, none⟩) m cm) (cs' := #[.slice (some ⟨gm, 0, none⟩) m cm]) rfl) (.cells #[.func (.func 49) #[] #[.pointer (some ⟨ga, 0, none⟩), .pointer (some ⟨w4.heap.size, 0, none⟩), .pointer (some ⟨gi, 0, none⟩)]] 56))
  have n2_ : Aside0 (((w4.setCell ⟨gi, 0, none⟩ (.slice (some ⟨gm, 0, none⟩) m cm)).alloc (.cells #[.func (.func 49) #[] #[.pointer (some ⟨ga, 0, none⟩), .pointer (some ⟨w4.heap.size, 0, none⟩), .pointer (some ⟨gi, 0, none⟩)]] 56)).heap[w4.heap.size]? = some (.cells #[.func (.func 49) #[] #[.pointer (some ⟨ga, 0, none⟩), .pointer (some ⟨w4.heap.size, 0, none⟩), .pointer (some ⟨gi, 0, none⟩)]] 56 (0, 0))) := ⟨by have h := blk_new (w4.setCell ⟨gi, 0, none⟩ (.slice (some ⟨gm, 0, none⟩) m cm)) (.cells #[.func (.func 49) #[] #[.pointer (some ⟨ga, 0, none⟩), .pointer (some ⟨w4.heap.size, 0, none⟩), .pointer (some ⟨gi, 0, none⟩)]] 56 (0, 0)); rwa [hsz] at h⟩
  have n3_ := aMs (Kd.R_alloc (Kd.R_far (p := ⟨gi, 0, none⟩) HM.out (fun k hk e_ => GIM.out (e_.symm.trans hk)) (.slice (some ⟨gm, 0, none⟩) m cm)) (.cells #[.func (.func 49) #[] #[.pointer (some ⟨ga, 0, none⟩), .pointer (some ⟨w4.heap.size, 0, none⟩), .pointer (some ⟨gi, 0, none⟩)]] 56))
  have n4_ : Aside0 (Below w.heap.size w ((w4.setCell ⟨gi, 0, none⟩ (.slice (some ⟨gm, 0, none⟩) m cm)).alloc (.cells #[.func (.func 49) #[] #[.pointer (some ⟨ga, 0, none⟩), .pointer (some ⟨w4.heap.size, 0, none⟩), .pointer (some ⟨gi, 0, none⟩)]] 56))) := ⟨below_alloc (below_set HB.out GI.out) _⟩
  have n5_ : Aside0 (w4.heap.size ≠ gm) := ⟨by have h1_ := Kd.R_lt HM.out gm rfl; omega⟩
  have hm := EM.out
  subst hm
  clear KA KI HM HB hsz EM
  generalize w4.heap.size = gc at n0_ n1_ n2_ n3_ n4_ n5_ ⊢
  generalize (w4.setCell ⟨gi, 0, none⟩ (.slice (some ⟨gm, 0, none⟩) a.length cm)).alloc (.cells #[.func (.func 49) #[] #[.pointer (some ⟨ga, 0, none⟩), .pointer (some ⟨gc, 0, none⟩), .pointer (some ⟨gi, 0, none⟩)]] 56) = w5 at n0_ n1_ n2_ n3_ n4_ ⊢
  refine (count_calls a HAR.out HL20.out A c w ⟨H1.out⟩ ga gc gi gm cm GMA.out n5_.out GIM.out GM.out a.length 0 0 (by omega) (by simp) w5 n0_ n2_ n1_ ⟨by rw [mkB_zero]; exact n3_.out⟩ n4_).mono ?_
  rintro e w6 ⟨rfl, _, hb, _⟩
  have HB := aMs hb
  clear hb
  go_wp2_with fail
  go_ret2
  exact ⟨rfl, HB.out⟩
 ·have e4 := HH.out
  unfold ccR at e4
  rw [if_neg hgood] at e4
  injection e4 with e4 e5
  subst e4 e5
  cases hb : arcsOk a with
  | false =>
   clear hgood hb HH
   go_wp2_with fail
   go_ret2
   exact ⟨rfl, HB.out⟩
  | true =>
   have t0 : decide (20 < (a.length : Int)) = true := decide_eq_true (by have h : ¬ a.length ≤ 20 := fun h => hgood ⟨hb, h⟩; omega)
   have t1 : decide (20 < a.length) = true := decide_eq_true (by have h : ¬ a.length ≤ 20 := fun h => hgood ⟨hb, h⟩; omega)
   clear hgood hb HH
   go_wp2_with fail
   go_ret2
   exact ⟨rfl, HB.out⟩
end Go.Proofs.Ytbhlffakpneecaa.OwnCountClosures
