/- The contract of impl.HalfSlopes, by hand. -/
-- OWN impl halfR %s = %s
import Derived.Test.YtpndghkfbojokaaOwnTemplateOf
import Derived.Test.YtpndghkfbojokaaMFnExactHalfSlopesx1
import Derived.Test.YtpndghkfbojokaaMFnExactHalfSlopesx0
namespace Go.Proofs.Ytpndghkfbojokaa.OwnHalfSlopes
open Go.RowKit Go.Proofs.Ytpndghkfbojokaa.PFnExactHalfSlopes Go.Proofs.YtpndghkfbojokaaW.PrintWords Go.Proofs.YtpndghkfbojokaaW.PrintLast Go.Proofs.YtpndghkfbojokaaW.PrintMore Go.Proofs.Ytpndghkfbojokaa.B Go.Proofs.Ytpndghkfbojokaa.OwnTemplateOf
set_option linter.unusedVariables false
set_option linter.unusedSimpArgs false
def gridOk (x y z : Int) : Bool := decide (1 ≤ x ∧ x ≤ 8 ∧ 1 ≤ y ∧ y ≤ 6 ∧ 1 ≤ z ∧ z ≤ 5 ∧ x * y * z ≤ 120)
theorem grid_w {x y z : Int} (h : 1 ≤ x ∧ x ≤ 8 ∧ 1 ≤ y ∧ y ≤ 6 ∧ 1 ≤ z ∧ z ≤ 5) : wrap64 (wrap64 (x * y) * z) = x * y * z ∧ 1 ≤ x * y * z ∧ x * y * z ≤ 240 := by
  obtain ⟨h1, h2, h3, h4, h5, h6⟩ := h
  have a1 : x * y ≤ 8 * 6 := Int.mul_le_mul h2 h4 (by omega) (by omega)
  have a2 : 1 * 1 ≤ x * y := Int.mul_le_mul h1 h3 (by omega) (by omega)
  have a3 : x * y * z ≤ (8 * 6) * 5 := Int.mul_le_mul a1 h6 (by omega) (by omega)
  have a4 : (1 * 1) * 1 ≤ x * y * z := Int.mul_le_mul a2 h5 (by omega) (by omega)
  rw [w64 (x := x * y) (by omega) (by omega), w64 (by omega) (by omega)]
  exact ⟨rfl, by omega, by omega⟩
theorem grid_ok {x y z : Int} (h : gridOk x y z = true) : wrap64 (wrap64 (x * y) * z) = x * y * z ∧ 1 ≤ x * y * z ∧ x * y * z ≤ 120 := by
  unfold gridOk at h
  rw [decide_eq_true_eq] at h
  have := grid_w (x := x) (y := y) (z := z) (by omega)
  exact ⟨this.1, this.2.1, by omega⟩
def inL (lo hi : Int) (l : List Int) (j : Nat) : Bool := decide (lo ≤ l.getD j 0 ∧ l.getD j 0 ≤ hi)
def blockAt (t g r : List Int) (j : Nat) : Bool := inL 0 10000 t j && (inL 0 1000 g j && inL 0 4 r j)
def modelOk (x y z : Int) (t g r : List Int) : Bool := gridOk x y z && (decide ((t.length : Int) = x * y * z ∧ (g.length : Int) = x * y * z ∧ (r.length : Int) = x * y * z) && allR (blockAt t g r) 0 t.length)
theorem inL_iff {lo hi : Int} {l : List Int} {j : Nat} : inL lo hi l j = true ↔ lo ≤ l.getD j 0 ∧ l.getD j 0 ≤ hi := by unfold inL; rw [decide_eq_true_eq]
theorem blockAt_iff {t g r : List Int} {j : Nat} : blockAt t g r j = true ↔ (0 ≤ t.getD j 0 ∧ t.getD j 0 ≤ 10000) ∧ (0 ≤ g.getD j 0 ∧ g.getD j 0 ≤ 1000) ∧ 0 ≤ r.getD j 0 ∧ r.getD j 0 ≤ 4 := by
  unfold blockAt; rw [Bool.and_eq_true, Bool.and_eq_true, inL_iff, inL_iff, inL_iff]
theorem modelOk_iff {x y z : Int} {t g r : List Int} : modelOk x y z t g r = true ↔ gridOk x y z = true ∧ ((t.length : Int) = x * y * z ∧ (g.length : Int) = x * y * z ∧ (r.length : Int) = x * y * z) ∧ ∀ j, j < t.length → (0 ≤ t.getD j 0 ∧ t.getD j 0 ≤ 10000) ∧ (0 ≤ g.getD j 0 ∧ g.getD j 0 ≤ 1000) ∧ 0 ≤ r.getD j 0 ∧ r.getD j 0 ≤ 4 := by
  unfold modelOk
  rw [Bool.and_eq_true, Bool.and_eq_true, decide_eq_true_eq, allR_iff]
  exact ⟨fun h => ⟨h.1, h.2.1, fun j hj => blockAt_iff.1 (h.2.2 j (Nat.zero_le _) hj)⟩, fun h => ⟨h.1, h.2.1, fun j _ hj => blockAt_iff.2 (h.2.2 j hj)⟩⟩
theorem model_bd {x y z : Int} {t g r : List Int} (h : modelOk x y z t g r = true) : 1 ≤ t.length ∧ t.length ≤ 120 ∧ g.length = t.length ∧ r.length = t.length ∧ (t.length : Int) = x * y * z ∧ wrap64 (wrap64 (x * y) * z) = x * y * z := by
  rw [modelOk_iff] at h
  have := grid_ok h.1
  obtain ⟨_, ⟨h1, h2, h3⟩, _⟩ := h
  exact ⟨by omega, by omega, by omega, by omega, h1, this.1⟩

theorem IsGrid_eq (x y z : Int) : impl_IsGrid.f x y z = some (gridOk x y z) := by
  unfold impl_IsGrid.f gridOk
  by_cases h : 1 ≤ x ∧ x ≤ 8 ∧ 1 ≤ y ∧ y ≤ 6 ∧ 1 ≤ z ∧ z ≤ 5
  · rw [if_pos (by omega), if_pos (by omega), if_pos (by omega), if_pos (by omega), if_pos (by omega), if_pos (by omega), (grid_w h).1]
    congr 1
    rw [Bool.eq_iff_iff, decide_eq_true_eq, decide_eq_true_eq]
    omega
  · rw [show decide (1 ≤ x ∧ x ≤ 8 ∧ 1 ≤ y ∧ y ≤ 6 ∧ 1 ≤ z ∧ z ≤ 5 ∧ x * y * z ≤ 120) = false from decide_eq_false (by omega)]
    repeat' split
    all_goals first | rfl | (exfalso; omega)

theorem l1In_eq (a b c : Int) : spec_l1In.f a b c = some (decide (b ≤ a ∧ a ≤ c)) := by
  unfold spec_l1In.f
  by_cases h : a ≥ b
  · rw [if_pos h]; simp [show b ≤ a from h]
  · rw [if_neg h]; simp [show ¬ b ≤ a from h]

theorem grGood_eq (x y z : Int) : spec_grGood.f x y z = some (gridOk x y z) := by
  unfold spec_grGood.f gridOk
  simp only [l1In_eq, Option.bind_some, decide_eq_true_eq]
  by_cases h1 : 1 ≤ x ∧ x ≤ 8
  · rw [if_pos h1]
    by_cases h2 : 1 ≤ y ∧ y ≤ 6
    · rw [if_pos h2]
      by_cases h3 : 1 ≤ z ∧ z ≤ 5
      · rw [if_pos h3]
        have := grid_w (x := x) (y := y) (z := z) (by omega)
        rw [this.1]
        congr 1
        rw [Bool.eq_iff_iff, decide_eq_true_eq, decide_eq_true_eq]
        omega
      · rw [if_neg h3, decide_eq_false (by omega)]
    · rw [if_neg h2, decide_eq_false (by omega)]
  · rw [if_neg h1, decide_eq_false (by omega)]

theorem at_G {α : Type} (d : Kd α) (e0 : Nat) {w : World} {A : Option Addr} {n : Nat} {xs : List (List α)} (h : Kd.C (Kd.slice e0 d) w A n xs) (i : Int) (h0 : 0 ≤ i) (h1 : i < n) : ∃ ad A0 c0, A = some ad ∧ w.cell? (ad.add i.toNat) = some (.slice A0 (xs.getD i.toNat []).length c0) ∧ (xs.getD i.toNat []).length ≤ c0 ∧ d.C w A0 (xs.getD i.toNat []).length (xs.getD i.toNat []) := by
  obtain ⟨ad, c, e, _, hK, hc0⟩ := Kd.C_get h ([] : List α) i h0 h1
  have hc : ∀ j u, c[j]? = some u → w.cell? (ad.add (i.toNat * 1 + j)) = some u := hc0
  obtain ⟨A0, c0, rfl, l0, g0⟩ := hK
  exact ⟨ad, A0, c0, e, by have hq := hc 0 _ rfl; rwa [Nat.mul_one, Nat.add_zero] at hq, l0, g0⟩
/-- What is there behind i rounds. -/
def partG {α : Type} (l : List (List α)) (i : Nat) : List (List α) := l.take i ++ List.replicate (l.length - i) []
theorem partG_len {α : Type} (l : List (List α)) (i : Nat) (h : i ≤ l.length) : (partG l i).length = l.length := by
  unfold partG; rw [List.length_append, List.length_take, List.length_replicate]; omega
theorem partG_all {α : Type} (l : List (List α)) : partG l l.length = l := by
  unfold partG; rw [List.take_length, Nat.sub_self]; simp
theorem partG_set {α : Type} (l : List (List α)) (i : Nat) (h : i < l.length) : (partG l i).set i (l.getD i []) = partG l (i + 1) := by
  unfold partG
  rw [List.set_append_right _ _ (by rw [List.length_take]; omega), List.length_take, Nat.min_eq_left (by omega), Nat.sub_self, show l.length - i = (l.length - (i + 1)) + 1 by omega, List.replicate_succ, List.set_cons_zero,
    List.take_succ_eq_append_getElem h, List.append_assoc]
  simp [List.getD_eq_getElem?_getD, h]
/-- An inner row that was made behind the outer one is laid into it. -/
theorem lay_rowG {α : Type} (d : Kd α) (hE : d.E = []) (e0 et : Nat) {w1 : World} {B : Nat} {g n cap : Nat} {xs : List (List α)} {v : Value} {x : List α} {W : World} (hS : Kd.S (Kd.slice e0 d) et w1 B (fun k => k < W.heap.size) (.slice (some ⟨g, 0, none⟩) n cap) xs) (hR : Kd.R d e0 w1 W.heap.size (fun _ => True) v x)
    (hB : B ≤ W.heap.size) (i : Int) (h0 : 0 ≤ i) (h1 : i < n) :
    (∃ old, w1.cell? ⟨g, i.toNat, none⟩ = some old) ∧ w1.frozen? ⟨g, i.toNat, none⟩ = false ∧ Kd.S (Kd.slice e0 d) et (w1.setCell ⟨g, i.toNat, none⟩ v) B (fun _ => True) (.slice (some ⟨g, 0, none⟩) n cap) (xs.set i.toNat x) := by
  have hT := Kd.R_mono (Kd.R_tight hE hR) (ok' := fun k => some k = v.ownBlock) (fun _ h => h)
  have hbase := Kd.R_base hR
  have hX : Kd.S (Kd.slice e0 d) et w1 B (fun k => (fun _ => True) k ∧ ¬ (fun k => some k = v.ownBlock) k) (.slice (some ⟨g, 0, none⟩) n cap) xs :=
    Kd.S_mono hS (fun k hk => ⟨trivial, fun e => by have := hbase k e.symm; omega⟩)
  obtain ⟨oki, ce, hcl, hM, hcc, hfr, hoki, hH⟩ := Kd.S_elem hX [] i h0 h1
  have hn := (Kd.S_reads' hS).1
  have hval := Kd.R_val hR
  have hgo : g < W.heap.size := by
    have := hS
    obtain ⟨f, h0', _⟩ := this
    exact h0' g (by simp [Value.ownBlock])
  obtain ⟨ve, rfl, ge⟩ := hM
  have hP := Kd.S_seg hH h0 h1 (seg := [v]) (j := 0) (show 1 ≤ 1 from by decide) (x' := x)
    (Kd.M_row (Kd.R_mono (Kd.R_lower hT hB) (fun k h => Or.inr h))) (fun _ hk => hk) (fun k hk => ⟨trivial, fun e => by have := hbase k hk.symm; omega⟩)
  have hcc0 := hcc 0 _ rfl
  have hfr0 := hfr 0
  simp only [show (Kd.slice e0 d).sz = 1 from rfl, Nat.mul_one, Nat.add_zero] at hP hcc0 hfr0
  exact ⟨⟨_, hcc0⟩, hfr0, hP.1⟩

abbrev kOS : Kd (List S86) := Kd.slice 86 k86
theorem infoOS : (Try.prog.info? 56).map (fun i => (i.zero, i.size, i.bytes)) = some (some (.slice none 0 0), 1, 24) := by kernel_rfl
def impl_HalfSlopes_T10 : Bool × List (List Nat × List Nat) := (true, [([], []), ([], []), ([1], [1]), ([0, 2], [0, 2]), ([], []), ([4], [4]), ([5], [5]), ([3, 6], [3, 6])])
def impl_HalfSlopes_B10 : List Nat := [0, 0, 2, 7, 0, 16, 48, 127]
theorem impl_HalfSlopes_tab10 : rtab .any (opsOf Try.f17 10) = impl_HalfSlopes_T10 := by kernel_rfl
theorem impl_HalfSlopes_bits10 : waitsOk impl_HalfSlopes_T10.2 impl_HalfSlopes_B10 = true := by kernel_rfl
theorem inf3 : (Try.prog.info? 3).map (fun i => (i.zero, i.size, i.bytes)) = some (some (.int .i64 0), 1, 8) := by kernel_rfl
def sec (x i : Int) : Int := if Int.tmod i x < Int.tdiv x 2 then 0 else 1
def halfS (x : Int) (n : Nat) : List Int := (List.range n).map (fun (j : Nat) => sec x (j : Int))
theorem halfS_len (x : Int) (n : Nat) : (halfS x n).length = n := by unfold halfS; rw [List.length_map, List.length_range]
theorem halfS_step (x : Int) (n : Nat) : halfS x (n + 1) = halfS x n ++ [sec x (n : Int)] := by unfold halfS; rw [List.range_succ, List.map_append]; rfl
def halfR (x y z k l : Int) : List Int × List (List S86) × Bool := if gridOk x y z = true ∧ (1 ≤ k ∧ k ≤ 4) ∧ (1 ≤ l ∧ l ≤ 4) then (halfS x (x * y).toNat, [tmpl k, tmpl l], true) else ([], [], false)
theorem grid_xy {x y z : Int} (h : gridOk x y z = true) : wrap64 (x * y) = x * y ∧ 1 ≤ x * y ∧ x * y ≤ 120 ∧ 1 ≤ x ∧ x ≤ 8 := by
  unfold gridOk at h
  have h := of_decide_eq_true h
  have a1 : x * y ≤ 8 * 6 := Int.mul_le_mul (by omega) (by omega) (by omega) (by omega)
  have a2 : 1 * 1 ≤ x * y := Int.mul_le_mul (by omega) (by omega) (by omega) (by omega)
  exact ⟨w64 (by omega) (by omega), by omega, by omega, by omega, by omega⟩
set_option maxHeartbeats 16000000 in
set_option maxRecDepth 100000 in
theorem own_impl (x y z k l : Int) (g0_0 : List Int) (g0_1 : List (List S86)) (gb : Bool) (w : World) (h : halfR x y z k l = (g0_0, g0_1, gb)) :
    Calls Try.prog 17 #[.agg #[.int .i64 x, .int .i64 y, .int .i64 z], .int .i64 k, .int .i64 l] w fun e w' => ∃ v0 v1 : Value, e = .returned (.tuple #[.agg #[v0, v1], .bool gb]) ∧ Kd.R (Kd.int .i64) 3 w' w.heap.size (fun k => some k = v0.ownBlock) v0 g0_0 ∧ Kd.S kOS 56 w' w.heap.size (fun k => some k ≠ v0.ownBlock) v1 g0_1 ∧ Below w.heap.size w w' := by
  have hu1 := Try.underlying30
  have hu2 := Try.underlying27
  have HB := Aside0.mk (Below.refl w.heap.size w)
  obtain ⟨ta, ba, eA⟩ : ∃ a b, tmplR k = (a, b) := ⟨_, _, rfl⟩
  obtain ⟨tb, bb, eB⟩ : ∃ a b, tmplR l = (a, b) := ⟨_, _, rfl⟩
  have EA := Aside0.mk eA
  have EB := Aside0.mk eB
  have HH := Aside0.mk h
  clear h eA eB
  go_enter Try.func17, Try.ntmps17
  go_wp2_with (first
    | ((with_reducible refine gate_dst (N := 3) rfl ?_); refine box_event ?hg (N := 3) ?hd (cs := #[.int .i64 x, .int .i64 y, .int .i64 z]) (t := 30) ?hr ?_; (case hd => rfl); (case hg => rfl); (case hr => first | (go_simp; done) | (go_simp; rfl)); intro g1 hg w6 hbox hb; have n0_ := Aside0.mk (below_step HB.out hb); have K1 := Aside0.mk hbox; have G1 := Aside0.mk ((by rw [hg]; exact (below_size HB.out)) : w.heap.size ≤ g1); clear HB; have HB := n0_; clear n0_ hb hbox hg)
    | ((with_reducible refine gate_dst (N := 6) rfl ?_); refine box_event ?hg (N := 6) ?hd (cs := #[.slice none 0 0, .slice none 0 0]) (t := 27) ?hr ?_; (case hd => rfl); (case hg => rfl); (case hr => first | (go_simp; done) | (go_simp; rfl)); intro g2 hg w7 hbox hb; have n0_ := Aside0.mk (below_step HB.out hb); have K2 := Aside0.mk hbox; have n1_ := Aside0.mk (blk_below K1.out hb); have G2 := Aside0.mk ((by rw [hg]; exact (below_size HB.out)) : w.heap.size ≤ g2); have N12 := Aside0.mk ((by rw [hg]; exact Nat.ne_of_lt (blk_lt K1.out)) : g1 ≠ g2); clear HB K1; have HB := n0_; have K1 := n1_; clear n0_ n1_ hb hbox hg))
  refine (OwnTemplateOf.own_impl k ta ba w7 EA.out).mono ?_
  rintro e w8 ⟨va, rfl, ho, hb⟩
  have HA := Aside0.mk (Kd.R_mono (Kd.R_lower (Kd.R_bound ho) (below_size HB.out)) (ok' := fun q => w7.heap.size ≤ q ∧ q < w8.heap.size) (fun q h => ⟨h.2.1, h.2.2.1⟩))
  clear ho
  have n_K1 := Aside0.mk (blk_below K1.out hb)
  have n_K2 := Aside0.mk (blk_below K2.out hb)
  have n_HB := Aside0.mk (below_step HB.out hb)
  clear K1 K2 HB hb
  have K1 := n_K1
  have K2 := n_K2
  have HB := n_HB
  clear n_K1 n_K2 n_HB
  go_wp2_with fail
  refine (OwnTemplateOf.own_impl l tb bb w8 EB.out).mono ?_
  rintro e w9 ⟨vb, rfl, ho, hb⟩
  have Z8 := Aside0.mk hb.size
  have HC := Aside0.mk (Kd.R_mono (Kd.R_lower (Kd.R_bound ho) (below_size HB.out)) (ok' := fun q => w8.heap.size ≤ q ∧ q < w9.heap.size) (fun q h => ⟨h.2.1, h.2.2.1⟩))
  clear ho
  have n_K1 := Aside0.mk (blk_below K1.out hb)
  have n_K2 := Aside0.mk (blk_below K2.out hb)
  have n_HA := Aside0.mk (Kd.R_below HA.out hb)
  have n_HB := Aside0.mk (below_step HB.out hb)
  clear K1 K2 HA HB hb
  have K1 := n_K1
  have K2 := n_K2
  have HA := n_HA
  have HB := n_HB
  clear n_K1 n_K2 n_HA n_HB
  have hz0 : w9.cell? ⟨g1, 0, none⟩ = some (.int .i64 x) := (blk_cell K1.out 0).trans rfl
  have hz1 : w9.cell? ⟨g1, 1, none⟩ = some (.int .i64 y) := (blk_cell K1.out 1).trans rfl
  have hz2 : w9.cell? ⟨g1, 2, none⟩ = some (.int .i64 z) := (blk_cell K1.out 2).trans rfl
  go_wp2_with fail
  clear hz0 hz1 hz2
  refine (impl_IsGrid.calls x y z _ w9 (IsGrid_eq x y z)).mono ?_
  rintro e w10 ⟨rfl, hb⟩
  have Z9 := Aside0.mk hb.size
  have n_K1 := Aside0.mk (blk_below K1.out hb)
  have n_K2 := Aside0.mk (blk_below K2.out hb)
  have n_HA := Aside0.mk (Kd.R_below HA.out hb)
  have n_HC := Aside0.mk (Kd.R_below HC.out hb)
  have n_HB := Aside0.mk (below_step HB.out hb)
  clear K1 K2 HA HC HB hb
  have K1 := n_K1
  have K2 := n_K2
  have HA := n_HA
  have HC := n_HC
  have HB := n_HB
  clear n_K1 n_K2 n_HA n_HC n_HB
  obtain ⟨Aa, ca, rfl⟩ := Kd.R_slice HA.out
  obtain ⟨Ab, cb, rfl⟩ := Kd.R_slice HC.out
  by_cases hgood : gridOk x y z = true ∧ (1 ≤ k ∧ k ≤ 4) ∧ (1 ≤ l ∧ l ≤ 4)
  · have e1 : tmplR k = (tmpl k, true) := by unfold tmplR; rw [if_pos hgood.2.1]
    have e2 : tmplR l = (tmpl l, true) := by unfold tmplR; rw [if_pos hgood.2.2]
    have e3 := EA.out
    rw [e1] at e3
    injection e3 with e3 e4
    subst e3 e4
    have e3 := EB.out
    rw [e2] at e3
    injection e3 with e3 e4
    subst e3 e4
    have e4 := HH.out
    unfold halfR at e4
    rw [if_pos hgood] at e4
    injection e4 with e4 e5
    injection e5 with e5 e6
    subst e4 e5 e6
    have hxy := grid_xy hgood.1
    rw [hgood.1]
    obtain ⟨m, em⟩ : ∃ m : Nat, (m : Int) = x * y := ⟨(x * y).toNat, by omega⟩
    have EM := Aside0.mk em
    have hm1 : wrap64 (x * y) = (m : Int) := by rw [hxy.1, em]
    have hm2 : IntKind.i64.wrap (x * y) = (m : Int) := (i64_w _).trans hm1
    have HMB := Aside0.mk (show m ≤ 120 by omega)
    have HX := Aside0.mk (show 1 ≤ x ∧ x ≤ 8 by omega)
    clear hgood hxy em EA EB HH e1 e2
    go_wp2_with (first
      | ((with_reducible refine gate_dst (N := 39) rfl ?_); refine Kd.S_lits kOS (w0 := w) w.heap.size 56 ?hg (N := 39) ?hd (xs := [tmpl k, tmpl l]) (inner := [.slice Aa (tmpl k).length ca, .slice Ab (tmpl l).length cb]) (ok := fun q => q ≤ w10.heap.size) (fun j q => j = 0 ∧ q < w8.heap.size ∨ j = 1 ∧ w8.heap.size ≤ q ∧ q < w9.heap.size) ?hr rfl ?hrep ?hap ?hok (Nat.le_refl _) HB.out (below_size HB.out) (by simp) ?_; (case hd => rfl); (case hg => rfl); (case hr => first | (go_simp; done) | (go_simp; rfl)); (case hrep => (intro j t hx; cases j with | zero => (obtain rfl : t = tmpl k := (Option.some.inj hx).symm; exact ⟨_, rfl, Kd.R_mono HA.out (fun q hq => Or.inl ⟨rfl, hq.2⟩)⟩) | succ j => (cases j with | zero => (obtain rfl : t = tmpl l := (Option.some.inj hx).symm; exact ⟨_, rfl, Kd.R_mono HC.out (fun q hq => Or.inr ⟨rfl, hq⟩)⟩) | succ j => simp at hx))); (case hap => intro i j q h1 h2; omega); (case hok => (intro j q h1; have h2_ := Z8.out; have h3_ := Z9.out; show q ≤ w10.heap.size; omega)); intro v1 w11 hs hb hg_ hnew_; have n1_ := Aside0.mk (blk_grown K2.out hg_ (by simp)); have n2_ := Aside0.mk (blk_grown K1.out hg_ (by simp)); have Z11 : Aside0 (w10.heap.size < w11.heap.size) := (by obtain ⟨b_, hb1_, hb2_⟩ := hnew_; have h3_ := Kd.S_lt hs b_ hb1_; exact ⟨by omega⟩); have n4_ := Aside0.mk hs; have n5_ := Aside0.mk hb; clear HB K1 K2 HA HC hs hb hg_ hnew_; have HB := n5_; have K1 := n2_; have K2 := n1_; have HO := n4_; clear n1_ n2_ n4_ n5_; obtain ⟨Ao, co, evo⟩ := Kd.S_slice HO.out; replace evo : v1 = .slice Ao 2 co := evo; subst evo)
      | ((with_reducible refine gate_dst (N := 12) rfl ?_); refine box_event ?hg (N := 12) ?hd (cs := #[.slice none 0 0, .slice none 0 0]) (t := 27) ?hr ?_; (case hd => rfl); (case hg => rfl); (case hr => first | (go_simp; done) | (go_simp; rfl)); intro g3 hg w12 hbox hb; have n0_ := Aside0.mk (below_step HB.out hb); have n1_ := Aside0.mk (blk_below K1.out hb); have n2_ := Aside0.mk (blk_below K2.out hb); have n3_ := Aside0.mk (Kd.S_below HO.out hb); have G3 : Aside0 (g3 = w11.heap.size) := ⟨hg⟩; have n4_ := Aside0.mk hbox; have N13 := Aside0.mk ((by rw [hg]; exact Nat.ne_of_lt (blk_lt K1.out)) : g1 ≠ g3); have N23 := Aside0.mk ((by rw [hg]; exact Nat.ne_of_lt (blk_lt K2.out)) : g2 ≠ g3); have G3W := Aside0.mk ((by rw [hg]; exact (below_size HB.out)) : w.heap.size ≤ g3); clear HB K1 K2 HO; have HB := n0_; have K1 := n1_; have K2 := n2_; have HO := n3_; have K3 := n4_; clear n0_ n1_ n2_ n3_ n4_ hb hbox hg; have hc30 : w12.cell? ⟨g3, 0, none⟩ = some (.slice none 0 0) := (blk_cell K3.out 0).trans rfl; have hc31 : w12.cell? ⟨g3, 1, none⟩ = some (.slice none 0 0) := (blk_cell K3.out 1).trans rfl; have hf30 := blk_frozen K3.out 0; have hf31 := blk_frozen K3.out 1))
    clear hc30 hc31 hf30 hf31
    have HV : Aside0 (Kd.R (Kd.int .i64) 3 ((w12.setCell ⟨g3, 0, none⟩ (.slice none 0 0)).setCell ⟨g3, 1, none⟩ (.slice Ao 2 co)) w.heap.size (fun q => w10.heap.size < q) (.slice none 0 0) []) := ⟨Kd.R_nil _ _ _ _ _⟩
    have n0_ := Aside0.mk (blk_far (p := ⟨g3, 1, none⟩) (blk_far (p := ⟨g3, 0, none⟩) K1.out N13.out (.slice none 0 0)) N13.out (.slice Ao 2 co))
    have n1_ := Aside0.mk (blk_far (p := ⟨g3, 1, none⟩) (blk_far (p := ⟨g3, 0, none⟩) K2.out N23.out (.slice none 0 0)) N23.out (.slice Ao 2 co))
    have n2_ := Aside0.mk (blk_put (cs := #[.slice none 0 0, .slice none 0 0]) (blk_put (cs := #[.slice none 0 0, .slice none 0 0]) K3.out 0 (.slice none 0 0) rfl) 1 (.slice Ao 2 co) (cs' := #[.slice none 0 0, .slice Ao 2 co]) rfl)
    have hne : ∀ q, q ≤ w10.heap.size → q ≠ g3 := fun q hq => by rw [G3.out]; have := Z11.out; omega
    have n3_ := Aside0.mk (Kd.S_far (p := ⟨g3, 1, none⟩) (Kd.S_far (p := ⟨g3, 0, none⟩) HO.out hne (.slice none 0 0)) hne (.slice Ao 2 co))
    have n4_ : Aside0 (Below w.heap.size w ((w12.setCell ⟨g3, 0, none⟩ (.slice none 0 0)).setCell ⟨g3, 1, none⟩ (.slice Ao 2 co))) := ⟨below_set (below_set HB.out G3W.out) G3W.out⟩
    clear K1 K2 K3 HO HB hne
    generalize (w12.setCell ⟨g3, 0, none⟩ (.slice none 0 0)).setCell ⟨g3, 1, none⟩ (.slice Ao 2 co) = w13 at HV n0_ n1_ n2_ n3_ n4_ ⊢
    have K1 := n0_
    have K2 := n1_
    have K3 := n2_
    have HO := n3_
    have HB := n4_
    clear n0_ n1_ n2_ n3_ n4_
    go_loopg [13] (m) (fun q v13 wr => ∃ (i : Int) (v0 : Value), v13 = .int .i64 i ∧ Aside0 (0 ≤ i ∧ i + q = m) ∧ Aside0 (wr.heap[g1]? = some (.cells #[.int .i64 x, .int .i64 y, .int .i64 z] 30 (0, 0))) ∧ Aside0 (wr.heap[g2]? = some (.cells #[.slice none 0 0, .slice none 0 0] 27 (0, 0))) ∧ Aside0 (wr.heap[g3]? = some (.cells #[v0, .slice Ao 2 co] 27 (0, 0))) ∧ Aside0 (Kd.R (Kd.int .i64) 3 wr w.heap.size (fun q => w10.heap.size < q) v0 (halfS x i.toNat)) ∧ Aside0 (Kd.S kOS 56 wr w.heap.size (fun q => q ≤ w10.heap.size) (.slice Ao 2 co) [tmpl k, tmpl l]) ∧ Aside0 (Below w.heap.size w wr))
    case atStart => exact ⟨0, .slice none 0 0, rfl, ⟨by omega⟩, K1, K2, K3, HV, HO, HB⟩
    case round =>
      clear K1 K2 K3 HV HO HB
      obtain ⟨i, v0, rfl, HI, K1, K2, K3, HV, HO, HB⟩ := hrel
      obtain ⟨A0, c0, rfl⟩ := Kd.R_slice HV.out
      rw [halfS_len] at K3 HV
      have hz0 : wr.cell? ⟨g1, 0, none⟩ = some (.int .i64 x) := (blk_cell K1.out 0).trans rfl
      have hz1 : wr.cell? ⟨g1, 1, none⟩ = some (.int .i64 y) := (blk_cell K1.out 1).trans rfl
      have hi := HI.out
      cases gk with
      | zero =>
        have hd : decide (i < (m : Int)) = false := decide_eq_false (by omega)
        have ei : i.toNat = m := by omega
        rw [ei] at K3 HV
        have hc20 : wr.cell? ⟨g2, 0, none⟩ = some (.slice none 0 0) := (blk_cell K2.out 0).trans rfl
        have hc21 : wr.cell? ⟨g2, 1, none⟩ = some (.slice none 0 0) := (blk_cell K2.out 1).trans rfl
        have hf20 := blk_frozen K2.out 0
        have hf21 := blk_frozen K2.out 1
        have hc30 : wr.cell? ⟨g3, 0, none⟩ = some (.slice A0 m c0) := (blk_cell K3.out 0).trans rfl
        have hc31 : wr.cell? ⟨g3, 1, none⟩ = some (.slice Ao 2 co) := (blk_cell K3.out 1).trans rfl
        clear hi ei
        go_wp2_with fail
        clear hc20 hc21 hf20 hf21 hc30 hc31 hz0 hz1
        refine bodyPost_ret (results_ct rfl _ _ g2 27 #[.slice A0 m c0, .slice Ao 2 co] (0, 0) _ rfl (blk_put (cs := #[.slice A0 m c0, .slice none 0 0]) (blk_put (cs := #[.slice none 0 0, .slice none 0 0]) K2.out 0 _ rfl) 1 _ rfl) Try.underlying27 rfl (by kernel_rfl)) rfl ?_
        refine ⟨_, _, by first | rfl | (simp [errW_none, errW_some] <;> rfl), ?_, ?_, below_set (below_set HB.out G2.out) G2.out⟩
        · have e : (x * y).toNat = m := by have := EM.out; omega
          rw [e]
          exact Kd.R_mono (Kd.R_far (p := ⟨g2, 1, none⟩) (Kd.R_far (p := ⟨g2, 0, none⟩) (Kd.R_types (Kd.R_tight rfl HV.out) K2.out (by decide)) (fun _ hk => hk.2) _) (fun _ hk => hk.2) _) (fun _ hk => hk.1)
        · exact Kd.S_mono (Kd.S_far (p := ⟨g2, 1, none⟩) (Kd.S_far (p := ⟨g2, 0, none⟩) (Kd.S_types HO.out K2.out (by decide)) (fun _ hk => hk.2) _) (fun _ hk => hk.2) _) (fun q hk e_ => by have h1_ := HV.out.1 q e_.symm; have h2_ := hk.1; omega)
      | succ q =>
        have hd : decide (i < (m : Int)) = true := decide_eq_true (by omega)
        clear hi
        go_upto_region 10 with fail
        have hx0 : ¬ x = 0 := by have := HX.out; omega
        have hx1 : (x == 0) = false := beq_eq_false_iff_ne.mpr hx0
        have n0_ := Aside0.mk (blk_drew K1.out)
        have n1_ := Aside0.mk (blk_drew K2.out)
        have n2_ := Aside0.mk (blk_drew K3.out)
        have n3_ := Aside0.mk (Kd.R_drew HV.out)
        have n4_ := Aside0.mk (Kd.S_drew HO.out)
        have n5_ := Aside0.mk (below_drew1 HB.out)
        clear K1 K2 K3 HV HO HB hz0 hz1
        have K1 := n0_
        have K2 := n1_
        have K3 := n2_
        have HV := n3_
        have HO := n4_
        have HB := n5_
        clear n0_ n1_ n2_ n3_ n4_ n5_
        refine start_ (n := 8) (S := fun w' => w'.cell? ⟨g1, 0, none⟩ = some (.int .i64 x)) (ds := []) #[false, false, false, false, false, false, false, false] (by kernel_rfl) rfl rfl ((blk_cell K1.out 0).trans rfl) (fun hHeld => ?_)
        refine with_tabW impl_HalfSlopes_tab10 impl_HalfSlopes_bits10 (fun HT_ HW_ => ?_)
        generalize wr.drew = wd at K1 K2 K3 HV HO HB hHeld ⊢
        refine pure_ (i := 0) (N := some 50) (v := ?_) (a' := ?_) #[true, false, false, false, false, false, false, false] rfl rfl (any_of HT_.out (by kernel_rfl)) (fun _ _ _ h => h) (Or.inl ⟨by rfl, ?_⟩) ?_ ?_
        rotate_left
        · intro w'
          go_simp
          with_reducible rfl
        rotate_left
        · simp only [Act.put, List.setIfInBounds_toArray, List.set_cons_zero, List.set_cons_succ, i64_w, i32_w]
          rfl
        refine pure_ (i := 1) (N := some 51) (v := ?_) (a' := ?_) #[true, true, false, false, false, false, false, false] rfl rfl (any_of HT_.out (by kernel_rfl)) (fun _ _ _ h => h) (Or.inl ⟨by rfl, ?_⟩) ?_ ?_
        rotate_left
        · intro w'
          go_simp
          with_reducible rfl
        rotate_left
        · simp only [Act.put, List.setIfInBounds_toArray, List.set_cons_zero, List.set_cons_succ, i64_w, i32_w]
          rfl
        refine pure_ (i := 4) (N := some 54) (v := ?_) (a' := ?_) #[true, true, false, false, true, false, false, false] rfl rfl (any_of HT_.out (by kernel_rfl)) (fun _ _ _ h => h) (Or.inl ⟨by rfl, ?_⟩) ?_ ?_
        rotate_left
        · intro w'
          go_simp
          with_reducible rfl
        rotate_left
        · simp only [Act.put, List.setIfInBounds_toArray, List.set_cons_zero, List.set_cons_succ, i64_w, i32_w]
          rfl
        refine take_ (i := 2) (N := some 52) (v := ?_) (a' := ?_) #[true, true, true, false, true, false, false, false] rfl rfl (take_ofW HT_.out HW_.out (by kernel_rfl)) (fun _ _ _ h => h) (Or.inl ⟨by rfl, ?_⟩) hHeld ?_ ?_
        rotate_left
        · intro w' s0
          go_simp
          with_reducible rfl
        rotate_left
        · simp only [Act.put, List.setIfInBounds_toArray, List.set_cons_zero, List.set_cons_succ, i64_w, i32_w]
          rfl
        refine pure_ (i := 3) (N := some 53) (v := ?_) (a' := ?_) #[true, true, true, true, true, false, false, false] rfl rfl (any_of HT_.out (by kernel_rfl)) (fun _ _ _ h => h) (Or.inl ⟨by rfl, ?_⟩) ?_ ?_
        rotate_left
        · intro w'
          go_simp
          with_reducible rfl
        rotate_left
        · simp only [Act.put, List.setIfInBounds_toArray, List.set_cons_zero, List.set_cons_succ, i64_w, i32_w]
          rfl
        refine take_ (i := 5) (N := some 55) (v := ?_) (a' := ?_) #[true, true, true, true, true, true, false, false] rfl rfl (take_ofW HT_.out HW_.out (by kernel_rfl)) (fun _ _ _ h => h) (Or.inl ⟨by rfl, ?_⟩) hHeld ?_ ?_
        rotate_left
        · intro w' s0
          go_simp
          with_reducible rfl
        rotate_left
        · simp only [Act.put, List.setIfInBounds_toArray, List.set_cons_zero, List.set_cons_succ, i64_w, i32_w]
          rfl
        refine pure_ (i := 6) (N := some 56) (v := ?_) (a' := ?_) #[true, true, true, true, true, true, true, false] rfl rfl (any_of HT_.out (by kernel_rfl)) (fun _ _ _ h => h) (Or.inl ⟨by rfl, ?_⟩) ?_ ?_
        rotate_left
        · intro w'
          go_simp
          with_reducible rfl
        rotate_left
        · simp only [Act.put, List.setIfInBounds_toArray, List.set_cons_zero, List.set_cons_succ, i64_w, i32_w]
          rfl
        refine pure_ (i := 7) (N := some 57) (v := ?_) (a' := ?_) #[true, true, true, true, true, true, true, true] rfl rfl (any_of HT_.out (by kernel_rfl)) (fun _ _ _ h => h) (Or.inl ⟨by rfl, ?_⟩) ?_ ?_
        rotate_left
        · intro w'
          go_simp
          with_reducible rfl
        rotate_left
        · simp only [Act.put, List.setIfInBounds_toArray, List.set_cons_zero, List.set_cons_succ, i64_w, i32_w]
          rfl
        refine done_ (done_of HT_.out (by kernel_rfl)) ?_
        have hq1 : 0 ≤ Int.tdiv x 2 ∧ Int.tdiv x 2 ≤ 4 := by
          have h1_ : x = 1 ∨ x = 2 ∨ x = 3 ∨ x = 4 ∨ x = 5 ∨ x = 6 ∨ x = 7 ∨ x = 8 := by have := HX.out; omega
          rcases h1_ with h | h | h | h | h | h | h | h <;> rw [h] <;> decide
        have hq2 : wrap64 (Int.tdiv x 2) = Int.tdiv x 2 := w64 (by omega) (by omega)
        clear hq1
        have hq3 : IntKind.i64.wrap (Int.tdiv x 2) = Int.tdiv x 2 := (i64_w _).trans hq2
        have HWD : Aside0 (w10.heap.size < wd.heap.size) := ⟨by have h1_ := blk_lt K3.out; have h2_ := G3.out; have h3_ := Z11.out; omega⟩
        have hc30 : wd.cell? ⟨g3, 0, none⟩ = some (.slice A0 i.toNat c0) := (blk_cell K3.out 0).trans rfl
        obtain ⟨bq, ebq⟩ : ∃ b : Bool, b = decide (Int.tmod i x < wrap64 (Int.tdiv x 2)) := ⟨_, rfl⟩
        rw [← ebq]
        have EBQ := Aside0.mk ebq
        clear ebq
        cases bq
        rotate_left
        · have hc : Int.tmod i x < Int.tdiv x 2 := by have h := of_decide_eq_true EBQ.out.symm; rwa [hq2] at h
          have HSV : Aside0 (sec x i = 0) := ⟨if_pos hc⟩
          clear hc EBQ
          go_wp2_with (first | ((with_reducible refine gate_builtin (b := .append) (xs := #[.tmp 59, .tmp 61]) rfl ?_); at_builtin; refine Kd.R_append (Kd.int .i64) (w0 := w) w.heap.size rfl (.tmp 59) (.tmp 61) 24 3 (.int .i64 0) 8 rfl Try.underlying24 inf3 rfl (by decide) (by omega) (.slice A0 i.toNat c0) (halfS x i.toNat) 0 [.int .i64 0] (fun q => w10.heap.size < q) (fun _ => False) rfl rfl ?aP (fun _ hk => hk.elim) ?aF ?aO ?aB ?aS ?aL ?_; (case aP => exact rfl); (case aB => exact (by repeat (first | (with_reducible first | exact HB.out | apply below_alloc | apply pw_below_drewN | apply below_drew1) | exact HB.out))); (case aF => exact (fun q hq => Nat.lt_of_lt_of_le HWD.out hq)); (case aO => exact (by (with_reducible repeat (first | apply Kd.R_alloc | apply Kd.R_drewN | apply Kd.R_drew)); exact HV.out)); (case aS => exact (below_size (by repeat (first | (with_reducible first | exact HB.out | apply below_alloc | apply pw_below_drewN | apply below_drew1) | exact HB.out)))); (case aL => have h1_ := HMB.out; have h2_ := HI.out; rw [halfS_len]; omega); intro v2 we ho hb hg hat; have n0_ := Aside0.mk (blk_grown K1.out hg (Kd.R_ne HV.out K1.out (by decide))); have n1_ := Aside0.mk (blk_grown K2.out hg (Kd.R_ne HV.out K2.out (by decide))); have n2_ := Aside0.mk (blk_grown K3.out hg (Kd.R_ne HV.out K3.out (by decide))); have n3_ := Aside0.mk ho; have n4_ := Aside0.mk (Kd.S_grown HO.out hg (fun q hq e_ => by have h1_ := HV.out.1 q e_.symm; omega)); have n5_ := Aside0.mk hb; clear K1 K2 K3 HV HO HB ho hb hg hat hc30; have K1 := n0_; have K2 := n1_; have K3 := n2_; have HV := n3_; have HO := n4_; have HB := n5_; clear n0_ n1_ n2_ n3_ n4_ n5_; obtain ⟨A2, c2, ev2⟩ := Kd.R_slice HV.out; rw [List.length_append, halfS_len] at ev2; replace ev2 : v2 = .slice A2 (i.toNat + 1) c2 := ev2; subst ev2; have hc30 : we.cell? ⟨g3, 0, none⟩ = some (.slice A0 i.toNat c0) := (blk_cell K3.out 0).trans rfl; have hf30 := blk_frozen K3.out 0))
          clear hc30 hf30
          have n0_ := Aside0.mk (blk_far (p := ⟨g3, 0, none⟩) K1.out N13.out (.slice A2 (i.toNat + 1) c2))
          have n1_ := Aside0.mk (blk_far (p := ⟨g3, 0, none⟩) K2.out N23.out (.slice A2 (i.toNat + 1) c2))
          have n2_ := Aside0.mk (blk_put (cs := #[.slice A0 i.toNat c0, .slice Ao 2 co]) K3.out 0 (.slice A2 (i.toNat + 1) c2) (cs' := #[.slice A2 (i.toNat + 1) c2, .slice Ao 2 co]) rfl)
          have n3_ := Aside0.mk (Kd.R_mono (Kd.R_far (p := ⟨g3, 0, none⟩) (Kd.R_types HV.out K3.out (by decide)) (fun _ hk => hk.2) (.slice A2 (i.toNat + 1) c2)) (fun _ hk => hk.1))
          have n4_ := Aside0.mk (Kd.S_mono (Kd.S_far (p := ⟨g3, 0, none⟩) (Kd.S_types HO.out K3.out (by decide)) (fun _ hk => hk.2) (.slice A2 (i.toNat + 1) c2)) (fun _ hk => hk.1))
          have n5_ : Aside0 (Below w.heap.size w (we.setCell ⟨g3, 0, none⟩ (.slice A2 (i.toNat + 1) c2))) := ⟨below_set HB.out G3W.out⟩
          clear K1 K2 K3 HV HO HB
          generalize we.setCell ⟨g3, 0, none⟩ (.slice A2 (i.toNat + 1) c2) = wf at n0_ n1_ n2_ n3_ n4_ n5_ ⊢
          go_roundg q
          case measure => omega
          case rel =>
            have hi := HI.out
            have hmb := HMB.out
            have e : wrap64 (i + 1) = i + 1 := w64 (by omega) (by omega)
            have e2 : (i + 1).toNat = i.toNat + 1 := by omega
            have e3 : halfS x (i + 1).toNat = halfS x i.toNat ++ [0] := by rw [e2, halfS_step, show ((i.toNat : Nat) : Int) = i by omega, HSV.out]
            exact ⟨i + 1, _, by rw [e], ⟨by omega⟩, n0_, n1_, n2_, ⟨by rw [e3]; exact n3_.out⟩, n4_, n5_⟩
        · have hc : ¬ Int.tmod i x < Int.tdiv x 2 := by have h := of_decide_eq_false EBQ.out.symm; rwa [hq2] at h
          have HSV : Aside0 (sec x i = 1) := ⟨if_neg hc⟩
          clear hc EBQ
          go_wp2_with (first | ((with_reducible refine gate_builtin (b := .append) (xs := #[.tmp 59, .tmp 61]) rfl ?_); at_builtin; refine Kd.R_append (Kd.int .i64) (w0 := w) w.heap.size rfl (.tmp 59) (.tmp 61) 24 3 (.int .i64 0) 8 rfl Try.underlying24 inf3 rfl (by decide) (by omega) (.slice A0 i.toNat c0) (halfS x i.toNat) 1 [.int .i64 1] (fun q => w10.heap.size < q) (fun _ => False) rfl rfl ?aP (fun _ hk => hk.elim) ?aF ?aO ?aB ?aS ?aL ?_; (case aP => exact rfl); (case aB => exact (by repeat (first | (with_reducible first | exact HB.out | apply below_alloc | apply pw_below_drewN | apply below_drew1) | exact HB.out))); (case aF => exact (fun q hq => Nat.lt_of_lt_of_le HWD.out hq)); (case aO => exact (by (with_reducible repeat (first | apply Kd.R_alloc | apply Kd.R_drewN | apply Kd.R_drew)); exact HV.out)); (case aS => exact (below_size (by repeat (first | (with_reducible first | exact HB.out | apply below_alloc | apply pw_below_drewN | apply below_drew1) | exact HB.out)))); (case aL => have h1_ := HMB.out; have h2_ := HI.out; rw [halfS_len]; omega); intro v2 we ho hb hg hat; have n0_ := Aside0.mk (blk_grown K1.out hg (Kd.R_ne HV.out K1.out (by decide))); have n1_ := Aside0.mk (blk_grown K2.out hg (Kd.R_ne HV.out K2.out (by decide))); have n2_ := Aside0.mk (blk_grown K3.out hg (Kd.R_ne HV.out K3.out (by decide))); have n3_ := Aside0.mk ho; have n4_ := Aside0.mk (Kd.S_grown HO.out hg (fun q hq e_ => by have h1_ := HV.out.1 q e_.symm; omega)); have n5_ := Aside0.mk hb; clear K1 K2 K3 HV HO HB ho hb hg hat hc30; have K1 := n0_; have K2 := n1_; have K3 := n2_; have HV := n3_; have HO := n4_; have HB := n5_; clear n0_ n1_ n2_ n3_ n4_ n5_; obtain ⟨A2, c2, ev2⟩ := Kd.R_slice HV.out; rw [List.length_append, halfS_len] at ev2; replace ev2 : v2 = .slice A2 (i.toNat + 1) c2 := ev2; subst ev2; have hc30 : we.cell? ⟨g3, 0, none⟩ = some (.slice A0 i.toNat c0) := (blk_cell K3.out 0).trans rfl; have hf30 := blk_frozen K3.out 0))
          clear hc30 hf30
          have n0_ := Aside0.mk (blk_far (p := ⟨g3, 0, none⟩) K1.out N13.out (.slice A2 (i.toNat + 1) c2))
          have n1_ := Aside0.mk (blk_far (p := ⟨g3, 0, none⟩) K2.out N23.out (.slice A2 (i.toNat + 1) c2))
          have n2_ := Aside0.mk (blk_put (cs := #[.slice A0 i.toNat c0, .slice Ao 2 co]) K3.out 0 (.slice A2 (i.toNat + 1) c2) (cs' := #[.slice A2 (i.toNat + 1) c2, .slice Ao 2 co]) rfl)
          have n3_ := Aside0.mk (Kd.R_mono (Kd.R_far (p := ⟨g3, 0, none⟩) (Kd.R_types HV.out K3.out (by decide)) (fun _ hk => hk.2) (.slice A2 (i.toNat + 1) c2)) (fun _ hk => hk.1))
          have n4_ := Aside0.mk (Kd.S_mono (Kd.S_far (p := ⟨g3, 0, none⟩) (Kd.S_types HO.out K3.out (by decide)) (fun _ hk => hk.2) (.slice A2 (i.toNat + 1) c2)) (fun _ hk => hk.1))
          have n5_ : Aside0 (Below w.heap.size w (we.setCell ⟨g3, 0, none⟩ (.slice A2 (i.toNat + 1) c2))) := ⟨below_set HB.out G3W.out⟩
          clear K1 K2 K3 HV HO HB
          generalize we.setCell ⟨g3, 0, none⟩ (.slice A2 (i.toNat + 1) c2) = wf at n0_ n1_ n2_ n3_ n4_ n5_ ⊢
          go_roundg q
          case measure => omega
          case rel =>
            have hi := HI.out
            have hmb := HMB.out
            have e : wrap64 (i + 1) = i + 1 := w64 (by omega) (by omega)
            have e2 : (i + 1).toNat = i.toNat + 1 := by omega
            have e3 : halfS x (i + 1).toNat = halfS x i.toNat ++ [1] := by rw [e2, halfS_step, show ((i.toNat : Nat) : Int) = i by omega, HSV.out]
            exact ⟨i + 1, _, by rw [e], ⟨by omega⟩, n0_, n1_, n2_, ⟨by rw [e3]; exact n3_.out⟩, n4_, n5_⟩
  · have e4 := HH.out
    unfold halfR at e4
    rw [if_neg hgood] at e4
    injection e4 with e4 e5
    injection e5 with e5 e6
    subst e4 e5 e6
    have hc20 : w10.cell? ⟨g2, 0, none⟩ = some (.slice none 0 0) := (blk_cell K2.out 0).trans rfl
    have hc21 : w10.cell? ⟨g2, 1, none⟩ = some (.slice none 0 0) := (blk_cell K2.out 1).trans rfl
    have hf20 := blk_frozen K2.out 0
    have hf21 := blk_frozen K2.out 1
    cases hg : gridOk x y z with
    | false =>
      clear hgood hg EA EB HH
      go_wp2_with fail
      clear hc20 hc21 hf20 hf21
      refine bodyPost_ret (results_ct rfl _ _ g2 27 #[.slice none 0 0, .slice none 0 0] (0, 0) _ rfl (blk_put (cs := #[.slice none 0 0, .slice none 0 0]) (blk_put (cs := #[.slice none 0 0, .slice none 0 0]) K2.out 0 _ rfl) 1 _ rfl) Try.underlying27 rfl (by kernel_rfl)) rfl ?_
      exact ⟨_, _, by first | rfl | (simp [errW_none, errW_some] <;> rfl), Kd.R_nil _ _ _ _ _, Kd.S_nil _ _ _ _ _, below_set (below_set HB.out G2.out) G2.out⟩
    | true =>
      by_cases hk : 1 ≤ k ∧ k ≤ 4
      · have e1 : tmplR k = (tmpl k, true) := by unfold tmplR; rw [if_pos hk]
        have e2 : tmplR l = ([], false) := by unfold tmplR; rw [if_neg (fun h => hgood ⟨hg, hk, h⟩)]
        have e3 := EA.out
        rw [e1] at e3
        injection e3 with e3 e4
        subst e3 e4
        have e3 := EB.out
        rw [e2] at e3
        injection e3 with e3 e4
        subst e3 e4
        clear hgood hg EA EB HH e1 e2 hk
        go_wp2_with fail
        clear hc20 hc21 hf20 hf21
        refine bodyPost_ret (results_ct rfl _ _ g2 27 #[.slice none 0 0, .slice none 0 0] (0, 0) _ rfl (blk_put (cs := #[.slice none 0 0, .slice none 0 0]) (blk_put (cs := #[.slice none 0 0, .slice none 0 0]) K2.out 0 _ rfl) 1 _ rfl) Try.underlying27 rfl (by kernel_rfl)) rfl ?_
        exact ⟨_, _, by first | rfl | (simp [errW_none, errW_some] <;> rfl), Kd.R_nil _ _ _ _ _, Kd.S_nil _ _ _ _ _, below_set (below_set HB.out G2.out) G2.out⟩
      · have e1 : tmplR k = ([], false) := by unfold tmplR; rw [if_neg hk]
        have e3 := EA.out
        rw [e1] at e3
        injection e3 with e3 e4
        subst e3 e4
        clear hgood hg EA EB HH e1 hk
        go_wp2_with fail
        clear hc20 hc21 hf20 hf21
        refine bodyPost_ret (results_ct rfl _ _ g2 27 #[.slice none 0 0, .slice none 0 0] (0, 0) _ rfl (blk_put (cs := #[.slice none 0 0, .slice none 0 0]) (blk_put (cs := #[.slice none 0 0, .slice none 0 0]) K2.out 0 _ rfl) 1 _ rfl) Try.underlying27 rfl (by kernel_rfl)) rfl ?_
        exact ⟨_, _, by first | rfl | (simp [errW_none, errW_some] <;> rfl), Kd.R_nil _ _ _ _ _, Kd.S_nil _ _ _ _ _, below_set (below_set HB.out G2.out) G2.out⟩
end Go.Proofs.Ytpndghkfbojokaa.OwnHalfSlopes
