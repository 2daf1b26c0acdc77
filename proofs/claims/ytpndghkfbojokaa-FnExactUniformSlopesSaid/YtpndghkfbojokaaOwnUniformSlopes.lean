/- The contract of impl.UniformSlopes, by hand. -/
-- OWN impl uniR %s = %s
-- OWN spec uniR %s = %s
import Derived.Test.YtpndghkfbojokaaOwnTemplateOf
import Derived.Test.YtpndghkfbojokaaMFnExactUniformSlopesx0
import Derived.Test.YtpndghkfbojokaaMFnExactUniformSlopesx1
import Derived.Test.YtpndghkfbojokaaMFnExactUniformSlopesx1
namespace Go.Proofs.Ytpndghkfbojokaa.OwnUniformSlopes
open Go.RowKit Go.Proofs.Ytpndghkfbojokaa.PFnExactUniformSlopes Go.Proofs.YtpndghkfbojokaaW.PrintWords Go.Proofs.YtpndghkfbojokaaW.PrintLast Go.Proofs.YtpndghkfbojokaaW.PrintMore Go.Proofs.Ytpndghkfbojokaa.B Go.Proofs.Ytpndghkfbojokaa.OwnTemplateOf
set_option linter.unusedVariables false
set_option linter.unusedSimpArgs false
def gridOk (x y z : Int) : Bool := decide (1 ≤ x ∧ x ≤ 8 ∧ 1 ≤ y ∧ y ≤ 6 ∧ 1 ≤ z ∧ z ≤ 5 ∧ x * y * z ≤ 120)
theorem grid_w {x y z : Int} (h : 1 ≤ x ∧ x ≤ 8 ∧ 1 ≤ y ∧ y ≤ 6 ∧ 1 ≤ z ∧ z ≤ 5) : wrap64 (wrap64 (x * y) * z) = x * y * z ∧ 1 ≤ x * y * z ∧ x * y * z ≤ 240 := by
  obtain ⟨h1, h2, h3, h4, h5, h6⟩ := h
  have a1 : x * y ≤ 8 * 6 := Int.mul_le_mul h2 h4 (by omega) (by omega)
  have a2 : 1 * 1 ≤ x * y := Int.mul_le_mul h1 h3 (by omega) (by omega)
  have a3 : x * y * z ≤ (8 * 6) * 5 := Int.mul_le_mul a1 h6 (by omega) (by omega)
  have a4 : (1 * 1) * 1 ≤ x * y * z := Int.mul_le_mul a2 h5 (by omega) (by omega)
  rw [w64 (x := x * y) (by omega) (by omega), w64 (by omega) (by omega)]
  exact ⟨rfl, by omega, by omega⟩
theorem grid_ok {x y z : Int} (h : gridOk x y z = true) : wrap64 (wrap64 (x * y) * z) = x * y * z ∧ 1 ≤ x * y * z ∧ x * y * z ≤ 120 := by
  unfold gridOk at h
  rw [decide_eq_true_eq] at h
  have := grid_w (x := x) (y := y) (z := z) (by omega)
  exact ⟨this.1, this.2.1, by omega⟩
def inL (lo hi : Int) (l : List Int) (j : Nat) : Bool := decide (lo ≤ l.getD j 0 ∧ l.getD j 0 ≤ hi)
def blockAt (t g r : List Int) (j : Nat) : Bool := inL 0 10000 t j && (inL 0 1000 g j && inL 0 4 r j)
def modelOk (x y z : Int) (t g r : List Int) : Bool := gridOk x y z && (decide ((t.length : Int) = x * y * z ∧ (g.length : Int) = x * y * z ∧ (r.length : Int) = x * y * z) && allR (blockAt t g r) 0 t.length)
theorem inL_iff {lo hi : Int} {l : List Int} {j : Nat} : inL lo hi l j = true ↔ lo ≤ l.getD j 0 ∧ l.getD j 0 ≤ hi := by unfold inL; rw [decide_eq_true_eq]
theorem blockAt_iff {t g r : List Int} {j : Nat} : blockAt t g r j = true ↔ (0 ≤ t.getD j 0 ∧ t.getD j 0 ≤ 10000) ∧ (0 ≤ g.getD j 0 ∧ g.getD j 0 ≤ 1000) ∧ 0 ≤ r.getD j 0 ∧ r.getD j 0 ≤ 4 := by
  unfold blockAt; rw [Bool.and_eq_true, Bool.and_eq_true, inL_iff, inL_iff, inL_iff]
theorem modelOk_iff {x y z : Int} {t g r : List Int} : modelOk x y z t g r = true ↔ gridOk x y z = true ∧ ((t.length : Int) = x * y * z ∧ (g.length : Int) = x * y * z ∧ (r.length : Int) = x * y * z) ∧ ∀ j, j < t.length → (0 ≤ t.getD j 0 ∧ t.getD j 0 ≤ 10000) ∧ (0 ≤ g.getD j 0 ∧ g.getD j 0 ≤ 1000) ∧ 0 ≤ r.getD j 0 ∧ r.getD j 0 ≤ 4 := by
  unfold modelOk
  rw [Bool.and_eq_true, Bool.and_eq_true, decide_eq_true_eq, allR_iff]
  exact ⟨fun h => ⟨h.1, h.2.1, fun j hj => blockAt_iff.1 (h.2.2 j (Nat.zero_le _) hj)⟩, fun h => ⟨h.1, h.2.1, fun j _ hj => blockAt_iff.2 (h.2.2 j hj)⟩⟩
theorem model_bd {x y z : Int} {t g r : List Int} (h : modelOk x y z t g r = true) : 1 ≤ t.length ∧ t.length ≤ 120 ∧ g.length = t.length ∧ r.length = t.length ∧ (t.length : Int) = x * y * z ∧ wrap64 (wrap64 (x * y) * z) = x * y * z := by
  rw [modelOk_iff] at h
  have := grid_ok h.1
  obtain ⟨_, ⟨h1, h2, h3⟩, _⟩ := h
  exact ⟨by omega, by omega, by omega, by omega, h1, this.1⟩

theorem IsGrid_eq (x y z : Int) : impl_IsGrid.f x y z = some (gridOk x y z) := by
  unfold impl_IsGrid.f gridOk
  by_cases h : 1 ≤ x ∧ x ≤ 8 ∧ 1 ≤ y ∧ y ≤ 6 ∧ 1 ≤ z ∧ z ≤ 5
  · rw [if_pos (by omega), if_pos (by omega), if_pos (by omega), if_pos (by omega), if_pos (by omega), if_pos (by omega), (grid_w h).1]
    congr 1
    rw [Bool.eq_iff_iff, decide_eq_true_eq, decide_eq_true_eq]
    omega
  · rw [show decide (1 ≤ x ∧ x ≤ 8 ∧ 1 ≤ y ∧ y ≤ 6 ∧ 1 ≤ z ∧ z ≤ 5 ∧ x * y * z ≤ 120) = false from decide_eq_false (by omega)]
    repeat' split
    all_goals first | rfl | (exfalso; omega)

theorem l1In_eq (a b c : Int) : spec_l1In.f a b c = some (decide (b ≤ a ∧ a ≤ c)) := by
  unfold spec_l1In.f
  by_cases h : a ≥ b
  · rw [if_pos h]; simp [show b ≤ a from h]
  · rw [if_neg h]; simp [show ¬ b ≤ a from h]

theorem grGood_eq (x y z : Int) : spec_grGood.f x y z = some (gridOk x y z) := by
  unfold spec_grGood.f gridOk
  simp only [l1In_eq, Option.bind_some, decide_eq_true_eq]
  by_cases h1 : 1 ≤ x ∧ x ≤ 8
  · rw [if_pos h1]
    by_cases h2 : 1 ≤ y ∧ y ≤ 6
    · rw [if_pos h2]
      by_cases h3 : 1 ≤ z ∧ z ≤ 5
      · rw [if_pos h3]
        have := grid_w (x := x) (y := y) (z := z) (by omega)
        rw [this.1]
        congr 1
        rw [Bool.eq_iff_iff, decide_eq_true_eq, decide_eq_true_eq]
        omega
      · rw [if_neg h3, decide_eq_false (by omega)]
    · rw [if_neg h2, decide_eq_false (by omega)]
  · rw [if_neg h1, decide_eq_false (by omega)]

theorem at_G {α : Type} (d : Kd α) (e0 : Nat) {w : World} {A : Option Addr} {n : Nat} {xs : List (List α)} (h : Kd.C (Kd.slice e0 d) w A n xs) (i : Int) (h0 : 0 ≤ i) (h1 : i < n) : ∃ ad A0 c0, A = some ad ∧ w.cell? (ad.add i.toNat) = some (.slice A0 (xs.getD i.toNat []).length c0) ∧ (xs.getD i.toNat []).length ≤ c0 ∧ d.C w A0 (xs.getD i.toNat []).length (xs.getD i.toNat []) := by
  obtain ⟨ad, c, e, _, hK, hc0⟩ := Kd.C_get h ([] : List α) i h0 h1
  have hc : ∀ j u, c[j]? = some u → w.cell? (ad.add (i.toNat * 1 + j)) = some u := hc0
  obtain ⟨A0, c0, rfl, l0, g0⟩ := hK
  exact ⟨ad, A0, c0, e, by have hq := hc 0 _ rfl; rwa [Nat.mul_one, Nat.add_zero] at hq, l0, g0⟩
/-- What is there behind i rounds. -/
def partG {α : Type} (l : List (List α)) (i : Nat) : List (List α) := l.take i ++ List.replicate (l.length - i) []
theorem partG_len {α : Type} (l : List (List α)) (i : Nat) (h : i ≤ l.length) : (partG l i).length = l.length := by
  unfold partG; rw [List.length_append, List.length_take, List.length_replicate]; omega
theorem partG_all {α : Type} (l : List (List α)) : partG l l.length = l := by
  unfold partG; rw [List.take_length, Nat.sub_self]; simp
theorem partG_set {α : Type} (l : List (List α)) (i : Nat) (h : i < l.length) : (partG l i).set i (l.getD i []) = partG l (i + 1) := by
  unfold partG
  rw [List.set_append_right _ _ (by rw [List.length_take]; omega), List.length_take, Nat.min_eq_left (by omega), Nat.sub_self, show l.length - i = (l.length - (i + 1)) + 1 by omega, List.replicate_succ, List.set_cons_zero,
    List.take_succ_eq_append_getElem h, List.append_assoc]
  simp [List.getD_eq_getElem?_getD, h]
/-- An inner row that was made behind the outer one is laid into it. -/
theorem lay_rowG {α : Type} (d : Kd α) (hE : d.E = []) (e0 et : Nat) {w1 : World} {B : Nat} {g n cap : Nat} {xs : List (List α)} {v : Value} {x : List α} {W : World} (hS : Kd.S (Kd.slice e0 d) et w1 B (fun k => k < W.heap.size) (.slice (some ⟨g, 0, none⟩) n cap) xs) (hR : Kd.R d e0 w1 W.heap.size (fun _ => True) v x)
    (hB : B ≤ W.heap.size) (i : Int) (h0 : 0 ≤ i) (h1 : i < n) :
    (∃ old, w1.cell? ⟨g, i.toNat, none⟩ = some old) ∧ w1.frozen? ⟨g, i.toNat, none⟩ = false ∧ Kd.S (Kd.slice e0 d) et (w1.setCell ⟨g, i.toNat, none⟩ v) B (fun _ => True) (.slice (some ⟨g, 0, none⟩) n cap) (xs.set i.toNat x) := by
  have hT := Kd.R_mono (Kd.R_tight hE hR) (ok' := fun k => some k = v.ownBlock) (fun _ h => h)
  have hbase := Kd.R_base hR
  have hX : Kd.S (Kd.slice e0 d) et w1 B (fun k => (fun _ => True) k ∧ ¬ (fun k => some k = v.ownBlock) k) (.slice (some ⟨g, 0, none⟩) n cap) xs :=
    Kd.S_mono hS (fun k hk => ⟨trivial, fun e => by have := hbase k e.symm; omega⟩)
  obtain ⟨oki, ce, hcl, hM, hcc, hfr, hoki, hH⟩ := Kd.S_elem hX [] i h0 h1
  have hn := (Kd.S_reads' hS).1
  have hval := Kd.R_val hR
  have hgo : g < W.heap.size := by
    have := hS
    obtain ⟨f, h0', _⟩ := this
    exact h0' g (by simp [Value.ownBlock])
  obtain ⟨ve, rfl, ge⟩ := hM
  have hP := Kd.S_seg hH h0 h1 (seg := [v]) (j := 0) (show 1 ≤ 1 from by decide) (x' := x)
    (Kd.M_row (Kd.R_mono (Kd.R_lower hT hB) (fun k h => Or.inr h))) (fun _ hk => hk) (fun k hk => ⟨trivial, fun e => by have := hbase k hk.symm; omega⟩)
  have hcc0 := hcc 0 _ rfl
  have hfr0 := hfr 0
  simp only [show (Kd.slice e0 d).sz = 1 from rfl, Nat.mul_one, Nat.add_zero] at hP hcc0 hfr0
  exact ⟨⟨_, hcc0⟩, hfr0, hP.1⟩

abbrev kOS : Kd (List S86) := Kd.slice 86 k86
theorem infoOS : (Try.prog.info? 56).map (fun i => (i.zero, i.size, i.bytes)) = some (some (.slice none 0 0), 1, 24) := by kernel_rfl
def spec_slUniform_T1 : Bool × List (List Nat × List Nat) := (true, [([], []), ([0], [0]), ([], []), ([2], [2]), ([1, 3], [1, 3]), ([4, 4], [4]), ([], []), ([6], [6]), ([7], [7]), ([5, 8], [5, 8]), ([9, 7, 0, 1, 2, 3, 4, 5, 6, 7, 8, 9], [9])])
def spec_slUniform_B1 : List Nat := [0, 1, 0, 4, 15, 31, 0, 64, 192, 511, 1023]
theorem spec_slUniform_tab1 : rtab .any (opsOf Try.f51 1) = spec_slUniform_T1 := by kernel_rfl
theorem spec_slUniform_bits1 : waitsOk spec_slUniform_T1.2 spec_slUniform_B1 = true := by kernel_rfl
theorem inf3 : (Try.prog.info? 3).map (fun i => (i.zero, i.size, i.bytes)) = some (some (.int .i64 0), 1, 8) := by kernel_rfl
def uniR (x y z k : Int) : List Int × List (List S86) × Bool := if gridOk x y z = true ∧ (1 ≤ k ∧ k ≤ 4) then (List.replicate (x * y).toNat 0, [tmpl k], true) else ([], [], false)
theorem grid_xy {x y z : Int} (h : gridOk x y z = true) : wrap64 (x * y) = x * y ∧ 1 ≤ x * y ∧ x * y ≤ 120 := by
  unfold gridOk at h
  have h := of_decide_eq_true h
  have a1 : x * y ≤ 8 * 6 := Int.mul_le_mul (by omega) (by omega) (by omega) (by omega)
  have a2 : 1 * 1 ≤ x * y := Int.mul_le_mul (by omega) (by omega) (by omega) (by omega)
  exact ⟨w64 (by omega) (by omega), by omega, by omega⟩
set_option maxHeartbeats 16000000 in
set_option maxRecDepth 100000 in
theorem own_impl (x y z k : Int) (g0_0 : List Int) (g0_1 : List (List S86)) (g1 : Bool) (w : World) (h : uniR x y z k = (g0_0, g0_1, g1)) :
    Calls Try.prog 12 #[.agg #[.int .i64 x, .int .i64 y, .int .i64 z], .int .i64 k] w fun e w' => ∃ v0 v1 : Value, e = .returned (.tuple #[.agg #[v0, v1], .bool g1]) ∧ Kd.R (Kd.int .i64) 3 w' w.heap.size (fun k => some k = v0.ownBlock) v0 g0_0 ∧ Kd.S kOS 56 w' w.heap.size (fun k => some k ≠ v0.ownBlock) v1 g0_1 ∧ Below w.heap.size w w' := by
  have hu1 := Try.underlying30
  have hu2 := Try.underlying27
  have HB := Aside0.mk (Below.refl w.heap.size w)
  obtain ⟨gt, gb, eT⟩ : ∃ a b, tmplR k = (a, b) := ⟨_, _, rfl⟩
  have ET := Aside0.mk eT
  have HH := Aside0.mk h
  clear h eT
  have start : True := trivial
  go_enter Try.func12, Try.ntmps12
  go_wp2_with (first
    | ((with_reducible refine gate_dst (N := 2) rfl ?_); refine box_event ?hg (N := 2) ?hd (cs := #[.int .i64 x, .int .i64 y, .int .i64 z]) (t := 30) ?hr ?_; (case hd => rfl); (case hg => rfl); (case hr => first | (go_simp; done) | (go_simp; rfl)); intro g1 hg w6 hbox hb; have n0_ := Aside0.mk (below_step HB.out hb); have K1 := Aside0.mk hbox; have G1 := Aside0.mk ((by rw [hg]; exact (below_size HB.out)) : w.heap.size ≤ g1); clear HB; have HB := n0_; clear n0_ hb hbox hg)
    | ((with_reducible refine gate_dst (N := 4) rfl ?_); refine box_event ?hg (N := 4) ?hd (cs := #[.slice none 0 0, .slice none 0 0]) (t := 27) ?hr ?_; (case hd => rfl); (case hg => rfl); (case hr => first | (go_simp; done) | (go_simp; rfl)); intro g2 hg w7 hbox hb; have n0_ := Aside0.mk (below_step HB.out hb); have K2 := Aside0.mk hbox; have n1_ := Aside0.mk (blk_below K1.out hb); have G2 := Aside0.mk ((by rw [hg]; exact (below_size HB.out)) : w.heap.size ≤ g2); have N12 := Aside0.mk ((by rw [hg]; exact Nat.ne_of_lt (blk_lt K1.out)) : g1 ≠ g2); clear HB K1; have HB := n0_; have K1 := n1_; clear n0_ n1_ hb hbox hg))
  refine (OwnTemplateOf.own_impl k gt gb w7 ET.out).mono ?_
  rintro e w8 ⟨v, rfl, ho, hb⟩
  have n0_ := Aside0.mk (below_step HB.out hb)
  have n1_ := Aside0.mk (blk_below K1.out hb)
  have n2_ := Aside0.mk (blk_below K2.out hb)
  have HT := Aside0.mk (Kd.R_lower ho (below_size HB.out))
  clear HB K1 K2 ho hb
  have HB := n0_
  have K1 := n1_
  have K2 := n2_
  clear n0_ n1_ n2_
  have hc0 : w8.cell? ⟨g1, 0, none⟩ = some (.int .i64 x) := (blk_cell K1.out 0).trans rfl
  have hc1 : w8.cell? ⟨g1, 1, none⟩ = some (.int .i64 y) := (blk_cell K1.out 1).trans rfl
  have hc2 : w8.cell? ⟨g1, 2, none⟩ = some (.int .i64 z) := (blk_cell K1.out 2).trans rfl
  go_wp2_with fail
  clear hc0 hc1 hc2
  refine (impl_IsGrid.calls x y z _ w8 (IsGrid_eq x y z)).mono ?_
  rintro e w9 ⟨rfl, hb⟩
  have n0_ := Aside0.mk (below_step HB.out hb)
  have n1_ := Aside0.mk (blk_below K1.out hb)
  have n2_ := Aside0.mk (blk_below K2.out hb)
  have n3_ := Aside0.mk (Kd.R_below HT.out hb)
  clear HB K1 K2 HT hb
  have HB := n0_
  have K1 := n1_
  have K2 := n2_
  have HT := n3_
  clear n0_ n1_ n2_ n3_
  obtain ⟨Av, cv, rfl⟩ := Kd.R_slice HT.out
  have hc20 : w9.cell? ⟨g2, 0, none⟩ = some (.slice none 0 0) := (blk_cell K2.out 0).trans rfl
  have hc21 : w9.cell? ⟨g2, 1, none⟩ = some (.slice none 0 0) := (blk_cell K2.out 1).trans rfl
  have hf20 := blk_frozen K2.out 0
  have hf21 := blk_frozen K2.out 1
  by_cases hgood : gridOk x y z = true ∧ (1 ≤ k ∧ k ≤ 4)
  · have e1 : tmplR k = (tmpl k, true) := by unfold tmplR; rw [if_pos hgood.2]
    have e2 := ET.out
    rw [e1] at e2
    injection e2 with e2 e3
    subst e2 e3
    have e4 := HH.out
    unfold uniR at e4
    rw [if_pos hgood] at e4
    injection e4 with e4 e5
    injection e5 with e5 e6
    subst e4 e5 e6
    have hxy := grid_xy hgood.1
    rw [hgood.1]
    obtain ⟨m, em⟩ : ∃ m : Nat, (m : Int) = x * y := ⟨(x * y).toNat, by omega⟩
    have EM := Aside0.mk em
    have hm1 : wrap64 (x * y) = (m : Int) := by rw [hxy.1, em]
    have hm2 : IntKind.i64.wrap (x * y) = (m : Int) := (i64_w _).trans hm1
    have MB : m ≤ 120 := by omega
    have q0 := eq_true (show 0 ≤ (m : Int) by omega)
    have q1 : decide (0 ≤ (m : Int)) = true := decide_eq_true (by omega)
    have q2 : decide ((m : Int).toNat ≤ 35184372088832) = true := decide_eq_true (by omega)
    have q3 := eq_true (show (m : Int).toNat ≤ 35184372088832 by omega)
    have HMB := Aside0.mk MB
    have hc10 : w9.cell? ⟨g1, 0, none⟩ = some (.int .i64 x) := (blk_cell K1.out 0).trans rfl
    have hc11 : w9.cell? ⟨g1, 1, none⟩ = some (.int .i64 y) := (blk_cell K1.out 1).trans rfl
    clear hgood hxy em MB ET HH e1
    go_wp2_with (first
      | ((with_reducible refine gate_dst (N := 26) rfl ?_); refine Kd.R_make (Kd.int .i64) _ 3 rfl (N := 26) rfl 24 _ _ rfl (m : Int) rfl rfl Try.underlying24 (.int .i64 0) 8 inf3 rfl (by decide) (by omega) 0 (ok := fun _ => True) (okp := fun _ => True) rfl (fun _ hk => hk) trivial (by omega) (by have h1_ := HMB.out; omega) (Below.refl _ _) (Nat.le_refl _) ?_; intro vs w10 ho hb hg_ hnew_; clear hg_ hnew_; rw [Int.toNat_natCast] at ho; have n0_ := Aside0.mk (below_step HB.out hb); have n1_ := Aside0.mk (blk_below K2.out hb); have n2_ := Aside0.mk (Kd.R_old HT.out hb); have n3_ := Aside0.mk (Kd.R_tight rfl (Kd.R_lower ho (below_size HB.out))); have n4_ : Aside0 (∀ k, vs.ownBlock = some k → w9.heap.size ≤ k) := ⟨Kd.R_base ho⟩; clear HB K1 K2 HT hc10 hc11 hc20 hc21 hf20 hf21; have HB := n0_; have K2 := n1_; have HT := n2_; have HS := n3_; have HSB := n4_; clear n0_ n1_ n2_ n3_ n4_ ho hb; obtain ⟨As, cs_, evs⟩ := Kd.R_slice HS.out; rw [List.length_replicate] at evs; subst evs; have hc20 : w10.cell? ⟨g2, 0, none⟩ = some (.slice none 0 0) := (blk_cell K2.out 0).trans rfl; have hc21 : w10.cell? ⟨g2, 1, none⟩ = some (.slice none 0 0) := (blk_cell K2.out 1).trans rfl; have hf20 := blk_frozen K2.out 0; have hf21 := blk_frozen K2.out 1)
      | ((with_reducible refine gate_dst (N := 28) rfl ?_); refine Kd.S_lits kOS (w0 := w) w.heap.size 56 ?hg (N := 28) ?hd (xs := [tmpl k]) (inner := [.slice Av (tmpl k).length cv]) (ok := fun q => some q ≠ (Value.slice As m cs_).ownBlock) (fun j q => j = 0 ∧ q < w9.heap.size) ?hr rfl ?hrep ?hap ?hok ?hfr HB.out (below_size HB.out) (by simp) ?_; (case hd => rfl); (case hg => rfl); (case hr => first | (go_simp; done) | (go_simp; rfl)); (case hrep => intro j x hx; obtain ⟨rfl, rfl⟩ : j = 0 ∧ x = tmpl k := (by cases j with | zero => exact ⟨rfl, (Option.some.inj hx).symm⟩ | succ j => simp at hx); exact ⟨.slice Av (tmpl k).length cv, rfl, Kd.R_mono HT.out (fun q hq => ⟨rfl, hq.2⟩)⟩); (case hap => intro i j q h1 h2; exact h1.1.trans h2.1.symm); (case hok => intro j q h1 h2; have := HSB.out q h2.symm; omega); (case hfr => intro h2; have := Kd.R_lt HS.out _ h2.symm; omega); intro v1 w11 hs hb hg_ hnew_; have n1_ := Aside0.mk (blk_grown K2.out hg_ (by simp)); have n3_ := Aside0.mk (Kd.R_grown HS.out hg_ (by simp)); have n4_ := Aside0.mk hs; have n5_ := Aside0.mk hb; clear HB K2 HT HS hc20 hc21 hf20 hf21; have HB := n5_; have K2 := n1_; have HS := n3_; have HO := n4_; clear n1_ n3_ n4_ n5_ hs hb hg_ hnew_; obtain ⟨Ao, co, evo⟩ := Kd.S_slice HO.out; replace evo : v1 = .slice Ao 1 co := evo; subst evo; have hc20 : w11.cell? ⟨g2, 0, none⟩ = some (.slice none 0 0) := (blk_cell K2.out 0).trans rfl; have hc21 : w11.cell? ⟨g2, 1, none⟩ = some (.slice none 0 0) := (blk_cell K2.out 1).trans rfl; have hf20 := blk_frozen K2.out 0; have hf21 := blk_frozen K2.out 1))
    clear hc20 hc21 hf20 hf21
    refine bodyPost_ret (results_ct rfl _ _ g2 27 #[.slice As m cs_, .slice Ao 1 co] (0, 0) _ rfl (blk_put (cs := #[.slice As m cs_, .slice none 0 0]) (blk_put (cs := #[.slice none 0 0, .slice none 0 0]) K2.out 0 _ rfl) 1 _ rfl) Try.underlying27 rfl (by kernel_rfl)) rfl ?_
    refine ⟨_, _, by first | rfl | (simp [errW_none, errW_some] <;> rfl), ?_, ?_, below_set (below_set HB.out G2.out) G2.out⟩
    · have e : (x * y).toNat = m := by have := EM.out; omega
      rw [e]
      exact Kd.R_mono (Kd.R_far (p := ⟨g2, 1, none⟩) (Kd.R_far (p := ⟨g2, 0, none⟩) (Kd.R_types HS.out K2.out (by decide)) (fun _ hk => hk.2) _) (fun _ hk => hk.2) _) (fun _ hk => hk.1)
    · exact Kd.S_mono (Kd.S_far (p := ⟨g2, 1, none⟩) (Kd.S_far (p := ⟨g2, 0, none⟩) (Kd.S_types HO.out K2.out (by decide)) (fun _ hk => hk.2) _) (fun _ hk => hk.2) _) (fun _ hk => hk.1)
  · have e4 := HH.out
    unfold uniR at e4
    rw [if_neg hgood] at e4
    injection e4 with e4 e5
    injection e5 with e5 e6
    subst e4 e5 e6
    cases hg : gridOk x y z with
    | false =>
      clear hgood hg ET HH
      go_wp2_with fail
      clear hc20 hc21 hf20 hf21
      refine bodyPost_ret (results_ct rfl _ _ g2 27 #[.slice none 0 0, .slice none 0 0] (0, 0) _ rfl (blk_put (cs := #[.slice none 0 0, .slice none 0 0]) (blk_put (cs := #[.slice none 0 0, .slice none 0 0]) K2.out 0 _ rfl) 1 _ rfl) Try.underlying27 rfl (by kernel_rfl)) rfl ?_
      exact ⟨_, _, by first | rfl | (simp [errW_none, errW_some] <;> rfl), Kd.R_nil _ _ _ _ _, Kd.S_nil _ _ _ _ _, below_set (below_set HB.out G2.out) G2.out⟩
    | true =>
      have e1 : tmplR k = ([], false) := by unfold tmplR; rw [if_neg (fun h => hgood ⟨hg, h⟩)]
      have e2 := ET.out
      rw [e1] at e2
      injection e2 with e2 e3
      subst e2 e3
      clear hgood hg ET HH e1
      go_wp2_with fail
      clear hc20 hc21 hf20 hf21
      refine bodyPost_ret (results_ct rfl _ _ g2 27 #[.slice none 0 0, .slice none 0 0] (0, 0) _ rfl (blk_put (cs := #[.slice none 0 0, .slice none 0 0]) (blk_put (cs := #[.slice none 0 0, .slice none 0 0]) K2.out 0 _ rfl) 1 _ rfl) Try.underlying27 rfl (by kernel_rfl)) rfl ?_
      exact ⟨_, _, by first | rfl | (simp [errW_none, errW_some] <;> rfl), Kd.R_nil _ _ _ _ _, Kd.S_nil _ _ _ _ _, below_set (below_set HB.out G2.out) G2.out⟩
/-! the reference's side -/
set_option maxHeartbeats 16000000 in
set_option maxRecDepth 100000 in
theorem slUniform_calls (x y z k : Int) (hg : gridOk x y z = true) (hk : 1 ≤ k ∧ k ≤ 4) (w : World) :
    Calls Try.prog 51 #[.agg #[.int .i64 x, .int .i64 y, .int .i64 z], .int .i64 k] w fun e w' => ∃ v0 v1 : Value, e = .returned (.agg #[v0, v1]) ∧ Kd.R (Kd.int .i64) 3 w' w.heap.size (fun k => some k = v0.ownBlock) v0 (List.replicate (x * y).toNat 0) ∧ Kd.S kOS 56 w' w.heap.size (fun k => some k ≠ v0.ownBlock) v1 [tmpl k] ∧ Below w.heap.size w w' := by
  have hu1 := Try.underlying30
  have hu2 := Try.underlying27
  have HB := Aside0.mk (Below.refl w.heap.size w)
  obtain ⟨ks, hks⟩ := (slStandard_ev k hk).rounds
  have HKS := Aside0.mk hks
  have hxy := grid_xy hg
  obtain ⟨m, em⟩ : ∃ m : Nat, (m : Int) = x * y := ⟨(x * y).toNat, by omega⟩
  have EM := Aside0.mk em
  have hm1 : wrap64 (x * y) = (m : Int) := by rw [hxy.1, em]
  have hm2 : IntKind.i64.wrap (x * y) = (m : Int) := (i64_w _).trans hm1
  have HMB := Aside0.mk (show m ≤ 120 by omega)
  have q0 := eq_true (show 0 ≤ (m : Int) by omega)
  have q1 : decide (0 ≤ (m : Int)) = true := decide_eq_true (by omega)
  have q2 : decide ((m : Int).toNat ≤ 35184372088832) = true := decide_eq_true (by omega)
  have q3 := eq_true (show (m : Int).toNat ≤ 35184372088832 by omega)
  clear hks hxy em hg hk
  go_enter Try.func51, Try.ntmps51
  go_wp2_with (first
    | ((with_reducible refine gate_dst (N := 2) rfl ?_); refine box_event ?hg (N := 2) ?hd (cs := #[.int .i64 x, .int .i64 y, .int .i64 z]) (t := 30) ?hr ?_; (case hd => rfl); (case hg => rfl); (case hr => first | (go_simp; done) | (go_simp; rfl)); intro g1 hg w6 hbox hb; have n0_ := Aside0.mk (below_step HB.out hb); have K1 := Aside0.mk hbox; have G1 := Aside0.mk ((by rw [hg]; exact (below_size HB.out)) : w.heap.size ≤ g1); clear HB; have HB := n0_; clear n0_ hb hbox hg)
    | ((with_reducible refine gate_dst (N := 4) rfl ?_); refine box_event ?hg (N := 4) ?hd (cs := #[.slice none 0 0, .slice none 0 0]) (t := 27) ?hr ?_; (case hd => rfl); (case hg => rfl); (case hr => first | (go_simp; done) | (go_simp; rfl)); intro g2 hg w7 hbox hb; have n0_ := Aside0.mk (below_step HB.out hb); have K2 := Aside0.mk hbox; have n1_ := Aside0.mk (blk_below K1.out hb); have G2 := Aside0.mk ((by rw [hg]; exact (below_size HB.out)) : w.heap.size ≤ g2); have N12 := Aside0.mk ((by rw [hg]; exact Nat.ne_of_lt (blk_lt K1.out)) : g1 ≠ g2); clear HB K1; have HB := n0_; have K1 := n1_; clear n0_ n1_ hb hbox hg))
  have n0_ := Aside0.mk (blk_drew K1.out)
  have n1_ := Aside0.mk (blk_drew K2.out)
  have n2_ := Aside0.mk (below_drew1 HB.out)
  clear K1 K2 HB
  have K1 := n0_
  have K2 := n1_
  have HB := n2_
  clear n0_ n1_ n2_
  refine start_ (n := 11) (S := fun w' => w'.cell? ⟨g1, 0, none⟩ = some (.int .i64 x) ∧ w'.cell? ⟨g1, 1, none⟩ = some (.int .i64 y)) (ds := [10]) #[false, false, false, false, false, false, false, false, false, false, false] (by kernel_rfl) rfl rfl ⟨(blk_cell K1.out 0).trans rfl, (blk_cell K1.out 1).trans rfl⟩ (fun hHeld => ?_)
  refine with_tabW spec_slUniform_tab1 spec_slUniform_bits1 (fun HT_ HW_ => ?_)
  generalize w7.drew = w8 at K1 K2 HB hHeld ⊢
  refine pure_ (i := 0) (N := some 5) (v := ?_) (a' := ?_) #[true, false, false, false, false, false, false, false, false, false, false] rfl rfl (any_of HT_.out (by kernel_rfl)) (fun _ _ _ h => h) (Or.inl ⟨by rfl, ?_⟩) ?_ ?_
  rotate_left
  · intro w'
    go_simp
    with_reducible rfl
  rotate_left
  · simp only [Act.put, List.setIfInBounds_toArray, List.set_cons_zero, List.set_cons_succ, i64_w, i32_w]
    rfl
  refine pure_ (i := 2) (N := some 7) (v := ?_) (a' := ?_) #[true, false, true, false, false, false, false, false, false, false, false] rfl rfl (any_of HT_.out (by kernel_rfl)) (fun _ _ _ h => h) (Or.inl ⟨by rfl, ?_⟩) ?_ ?_
  rotate_left
  · intro w'
    go_simp
    with_reducible rfl
  rotate_left
  · simp only [Act.put, List.setIfInBounds_toArray, List.set_cons_zero, List.set_cons_succ, i64_w, i32_w]
    rfl
  refine pure_ (i := 6) (N := some 11) (v := ?_) (a' := ?_) #[true, false, true, false, false, false, true, false, false, false, false] rfl rfl (any_of HT_.out (by kernel_rfl)) (fun _ _ _ h => h) (Or.inl ⟨by rfl, ?_⟩) ?_ ?_
  rotate_left
  · intro w'
    go_simp
    with_reducible rfl
  rotate_left
  · simp only [Act.put, List.setIfInBounds_toArray, List.set_cons_zero, List.set_cons_succ, i64_w, i32_w]
    rfl
  refine take_ (i := 1) (N := some 6) (v := ?_) (a' := ?_) #[true, true, true, false, false, false, true, false, false, false, false] rfl rfl (take_ofW HT_.out HW_.out (by kernel_rfl)) (fun _ _ _ h => h) (Or.inl ⟨by rfl, ?_⟩) hHeld ?_ ?_
  rotate_left
  · rintro w' ⟨s0, s1⟩
    go_simp
    with_reducible rfl
  rotate_left
  · simp only [Act.put, List.setIfInBounds_toArray, List.set_cons_zero, List.set_cons_succ, i64_w, i32_w]
    rfl
  refine take_ (i := 3) (N := some 8) (v := ?_) (a' := ?_) #[true, true, true, true, false, false, true, false, false, false, false] rfl rfl (take_ofW HT_.out HW_.out (by kernel_rfl)) (fun _ _ _ h => h) (Or.inl ⟨by rfl, ?_⟩) hHeld ?_ ?_
  rotate_left
  · rintro w' ⟨s0, s1⟩
    go_simp
    with_reducible rfl
  rotate_left
  · simp only [Act.put, List.setIfInBounds_toArray, List.set_cons_zero, List.set_cons_succ, i64_w, i32_w]
    rfl
  refine pure_ (i := 4) (N := some 9) (v := ?_) (a' := ?_) #[true, true, true, true, true, false, true, false, false, false, false] rfl rfl (any_of HT_.out (by kernel_rfl)) (fun _ _ _ h => h) (Or.inl ⟨by rfl, ?_⟩) ?_ ?_
  rotate_left
  · intro w'
    go_simp
    with_reducible rfl
  rotate_left
  · simp only [Act.put, List.setIfInBounds_toArray, List.set_cons_zero, List.set_cons_succ, i64_w, i32_w]
    rfl
  refine two_ (i := 5) (j := 7) (Ni := some 10) (Nj := some 12) #[true, true, true, true, true, true, true, false, false, false, false] #[true, true, true, true, true, false, true, true, false, false, false] rfl rfl rfl rfl (two_of HT_.out (by kernel_rfl)) (by decide) (by decide) (fun K hK => ?_) (fun K hK => ?_)
  · skip
    refine Kd.R_make_step (Kd.int .i64) _ 3 (by rfl) (N := 10) rfl 24 _ _ rfl (m : Int) (by go_simp) (by go_simp) Try.underlying24 (.int .i64 0) 8 inf3 rfl (by decide) (by omega) 0 (ok := fun _ => True) (okp := fun _ => True) rfl (fun _ hk => hk) trivial (by omega) (by have h1_ := HMB.out; omega) (Below.refl _ _) (Nat.le_refl _) ?_
    intro vs w10 ho hb hg_ hnew_
    rw [Int.toNat_natCast] at ho
    have n0_ := Aside0.mk (below_step HB.out hb)
    have n1_ := Aside0.mk (blk_below K2.out hb)
    have n2_ := Aside0.mk (blk_below K1.out hb)
    have n3_ := Aside0.mk (Kd.R_tight rfl (Kd.R_lower ho (below_size HB.out)))
    clear HB K1 K2 ho hb hg_ hnew_
    have HB := n0_
    have K2 := n1_
    have K1 := n2_
    have HS := n3_
    clear n0_ n1_ n2_ n3_
    obtain ⟨As, cs_, evs⟩ := Kd.R_slice HS.out
    rw [List.length_replicate] at evs
    subst evs
    refine hK.out _ _ ⟨(blk_cell K1.out 0).trans rfl, (blk_cell K1.out 1).trans rfl⟩ (fun hHeld => ?_)
    clear hK K
    refine norm_ (a' := ?_) ?_ ?_
    rotate_left
    · show Act.put _ (some 10) _ = _
      simp only [Act.put, List.setIfInBounds_toArray, List.set_cons_zero, List.set_cons_succ, i64_w, i32_w]
      rfl
    refine one_ (i := 7) (N := some 12) #[true, true, true, true, true, true, true, true, false, false, false] rfl rfl (one_of HT_.out (by kernel_rfl)) (by decide) (fun K hK => ?_)
    refine goes_ Try.func56 (by kernel_rfl) rfl #[.int .i64 k] (by rfl) rfl rfl (by (try simp only [List.map_toArray, List.map_cons, List.map_nil]); first | done | rfl | (simp only [List.length_drop, List.length_take]; rfl)) ?_
    refine (spec_slStandard.calls ks k (tmpl k) w10 HKS.out).mono ?_
    rintro e w11 ⟨v, rfl, ho, hb⟩
    refine ⟨_, rfl, ?_⟩
    have n0_ := Aside0.mk (below_step HB.out hb)
    have n1_ := Aside0.mk (blk_below K2.out hb)
    have n2_ := Aside0.mk (blk_below K1.out hb)
    have n3_ := Aside0.mk (Kd.R_below HS.out hb)
    have n4_ := Aside0.mk (Kd.R_mono (Kd.R_bound ho) (ok' := fun q => w10.heap.size ≤ q) (fun q hq => hq.2.1))
    have n5_ : Aside0 (∀ q, (Value.slice As m cs_).ownBlock = some q → q < w10.heap.size) := ⟨Kd.R_lt HS.out⟩
    have n6_ := Aside0.mk (below_size HB.out)
    clear HB K1 K2 HS ho hb
    have HB := n0_
    have K2 := n1_
    have K1 := n2_
    have HS := n3_
    have HT := Aside0.mk (Kd.R_lower n4_.out n6_.out)
    have HSL := n5_
    clear n0_ n1_ n2_ n3_ n4_ n5_ n6_
    obtain ⟨Av, cv, rfl⟩ := Kd.R_slice HT.out
    refine hK.out _ _ ⟨(blk_cell K1.out 0).trans rfl, (blk_cell K1.out 1).trans rfl⟩ (fun hHeld => ?_)
    clear hK K
    refine one_ (i := 8) (N := some 13) #[true, true, true, true, true, true, true, true, true, false, false] rfl rfl (one_of HT_.out (by kernel_rfl)) (by decide) (fun K hK => ?_)
    refine Kd.S_lits_step kOS (w0 := w) w.heap.size 56 (by rfl) (N := 13) rfl (xs := [tmpl k]) (inner := [.slice Av (tmpl k).length cv]) (ok := fun q => some q ≠ (Value.slice As m cs_).ownBlock) (fun j q => j = 0 ∧ w10.heap.size ≤ q) ?hr rfl ?hrep ?hap ?hok ?hfr HB.out (below_size HB.out) (by simp) ?_
    (case hr => first | (go_simp; done) | (go_simp; rfl))
    (case hrep => intro j x hx; obtain ⟨rfl, rfl⟩ : j = 0 ∧ x = tmpl k := (by cases j with | zero => exact ⟨rfl, (Option.some.inj hx).symm⟩ | succ j => simp at hx); exact ⟨.slice Av (tmpl k).length cv, rfl, Kd.R_mono HT.out (fun q hq => ⟨rfl, hq⟩)⟩)
    (case hap => intro i j q h1 h2; exact h1.1.trans h2.1.symm)
    (case hok => intro j q h1 h2; have := HSL.out q h2.symm; omega)
    (case hfr => intro h2; have := Kd.R_lt HS.out _ h2.symm; omega)
    intro v1 w12 hs hb hg_ hnew_
    have n1_ := Aside0.mk (blk_grown K2.out hg_ (by simp))
    have n2_ := Aside0.mk (blk_grown K1.out hg_ (by simp))
    have n3_ := Aside0.mk (Kd.R_grown HS.out hg_ (by simp))
    have n4_ := Aside0.mk hs
    have n5_ := Aside0.mk hb
    clear HB K1 K2 HT HS hs hb hg_ hnew_
    have HB := n5_
    have K2 := n1_
    have K1 := n2_
    have HS := n3_
    have HO := n4_
    clear n1_ n2_ n3_ n4_ n5_
    obtain ⟨Ao, co, evo⟩ := Kd.S_slice HO.out
    replace evo : v1 = .slice Ao 1 co := evo
    subst evo
    have hc20 : w12.cell? ⟨g2, 0, none⟩ = some (.slice none 0 0) := (blk_cell K2.out 0).trans rfl
    have hc21 : w12.cell? ⟨g2, 1, none⟩ = some (.slice none 0 0) := (blk_cell K2.out 1).trans rfl
    have hf20 := blk_frozen K2.out 0
    have hf21 := blk_frozen K2.out 1
    refine hK.out _ _ ⟨(blk_cell K1.out 0).trans rfl, (blk_cell K1.out 1).trans rfl⟩ (fun hHeld => ?_)
    clear hK K
    refine norm_ (a' := ?_) ?_ ?_
    rotate_left
    · show Act.put _ (some 13) _ = _
      simp only [Act.put, List.setIfInBounds_toArray, List.set_cons_zero, List.set_cons_succ, i64_w, i32_w]
      rfl
    refine pure_ (i := 9) (N := some 14) (v := ?_) (a' := ?_) #[true, true, true, true, true, true, true, true, true, true, false] rfl rfl (any_of HT_.out (by kernel_rfl)) (fun _ _ _ h => h) (Or.inl ⟨by rfl, ?_⟩) ?_ ?_
    rotate_left
    · intro w'
      go_simp
      with_reducible rfl
    rotate_left
    · simp only [Act.put, List.setIfInBounds_toArray, List.set_cons_zero, List.set_cons_succ, i64_w, i32_w]
      rfl
    refine last_ (i := 10) (N := none) #[true, true, true, true, true, true, true, true, true, true, true] rfl rfl (one_of HT_.out (by kernel_rfl)) (by decide) (fun K hK => ?_)
    refine skip_ (w1 := ?_) (by rfl) rfl ?_ ?_
    rotate_left
    · go_simp
      rfl
    refine hK.out _ _ ?_
    clear hK K
    refine done_ (done_of HT_.out (by kernel_rfl)) ?_
    clear hc20 hc21 hf20 hf21
    go_wp2_with fail
    refine bodyPost_ret (results_cell_row rfl _ _ g2 27 #[.slice As m cs_, .slice Ao 1 co] (0, 0) _ rfl (blk_put (cs := #[.slice As m cs_, .slice none 0 0]) (blk_put (cs := #[.slice none 0 0, .slice none 0 0]) K2.out 0 _ rfl) 1 _ rfl) Try.underlying27 rfl (by kernel_rfl)) rfl ?_
    refine ⟨_, _, by first | rfl | (simp [errW_none, errW_some] <;> rfl), ?_, ?_, below_set (below_set HB.out G2.out) G2.out⟩
    · have e : (x * y).toNat = m := by have := EM.out; omega
      rw [e]
      exact Kd.R_mono (Kd.R_far (p := ⟨g2, 1, none⟩) (Kd.R_far (p := ⟨g2, 0, none⟩) (Kd.R_types HS.out K2.out (by decide)) (fun _ hk => hk.2) _) (fun _ hk => hk.2) _) (fun _ hk => hk.1)
    · exact Kd.S_mono (Kd.S_far (p := ⟨g2, 1, none⟩) (Kd.S_far (p := ⟨g2, 0, none⟩) (Kd.S_types HO.out K2.out (by decide)) (fun _ hk => hk.2) _) (fun _ hk => hk.2) _) (fun _ hk => hk.1)
  · skip
    refine goes_ Try.func56 (by kernel_rfl) rfl #[.int .i64 k] (by rfl) rfl rfl (by (try simp only [List.map_toArray, List.map_cons, List.map_nil]); first | done | rfl | (simp only [List.length_drop, List.length_take]; rfl)) ?_
    refine (spec_slStandard.calls ks k (tmpl k) w8 HKS.out).mono ?_
    rintro e w10 ⟨v, rfl, ho, hb⟩
    refine ⟨_, rfl, ?_⟩
    have n0_ := Aside0.mk (below_step HB.out hb)
    have n1_ := Aside0.mk (blk_below K2.out hb)
    have n2_ := Aside0.mk (blk_below K1.out hb)
    have n4_ := Aside0.mk (Kd.R_mono (Kd.R_lower ho (below_size HB.out)) (ok' := fun q => True) (fun q hq => trivial))
    clear HB K1 K2 ho hb
    have HB := n0_
    have K2 := n1_
    have K1 := n2_
    have HT := n4_
    clear n0_ n1_ n2_ n4_
    obtain ⟨Av, cv, rfl⟩ := Kd.R_slice HT.out
    refine hK.out _ _ ⟨(blk_cell K1.out 0).trans rfl, (blk_cell K1.out 1).trans rfl⟩ (fun hHeld => ?_)
    clear hK K
    refine two_ (i := 5) (j := 8) (Ni := some 10) (Nj := some 13) #[true, true, true, true, true, true, true, true, false, false, false] #[true, true, true, true, true, false, true, true, true, false, false] rfl rfl rfl rfl (two_of HT_.out (by kernel_rfl)) (by decide) (by decide) (fun K hK => ?_) (fun K hK => ?_)
    · skip
      refine Kd.R_make_step (Kd.int .i64) _ 3 (by rfl) (N := 10) rfl 24 _ _ rfl (m : Int) (by go_simp) (by go_simp) Try.underlying24 (.int .i64 0) 8 inf3 rfl (by decide) (by omega) 0 (ok := fun _ => True) (okp := fun _ => True) rfl (fun _ hk => hk) trivial (by omega) (by have h1_ := HMB.out; omega) (Below.refl _ _) (Nat.le_refl _) ?_
      intro vs w11 ho hb hg_ hnew_
      rw [Int.toNat_natCast] at ho
      have n0_ := Aside0.mk (below_step HB.out hb)
      have n1_ := Aside0.mk (blk_below K2.out hb)
      have n2_ := Aside0.mk (blk_below K1.out hb)
      have n3_ := Aside0.mk (Kd.R_tight rfl (Kd.R_lower ho (below_size HB.out)))
      have n4_ : Aside0 (∀ q, vs.ownBlock = some q → w10.heap.size ≤ q) := ⟨Kd.R_base ho⟩
      have n5_ := Aside0.mk (Kd.R_old HT.out hb)
      clear HB K1 K2 HT ho hb hg_ hnew_
      have HB := n0_
      have K2 := n1_
      have K1 := n2_
      have HS := n3_
      have HSB := n4_
      have HT := n5_
      clear n0_ n1_ n2_ n3_ n4_ n5_
      obtain ⟨As, cs_, evs⟩ := Kd.R_slice HS.out
      rw [List.length_replicate] at evs
      subst evs
      refine hK.out _ _ ⟨(blk_cell K1.out 0).trans rfl, (blk_cell K1.out 1).trans rfl⟩ (fun hHeld => ?_)
      clear hK K
      refine norm_ (a' := ?_) ?_ ?_
      rotate_left
      · show Act.put _ (some 10) _ = _
        simp only [Act.put, List.setIfInBounds_toArray, List.set_cons_zero, List.set_cons_succ, i64_w, i32_w]
        rfl
      refine one_ (i := 8) (N := some 13) #[true, true, true, true, true, true, true, true, true, false, false] rfl rfl (one_of HT_.out (by kernel_rfl)) (by decide) (fun K hK => ?_)
      refine Kd.S_lits_step kOS (w0 := w) w.heap.size 56 (by rfl) (N := 13) rfl (xs := [tmpl k]) (inner := [.slice Av (tmpl k).length cv]) (ok := fun q => some q ≠ (Value.slice As m cs_).ownBlock) (fun j q => j = 0 ∧ q < w10.heap.size) ?hr rfl ?hrep ?hap ?hok ?hfr HB.out (below_size HB.out) (by simp) ?_
      (case hr => first | (go_simp; done) | (go_simp; rfl))
      (case hrep => intro j x hx; obtain ⟨rfl, rfl⟩ : j = 0 ∧ x = tmpl k := (by cases j with | zero => exact ⟨rfl, (Option.some.inj hx).symm⟩ | succ j => simp at hx); exact ⟨.slice Av (tmpl k).length cv, rfl, Kd.R_mono HT.out (fun q hq => ⟨rfl, hq.2⟩)⟩)
      (case hap => intro i j q h1 h2; exact h1.1.trans h2.1.symm)
      (case hok => intro j q h1 h2; have := HSB.out q h2.symm; omega)
      (case hfr => intro h2; have := Kd.R_lt HS.out _ h2.symm; omega)
      intro v1 w12 hs hb hg_ hnew_
      have n1_ := Aside0.mk (blk_grown K2.out hg_ (by simp))
      have n2_ := Aside0.mk (blk_grown K1.out hg_ (by simp))
      have n3_ := Aside0.mk (Kd.R_grown HS.out hg_ (by simp))
      have n4_ := Aside0.mk hs
      have n5_ := Aside0.mk hb
      clear HB K1 K2 HT HS hs hb hg_ hnew_
      have HB := n5_
      have K2 := n1_
      have K1 := n2_
      have HS := n3_
      have HO := n4_
      clear n1_ n2_ n3_ n4_ n5_
      obtain ⟨Ao, co, evo⟩ := Kd.S_slice HO.out
      replace evo : v1 = .slice Ao 1 co := evo
      subst evo
      have hc20 : w12.cell? ⟨g2, 0, none⟩ = some (.slice none 0 0) := (blk_cell K2.out 0).trans rfl
      have hc21 : w12.cell? ⟨g2, 1, none⟩ = some (.slice none 0 0) := (blk_cell K2.out 1).trans rfl
      have hf20 := blk_frozen K2.out 0
      have hf21 := blk_frozen K2.out 1
      refine hK.out _ _ ⟨(blk_cell K1.out 0).trans rfl, (blk_cell K1.out 1).trans rfl⟩ (fun hHeld => ?_)
      clear hK K
      refine norm_ (a' := ?_) ?_ ?_
      rotate_left
      · show Act.put _ (some 13) _ = _
        simp only [Act.put, List.setIfInBounds_toArray, List.set_cons_zero, List.set_cons_succ, i64_w, i32_w]
        rfl
      refine pure_ (i := 9) (N := some 14) (v := ?_) (a' := ?_) #[true, true, true, true, true, true, true, true, true, true, false] rfl rfl (any_of HT_.out (by kernel_rfl)) (fun _ _ _ h => h) (Or.inl ⟨by rfl, ?_⟩) ?_ ?_
      rotate_left
      · intro w'
        go_simp
        with_reducible rfl
      rotate_left
      · simp only [Act.put, List.setIfInBounds_toArray, List.set_cons_zero, List.set_cons_succ, i64_w, i32_w]
        rfl
      refine last_ (i := 10) (N := none) #[true, true, true, true, true, true, true, true, true, true, true] rfl rfl (one_of HT_.out (by kernel_rfl)) (by decide) (fun K hK => ?_)
      refine skip_ (w1 := ?_) (by rfl) rfl ?_ ?_
      rotate_left
      · go_simp
        rfl
      refine hK.out _ _ ?_
      clear hK K
      refine done_ (done_of HT_.out (by kernel_rfl)) ?_
      clear hc20 hc21 hf20 hf21
      go_wp2_with fail
      refine bodyPost_ret (results_cell_row rfl _ _ g2 27 #[.slice As m cs_, .slice Ao 1 co] (0, 0) _ rfl (blk_put (cs := #[.slice As m cs_, .slice none 0 0]) (blk_put (cs := #[.slice none 0 0, .slice none 0 0]) K2.out 0 _ rfl) 1 _ rfl) Try.underlying27 rfl (by kernel_rfl)) rfl ?_
      refine ⟨_, _, by first | rfl | (simp [errW_none, errW_some] <;> rfl), ?_, ?_, below_set (below_set HB.out G2.out) G2.out⟩
      · have e : (x * y).toNat = m := by have := EM.out; omega
        rw [e]
        exact Kd.R_mono (Kd.R_far (p := ⟨g2, 1, none⟩) (Kd.R_far (p := ⟨g2, 0, none⟩) (Kd.R_types HS.out K2.out (by decide)) (fun _ hk => hk.2) _) (fun _ hk => hk.2) _) (fun _ hk => hk.1)
      · exact Kd.S_mono (Kd.S_far (p := ⟨g2, 1, none⟩) (Kd.S_far (p := ⟨g2, 0, none⟩) (Kd.S_types HO.out K2.out (by decide)) (fun _ hk => hk.2) _) (fun _ hk => hk.2) _) (fun _ hk => hk.1)
    · skip
      refine Kd.S_lits_step kOS (w0 := w) w.heap.size 56 (by rfl) (N := 13) rfl (xs := [tmpl k]) (inner := [.slice Av (tmpl k).length cv]) (ok := fun q => True) (fun j q => j = 0) ?hr rfl ?hrep ?hap ?hok ?hfr HB.out (below_size HB.out) (by simp) ?_
      (case hr => first | (go_simp; done) | (go_simp; rfl))
      (case hrep => intro j x hx; obtain ⟨rfl, rfl⟩ : j = 0 ∧ x = tmpl k := (by cases j with | zero => exact ⟨rfl, (Option.some.inj hx).symm⟩ | succ j => simp at hx); exact ⟨.slice Av (tmpl k).length cv, rfl, Kd.R_mono HT.out (fun q hq => rfl)⟩)
      (case hap => intro i j q h1 h2; exact h1.trans h2.symm)
      (case hok => intro j q h1; trivial)
      (case hfr => trivial)
      intro v1 w12 hs hb hg_ hnew_
      have n1_ := Aside0.mk (blk_grown K2.out hg_ (by simp))
      have n2_ := Aside0.mk (blk_grown K1.out hg_ (by simp))
      have n4_ := Aside0.mk hs
      have n5_ := Aside0.mk hb
      clear HB K1 K2 HT hs hb hg_ hnew_
      have HB := n5_
      have K2 := n1_
      have K1 := n2_
      have HO := n4_
      clear n1_ n2_ n4_ n5_
      obtain ⟨Ao, co, evo⟩ := Kd.S_slice HO.out
      replace evo : v1 = .slice Ao 1 co := evo
      subst evo
      refine hK.out _ _ ⟨(blk_cell K1.out 0).trans rfl, (blk_cell K1.out 1).trans rfl⟩ (fun hHeld => ?_)
      clear hK K
      refine norm_ (a' := ?_) ?_ ?_
      rotate_left
      · show Act.put _ (some 13) _ = _
        simp only [Act.put, List.setIfInBounds_toArray, List.set_cons_zero, List.set_cons_succ, i64_w, i32_w]
        rfl
      refine one_ (i := 5) (N := some 10) #[true, true, true, true, true, true, true, true, true, false, false] rfl rfl (one_of HT_.out (by kernel_rfl)) (by decide) (fun K hK => ?_)
      refine Kd.R_make_step (Kd.int .i64) _ 3 (by rfl) (N := 10) rfl 24 _ _ rfl (m : Int) (by go_simp) (by go_simp) Try.underlying24 (.int .i64 0) 8 inf3 rfl (by decide) (by omega) 0 (ok := fun _ => True) (okp := fun _ => True) rfl (fun _ hk => hk) trivial (by omega) (by have h1_ := HMB.out; omega) (Below.refl _ _) (Nat.le_refl _) ?_
      intro vs w13 ho hb hg_ hnew_
      rw [Int.toNat_natCast] at ho
      have n0_ := Aside0.mk (below_step HB.out hb)
      have n1_ := Aside0.mk (blk_below K2.out hb)
      have n2_ := Aside0.mk (blk_below K1.out hb)
      have n3_ := Aside0.mk (Kd.R_tight rfl (Kd.R_lower ho (below_size HB.out)))
      have n4_ : Aside0 (∀ q, vs.ownBlock = some q → w12.heap.size ≤ q) := ⟨Kd.R_base ho⟩
      have n5_ := Aside0.mk (Kd.S_old HO.out hb)
      clear HB K1 K2 HO ho hb hg_ hnew_
      have HB := n0_
      have K2 := n1_
      have K1 := n2_
      have HS := n3_
      have HSB := n4_
      have HO := Aside0.mk (Kd.S_mono n5_.out (ok' := fun q => some q ≠ vs.ownBlock) (fun q hq e_ => by have h1_ := n4_.out q e_.symm; have h2_ := hq.2; omega))
      clear n0_ n1_ n2_ n3_ n4_ n5_
      obtain ⟨As, cs_, evs⟩ := Kd.R_slice HS.out
      rw [List.length_replicate] at evs
      subst evs
      have hc20 : w13.cell? ⟨g2, 0, none⟩ = some (.slice none 0 0) := (blk_cell K2.out 0).trans rfl
      have hc21 : w13.cell? ⟨g2, 1, none⟩ = some (.slice none 0 0) := (blk_cell K2.out 1).trans rfl
      have hf20 := blk_frozen K2.out 0
      have hf21 := blk_frozen K2.out 1
      refine hK.out _ _ ⟨(blk_cell K1.out 0).trans rfl, (blk_cell K1.out 1).trans rfl⟩ (fun hHeld => ?_)
      clear hK K
      refine norm_ (a' := ?_) ?_ ?_
      rotate_left
      · show Act.put _ (some 10) _ = _
        simp only [Act.put, List.setIfInBounds_toArray, List.set_cons_zero, List.set_cons_succ, i64_w, i32_w]
        rfl
      refine pure_ (i := 9) (N := some 14) (v := ?_) (a' := ?_) #[true, true, true, true, true, true, true, true, true, true, false] rfl rfl (any_of HT_.out (by kernel_rfl)) (fun _ _ _ h => h) (Or.inl ⟨by rfl, ?_⟩) ?_ ?_
      rotate_left
      · intro w'
        go_simp
        with_reducible rfl
      rotate_left
      · simp only [Act.put, List.setIfInBounds_toArray, List.set_cons_zero, List.set_cons_succ, i64_w, i32_w]
        rfl
      refine last_ (i := 10) (N := none) #[true, true, true, true, true, true, true, true, true, true, true] rfl rfl (one_of HT_.out (by kernel_rfl)) (by decide) (fun K hK => ?_)
      refine skip_ (w1 := ?_) (by rfl) rfl ?_ ?_
      rotate_left
      · go_simp
        rfl
      refine hK.out _ _ ?_
      clear hK K
      refine done_ (done_of HT_.out (by kernel_rfl)) ?_
      clear hc20 hc21 hf20 hf21
      go_wp2_with fail
      refine bodyPost_ret (results_cell_row rfl _ _ g2 27 #[.slice As m cs_, .slice Ao 1 co] (0, 0) _ rfl (blk_put (cs := #[.slice As m cs_, .slice none 0 0]) (blk_put (cs := #[.slice none 0 0, .slice none 0 0]) K2.out 0 _ rfl) 1 _ rfl) Try.underlying27 rfl (by kernel_rfl)) rfl ?_
      refine ⟨_, _, by first | rfl | (simp [errW_none, errW_some] <;> rfl), ?_, ?_, below_set (below_set HB.out G2.out) G2.out⟩
      · have e : (x * y).toNat = m := by have := EM.out; omega
        rw [e]
        exact Kd.R_mono (Kd.R_far (p := ⟨g2, 1, none⟩) (Kd.R_far (p := ⟨g2, 0, none⟩) (Kd.R_types HS.out K2.out (by decide)) (fun _ hk => hk.2) _) (fun _ hk => hk.2) _) (fun _ hk => hk.1)
      · exact Kd.S_mono (Kd.S_far (p := ⟨g2, 1, none⟩) (Kd.S_far (p := ⟨g2, 0, none⟩) (Kd.S_types HO.out K2.out (by decide)) (fun _ hk => hk.2) _) (fun _ hk => hk.2) _) (fun _ hk => hk.1)
set_option maxHeartbeats 16000000 in
set_option maxRecDepth 100000 in
theorem own_spec (x y z k : Int) (g0_0 : List Int) (g0_1 : List (List S86)) (g1 : Bool) (w : World) (h : uniR x y z k = (g0_0, g0_1, g1)) :
    Calls Try.prog 10 #[.agg #[.int .i64 x, .int .i64 y, .int .i64 z], .int .i64 k] w fun e w' => ∃ v0 v1 : Value, e = .returned (.tuple #[.agg #[v0, v1], .bool g1]) ∧ Kd.R (Kd.int .i64) 3 w' w.heap.size (fun k => some k = v0.ownBlock) v0 g0_0 ∧ Kd.S kOS 56 w' w.heap.size (fun k => some k ≠ v0.ownBlock) v1 g0_1 ∧ Below w.heap.size w w' := by
  have hu1 := Try.underlying30
  have hu2 := Try.underlying27
  have HB := Aside0.mk (Below.refl w.heap.size w)
  have HH := Aside0.mk h
  clear h
  go_enter Try.func10, Try.ntmps10
  go_wp2_with (first
    | ((with_reducible refine gate_dst (N := 2) rfl ?_); refine box_event ?hg (N := 2) ?hd (cs := #[.int .i64 x, .int .i64 y, .int .i64 z]) (t := 30) ?hr ?_; (case hd => rfl); (case hg => rfl); (case hr => first | (go_simp; done) | (go_simp; rfl)); intro g1 hg w6 hbox hb; have n0_ := Aside0.mk (below_step HB.out hb); have K1 := Aside0.mk hbox; have G1 := Aside0.mk ((by rw [hg]; exact (below_size HB.out)) : w.heap.size ≤ g1); clear HB; have HB := n0_; clear n0_ hb hbox hg)
    | ((with_reducible refine gate_dst (N := 4) rfl ?_); refine box_event ?hg (N := 4) ?hd (cs := #[.slice none 0 0, .slice none 0 0]) (t := 27) ?hr ?_; (case hd => rfl); (case hg => rfl); (case hr => first | (go_simp; done) | (go_simp; rfl)); intro g2 hg w7 hbox hb; have n0_ := Aside0.mk (below_step HB.out hb); have K2 := Aside0.mk hbox; have n1_ := Aside0.mk (blk_below K1.out hb); have G2 := Aside0.mk ((by rw [hg]; exact (below_size HB.out)) : w.heap.size ≤ g2); have N12 := Aside0.mk ((by rw [hg]; exact Nat.ne_of_lt (blk_lt K1.out)) : g1 ≠ g2); clear HB K1; have HB := n0_; have K1 := n1_; clear n0_ n1_ hb hbox hg; have hc0 : w7.cell? ⟨g1, 0, none⟩ = some (.int .i64 x) := (blk_cell K1.out 0).trans rfl; have hc1 : w7.cell? ⟨g1, 1, none⟩ = some (.int .i64 y) := (blk_cell K1.out 1).trans rfl; have hc2 : w7.cell? ⟨g1, 2, none⟩ = some (.int .i64 z) := (blk_cell K1.out 2).trans rfl))
  clear hc0 hc1 hc2
  refine (spec_grGood.calls x y z _ w7 (grGood_eq x y z)).mono ?_
  rintro e w8 ⟨rfl, hb⟩
  have n0_ := Aside0.mk (below_step HB.out hb)
  have n1_ := Aside0.mk (blk_below K1.out hb)
  have n2_ := Aside0.mk (blk_below K2.out hb)
  clear HB K1 K2 hb
  have HB := n0_
  have K1 := n1_
  have K2 := n2_
  clear n0_ n1_ n2_
  have hc20 : w8.cell? ⟨g2, 0, none⟩ = some (.slice none 0 0) := (blk_cell K2.out 0).trans rfl
  have hc21 : w8.cell? ⟨g2, 1, none⟩ = some (.slice none 0 0) := (blk_cell K2.out 1).trans rfl
  have hf20 := blk_frozen K2.out 0
  have hf21 := blk_frozen K2.out 1
  have l1 : spec_l1In.f k 1 4 = some (decide (1 ≤ k ∧ k ≤ 4)) := l1In_eq k 1 4
  by_cases hgood : gridOk x y z = true ∧ (1 ≤ k ∧ k ≤ 4)
  · have e4 := HH.out
    unfold uniR at e4
    rw [if_pos hgood] at e4
    injection e4 with e4 e5
    injection e5 with e5 e6
    subst e4 e5 e6
    have HG := Aside0.mk hgood
    have L1 := Aside0.mk (l1.trans (congrArg some (decide_eq_true hgood.2)))
    rw [hgood.1]
    clear hgood l1 HH hc20 hc21 hf20 hf21
    go_wp2_with fail
    refine (spec_l1In.calls k 1 4 true w8 L1.out).mono ?_
    rintro e w9 ⟨rfl, hb⟩
    replace hb := drawn_below' hb
    have n0_ := Aside0.mk (below_step HB.out hb)
    have n1_ := Aside0.mk (blk_below K1.out hb)
    have n2_ := Aside0.mk (blk_below K2.out hb)
    clear HB K1 K2 hb
    have HB := n0_
    have K1 := n1_
    have K2 := n2_
    clear n0_ n1_ n2_
    have hc0 : w9.cell? ⟨g1, 0, none⟩ = some (.int .i64 x) := (blk_cell K1.out 0).trans rfl
    have hc1 : w9.cell? ⟨g1, 1, none⟩ = some (.int .i64 y) := (blk_cell K1.out 1).trans rfl
    have hc2 : w9.cell? ⟨g1, 2, none⟩ = some (.int .i64 z) := (blk_cell K1.out 2).trans rfl
    go_wp2_with fail
    clear hc0 hc1 hc2
    refine (slUniform_calls x y z k HG.out.1 HG.out.2 w9).mono ?_
    rintro e w10 ⟨v0, v1, rfl, ho0, ho1, hb⟩
    have H0 := Aside0.mk (Kd.R_lower ho0 (below_size HB.out))
    have H1 := Aside0.mk (Kd.S_lower ho1 (below_size HB.out))
    clear ho0 ho1
    have n0_ := Aside0.mk (below_step HB.out hb)
    have n1_ := Aside0.mk (blk_below K1.out hb)
    have n2_ := Aside0.mk (blk_below K2.out hb)
    clear HB K1 K2 hb
    have HB := n0_
    have K1 := n1_
    have K2 := n2_
    clear n0_ n1_ n2_
    obtain ⟨A0, c0, e0⟩ := Kd.R_slice H0.out
    rw [List.length_replicate] at e0
    subst e0
    obtain ⟨A1, c1, e1⟩ := Kd.S_slice H1.out
    replace e1 : v1 = .slice A1 1 c1 := e1
    subst e1
    have hc20 : w10.cell? ⟨g2, 0, none⟩ = some (.slice none 0 0) := (blk_cell K2.out 0).trans rfl
    have hc21 : w10.cell? ⟨g2, 1, none⟩ = some (.slice none 0 0) := (blk_cell K2.out 1).trans rfl
    have hf20 := blk_frozen K2.out 0
    have hf21 := blk_frozen K2.out 1
    go_wp2_with fail
    clear hc20 hc21 hf20 hf21
    refine bodyPost_ret (results_ct rfl _ _ g2 27 #[.slice A0 (x * y).toNat c0, .slice A1 1 c1] (0, 0) _ rfl (blk_put (cs := #[.slice A0 (x * y).toNat c0, .slice none 0 0]) (blk_put (cs := #[.slice none 0 0, .slice none 0 0]) K2.out 0 _ rfl) 1 _ rfl) Try.underlying27 rfl (by kernel_rfl)) rfl ?_
    refine ⟨_, _, by first | rfl | (simp [errW_none, errW_some] <;> rfl), ?_, ?_, below_set (below_set HB.out G2.out) G2.out⟩
    · exact Kd.R_mono (Kd.R_far (p := ⟨g2, 1, none⟩) (Kd.R_far (p := ⟨g2, 0, none⟩) (Kd.R_types H0.out K2.out (by decide)) (fun _ hk => hk.2) _) (fun _ hk => hk.2) _) (fun _ hk => hk.1)
    · exact Kd.S_mono (Kd.S_far (p := ⟨g2, 1, none⟩) (Kd.S_far (p := ⟨g2, 0, none⟩) (Kd.S_types H1.out K2.out (by decide)) (fun _ hk => hk.2) _) (fun _ hk => hk.2) _) (fun _ hk => hk.1)
  · have e4 := HH.out
    unfold uniR at e4
    rw [if_neg hgood] at e4
    injection e4 with e4 e5
    injection e5 with e5 e6
    subst e4 e5 e6
    cases hg : gridOk x y z with
    | false =>
      clear hgood hg HH l1
      go_wp2_with fail
      clear hc20 hc21 hf20 hf21
      refine bodyPost_ret (results_ct rfl _ _ g2 27 #[.slice none 0 0, .slice none 0 0] (0, 0) _ rfl (blk_put (cs := #[.slice none 0 0, .slice none 0 0]) (blk_put (cs := #[.slice none 0 0, .slice none 0 0]) K2.out 0 _ rfl) 1 _ rfl) Try.underlying27 rfl (by kernel_rfl)) rfl ?_
      exact ⟨_, _, by first | rfl | (simp [errW_none, errW_some] <;> rfl), Kd.R_nil _ _ _ _ _, Kd.S_nil _ _ _ _ _, below_set (below_set HB.out G2.out) G2.out⟩
    | true =>
      have L1 := Aside0.mk (l1.trans (congrArg some (decide_eq_false (fun h => hgood ⟨hg, h⟩))))
      clear hgood hg HH l1 hc20 hc21 hf20 hf21
      go_wp2_with fail
      refine (spec_l1In.calls k 1 4 false w8 L1.out).mono ?_
      rintro e w9 ⟨rfl, hb⟩
      replace hb := drawn_below' hb
      have n0_ := Aside0.mk (below_step HB.out hb)
      have n1_ := Aside0.mk (blk_below K1.out hb)
      have n2_ := Aside0.mk (blk_below K2.out hb)
      clear HB K1 K2 hb
      have HB := n0_
      have K1 := n1_
      have K2 := n2_
      clear n0_ n1_ n2_
      have hc20 : w9.cell? ⟨g2, 0, none⟩ = some (.slice none 0 0) := (blk_cell K2.out 0).trans rfl
      have hc21 : w9.cell? ⟨g2, 1, none⟩ = some (.slice none 0 0) := (blk_cell K2.out 1).trans rfl
      have hf20 := blk_frozen K2.out 0
      have hf21 := blk_frozen K2.out 1
      go_wp2_with fail
      clear hc20 hc21 hf20 hf21
      refine bodyPost_ret (results_ct rfl _ _ g2 27 #[.slice none 0 0, .slice none 0 0] (0, 0) _ rfl (blk_put (cs := #[.slice none 0 0, .slice none 0 0]) (blk_put (cs := #[.slice none 0 0, .slice none 0 0]) K2.out 0 _ rfl) 1 _ rfl) Try.underlying27 rfl (by kernel_rfl)) rfl ?_
      exact ⟨_, _, by first | rfl | (simp [errW_none, errW_some] <;> rfl), Kd.R_nil _ _ _ _ _, Kd.S_nil _ _ _ _ _, below_set (below_set HB.out G2.out) G2.out⟩
end Go.Proofs.Ytpndghkfbojokaa.OwnUniformSlopes
