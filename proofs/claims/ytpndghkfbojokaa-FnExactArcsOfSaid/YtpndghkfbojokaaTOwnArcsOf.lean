/- The contract of impl.ArcsOf, by hand. -/
-- OWN impl aoR %s = %s
import Derived.Test.YtpndghkfbojokaaTOwnSArcs
import Derived.Test.YtpndghkfbojokaaTMFnExactArcsOfx1
namespace Go.Proofs.Ytpndghkfbojokaa.OwnArcsOf
open Go.RowKit Go.Proofs.Ytpndghkfbojokaa.PFnExactArcsOf Go.Proofs.YtpndghkfbojokaaW.PrintWords Go.Proofs.YtpndghkfbojokaaW.PrintLast Go.Proofs.YtpndghkfbojokaaW.PrintMore Go.Proofs.Ytpndghkfbojokaa.B Go.Proofs.Ytpndghkfbojokaa.OwnSort Go.Proofs.Ytpndghkfbojokaa.OwnArcs
set_option linter.unusedVariables false
set_option linter.unusedSimpArgs false
noncomputable def aoR (X Y Z : Int) (s : List Int) (T : List (List S86)) : List (List Int) × Bool := if gridOk X Y Z = true ∧ slOk (wrap64 (X * Y)) s T = true then (arcsL X Y Z s T (X * Y * Z).toNat, true) else ([], false)
set_option maxHeartbeats 8000000 in
set_option maxRecDepth 100000 in
theorem own_impl (X Y Z : Int) (A0 : Option Addr) (c0 : Nat) (s : List Int) (A1 : Option Addr) (c1 : Nat) (T : List (List S86)) (g0 : List (List Int)) (g1 : Bool) (w : World)
    (h0 : Kd.C (Kd.int .i64) w A0 s.length s) (e0 : s.length ≤ c0) (h1 : Kd.C kOS w A1 T.length T) (e1 : T.length ≤ c1) (ls : s.length ≤ 1048576) (lT : T.length ≤ 1048576) (lb : ∀ t ∈ T, t.length ≤ 1048576) (h : aoR X Y Z s T = (g0, g1)) :
    Calls Try.prog 21 #[.agg #[.int .i64 X, .int .i64 Y, .int .i64 Z], .agg #[.slice A0 s.length c0, .slice A1 T.length c1]] w fun e w' => ∃ v : Value, e = .returned (.tuple #[v, .bool g1]) ∧ Kd.S kRows 24 w' w.heap.size (fun _ => True) v g0 ∧ Below w.heap.size w w' := by
  have hu1 := Try.underlying30
  have hu2 := Try.underlying27
  have H0 := Aside0.mk h0
  have E0 := Aside0.mk e0
  have H1 := Aside0.mk h1
  have E1 := Aside0.mk e1
  have LS := Aside0.mk ls
  have LT := Aside0.mk lT
  have LB := Aside0.mk lb
  have HH := Aside0.mk h
  have HB := Aside0.mk (Below.refl w.heap.size w)
  clear h0 e0 h1 e1 ls lT lb h
  cases hgr : gridOk X Y Z with
  | false =>
    have HG := Aside0.mk hgr
    have HN : Aside0 ((g0, g1) = ([], false)) := ⟨by rw [← HH.out]; unfold aoR; rw [if_neg (by rw [hgr]; simp)]⟩
    clear hgr
    go_enter Try.func21, Try.ntmps21
    go_wp2_with (first
      | ((with_reducible refine gate_dst (N := 2) rfl ?_); refine box_event ?hg (N := 2) ?hd (cs := #[.int .i64 X, .int .i64 Y, .int .i64 Z]) (t := 30) ?hr ?_; (case hd => rfl); (case hg => rfl); (case hr => first | (go_simp; done) | (go_simp; rfl)); intro bg hg w6 hbox hb; have n0_ := Aside0.mk (below_step HB.out hb); have K1 := Aside0.mk hbox; have G1 := Aside0.mk ((by rw [hg]; exact (below_size HB.out)) : w.heap.size ≤ bg); clear HB; have HB := n0_; clear n0_ hb hbox hg)
      | ((with_reducible refine gate_dst (N := 3) rfl ?_); refine box_event ?hg (N := 3) ?hd (cs := #[.slice A0 s.length c0, .slice A1 T.length c1]) (t := 27) ?hr ?_; (case hd => rfl); (case hg => rfl); (case hr => first | (go_simp; done) | (go_simp; rfl)); intro bs hg w7 hbox hb; have n0_ := Aside0.mk (below_step HB.out hb); have K2 := Aside0.mk hbox; have n1_ := Aside0.mk (blk_below K1.out hb); have G2 := Aside0.mk ((by rw [hg]; exact (below_size HB.out)) : w.heap.size ≤ bs); clear HB K1; have HB := n0_; have K1 := n1_; clear n0_ n1_ hb hbox hg; have hc10 : w7.cell? ⟨bg, 0, none⟩ = some (.int .i64 X) := (blk_cell K1.out 0).trans rfl; have hc11 : w7.cell? ⟨bg, 1, none⟩ = some (.int .i64 Y) := (blk_cell K1.out 1).trans rfl; have hc12 : w7.cell? ⟨bg, 2, none⟩ = some (.int .i64 Z) := (blk_cell K1.out 2).trans rfl; have hc20 : w7.cell? ⟨bs, 0, none⟩ = some (.slice A0 s.length c0) := (blk_cell K2.out 0).trans rfl; have hc21 : w7.cell? ⟨bs, 1, none⟩ = some (.slice A1 T.length c1) := (blk_cell K2.out 1).trans rfl))
    refine (impl_IsGrid.calls X Y Z _ w7 (IsGrid_eq X Y Z)).mono ?_
    rintro e w8 ⟨rfl, hb⟩
    rw [HG.out]
    have n0_ := Aside0.mk (below_step HB.out hb)
    have n1_ := Aside0.mk (blk_below K1.out hb)
    have n2_ := Aside0.mk (blk_below K2.out hb)
    clear HB K1 K2 hb hc10 hc11 hc12 hc20 hc21
    have HB := n0_
    have K1 := n1_
    have K2 := n2_
    clear n0_ n1_ n2_
    have hc10 : w8.cell? ⟨bg, 0, none⟩ = some (.int .i64 X) := (blk_cell K1.out 0).trans rfl
    have hc11 : w8.cell? ⟨bg, 1, none⟩ = some (.int .i64 Y) := (blk_cell K1.out 1).trans rfl
    have hc12 : w8.cell? ⟨bg, 2, none⟩ = some (.int .i64 Z) := (blk_cell K1.out 2).trans rfl
    have hc20 : w8.cell? ⟨bs, 0, none⟩ = some (.slice A0 s.length c0) := (blk_cell K2.out 0).trans rfl
    have hc21 : w8.cell? ⟨bs, 1, none⟩ = some (.slice A1 T.length c1) := (blk_cell K2.out 1).trans rfl
    go_wp2_with fail
    go_ret2
    have e_ := HN.out
    injection e_ with e1_ e2_
    subst e1_ e2_
    exact ⟨_, rfl, Kd.S_nil _ _ _ _ _, HB.out⟩
  | true =>
    have HG := Aside0.mk hgr
    cases hsl : slOk (wrap64 (X * Y)) s T with
    | false =>
      have HS := Aside0.mk hsl
      have HN : Aside0 ((g0, g1) = ([], false)) := ⟨by rw [← HH.out]; unfold aoR; rw [if_neg (by rw [hsl]; simp)]⟩
      clear hgr hsl
      go_enter Try.func21, Try.ntmps21
      go_wp2_with (first
        | ((with_reducible refine gate_dst (N := 2) rfl ?_); refine box_event ?hg (N := 2) ?hd (cs := #[.int .i64 X, .int .i64 Y, .int .i64 Z]) (t := 30) ?hr ?_; (case hd => rfl); (case hg => rfl); (case hr => first | (go_simp; done) | (go_simp; rfl)); intro bg hg w6 hbox hb; have n0_ := Aside0.mk (below_step HB.out hb); have K1 := Aside0.mk hbox; have G1 := Aside0.mk ((by rw [hg]; exact (below_size HB.out)) : w.heap.size ≤ bg); clear HB; have HB := n0_; clear n0_ hb hbox hg)
        | ((with_reducible refine gate_dst (N := 3) rfl ?_); refine box_event ?hg (N := 3) ?hd (cs := #[.slice A0 s.length c0, .slice A1 T.length c1]) (t := 27) ?hr ?_; (case hd => rfl); (case hg => rfl); (case hr => first | (go_simp; done) | (go_simp; rfl)); intro bs hg w7 hbox hb; have n0_ := Aside0.mk (below_step HB.out hb); have K2 := Aside0.mk hbox; have n1_ := Aside0.mk (blk_below K1.out hb); have G2 := Aside0.mk ((by rw [hg]; exact (below_size HB.out)) : w.heap.size ≤ bs); clear HB K1; have HB := n0_; have K1 := n1_; clear n0_ n1_ hb hbox hg; have hc10 : w7.cell? ⟨bg, 0, none⟩ = some (.int .i64 X) := (blk_cell K1.out 0).trans rfl; have hc11 : w7.cell? ⟨bg, 1, none⟩ = some (.int .i64 Y) := (blk_cell K1.out 1).trans rfl; have hc12 : w7.cell? ⟨bg, 2, none⟩ = some (.int .i64 Z) := (blk_cell K1.out 2).trans rfl; have hc20 : w7.cell? ⟨bs, 0, none⟩ = some (.slice A0 s.length c0) := (blk_cell K2.out 0).trans rfl; have hc21 : w7.cell? ⟨bs, 1, none⟩ = some (.slice A1 T.length c1) := (blk_cell K2.out 1).trans rfl))
      refine (impl_IsGrid.calls X Y Z _ w7 (IsGrid_eq X Y Z)).mono ?_
      rintro e w8 ⟨rfl, hb⟩
      rw [HG.out]
      have n0_ := Aside0.mk (below_step HB.out hb)
      have n1_ := Aside0.mk (blk_below K1.out hb)
      have n2_ := Aside0.mk (blk_below K2.out hb)
      clear HB K1 K2 hb hc10 hc11 hc12 hc20 hc21
      have HB := n0_
      have K1 := n1_
      have K2 := n2_
      clear n0_ n1_ n2_
      have hc10 : w8.cell? ⟨bg, 0, none⟩ = some (.int .i64 X) := (blk_cell K1.out 0).trans rfl
      have hc11 : w8.cell? ⟨bg, 1, none⟩ = some (.int .i64 Y) := (blk_cell K1.out 1).trans rfl
      have hc12 : w8.cell? ⟨bg, 2, none⟩ = some (.int .i64 Z) := (blk_cell K1.out 2).trans rfl
      have hc20 : w8.cell? ⟨bs, 0, none⟩ = some (.slice A0 s.length c0) := (blk_cell K2.out 0).trans rfl
      have hc21 : w8.cell? ⟨bs, 1, none⟩ = some (.slice A1 T.length c1) := (blk_cell K2.out 1).trans rfl
      go_wp2_with fail
      obtain ⟨ks, hks⟩ := (areSlopes_ev X Y Z s T (maxLen_val (by have := LS.out; omega)) (maxLen_val (by have := LT.out; omega)) (fun t ht => maxLen_val (by have := LB.out t ht; omega))).rounds
      rw [HS.out] at hks
      refine (impl_areSlopes.calls ks X Y Z A0 c0 s A1 c1 T _ w8 (Kd.C_below H0.out HB.out) E0.out (Kd.C_below H1.out HB.out) E1.out hks).mono ?_
      rintro e w9 ⟨rfl, hb⟩
      clear hks
      have n0_ := Aside0.mk (below_step HB.out hb)
      have n1_ := Aside0.mk (blk_below K1.out hb)
      have n2_ := Aside0.mk (blk_below K2.out hb)
      clear HB K1 K2 hb hc10 hc11 hc12 hc20 hc21
      have HB := n0_
      have K1 := n1_
      have K2 := n2_
      clear n0_ n1_ n2_
      have hc10 : w9.cell? ⟨bg, 0, none⟩ = some (.int .i64 X) := (blk_cell K1.out 0).trans rfl
      have hc11 : w9.cell? ⟨bg, 1, none⟩ = some (.int .i64 Y) := (blk_cell K1.out 1).trans rfl
      have hc12 : w9.cell? ⟨bg, 2, none⟩ = some (.int .i64 Z) := (blk_cell K1.out 2).trans rfl
      have hc20 : w9.cell? ⟨bs, 0, none⟩ = some (.slice A0 s.length c0) := (blk_cell K2.out 0).trans rfl
      have hc21 : w9.cell? ⟨bs, 1, none⟩ = some (.slice A1 T.length c1) := (blk_cell K2.out 1).trans rfl
      go_wp2_with fail
      go_ret2
      have e_ := HN.out
      injection e_ with e1_ e2_
      subst e1_ e2_
      exact ⟨_, rfl, Kd.S_nil _ _ _ _ _, HB.out⟩
    | true =>
      have HS := Aside0.mk hsl
      have HN : Aside0 ((g0, g1) = (arcsL X Y Z s T (X * Y * Z).toNat, true)) := ⟨by rw [← HH.out]; unfold aoR; rw [if_pos ⟨hgr, hsl⟩]⟩
      obtain ⟨n, en⟩ : ∃ n : Nat, n = (X * Y * Z).toNat := ⟨_, rfl⟩
      have hng := grid_ok hgr
      have EN := Aside0.mk en
      have HNZ := Aside0.mk (show (n : Int) = X * Y * Z ∧ 1 ≤ n ∧ n ≤ 120 by omega)
      rw [← en] at HN
      clear hgr hsl hng en
      go_enter Try.func21, Try.ntmps21
      go_wp2_with (first
        | ((with_reducible refine gate_dst (N := 2) rfl ?_); refine box_event ?hg (N := 2) ?hd (cs := #[.int .i64 X, .int .i64 Y, .int .i64 Z]) (t := 30) ?hr ?_; (case hd => rfl); (case hg => rfl); (case hr => first | (go_simp; done) | (go_simp; rfl)); intro bg hg w6 hbox hb; have n0_ := Aside0.mk (below_step HB.out hb); have K1 := Aside0.mk hbox; have G1 := Aside0.mk ((by rw [hg]; exact (below_size HB.out)) : w.heap.size ≤ bg); clear HB; have HB := n0_; clear n0_ hb hbox hg)
        | ((with_reducible refine gate_dst (N := 3) rfl ?_); refine box_event ?hg (N := 3) ?hd (cs := #[.slice A0 s.length c0, .slice A1 T.length c1]) (t := 27) ?hr ?_; (case hd => rfl); (case hg => rfl); (case hr => first | (go_simp; done) | (go_simp; rfl)); intro bs hg w7 hbox hb; have n0_ := Aside0.mk (below_step HB.out hb); have K2 := Aside0.mk hbox; have n1_ := Aside0.mk (blk_below K1.out hb); have G2 := Aside0.mk ((by rw [hg]; exact (below_size HB.out)) : w.heap.size ≤ bs); clear HB K1; have HB := n0_; have K1 := n1_; clear n0_ n1_ hb hbox hg; have hc10 : w7.cell? ⟨bg, 0, none⟩ = some (.int .i64 X) := (blk_cell K1.out 0).trans rfl; have hc11 : w7.cell? ⟨bg, 1, none⟩ = some (.int .i64 Y) := (blk_cell K1.out 1).trans rfl; have hc12 : w7.cell? ⟨bg, 2, none⟩ = some (.int .i64 Z) := (blk_cell K1.out 2).trans rfl; have hc20 : w7.cell? ⟨bs, 0, none⟩ = some (.slice A0 s.length c0) := (blk_cell K2.out 0).trans rfl; have hc21 : w7.cell? ⟨bs, 1, none⟩ = some (.slice A1 T.length c1) := (blk_cell K2.out 1).trans rfl))
      refine (impl_IsGrid.calls X Y Z _ w7 (IsGrid_eq X Y Z)).mono ?_
      rintro e w8 ⟨rfl, hb⟩
      rw [HG.out]
      have n0_ := Aside0.mk (below_step HB.out hb)
      have n1_ := Aside0.mk (blk_below K1.out hb)
      have n2_ := Aside0.mk (blk_below K2.out hb)
      clear HB K1 K2 hb hc10 hc11 hc12 hc20 hc21
      have HB := n0_
      have K1 := n1_
      have K2 := n2_
      clear n0_ n1_ n2_
      have hc10 : w8.cell? ⟨bg, 0, none⟩ = some (.int .i64 X) := (blk_cell K1.out 0).trans rfl
      have hc11 : w8.cell? ⟨bg, 1, none⟩ = some (.int .i64 Y) := (blk_cell K1.out 1).trans rfl
      have hc12 : w8.cell? ⟨bg, 2, none⟩ = some (.int .i64 Z) := (blk_cell K1.out 2).trans rfl
      have hc20 : w8.cell? ⟨bs, 0, none⟩ = some (.slice A0 s.length c0) := (blk_cell K2.out 0).trans rfl
      have hc21 : w8.cell? ⟨bs, 1, none⟩ = some (.slice A1 T.length c1) := (blk_cell K2.out 1).trans rfl
      go_wp2_with fail
      obtain ⟨ks, hks⟩ := (areSlopes_ev X Y Z s T (maxLen_val (by have := LS.out; omega)) (maxLen_val (by have := LT.out; omega)) (fun t ht => maxLen_val (by have := LB.out t ht; omega))).rounds
      rw [HS.out] at hks
      refine (impl_areSlopes.calls ks X Y Z A0 c0 s A1 c1 T _ w8 (Kd.C_below H0.out HB.out) E0.out (Kd.C_below H1.out HB.out) E1.out hks).mono ?_
      rintro e w9 ⟨rfl, hb⟩
      clear hks
      have n0_ := Aside0.mk (below_step HB.out hb)
      have n1_ := Aside0.mk (blk_below K1.out hb)
      have n2_ := Aside0.mk (blk_below K2.out hb)
      clear HB K1 K2 hb hc10 hc11 hc12 hc20 hc21
      have HB := n0_
      have K1 := n1_
      have K2 := n2_
      clear n0_ n1_ n2_
      have hc10 : w9.cell? ⟨bg, 0, none⟩ = some (.int .i64 X) := (blk_cell K1.out 0).trans rfl
      have hc11 : w9.cell? ⟨bg, 1, none⟩ = some (.int .i64 Y) := (blk_cell K1.out 1).trans rfl
      have hc12 : w9.cell? ⟨bg, 2, none⟩ = some (.int .i64 Z) := (blk_cell K1.out 2).trans rfl
      have hc20 : w9.cell? ⟨bs, 0, none⟩ = some (.slice A0 s.length c0) := (blk_cell K2.out 0).trans rfl
      have hc21 : w9.cell? ⟨bs, 1, none⟩ = some (.slice A1 T.length c1) := (blk_cell K2.out 1).trans rfl
      go_wp2_with fail
      refine (arcsOf_calls X Y Z HG.out n HNZ.out.1 s T HS.out A0 c0 A1 c1 w9 (Kd.C_below H0.out HB.out) E0.out (Kd.C_below H1.out HB.out) E1.out).mono ?_
      rintro e w10 ⟨v0, rfl, ho, hb⟩
      have HO := Aside0.mk (Kd.S_lower ho (below_size HB.out))
      clear ho
      have n0_ := Aside0.mk (below_step HB.out hb)
      have n1_ := Aside0.mk (blk_below K1.out hb)
      have n2_ := Aside0.mk (blk_below K2.out hb)
      clear HB K1 K2 hb hc10 hc11 hc12 hc20 hc21
      have HB := n0_
      have K1 := n1_
      have K2 := n2_
      clear n0_ n1_ n2_
      go_wp2_with fail
      go_ret2
      have e_ := HN.out
      injection e_ with e1_ e2_
      subst e1_ e2_
      exact ⟨_, rfl, HO.out, HB.out⟩
theorem both_ (x y z : Int) (s : List Int) (T : List (List S86)) (hs : s.length ≤ 1048576) (hT : T.length ≤ 1048576) (hb : ∀ t ∈ T, t.length ≤ 1048576) : ∃ q, Ev (fun k => spec_ArcsOf.f k x y z s T) q ∧ aoR x y z s T = q ∧ q.1.length ≤ 1048576 ∧ ∀ x ∈ q.1, x.length ≤ 1048576 := by
  refine ⟨_, ?_, rfl, ?_⟩
  · unfold spec_ArcsOf.f aoR
    have hsb := slBoth_ev x y z s T hs hT hb
    by_cases c : gridOk x y z = true ∧ slOk (wrap64 (x * y)) s T = true
    · rw [if_pos c]
      rw [c.1, c.2] at hsb
      have hg := grid_ok c.1
      have hn : (((x * y * z).toNat : Nat) : Int) = x * y * z := by omega
      have hl := arcsL_len x y z s T (x * y * z).toNat
      refine Ev.bind hsb (ev_pos rfl (Ev.bind (slArcs_ev c.1 _ hn s T c.2) ?_))
      generalize arcsL x y z s T (x * y * z).toNat = L at hl ⊢
      exact ev_some rfl
    · rw [if_neg c]
      have e : (gridOk x y z && slOk (wrap64 (x * y)) s T) = false := by rw [← Bool.not_eq_true, Bool.and_eq_true]; exact c
      rw [e] at hsb
      exact Ev.bind hsb (ev_neg (by simp) (ev_some rfl))
  · unfold aoR
    split
    · rename_i c
      have hg := grid_ok c.1
      refine ⟨by show (arcsL x y z s T _).length ≤ _; rw [arcsL_len]; omega, fun r hr => ?_⟩
      obtain ⟨i, hi, rfl⟩ := mem_getD (z := []) hr
      have hi' : i < (x * y * z).toNat := by have h := hi; rwa [show (arcsL x y z s T (x * y * z).toNat, true).1 = arcsL x y z s T (x * y * z).toNat from rfl, arcsL_len] at h
      rw [show (arcsL x y z s T (x * y * z).toNat, true).1 = arcsL x y z s T (x * y * z).toNat from rfl, arcsL_at x y z s T _ i hi']
      have h1 := (arcL_sort c.1 c.2 i (by omega)).2.1
      have h2 := (raw_ne c.1 i (by omega) (sect c.1 c.2 i (by omega)).2.2).1
      omega
    · exact ⟨Nat.zero_le _, fun r hr => by cases hr⟩
end Go.Proofs.Ytpndghkfbojokaa.OwnArcsOf
