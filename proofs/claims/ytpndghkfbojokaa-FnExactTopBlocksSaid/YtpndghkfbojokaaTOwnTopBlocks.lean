/- The contract of impl.TopBlocks, by hand. -/
-- OWN impl tbR %s = %s
import Derived.Test.YtpndghkfbojokaaTOwnSArcs
import Derived.Test.YtpndghkfbojokaaTMFnExactTopBlocksx1
namespace Go.Proofs.Ytpndghkfbojokaa.OwnTopBlocks
open Go.RowKit Go.Proofs.Ytpndghkfbojokaa.PFnExactTopBlocks Go.Proofs.YtpndghkfbojokaaW.PrintWords Go.Proofs.YtpndghkfbojokaaW.PrintLast Go.Proofs.YtpndghkfbojokaaW.PrintMore Go.Proofs.Ytpndghkfbojokaa.B Go.Proofs.Ytpndghkfbojokaa.OwnSort Go.Proofs.Ytpndghkfbojokaa.OwnArcs
set_option linter.unusedVariables false
set_option linter.unusedSimpArgs false
def topAt (L : List (List Int)) (l : List Int) (j : Nat) : List Int := if ((L.getD j []).length : Int) = 0 then l ++ [(j : Int)] else l
def topR (L : List (List Int)) : List Int := foldR (topAt L) 0 L.length []
theorem top_part (L : List (List Int)) (i : Nat) : (foldR (topAt L) 0 i []).length ≤ i := by
  induction i with
  | zero => rw [foldR_end (Nat.le_refl _)]; exact Nat.le_refl _
  | succ i ih =>
    rw [foldR_last (Nat.zero_le _)]
    unfold topAt
    split
    · rw [List.length_append, List.length_singleton]; exact Nat.succ_le_succ ih
    · exact Nat.le_succ_of_le ih
theorem top_len (L : List (List Int)) : (topR L).length ≤ L.length := top_part L L.length
noncomputable def tbR (X Y Z : Int) (s : List Int) (T : List (List S86)) : List Int × Bool := if gridOk X Y Z = true ∧ slOk (wrap64 (X * Y)) s T = true then (topR (arcsL X Y Z s T (X * Y * Z).toNat), true) else ([], false)
set_option maxHeartbeats 8000000 in
set_option maxRecDepth 100000 in
theorem own_impl (X Y Z : Int) (A0 : Option Addr) (c0 : Nat) (s : List Int) (A1 : Option Addr) (c1 : Nat) (T : List (List S86)) (g0 : List Int) (g1 : Bool) (w : World)
    (h0 : Kd.C (Kd.int .i64) w A0 s.length s) (e0 : s.length ≤ c0) (h1 : Kd.C kOS w A1 T.length T) (e1 : T.length ≤ c1) (ls : s.length ≤ 1048576) (lT : T.length ≤ 1048576) (lb : ∀ t ∈ T, t.length ≤ 1048576) (h : tbR X Y Z s T = (g0, g1)) :
    Calls Try.prog 28 #[.agg #[.int .i64 X, .int .i64 Y, .int .i64 Z], .agg #[.slice A0 s.length c0, .slice A1 T.length c1]] w fun e w' => ∃ v : Value, e = .returned (.tuple #[v, .bool g1]) ∧ Kd.R (Kd.int .i64) 3 w' w.heap.size (fun _ => True) v g0 ∧ Below w.heap.size w w' := by
  have hu1 := Try.underlying30
  have hu2 := Try.underlying27
  have H0 := Aside0.mk h0
  have E0 := Aside0.mk e0
  have H1 := Aside0.mk h1
  have E1 := Aside0.mk e1
  have LS := Aside0.mk ls
  have LT := Aside0.mk lT
  have LB := Aside0.mk lb
  have HH := Aside0.mk h
  have HB := Aside0.mk (Below.refl w.heap.size w)
  clear h0 e0 h1 e1 ls lT lb h
  cases hgr : gridOk X Y Z with
  | false =>
    have HG := Aside0.mk hgr
    have HN : Aside0 ((g0, g1) = ([], false)) := ⟨by rw [← HH.out]; unfold tbR; rw [if_neg (by rw [hgr]; simp)]⟩
    clear hgr
    go_enter Try.func28, Try.ntmps28
    go_wp2_with (first
      | ((with_reducible refine gate_dst (N := 2) rfl ?_); refine box_event ?hg (N := 2) ?hd (cs := #[.int .i64 X, .int .i64 Y, .int .i64 Z]) (t := 30) ?hr ?_; (case hd => rfl); (case hg => rfl); (case hr => first | (go_simp; done) | (go_simp; rfl)); intro bg hg w6 hbox hb; have n0_ := Aside0.mk (below_step HB.out hb); have K1 := Aside0.mk hbox; have G1 := Aside0.mk ((by rw [hg]; exact (below_size HB.out)) : w.heap.size ≤ bg); clear HB; have HB := n0_; clear n0_ hb hbox hg)
      | ((with_reducible refine gate_dst (N := 3) rfl ?_); refine box_event ?hg (N := 3) ?hd (cs := #[.slice A0 s.length c0, .slice A1 T.length c1]) (t := 27) ?hr ?_; (case hd => rfl); (case hg => rfl); (case hr => first | (go_simp; done) | (go_simp; rfl)); intro bs hg w7 hbox hb; have n0_ := Aside0.mk (below_step HB.out hb); have K2 := Aside0.mk hbox; have n1_ := Aside0.mk (blk_below K1.out hb); have G2 := Aside0.mk ((by rw [hg]; exact (below_size HB.out)) : w.heap.size ≤ bs); clear HB K1; have HB := n0_; have K1 := n1_; clear n0_ n1_ hb hbox hg; have hc10 : w7.cell? ⟨bg, 0, none⟩ = some (.int .i64 X) := (blk_cell K1.out 0).trans rfl; have hc11 : w7.cell? ⟨bg, 1, none⟩ = some (.int .i64 Y) := (blk_cell K1.out 1).trans rfl; have hc12 : w7.cell? ⟨bg, 2, none⟩ = some (.int .i64 Z) := (blk_cell K1.out 2).trans rfl; have hc20 : w7.cell? ⟨bs, 0, none⟩ = some (.slice A0 s.length c0) := (blk_cell K2.out 0).trans rfl; have hc21 : w7.cell? ⟨bs, 1, none⟩ = some (.slice A1 T.length c1) := (blk_cell K2.out 1).trans rfl))
    refine (impl_IsGrid.calls X Y Z _ w7 (IsGrid_eq X Y Z)).mono ?_
    rintro e w8 ⟨rfl, hb⟩
    rw [HG.out]
    have n0_ := Aside0.mk (below_step HB.out hb)
    have n1_ := Aside0.mk (blk_below K1.out hb)
    have n2_ := Aside0.mk (blk_below K2.out hb)
    clear HB K1 K2 hb hc10 hc11 hc12 hc20 hc21
    have HB := n0_
    have K1 := n1_
    have K2 := n2_
    clear n0_ n1_ n2_
    have hc10 : w8.cell? ⟨bg, 0, none⟩ = some (.int .i64 X) := (blk_cell K1.out 0).trans rfl
    have hc11 : w8.cell? ⟨bg, 1, none⟩ = some (.int .i64 Y) := (blk_cell K1.out 1).trans rfl
    have hc12 : w8.cell? ⟨bg, 2, none⟩ = some (.int .i64 Z) := (blk_cell K1.out 2).trans rfl
    have hc20 : w8.cell? ⟨bs, 0, none⟩ = some (.slice A0 s.length c0) := (blk_cell K2.out 0).trans rfl
    have hc21 : w8.cell? ⟨bs, 1, none⟩ = some (.slice A1 T.length c1) := (blk_cell K2.out 1).trans rfl
    go_wp2_with fail
    go_ret2
    have e_ := HN.out
    injection e_ with e1_ e2_
    subst e1_ e2_
    exact ⟨_, rfl, Kd.R_nil _ _ _ _ _, HB.out⟩
  | true =>
    have HG := Aside0.mk hgr
    cases hsl : slOk (wrap64 (X * Y)) s T with
    | false =>
      have HS := Aside0.mk hsl
      have HN : Aside0 ((g0, g1) = ([], false)) := ⟨by rw [← HH.out]; unfold tbR; rw [if_neg (by rw [hsl]; simp)]⟩
      clear hgr hsl
      go_enter Try.func28, Try.ntmps28
      go_wp2_with (first
        | ((with_reducible refine gate_dst (N := 2) rfl ?_); refine box_event ?hg (N := 2) ?hd (cs := #[.int .i64 X, .int .i64 Y, .int .i64 Z]) (t := 30) ?hr ?_; (case hd => rfl); (case hg => rfl); (case hr => first | (go_simp; done) | (go_simp; rfl)); intro bg hg w6 hbox hb; have n0_ := Aside0.mk (below_step HB.out hb); have K1 := Aside0.mk hbox; have G1 := Aside0.mk ((by rw [hg]; exact (below_size HB.out)) : w.heap.size ≤ bg); clear HB; have HB := n0_; clear n0_ hb hbox hg)
        | ((with_reducible refine gate_dst (N := 3) rfl ?_); refine box_event ?hg (N := 3) ?hd (cs := #[.slice A0 s.length c0, .slice A1 T.length c1]) (t := 27) ?hr ?_; (case hd => rfl); (case hg => rfl); (case hr => first | (go_simp; done) | (go_simp; rfl)); intro bs hg w7 hbox hb; have n0_ := Aside0.mk (below_step HB.out hb); have K2 := Aside0.mk hbox; have n1_ := Aside0.mk (blk_below K1.out hb); have G2 := Aside0.mk ((by rw [hg]; exact (below_size HB.out)) : w.heap.size ≤ bs); clear HB K1; have HB := n0_; have K1 := n1_; clear n0_ n1_ hb hbox hg; have hc10 : w7.cell? ⟨bg, 0, none⟩ = some (.int .i64 X) := (blk_cell K1.out 0).trans rfl; have hc11 : w7.cell? ⟨bg, 1, none⟩ = some (.int .i64 Y) := (blk_cell K1.out 1).trans rfl; have hc12 : w7.cell? ⟨bg, 2, none⟩ = some (.int .i64 Z) := (blk_cell K1.out 2).trans rfl; have hc20 : w7.cell? ⟨bs, 0, none⟩ = some (.slice A0 s.length c0) := (blk_cell K2.out 0).trans rfl; have hc21 : w7.cell? ⟨bs, 1, none⟩ = some (.slice A1 T.length c1) := (blk_cell K2.out 1).trans rfl))
      refine (impl_IsGrid.calls X Y Z _ w7 (IsGrid_eq X Y Z)).mono ?_
      rintro e w8 ⟨rfl, hb⟩
      rw [HG.out]
      have n0_ := Aside0.mk (below_step HB.out hb)
      have n1_ := Aside0.mk (blk_below K1.out hb)
      have n2_ := Aside0.mk (blk_below K2.out hb)
      clear HB K1 K2 hb hc10 hc11 hc12 hc20 hc21
      have HB := n0_
      have K1 := n1_
      have K2 := n2_
      clear n0_ n1_ n2_
      have hc10 : w8.cell? ⟨bg, 0, none⟩ = some (.int .i64 X) := (blk_cell K1.out 0).trans rfl
      have hc11 : w8.cell? ⟨bg, 1, none⟩ = some (.int .i64 Y) := (blk_cell K1.out 1).trans rfl
      have hc12 : w8.cell? ⟨bg, 2, none⟩ = some (.int .i64 Z) := (blk_cell K1.out 2).trans rfl
      have hc20 : w8.cell? ⟨bs, 0, none⟩ = some (.slice A0 s.length c0) := (blk_cell K2.out 0).trans rfl
      have hc21 : w8.cell? ⟨bs, 1, none⟩ = some (.slice A1 T.length c1) := (blk_cell K2.out 1).trans rfl
      go_wp2_with fail
      obtain ⟨ks, hks⟩ := (areSlopes_ev X Y Z s T (maxLen_val (by have := LS.out; omega)) (maxLen_val (by have := LT.out; omega)) (fun t ht => maxLen_val (by have := LB.out t ht; omega))).rounds
      rw [HS.out] at hks
      refine (impl_areSlopes.calls ks X Y Z A0 c0 s A1 c1 T _ w8 (Kd.C_below H0.out HB.out) E0.out (Kd.C_below H1.out HB.out) E1.out hks).mono ?_
      rintro e w9 ⟨rfl, hb⟩
      clear hks
      have n0_ := Aside0.mk (below_step HB.out hb)
      have n1_ := Aside0.mk (blk_below K1.out hb)
      have n2_ := Aside0.mk (blk_below K2.out hb)
      clear HB K1 K2 hb hc10 hc11 hc12 hc20 hc21
      have HB := n0_
      have K1 := n1_
      have K2 := n2_
      clear n0_ n1_ n2_
      have hc10 : w9.cell? ⟨bg, 0, none⟩ = some (.int .i64 X) := (blk_cell K1.out 0).trans rfl
      have hc11 : w9.cell? ⟨bg, 1, none⟩ = some (.int .i64 Y) := (blk_cell K1.out 1).trans rfl
      have hc12 : w9.cell? ⟨bg, 2, none⟩ = some (.int .i64 Z) := (blk_cell K1.out 2).trans rfl
      have hc20 : w9.cell? ⟨bs, 0, none⟩ = some (.slice A0 s.length c0) := (blk_cell K2.out 0).trans rfl
      have hc21 : w9.cell? ⟨bs, 1, none⟩ = some (.slice A1 T.length c1) := (blk_cell K2.out 1).trans rfl
      go_wp2_with fail
      go_ret2
      have e_ := HN.out
      injection e_ with e1_ e2_
      subst e1_ e2_
      exact ⟨_, rfl, Kd.R_nil _ _ _ _ _, HB.out⟩
    | true =>
      have HS := Aside0.mk hsl
      have HN : Aside0 ((g0, g1) = (topR (arcsL X Y Z s T (X * Y * Z).toNat), true)) := ⟨by rw [← HH.out]; unfold tbR; rw [if_pos ⟨hgr, hsl⟩]⟩
      obtain ⟨n, en⟩ : ∃ n : Nat, n = (X * Y * Z).toNat := ⟨_, rfl⟩
      have hng := grid_ok hgr
      have EN := Aside0.mk en
      have HNZ := Aside0.mk (show (n : Int) = X * Y * Z ∧ 1 ≤ n ∧ n ≤ 120 by omega)
      rw [← en] at HN
      clear hgr hsl hng en
      go_enter Try.func28, Try.ntmps28
      go_wp2_with (first
        | ((with_reducible refine gate_dst (N := 2) rfl ?_); refine box_event ?hg (N := 2) ?hd (cs := #[.int .i64 X, .int .i64 Y, .int .i64 Z]) (t := 30) ?hr ?_; (case hd => rfl); (case hg => rfl); (case hr => first | (go_simp; done) | (go_simp; rfl)); intro bg hg w6 hbox hb; have n0_ := Aside0.mk (below_step HB.out hb); have K1 := Aside0.mk hbox; have G1 := Aside0.mk ((by rw [hg]; exact (below_size HB.out)) : w.heap.size ≤ bg); clear HB; have HB := n0_; clear n0_ hb hbox hg)
        | ((with_reducible refine gate_dst (N := 3) rfl ?_); refine box_event ?hg (N := 3) ?hd (cs := #[.slice A0 s.length c0, .slice A1 T.length c1]) (t := 27) ?hr ?_; (case hd => rfl); (case hg => rfl); (case hr => first | (go_simp; done) | (go_simp; rfl)); intro bs hg w7 hbox hb; have n0_ := Aside0.mk (below_step HB.out hb); have K2 := Aside0.mk hbox; have n1_ := Aside0.mk (blk_below K1.out hb); have G2 := Aside0.mk ((by rw [hg]; exact (below_size HB.out)) : w.heap.size ≤ bs); clear HB K1; have HB := n0_; have K1 := n1_; clear n0_ n1_ hb hbox hg; have hc10 : w7.cell? ⟨bg, 0, none⟩ = some (.int .i64 X) := (blk_cell K1.out 0).trans rfl; have hc11 : w7.cell? ⟨bg, 1, none⟩ = some (.int .i64 Y) := (blk_cell K1.out 1).trans rfl; have hc12 : w7.cell? ⟨bg, 2, none⟩ = some (.int .i64 Z) := (blk_cell K1.out 2).trans rfl; have hc20 : w7.cell? ⟨bs, 0, none⟩ = some (.slice A0 s.length c0) := (blk_cell K2.out 0).trans rfl; have hc21 : w7.cell? ⟨bs, 1, none⟩ = some (.slice A1 T.length c1) := (blk_cell K2.out 1).trans rfl))
      refine (impl_IsGrid.calls X Y Z _ w7 (IsGrid_eq X Y Z)).mono ?_
      rintro e w8 ⟨rfl, hb⟩
      rw [HG.out]
      have n0_ := Aside0.mk (below_step HB.out hb)
      have n1_ := Aside0.mk (blk_below K1.out hb)
      have n2_ := Aside0.mk (blk_below K2.out hb)
      clear HB K1 K2 hb hc10 hc11 hc12 hc20 hc21
      have HB := n0_
      have K1 := n1_
      have K2 := n2_
      clear n0_ n1_ n2_
      have hc10 : w8.cell? ⟨bg, 0, none⟩ = some (.int .i64 X) := (blk_cell K1.out 0).trans rfl
      have hc11 : w8.cell? ⟨bg, 1, none⟩ = some (.int .i64 Y) := (blk_cell K1.out 1).trans rfl
      have hc12 : w8.cell? ⟨bg, 2, none⟩ = some (.int .i64 Z) := (blk_cell K1.out 2).trans rfl
      have hc20 : w8.cell? ⟨bs, 0, none⟩ = some (.slice A0 s.length c0) := (blk_cell K2.out 0).trans rfl
      have hc21 : w8.cell? ⟨bs, 1, none⟩ = some (.slice A1 T.length c1) := (blk_cell K2.out 1).trans rfl
      go_wp2_with fail
      obtain ⟨ks, hks⟩ := (areSlopes_ev X Y Z s T (maxLen_val (by have := LS.out; omega)) (maxLen_val (by have := LT.out; omega)) (fun t ht => maxLen_val (by have := LB.out t ht; omega))).rounds
      rw [HS.out] at hks
      refine (impl_areSlopes.calls ks X Y Z A0 c0 s A1 c1 T _ w8 (Kd.C_below H0.out HB.out) E0.out (Kd.C_below H1.out HB.out) E1.out hks).mono ?_
      rintro e w9 ⟨rfl, hb⟩
      clear hks
      have n0_ := Aside0.mk (below_step HB.out hb)
      have n1_ := Aside0.mk (blk_below K1.out hb)
      have n2_ := Aside0.mk (blk_below K2.out hb)
      clear HB K1 K2 hb hc10 hc11 hc12 hc20 hc21
      have HB := n0_
      have K1 := n1_
      have K2 := n2_
      clear n0_ n1_ n2_
      have hc10 : w9.cell? ⟨bg, 0, none⟩ = some (.int .i64 X) := (blk_cell K1.out 0).trans rfl
      have hc11 : w9.cell? ⟨bg, 1, none⟩ = some (.int .i64 Y) := (blk_cell K1.out 1).trans rfl
      have hc12 : w9.cell? ⟨bg, 2, none⟩ = some (.int .i64 Z) := (blk_cell K1.out 2).trans rfl
      have hc20 : w9.cell? ⟨bs, 0, none⟩ = some (.slice A0 s.length c0) := (blk_cell K2.out 0).trans rfl
      have hc21 : w9.cell? ⟨bs, 1, none⟩ = some (.slice A1 T.length c1) := (blk_cell K2.out 1).trans rfl
      go_wp2_with (first | ((with_reducible refine gate_dst (N := 18) rfl ?_); refine Kd.R_lit (Kd.int .i64) _ 3 ?hg (N := 18) ?hd (xs := ([] : List Int)) (inner := []) (ok := fun _ => True) (okp := fun _ => True) ?hr ?hp (fun _ hk => hk) trivial (Below.refl _ _) (Nat.le_refl _) (by simp) ?_; (case hd => rfl); (case hg => rfl); (case hr => first | (go_simp; done) | (go_simp; rfl)); (case hp => exact (Reps.none _ _)); intro vO wl ho hb hg_ hnew_; clear hg_ hnew_; have HL := Aside0.mk (Kd.R_lower ho (below_size HB.out)); clear ho; have n0_ := Aside0.mk (below_step HB.out hb); have n1_ := Aside0.mk (blk_below K1.out hb); have n2_ := Aside0.mk (blk_below K2.out hb); clear HB K1 K2 hb hc10 hc11 hc12 hc20 hc21; have HB := n0_; have K1 := n1_; have K2 := n2_; clear n0_ n1_ n2_; have hc10 : wl.cell? ⟨bg, 0, none⟩ = some (.int .i64 X) := (blk_cell K1.out 0).trans rfl; have hc11 : wl.cell? ⟨bg, 1, none⟩ = some (.int .i64 Y) := (blk_cell K1.out 1).trans rfl; have hc12 : wl.cell? ⟨bg, 2, none⟩ = some (.int .i64 Z) := (blk_cell K1.out 2).trans rfl; have hc20 : wl.cell? ⟨bs, 0, none⟩ = some (.slice A0 s.length c0) := (blk_cell K2.out 0).trans rfl; have hc21 : wl.cell? ⟨bs, 1, none⟩ = some (.slice A1 T.length c1) := (blk_cell K2.out 1).trans rfl))
      refine (arcsOf_calls X Y Z HG.out n HNZ.out.1 s T HS.out A0 c0 A1 c1 wl (Kd.C_below H0.out HB.out) E0.out (Kd.C_below H1.out HB.out) E1.out).mono ?_
      rintro e w10 ⟨v0, rfl, ho, hb⟩
      have HO := Aside0.mk (Kd.S_lower (Kd.S_mono (Kd.S_bound ho) (ok' := fun k => some k ≠ vO.ownBlock) (fun k hk e_ => by have := Kd.R_lt HL.out k e_.symm; have := hk.2.1; omega)) (below_size HB.out))
      have n3_ := Aside0.mk (Kd.R_below HL.out hb)
      clear HL ho
      have HL := n3_
      clear n3_
      have n0_ := Aside0.mk (below_step HB.out hb)
      have n1_ := Aside0.mk (blk_below K1.out hb)
      have n2_ := Aside0.mk (blk_below K2.out hb)
      clear HB K1 K2 hb hc10 hc11 hc12 hc20 hc21
      have HB := n0_
      have K1 := n1_
      have K2 := n2_
      clear n0_ n1_ n2_
      obtain ⟨L, eL⟩ : ∃ L, L = arcsL X Y Z s T n := ⟨_, rfl⟩
      have EL := Aside0.mk eL
      rw [← eL] at HO HN
      have HLN : Aside0 (L.length = n) := ⟨by rw [eL]; exact arcsL_len X Y Z s T n⟩
      clear eL
      obtain ⟨ga, ca, ev0, _, _, _⟩ := Kd.S_form HO.out (by rw [HLN.out]; exact HNZ.out.2.1)
      rw [HLN.out] at ev0
      subst ev0
      go_wp2_with fail
      go_loopg [6, 23] n (fun d v6 v23 wr => ∃ i : Int, v23 = .int .i64 i ∧ Aside0 (Kd.R (Kd.int .i64) 3 wr w.heap.size (fun _ => True) v6 (foldR (topAt L) 0 i.toNat [])) ∧ Aside0 (Kd.S kRows 24 wr w.heap.size (fun k => some k ≠ v6.ownBlock) (.slice (some ⟨ga, 0, none⟩) n ca) L) ∧ Aside0 (0 ≤ i ∧ i + d = n) ∧ Aside0 (Below w.heap.size w wr))
      case atStart => exact ⟨0, rfl, ⟨by rw [show (0 : Int).toNat = 0 from rfl, foldR_end (Nat.le_refl _)]; exact HL.out⟩, HO, ⟨by omega⟩, HB⟩
      case round =>
        clear HL HO HB K1 K2
        obtain ⟨i, rfl, HL, HO, HI, HB⟩ := hrel
        obtain ⟨cur, ecur⟩ : ∃ z, z = foldR (topAt L) 0 i.toNat [] := ⟨_, rfl⟩
        rw [← ecur] at HL
        have ECUR := Aside0.mk ecur
        obtain ⟨A6, c6, e6⟩ := Kd.R_slice HL.out
        obtain ⟨m6, em6⟩ : ∃ m, m = cur.length := ⟨_, rfl⟩
        rw [← em6] at e6
        have HM6 := Aside0.mk (show m6 ≤ 120 by rw [em6, ecur]; have := top_part L i.toNat; have := HI.out; have := HNZ.out; omega)
        have EM6 := Aside0.mk em6
        subst e6
        clear em6 ecur
        cases gk with
        | zero =>
          have t1 : decide (i < (n : Int)) = false := decide_eq_false (by have := HI.out; omega)
          have HR : Aside0 ((g0, g1) = (cur, true)) := ⟨by rw [HN.out, ECUR.out, show i.toNat = L.length by rw [HLN.out]; have := HI.out; omega]; rfl⟩
          go_wp2_with fail
          go_ret2
          have e_ := HR.out
          injection e_ with e1_ e2_
          subst e1_ e2_
          exact ⟨_, rfl, HL.out, HB.out⟩
        | succ d =>
          have hi := HI.out
          have t1 : decide (i < (n : Int)) = true := decide_eq_true (by omega)
          have q0 := eq_true hi.1
          have q1 := eq_true (show i < (n : Int) by omega)
          obtain ⟨Aq, cq, eq, hlq, hC⟩ := Kd.S_reads HO.out
          rw [HLN.out] at eq hlq hC
          injection eq with eA _ ec
          subst eA ec
          obtain ⟨ad, Ar, cr, eA, hct, _, _⟩ := at_G (Kd.int .i64) 3 hC i hi.1 (by omega)
          injection eA with eA
          subst eA
          rw [show (⟨ga, 0, none⟩ : Addr).add i.toNat = ⟨ga, i.toNat, none⟩ from by rw [Addr.add_lit, Nat.zero_add]] at hct
          obtain ⟨ln, eln⟩ : ∃ z, z = (L.getD i.toNat []).length := ⟨_, rfl⟩
          rw [← eln] at hct
          have HI := Aside0.mk hi
          have ELN := Aside0.mk eln
          clear hi hlq hC eln
          by_cases hz : (ln : Int) = 0
          · have z0 : ((ln : Int) == 0) = true := beq_iff_eq.mpr hz
            have HZ := Aside0.mk hz
            have hz' : ln = 0 := by omega
            subst hz'
            clear hz
            go_wp2_with (first | ((with_reducible refine gate_builtin (b := .append) (xs := #[.tmp 31, .tmp 33]) rfl ?_); at_builtin; refine Kd.R_append (Kd.int .i64) (w0 := w) w.heap.size rfl (.tmp 31) (.tmp 33) 24 3 (.int .i64 0) 8 rfl Try.underlying24 inf3 rfl (by decide) (by omega) (.slice A6 m6 c6) cur i [.int .i64 i] (fun _ => True) (fun _ => False) rfl rfl ?aP (fun _ hk => hk.elim) ?aF ?aO ?aB ?aS ?aL ?_; (case aP => exact rfl); (case aB => exact HB.out); (case aF => exact (fun _ _ => trivial)); (case aO => exact HL.out); (case aS => exact below_size HB.out); (case aL => have := HM6.out; have := EM6.out; omega); intro v1 w1 ho1 hb1 hg1 hat1; have m0_ := Aside0.mk ho1; have m1_ := Aside0.mk hb1; have m2_ := Aside0.mk (Kd.S_mono (Kd.S_grown (Kd.S_mono (Kd.S_bound HO.out) (ok' := fun k => some k ≠ (Value.slice A6 m6 c6).ownBlock ∧ k < wr.heap.size) (fun k hk => ⟨hk.1, hk.2.2.1⟩)) hg1 (fun k hk => hk.1)) (ok' := fun k => some k ≠ v1.ownBlock) (fun k hk e_ => by rcases hat1 with h | ⟨b, h, hlb⟩ <;> (rw [h] at e_; first | exact hk.1 e_ | (injection e_ with e_; have := hk.2; omega)))); clear HB HL HO ho1 hb1 hg1 hat1 hct; have HL := m0_; have HB := m1_; have HO := m2_; clear m0_ m1_ m2_))
            go_roundg d
            case measure => omega
            case rel =>
              refine ⟨i + 1, by rw [w64 (by have := HI.out; omega) (by have := HI.out; have := HNZ.out; omega)], ⟨?_⟩, HO, ⟨by have := HI.out; omega⟩, HB⟩
              rw [show (i + 1).toNat = i.toNat + 1 by have := HI.out; omega, foldR_last (Nat.zero_le _), ← ECUR.out]
              unfold topAt
              rw [← ELN.out, if_pos HZ.out, show ((i.toNat : Nat) : Int) = i by have := HI.out; omega]
              exact HL.out
          · have z0 : ((ln : Int) == 0) = false := beq_eq_false_iff_ne.mpr hz
            have HZ := Aside0.mk hz
            clear hz
            go_wp2_with fail
            go_roundg d
            case measure => omega
            case rel =>
              refine ⟨i + 1, by rw [w64 (by have := HI.out; omega) (by have := HI.out; have := HNZ.out; omega)], ⟨?_⟩, HO, ⟨by have := HI.out; omega⟩, HB⟩
              rw [show (i + 1).toNat = i.toNat + 1 by have := HI.out; omega, foldR_last (Nat.zero_le _), ← ECUR.out]
              unfold topAt
              rw [← ELN.out, if_neg HZ.out]
              exact HL.out
theorem top_l0 (L : List (List Int)) (hL : L.length ≤ 120) : ∀ (d i : Nat), i + d = L.length → Ev (fun k => spec_TopBlocks.l0 k (foldR (topAt L) 0 i []) L (L.length : Int) (i : Int)) (topR L, true) := by
  intro d
  induction d with
  | zero =>
    intro i hi
    obtain rfl : i = L.length := by omega
    exact Ev.step (fun k => spec_TopBlocks.l0.eq_2 (foldR (topAt L) 0 L.length []) L L.length L.length k) (ev_neg (by omega) (ev_some rfl))
  | succ d ih =>
    intro i hi
    have hx : rd_L5 L (i : Int) = L.getD i [] := by unfold rd_L5; rw [toNat_nat]
    refine Ev.step (fun k => spec_TopBlocks.l0.eq_2 (foldR (topAt L) 0 i []) L L.length i k) ?_
    rw [hx, w_succ (n := L.length) (by omega) (by omega)]
    have ih := ih (i + 1) (by omega)
    rw [foldR_last (Nat.zero_le _)] at ih
    have hp := top_part L i
    unfold topAt at ih
    refine ev_pos (by omega) (ev_pos (by omega) (ev_pos (by omega) (ev_ite (fun h => ?_) (fun h => ?_))))
    · rw [if_pos h] at ih; exact ev_pos (by omega) ih
    · rw [if_neg h] at ih; exact ih
theorem both_ (x y z : Int) (s : List Int) (T : List (List S86)) (hs : s.length ≤ 1048576) (hT : T.length ≤ 1048576) (hb : ∀ t ∈ T, t.length ≤ 1048576) : ∃ q, Ev (fun k => spec_TopBlocks.f k x y z s T) q ∧ tbR x y z s T = q ∧ q.1.length ≤ 1048576 := by
  refine ⟨_, ?_, rfl, ?_⟩
  · unfold spec_TopBlocks.f tbR
    have hsb := slBoth_ev x y z s T hs hT hb
    by_cases c : gridOk x y z = true ∧ slOk (wrap64 (x * y)) s T = true
    · rw [if_pos c]
      rw [c.1, c.2] at hsb
      have hg := grid_ok c.1
      have hn : (((x * y * z).toNat : Nat) : Int) = x * y * z := by omega
      have hl := arcsL_len x y z s T (x * y * z).toNat
      refine Ev.bind hsb (ev_pos rfl (Ev.bind (slArcs_ev c.1 _ hn s T c.2) ?_))
      generalize arcsL x y z s T (x * y * z).toNat = L at hl ⊢
      exact top_l0 L (by omega) L.length 0 (by omega)
    · rw [if_neg c]
      have e : (gridOk x y z && slOk (wrap64 (x * y)) s T) = false := by rw [← Bool.not_eq_true, Bool.and_eq_true]; exact c
      rw [e] at hsb
      exact Ev.bind hsb (ev_neg (by simp) (ev_some rfl))
  · unfold tbR
    split
    · exact Nat.le_trans (top_len _) (by have := arcsL_len x y z s T (x * y * z).toNat; rename_i c; have := grid_ok c.1; omega)
    · exact Nat.zero_le _
end Go.Proofs.Ytpndghkfbojokaa.OwnTopBlocks
