-- PRINTED BY print.sh 35421559b90ae4d0a3588c463048766b98c2df88dd9212a6774a882060cdf62d: not written by this session
import Derived.Test.YtdjahpigkbgobaaPFnExactReducedArcsx0
import Derived.Test.YtdjahpigkbgobaaPFnExactReducedArcsx19
import Derived.Test.YtdjahpigkbgobaaPFnExactReducedArcsx21
namespace Go.Proofs.Ytdjahpigkbgobaa.PFnExactReducedArcs
open Go.RowKit Go.Proofs.YtdjahpigkbgobaaW.PrintWords Go.Proofs.YtdjahpigkbgobaaW.PrintLast Go.Proofs.YtdjahpigkbgobaaW.PrintMore
attribute [local go_sem] max2_int min2_int max_two min_two max_three min_three max_four min_four   -- for this text's walks alone
set_option linter.unusedVariables false
set_option linter.unusedSimpArgs false

/-! ### impl_ReducedArcs: function 40 -/
mutual
def impl_ReducedArcs.l0 : Nat → List (List Int) → List (List Int) → List (List Int) → Int → Int → Option ((List (List Int)) × Bool)
  | 0, _, _, _, _, _ => none
  | k + 1, x0, x4, x20, x21, x22 => if x22 < x21 then (if 0 ≤ x22 then (if x22 < (x20.length : Int) then (if 0 ≤ (x0.length : Int) then (if ((x0.length : Int) : Int).toNat ≤ 281474976710656 then (impl_ReducedArcs.l1 k x0 x4 x22 (rd_L1 x20 x22) (List.replicate ((x0.length : Int) : Int).toNat false) x20 x21 x22 (rd_L1 x20 x22) ((rd_L1 x20 x22).length : Int) 0) else (none)) else (none)) else (none)) else (none)) else (some (x4, true))
def impl_ReducedArcs.l1 : Nat → List (List Int) → List (List Int) → Int → List Int → List Bool → List (List Int) → Int → Int → List Int → Int → Int → Option ((List (List Int)) × Bool)
  | 0, _, _, _, _, _, _, _, _, _, _, _ => none
  | k + 1, x0, x4, x5, x6, x7, x20, x21, x22, x30, x31, x32 => if x32 < x31 then (if 0 ≤ x32 then (if x32 < (x30.length : Int) then (if 0 ≤ (rd x30 x32) then (if (rd x30 x32) < (x0.length : Int) then ((impl_closureOf.f k x0 (rd_L1 x0 (rd x30 x32))).bind fun t195 => (impl_ReducedArcs.l2 k x0 x4 x5 x6 x7 x20 x21 x22 x30 x31 x32 t195 (t195.length : Int) 0)) else (none)) else (none)) else (none)) else (none)) else (impl_ReducedArcs.l3 k x0 x4 x5 x7 x20 x21 x22 x6 (x6.length : Int) 0)
def impl_ReducedArcs.l2 : Nat → List (List Int) → List (List Int) → Int → List Int → List Bool → List (List Int) → Int → Int → List Int → Int → Int → List Bool → Int → Int → Option ((List (List Int)) × Bool)
  | 0, _, _, _, _, _, _, _, _, _, _, _, _, _, _ => none
  | k + 1, x0, x4, x5, x6, x7, x20, x21, x22, x30, x31, x32, x41, x42, x43 => if x43 < x42 then (if 0 ≤ x43 then (if x43 < (x41.length : Int) then (if x43 < (x7.length : Int) then (if rdOf false x7 x43 = true then (impl_ReducedArcs.l2 k x0 x4 x5 x6 (x7.set (x43 : Int).toNat true) x20 x21 x22 x30 x31 x32 x41 x42 (wrap64 (x43 + 1))) else (impl_ReducedArcs.l2 k x0 x4 x5 x6 (x7.set (x43 : Int).toNat (rdOf false x41 x43)) x20 x21 x22 x30 x31 x32 x41 x42 (wrap64 (x43 + 1)))) else (none)) else (none)) else (none)) else (impl_ReducedArcs.l1 k x0 x4 x5 x6 x7 x20 x21 x22 x30 x31 (wrap64 (x32 + 1)))
def impl_ReducedArcs.l3 : Nat → List (List Int) → List (List Int) → Int → List Bool → List (List Int) → Int → Int → List Int → Int → Int → Option ((List (List Int)) × Bool)
  | 0, _, _, _, _, _, _, _, _, _, _ => none
  | k + 1, x0, x4, x5, x7, x20, x21, x22, x60, x61, x62 => if x62 < x61 then (if 0 ≤ x62 then (if x62 < (x60.length : Int) then (if 0 ≤ (rd x60 x62) then (if (rd x60 x62) < (x7.length : Int) then (if (rdOf false x7 (rd x60 x62) = true) then (impl_ReducedArcs.l3 k x0 x4 x5 x7 x20 x21 x22 x60 x61 (wrap64 (x62 + 1))) else (if 0 ≤ x5 then (if x5 < (x4.length : Int) then (if (rd_L1 x4 x5).length < 17592186044416 then (impl_ReducedArcs.l3 k x0 (x4.set (x5 : Int).toNat ((rd_L1 x4 x5) ++ [rd x60 x62])) x5 x7 x20 x21 x22 x60 x61 (wrap64 (x62 + 1))) else (none)) else (none)) else (none))) else (none)) else (none)) else (none)) else (none)) else (impl_ReducedArcs.l0 k x0 x4 x20 x21 (wrap64 (x22 + 1)))
end
def impl_ReducedArcs.f (k : Nat) (l0 : List (List Int)) : Option ((List (List Int)) × Bool) := (impl_AreArcs.f k l0).bind fun t185 => (if t185 = true then (if 0 ≤ (l0.length : Int) then (if ((l0.length : Int) : Int).toNat ≤ 11728124029610 then (impl_ReducedArcs.l0 k l0 (List.replicate ((l0.length : Int) : Int).toNat []) l0 (l0.length : Int) 0) else (none)) else (none)) else (some (([] : List (List Int)), false)))
theorem impl_ReducedArcs.mono_l : ∀ k, (∀ y0 y1 y2 y3 y4, LeO (impl_ReducedArcs.l0 k y0 y1 y2 y3 y4) (impl_ReducedArcs.l0 (k + 1) y0 y1 y2 y3 y4)) ∧ (∀ y0 y1 y2 y3 y4 y5 y6 y7 y8 y9 y10, LeO (impl_ReducedArcs.l1 k y0 y1 y2 y3 y4 y5 y6 y7 y8 y9 y10) (impl_ReducedArcs.l1 (k + 1) y0 y1 y2 y3 y4 y5 y6 y7 y8 y9 y10)) ∧ (∀ y0 y1 y2 y3 y4 y5 y6 y7 y8 y9 y10 y11 y12 y13, LeO (impl_ReducedArcs.l2 k y0 y1 y2 y3 y4 y5 y6 y7 y8 y9 y10 y11 y12 y13) (impl_ReducedArcs.l2 (k + 1) y0 y1 y2 y3 y4 y5 y6 y7 y8 y9 y10 y11 y12 y13)) ∧ (∀ y0 y1 y2 y3 y4 y5 y6 y7 y8 y9, LeO (impl_ReducedArcs.l3 k y0 y1 y2 y3 y4 y5 y6 y7 y8 y9) (impl_ReducedArcs.l3 (k + 1) y0 y1 y2 y3 y4 y5 y6 y7 y8 y9))
  | 0 => ⟨fun _ _ _ _ _ r h => by simp [impl_ReducedArcs.l0] at h, fun _ _ _ _ _ _ _ _ _ _ _ r h => by simp [impl_ReducedArcs.l1] at h, fun _ _ _ _ _ _ _ _ _ _ _ _ _ _ r h => by simp [impl_ReducedArcs.l2] at h, fun _ _ _ _ _ _ _ _ _ _ r h => by simp [impl_ReducedArcs.l3] at h⟩
  | k + 1 => by
    obtain ⟨ih0, ih1, ih2, ih3⟩ := impl_ReducedArcs.mono_l k
    refine ⟨?_, ?_, ?_, ?_⟩
    · intro y0 y1 y2 y3 y4
      unfold impl_ReducedArcs.l0
      repeat' first
      | (with_reducible exact ih0 _ _ _ _ _)
      | (with_reducible exact ih1 _ _ _ _ _ _ _ _ _ _ _)
      | (with_reducible exact ih2 _ _ _ _ _ _ _ _ _ _ _ _ _ _)
      | (with_reducible exact ih3 _ _ _ _ _ _ _ _ _ _)
      | (with_reducible exact impl_AreArcs.mono _ _)
      | (with_reducible exact impl_closureOf.mono _ _ _)
      | (with_reducible exact LeO.refl _)
      | (with_reducible exact LeO.none _)
      | (with_reducible refine LeO.ite ?_ ?_)
      | (with_reducible refine LeO.bind ?_ (fun _ => ?_))
      | exact ih0 _ _ _ _ _
      | exact ih1 _ _ _ _ _ _ _ _ _ _ _
      | exact ih2 _ _ _ _ _ _ _ _ _ _ _ _ _ _
      | exact ih3 _ _ _ _ _ _ _ _ _ _
      | exact impl_AreArcs.mono _ _
      | exact impl_closureOf.mono _ _ _
      | exact LeO.none _
      | refine LeO.ite ?_ ?_
      | refine LeO.bind ?_ (fun _ => ?_)
    · intro y0 y1 y2 y3 y4 y5 y6 y7 y8 y9 y10
      unfold impl_ReducedArcs.l1
      repeat' first
      | (with_reducible exact ih0 _ _ _ _ _)
      | (with_reducible exact ih1 _ _ _ _ _ _ _ _ _ _ _)
      | (with_reducible exact ih2 _ _ _ _ _ _ _ _ _ _ _ _ _ _)
      | (with_reducible exact ih3 _ _ _ _ _ _ _ _ _ _)
      | (with_reducible exact impl_AreArcs.mono _ _)
      | (with_reducible exact impl_closureOf.mono _ _ _)
      | (with_reducible exact LeO.refl _)
      | (with_reducible exact LeO.none _)
      | (with_reducible refine LeO.ite ?_ ?_)
      | (with_reducible refine LeO.bind ?_ (fun _ => ?_))
      | exact ih0 _ _ _ _ _
      | exact ih1 _ _ _ _ _ _ _ _ _ _ _
      | exact ih2 _ _ _ _ _ _ _ _ _ _ _ _ _ _
      | exact ih3 _ _ _ _ _ _ _ _ _ _
      | exact impl_AreArcs.mono _ _
      | exact impl_closureOf.mono _ _ _
      | exact LeO.none _
      | refine LeO.ite ?_ ?_
      | refine LeO.bind ?_ (fun _ => ?_)
    · intro y0 y1 y2 y3 y4 y5 y6 y7 y8 y9 y10 y11 y12 y13
      unfold impl_ReducedArcs.l2
      repeat' first
      | (with_reducible exact ih0 _ _ _ _ _)
      | (with_reducible exact ih1 _ _ _ _ _ _ _ _ _ _ _)
      | (with_reducible exact ih2 _ _ _ _ _ _ _ _ _ _ _ _ _ _)
      | (with_reducible exact ih3 _ _ _ _ _ _ _ _ _ _)
      | (with_reducible exact impl_AreArcs.mono _ _)
      | (with_reducible exact impl_closureOf.mono _ _ _)
      | (with_reducible exact LeO.refl _)
      | (with_reducible exact LeO.none _)
      | (with_reducible refine LeO.ite ?_ ?_)
      | (with_reducible refine LeO.bind ?_ (fun _ => ?_))
      | exact ih0 _ _ _ _ _
      | exact ih1 _ _ _ _ _ _ _ _ _ _ _
      | exact ih2 _ _ _ _ _ _ _ _ _ _ _ _ _ _
      | exact ih3 _ _ _ _ _ _ _ _ _ _
      | exact impl_AreArcs.mono _ _
      | exact impl_closureOf.mono _ _ _
      | exact LeO.none _
      | refine LeO.ite ?_ ?_
      | refine LeO.bind ?_ (fun _ => ?_)
    · intro y0 y1 y2 y3 y4 y5 y6 y7 y8 y9
      unfold impl_ReducedArcs.l3
      repeat' first
      | (with_reducible exact ih0 _ _ _ _ _)
      | (with_reducible exact ih1 _ _ _ _ _ _ _ _ _ _ _)
      | (with_reducible exact ih2 _ _ _ _ _ _ _ _ _ _ _ _ _ _)
      | (with_reducible exact ih3 _ _ _ _ _ _ _ _ _ _)
      | (with_reducible exact impl_AreArcs.mono _ _)
      | (with_reducible exact impl_closureOf.mono _ _ _)
      | (with_reducible exact LeO.refl _)
      | (with_reducible exact LeO.none _)
      | (with_reducible refine LeO.ite ?_ ?_)
      | (with_reducible refine LeO.bind ?_ (fun _ => ?_))
      | exact ih0 _ _ _ _ _
      | exact ih1 _ _ _ _ _ _ _ _ _ _ _
      | exact ih2 _ _ _ _ _ _ _ _ _ _ _ _ _ _
      | exact ih3 _ _ _ _ _ _ _ _ _ _
      | exact impl_AreArcs.mono _ _
      | exact impl_closureOf.mono _ _ _
      | exact LeO.none _
      | refine LeO.ite ?_ ?_
      | refine LeO.bind ?_ (fun _ => ?_)
theorem impl_ReducedArcs.mono : ∀ a0 k, LeO (impl_ReducedArcs.f k a0) (impl_ReducedArcs.f (k + 1) a0) := by
  intro a0 k
  obtain ⟨ih0, ih1, ih2, ih3⟩ := impl_ReducedArcs.mono_l k
  unfold impl_ReducedArcs.f
  repeat' first
      | (with_reducible exact ih0 _ _ _ _ _)
      | (with_reducible exact ih1 _ _ _ _ _ _ _ _ _ _ _)
      | (with_reducible exact ih2 _ _ _ _ _ _ _ _ _ _ _ _ _ _)
      | (with_reducible exact ih3 _ _ _ _ _ _ _ _ _ _)
      | (with_reducible exact impl_AreArcs.mono _ _)
      | (with_reducible exact impl_closureOf.mono _ _ _)
      | (with_reducible exact LeO.refl _)
      | (with_reducible exact LeO.none _)
      | (with_reducible refine LeO.ite ?_ ?_)
      | (with_reducible refine LeO.bind ?_ (fun _ => ?_))
      | exact ih0 _ _ _ _ _
      | exact ih1 _ _ _ _ _ _ _ _ _ _ _
      | exact ih2 _ _ _ _ _ _ _ _ _ _ _ _ _ _
      | exact ih3 _ _ _ _ _ _ _ _ _ _
      | exact impl_AreArcs.mono _ _
      | exact impl_closureOf.mono _ _ _
      | exact LeO.none _
      | refine LeO.ite ?_ ?_
      | refine LeO.bind ?_ (fun _ => ?_)
set_option maxHeartbeats 8000000 in
set_option maxRecDepth 100000 in
theorem impl_ReducedArcs.calls (k : Nat) (A0 : Option Addr) (c0 : Nat) (l0 : List (List Int)) (r1 : List (List Int)) (r2 : Bool) (w : World) (hr0 : Kd.C (Kd.slice 3 (Kd.int .i64)) w A0 l0.length l0) (hc0 : l0.length ≤ c0) (h : impl_ReducedArcs.f k l0 = some (r1, r2)) :
    Calls Try.prog 40 #[.slice A0 l0.length c0] w fun e w' => ∃ v0_ : Value, e = .returned (.tuple #[v0_, .bool r2]) ∧ Kd.S (Kd.slice 3 (Kd.int .i64)) 24 w' w.heap.size (fun _ => True) v0_ r1 ∧ Below w.heap.size w w' := by
  have HR0 := Aside0.mk hr0
  have HC0 := Aside0.mk hc0
  clear hr0 hc0
  have HB := Aside0.mk (Below.refl w.heap.size w)
  have H : ((impl_AreArcs.f k l0).bind fun t185 => (if t185 = true then (if 0 ≤ (l0.length : Int) then (if ((l0.length : Int) : Int).toNat ≤ 11728124029610 then (impl_ReducedArcs.l0 k l0 (List.replicate ((l0.length : Int) : Int).toNat []) l0 (l0.length : Int) 0) else (none)) else (none)) else (some (([] : List (List Int)), false)))) = some (r1, r2) := h
  clear h
  replace H := Option.bind_eq_some_iff.mp H
  obtain ⟨t185, A20, H⟩ := H
  replace H : (if t185 = true then (if 0 ≤ (l0.length : Int) then (if ((l0.length : Int) : Int).toNat ≤ 11728124029610 then (impl_ReducedArcs.l0 k l0 (List.replicate ((l0.length : Int) : Int).toNat []) l0 (l0.length : Int) 0) else (none)) else (none)) else (some (([] : List (List Int)), false))) = some (r1, r2) := H
  have A2 := Aside0.mk A20
  clear A20
  by_cases c3 : t185 = true
  · subst c3
    have H1 : (if 0 ≤ (l0.length : Int) then (if ((l0.length : Int) : Int).toNat ≤ 11728124029610 then (impl_ReducedArcs.l0 k l0 (List.replicate ((l0.length : Int) : Int).toNat []) l0 (l0.length : Int) 0) else (none)) else (none)) = some (r1, r2) := by rw [if_pos rfl] at H; exact H
    clear H
    have H := H1
    clear H1
    by_cases c4 : 0 ≤ (l0.length : Int)
    · rw [if_pos c4] at H
      have c4b0 := eq_true c4
      have c4b1 : decide (0 ≤ (l0.length : Int)) = true := decide_eq_true c4
      clear c4
      by_cases c5 : ((l0.length : Int) : Int).toNat ≤ 11728124029610
      · rw [if_pos c5] at H
        have c5b0 := eq_true c5
        have c5b1 : decide (((l0.length : Int) : Int).toNat ≤ 11728124029610) = true := decide_eq_true c5
        clear c5
        obtain ⟨y186, hy186⟩ : ∃ y_ : List (List Int), y_ = (List.replicate ((l0.length : Int) : Int).toNat []) := ⟨_, rfl⟩
        replace H : (impl_ReducedArcs.l0 k l0 y186 l0 (l0.length : Int) 0) = some (r1, r2) := by first | (rw [hy186]; with_reducible exact H) | (have H2_ := (Option.bind_some _ _).symm.trans H; rw [hy186]; with_reducible exact H2_) | (have H2_ := (Option.bind_some _ _).symm.trans H; with_reducible exact H2_) | with_reducible exact H | (rw [hy186]; exact H) | exact H
        have Ny186 := Aside0.mk hy186
        clear hy186
        have H' := Aside0.mk H
        clear H
        go_enter Try.func40, Try.ntmps40
        go_wp2_with (first | ((with_reducible refine gate_callee (f := 56) rfl ?_); refine goesL_ (some 15) rfl rfl Try.func56 (by kernel_rfl) rfl #[.slice A0 l0.length c0] rfl (by (try simp only [List.map_toArray, List.map_cons, List.map_nil]); first | done | rfl | (simp only [List.length_drop, List.length_take]; rfl)) ?_; (with_reducible refine (impl_AreArcs.calls k _ _ l0 true _ ?side1 ?side2 A2.out).mono ?_); (case side1 => repeat (first | exact HR0.out | (with_reducible refine Kd.C_alloc ?_ _) | (with_reducible refine Kd.C_drewN ?_ _) | (with_reducible refine Kd.C_drew ?_))); (case side2 => exact HC0.out); rintro e w' ⟨rfl, ⟨nd, rfl⟩⟩; refine ⟨_, rfl, ?_⟩) | ((with_reducible refine gate_dst (N := 19) rfl ?_); refine Kd.S_make (Kd.slice 3 (Kd.int .i64)) _ 24 rfl (N := 19) rfl 22 _ _ rfl (l0.length : Int) rfl rfl Try.underlying22 (.slice none 0 0) 24 info24 rfl (by decide) (by omega) [] (ok := fun _ => True) (okp := fun _ => True) ⟨_, rfl, Kd.R_nil _ _ _ _ _⟩ (fun _ hk => hk) trivial (of_decide_eq_true (by first | (with_reducible assumption) | assumption)) (Nat.le_trans (Nat.mul_le_mul_right _ (of_decide_eq_true (by first | (with_reducible assumption) | assumption) : (l0.length : Int).toNat ≤ 11728124029610)) (by omega)) (Below.refl _ _) (Nat.le_refl _) ?_; intro v187 w6 ho7 hb hg_ hnew_; clear hg_ hnew_; (first | rw [← Ny186.out] at ho7 | (simp only [Int.reduceToNat] at ho7; rw [← Ny186.out] at ho7)); have n0_ := Aside0.mk (Kd.S_lower ho7 (below_size (by repeat (first | (with_reducible first | exact HB.out | apply below_alloc | apply pw_below_drewN | apply below_drew1) | exact HB.out)))); have n1_ := Aside0.mk (below_step (by repeat (first | (with_reducible first | exact HB.out | apply below_alloc | apply pw_below_drewN | apply below_drew1) | exact HB.out)) hb); clear HB; have HO188 := n0_; have HB := n1_; clear n0_ n1_; clear hb ho7))
        go_loopg [22] k (fun kq v22 w' => ∃ (x4_1 : List (List Int)) (x22_1 : Int), v22 = .int .i64 x22_1 ∧ Aside0 (impl_ReducedArcs.l0 kq l0 x4_1 l0 (l0.length : Int) x22_1 = some (r1, r2)) ∧ Aside0 (kq ≤ k) ∧ Aside0 (Kd.S (Kd.slice 3 (Kd.int .i64)) 24 w' w.heap.size (fun _ => True) v187 x4_1) ∧ Aside0 (Below w.heap.size w w'))
        case atStart => exact ⟨(y186), (0), (by first | rfl | (simp; done) | (simp [*]; done)), H', ⟨Nat.le_refl _⟩, ⟨by (with_reducible repeat (first | apply Kd.S_alloc | apply Kd.S_drewN | apply Kd.S_drew)); exact HO188.out⟩, ⟨by repeat (first | (with_reducible first | exact HB.out | apply below_alloc | apply pw_below_drewN | apply below_drew1) | exact HB.out)⟩⟩
        case round =>
          clear H'
          try clear p2
          try clear c3
          try clear c4
          try clear c4b0
          try clear c4b1
          try clear c5
          try clear c5b0
          try clear c5b1
          obtain ⟨x4_1, x22_1, rfl, HA, HK1, HO_4, HB⟩ := hrel
          cases gk with
          | zero => exact absurd HA.out (by simp [impl_ReducedArcs.l0])
          | succ k1 =>
            have H := HA.out
            clear HA
            simp only [impl_ReducedArcs.l0] at H
            by_cases c8 : x22_1 < (l0.length : Int)
            · rw [if_pos c8] at H
              have c8b0 : decide (x22_1 < (l0.length : Int)) = true := decide_eq_true c8
              clear c8
              by_cases c9 : 0 ≤ x22_1
              · rw [if_pos c9] at H
                have c9b0 : decide (0 ≤ x22_1) = true := decide_eq_true c9
                clear c9
                by_cases c10 : x22_1 < (l0.length : Int)
                · rw [if_pos c10] at H
                  have c10b0 : decide (x22_1 < (l0.length : Int)) = true := decide_eq_true c10
                  clear c10
                  by_cases c11 : 0 ≤ (l0.length : Int)
                  · rw [if_pos c11] at H
                    have c11b0 := eq_true c11
                    have c11b1 : decide (0 ≤ (l0.length : Int)) = true := decide_eq_true c11
                    clear c11
                    by_cases c12 : ((l0.length : Int) : Int).toNat ≤ 281474976710656
                    · rw [if_pos c12] at H
                      have c12b0 := eq_true c12
                      have c12b1 : decide (((l0.length : Int) : Int).toNat ≤ 281474976710656) = true := decide_eq_true c12
                      clear c12
                      obtain ⟨y190, hy190⟩ : ∃ y_ : List Bool, y_ = (List.replicate ((l0.length : Int) : Int).toNat false) := ⟨_, rfl⟩
                      replace H : (impl_ReducedArcs.l1 k1 l0 x4_1 x22_1 (rd_L1 l0 x22_1) y190 l0 (l0.length : Int) x22_1 (rd_L1 l0 x22_1) ((rd_L1 l0 x22_1).length : Int) 0) = some (r1, r2) := by first | (rw [hy190]; with_reducible exact H) | (have H2_ := (Option.bind_some _ _).symm.trans H; rw [hy190]; with_reducible exact H2_) | (have H2_ := (Option.bind_some _ _).symm.trans H; with_reducible exact H2_) | with_reducible exact H | (rw [hy190]; exact H) | exact H
                      have Ny190 := Aside0.mk hy190
                      clear hy190
                      have H' := Aside0.mk H
                      clear H
                      have p189 : 0 ≤ (x22_1 : Int) := of_decide_eq_true (by first | (with_reducible assumption) | assumption)
                      have q189 : x22_1 < (l0.length : Int) := of_decide_eq_true (by first | (with_reducible assumption) | assumption)
                      obtain ⟨ad189, A189_0, c189_0, e189, hx189_0, hl189_0, hi189_0⟩ := at_L1 HR0.out x22_1 p189 q189
                      cases e189
                      replace hx189_0 := (HB.out.cell (World.block_lt_of_cell? w _ hx189_0)).trans hx189_0
                      have HR189_0 := Aside0.mk hi189_0
                      have HC189_0 := Aside0.mk hl189_0
                      clear hi189_0 hl189_0
                      replace p189 := eq_true p189
                      replace q189 := eq_true q189
                      go_wp2_with (first | ((with_reducible refine gate_dst (N := 29) rfl ?_); refine Kd.R_make Kd.bool _ 4 rfl (N := 29) rfl 54 _ _ rfl (l0.length : Int) rfl rfl Try.underlying54 (.bool false) 1 info4 rfl (by decide) (by omega) false (ok := fun _ => True) (okp := fun _ => True) rfl (fun _ hk => hk) trivial (of_decide_eq_true (by first | (with_reducible assumption) | assumption)) (Nat.le_trans (Nat.mul_le_mul_right _ (of_decide_eq_true (by first | (with_reducible assumption) | assumption) : (l0.length : Int).toNat ≤ 281474976710656)) (by omega)) (Below.refl _ _) (Nat.le_refl _) ?_; intro v191 w13 ho14 hb hg_ hnew_; clear hg_ hnew_; (first | rw [← Ny190.out] at ho14 | (simp only [Int.reduceToNat] at ho14; rw [← Ny190.out] at ho14)); have n0_ := Aside0.mk (Kd.S_below (by (with_reducible repeat (first | apply Kd.S_alloc | apply Kd.S_drewN | apply Kd.S_drew)); exact HO_4.out) hb); have n1_ := Aside0.mk (Kd.R_lower ho14 (below_size (by repeat (first | (with_reducible first | exact HB.out | apply below_alloc | apply pw_below_drewN | apply below_drew1) | exact HB.out)))); have n2_ := Aside0.mk (below_step (by repeat (first | (with_reducible first | exact HB.out | apply below_alloc | apply pw_below_drewN | apply below_drew1) | exact HB.out)) hb); clear HO_4; clear HB; have HO_4 := n0_; have HO192 := n1_; have HB := n2_; clear n0_ n1_ n2_; clear hb ho14))
                      go_loopg [32] k1 (fun kq v32 w' => ∃ (x7_2 : List Bool) (x32_2 : Int), v32 = .int .i64 x32_2 ∧ Aside0 (impl_ReducedArcs.l1 kq l0 x4_1 x22_1 (rd_L1 l0 x22_1) x7_2 l0 (l0.length : Int) x22_1 (rd_L1 l0 x22_1) ((rd_L1 l0 x22_1).length : Int) x32_2 = some (r1, r2)) ∧ Aside0 (kq ≤ k1) ∧ Aside0 (Kd.S (Kd.slice 3 (Kd.int .i64)) 24 w' w.heap.size (fun _ => True) v187 x4_1) ∧ Aside0 (Kd.R Kd.bool 4 w' w.heap.size (fun _ => True) v191 x7_2) ∧ Aside0 (Below w.heap.size w w'))
                      case atStart => exact ⟨(y190), (0), (by first | rfl | (simp; done) | (simp [*]; done)), H', ⟨Nat.le_refl _⟩, ⟨by (with_reducible repeat (first | apply Kd.S_alloc | apply Kd.S_drewN | apply Kd.S_drew)); exact HO_4.out⟩, ⟨by (with_reducible repeat (first | apply Kd.R_alloc | apply Kd.R_drewN | apply Kd.R_drew)); exact HO192.out⟩, ⟨by repeat (first | (with_reducible first | exact HB.out | apply below_alloc | apply pw_below_drewN | apply below_drew1) | exact HB.out)⟩⟩
                      case round =>
                        clear H'
                        try clear c1
                        try clear p1
                        try clear q1
                        try clear hx1
                        try clear p2
                        try clear c3
                        try clear c4
                        try clear c4b0
                        try clear c4b1
                        try clear c5
                        try clear c5b0
                        try clear c5b1
                        try clear c8
                        try clear c8b0
                        try clear c9
                        try clear c9b0
                        try clear c10
                        try clear c10b0
                        try clear c11
                        try clear c11b0
                        try clear c11b1
                        try clear c12
                        try clear c12b0
                        try clear c12b1
                        try clear hx189_0
                        try clear p189
                        try clear p2
                        try clear q189
                        obtain ⟨x7_2, x32_2, rfl, HA, HK2, HO_4, HO_7, HB⟩ := hrel
                        cases gk with
                        | zero => exact absurd HA.out (by simp [impl_ReducedArcs.l1])
                        | succ k2 =>
                          have H := HA.out
                          clear HA
                          simp only [impl_ReducedArcs.l1] at H
                          by_cases c15 : x32_2 < ((rd_L1 l0 x22_1).length : Int)
                          · rw [if_pos c15] at H
                            have c15b0 : decide (x32_2 < ((rd_L1 l0 x22_1).length : Int)) = true := decide_eq_true c15
                            clear c15
                            by_cases c16 : 0 ≤ x32_2
                            · rw [if_pos c16] at H
                              have c16b0 : decide (0 ≤ x32_2) = true := decide_eq_true c16
                              clear c16
                              by_cases c17 : x32_2 < ((rd_L1 l0 x22_1).length : Int)
                              · rw [if_pos c17] at H
                                have c17b0 : decide (x32_2 < ((rd_L1 l0 x22_1).length : Int)) = true := decide_eq_true c17
                                clear c17
                                by_cases c18 : 0 ≤ (rd (rd_L1 l0 x22_1) x32_2)
                                · rw [if_pos c18] at H
                                  have c18b0 : decide (0 ≤ (rd (rd_L1 l0 x22_1) x32_2)) = true := decide_eq_true c18
                                  clear c18
                                  by_cases c19 : (rd (rd_L1 l0 x22_1) x32_2) < (l0.length : Int)
                                  · rw [if_pos c19] at H
                                    have c19b0 : decide ((rd (rd_L1 l0 x22_1) x32_2) < (l0.length : Int)) = true := decide_eq_true c19
                                    clear c19
                                    replace H := Option.bind_eq_some_iff.mp H
                                    obtain ⟨t195, A200, H⟩ := H
                                    replace H : (impl_ReducedArcs.l2 k2 l0 x4_1 x22_1 (rd_L1 l0 x22_1) x7_2 l0 (l0.length : Int) x22_1 (rd_L1 l0 x22_1) ((rd_L1 l0 x22_1).length : Int) x32_2 t195 (t195.length : Int) 0) = some (r1, r2) := H
                                    have A20 := Aside0.mk A200
                                    clear A200
                                    have H' := Aside0.mk H
                                    clear H
                                    have p193 : 0 ≤ (x32_2 : Int) := of_decide_eq_true (by first | (with_reducible assumption) | assumption)
                                    have q193 : x32_2 < ((rd_L1 l0 x22_1).length : Int) := of_decide_eq_true (by first | (with_reducible assumption) | assumption)
                                    obtain ⟨ad193, e193, hx193_0⟩ := Kd.at_int HR189_0.out x32_2 p193 q193
                                    cases e193
                                    replace hx193_0 := (HB.out.cell (World.block_lt_of_cell? w _ hx193_0)).trans hx193_0
                                    replace p193 := eq_true p193
                                    replace q193 := eq_true q193
                                    have p194 : 0 ≤ ((rd (rd_L1 l0 x22_1) x32_2) : Int) := of_decide_eq_true (by first | (with_reducible assumption) | assumption)
                                    have q194 : (rd (rd_L1 l0 x22_1) x32_2) < (l0.length : Int) := of_decide_eq_true (by first | (with_reducible assumption) | assumption)
                                    obtain ⟨ad194, A194_0, c194_0, e194, hx194_0, hl194_0, hi194_0⟩ := at_L1 HR0.out (rd (rd_L1 l0 x22_1) x32_2) p194 q194
                                    obtain rfl : ad189 = ad194 := (by injection e194)
                                    replace hx194_0 := (HB.out.cell (World.block_lt_of_cell? w _ hx194_0)).trans hx194_0
                                    have HR194_0 := Aside0.mk hi194_0
                                    have HC194_0 := Aside0.mk hl194_0
                                    clear hi194_0 hl194_0
                                    replace p194 := eq_true p194
                                    replace q194 := eq_true q194
                                    go_wp2_with (first | ((with_reducible refine gate_callee (f := 58) rfl ?_); refine goesL_ (some 41) rfl rfl Try.func58 (by kernel_rfl) rfl #[.slice (some ad189) l0.length c0, .slice A194_0 (rd_L1 l0 (rd (rd_L1 l0 x22_1) x32_2)).length c194_0] rfl (by (try simp only [List.map_toArray, List.map_cons, List.map_nil]); first | done | rfl | (simp only [List.length_drop, List.length_take]; rfl)) ?_; (with_reducible refine (impl_closureOf.calls k2 _ _ l0 _ _ (rd_L1 l0 (rd (rd_L1 l0 x22_1) x32_2)) t195 _ ?side1 ?side2 ?side3 ?side4 A20.out).mono ?_); (case side1 => repeat (first | exact (Kd.C_below HR0.out HB.out) | (with_reducible refine Kd.C_alloc ?_ _) | (with_reducible refine Kd.C_drewN ?_ _) | (with_reducible refine Kd.C_drew ?_))); (case side2 => exact HC0.out); (case side3 => repeat (first | exact (Kd.C_below HR194_0.out HB.out) | (with_reducible refine Kd.C_alloc ?_ _) | (with_reducible refine Kd.C_drewN ?_ _) | (with_reducible refine Kd.C_drew ?_))); (case side4 => exact HC194_0.out); rintro e w21 ⟨v196, rfl, ho0, hb⟩; refine ⟨_, rfl, ?_⟩; have n0_ := Aside0.mk (Kd.S_below (by (with_reducible repeat (first | apply Kd.S_alloc | apply Kd.S_drewN | apply Kd.S_drew)); exact HO_4.out) hb); have n1_ := Aside0.mk (Kd.R_elder' (by (with_reducible repeat (first | apply Kd.R_alloc | apply Kd.R_drewN | apply Kd.R_drew)); exact HO_7.out) (Kd.R_base ho0) hb); have n2_ := Aside0.mk (Kd.R_lower (Kd.R_new' ho0 (Kd.R_lt (by (with_reducible repeat (first | apply Kd.R_alloc | apply Kd.R_drewN | apply Kd.R_drew)); exact HO_7.out))) (below_size (by repeat (first | (with_reducible first | exact HB.out | apply below_alloc | apply pw_below_drewN | apply below_drew1) | exact HB.out)))); have n3_ := Aside0.mk (below_step (by repeat (first | (with_reducible first | exact HB.out | apply below_alloc | apply pw_below_drewN | apply below_drew1) | exact HB.out)) hb); clear HO_4; clear HO_7; clear HB; have HO_4 := n0_; have HO_7 := n1_; have HO197 := n2_; have HB := n3_; clear n0_ n1_ n2_ n3_; (try clear hb); (try clear hb2); (try clear hk); (try clear hi); (try clear ho0); obtain ⟨Ao22, co22, eo22⟩ := Kd.R_slice HO197.out; subst eo22))
                                    go_loopg [43] k2 (fun kq v43 w' => ∃ (x7_3 : List Bool) (x43_3 : Int), v43 = .int .i64 x43_3 ∧ Aside0 (impl_ReducedArcs.l2 kq l0 x4_1 x22_1 (rd_L1 l0 x22_1) x7_3 l0 (l0.length : Int) x22_1 (rd_L1 l0 x22_1) ((rd_L1 l0 x22_1).length : Int) x32_2 t195 (t195.length : Int) x43_3 = some (r1, r2)) ∧ Aside0 (kq ≤ k2) ∧ Aside0 (Kd.S (Kd.slice 3 (Kd.int .i64)) 24 w' w.heap.size (fun _ => True) v187 x4_1) ∧ Aside0 (Kd.R Kd.bool 4 w' w.heap.size (fun k_ => some k_ ≠ ((.slice Ao22 t195.length co22) : Value).ownBlock) v191 x7_3) ∧ Aside0 (Kd.R Kd.bool 4 w' w.heap.size (fun k_ => some k_ ≠ (v191 : Value).ownBlock) (.slice Ao22 t195.length co22) t195) ∧ Aside0 (Below w.heap.size w w'))
                                    case atStart => exact ⟨(x7_2), (0), (by first | rfl | (simp; done) | (simp [*]; done)), H', ⟨Nat.le_refl _⟩, ⟨by (with_reducible repeat (first | apply Kd.S_alloc | apply Kd.S_drewN | apply Kd.S_drew)); exact HO_4.out⟩, ⟨by (with_reducible repeat (first | apply Kd.R_alloc | apply Kd.R_drewN | apply Kd.R_drew)); exact Kd.R_mono HO_7.out (fun _ hk => hk.2)⟩, ⟨by (with_reducible repeat (first | apply Kd.R_alloc | apply Kd.R_drewN | apply Kd.R_drew)); exact Kd.R_mono HO197.out (fun _ hk => hk.2)⟩, ⟨by repeat (first | (with_reducible first | exact HB.out | apply below_alloc | apply pw_below_drewN | apply below_drew1) | exact HB.out)⟩⟩
                                    case round =>
                                      clear H'
                                      try clear c1
                                      try clear p1
                                      try clear q1
                                      try clear hx1
                                      try clear p2
                                      try clear c3
                                      try clear c4
                                      try clear c4b0
                                      try clear c4b1
                                      try clear c5
                                      try clear c5b0
                                      try clear c5b1
                                      try clear c8
                                      try clear c8b0
                                      try clear c9
                                      try clear c9b0
                                      try clear c10
                                      try clear c10b0
                                      try clear c11
                                      try clear c11b0
                                      try clear c11b1
                                      try clear c12
                                      try clear c12b0
                                      try clear c12b1
                                      try clear c15
                                      try clear c15b0
                                      try clear c16
                                      try clear c16b0
                                      try clear c17
                                      try clear c17b0
                                      try clear c18
                                      try clear c18b0
                                      try clear p18
                                      try clear q18
                                      try clear hx18
                                      try clear c19
                                      try clear c19b0
                                      try clear p19
                                      try clear q19
                                      try clear hx19
                                      try clear hx189_0
                                      try clear hx193_0
                                      try clear hx194_0
                                      try clear p1
                                      try clear p189
                                      try clear p193
                                      try clear p194
                                      try clear p2
                                      try clear q1
                                      try clear q189
                                      try clear q193
                                      try clear q194
                                      obtain ⟨x7_3, x43_3, rfl, HA, HK3, HO_4, HO_7, HO_41, HB⟩ := hrel
                                      cases gk with
                                      | zero => exact absurd HA.out (by simp [impl_ReducedArcs.l2])
                                      | succ k3 =>
                                        have H := HA.out
                                        clear HA
                                        simp only [impl_ReducedArcs.l2] at H
                                        by_cases c23 : x43_3 < (t195.length : Int)
                                        · rw [if_pos c23] at H
                                          have c23b0 : decide (x43_3 < (t195.length : Int)) = true := decide_eq_true c23
                                          clear c23
                                          by_cases c24 : 0 ≤ x43_3
                                          · rw [if_pos c24] at H
                                            have c24b0 : decide (0 ≤ x43_3) = true := decide_eq_true c24
                                            clear c24
                                            by_cases c25 : x43_3 < (t195.length : Int)
                                            · rw [if_pos c25] at H
                                              have c25b0 : decide (x43_3 < (t195.length : Int)) = true := decide_eq_true c25
                                              clear c25
                                              by_cases c26 : x43_3 < (x7_3.length : Int)
                                              · rw [if_pos c26] at H
                                                have c26b0 : decide (x43_3 < (x7_3.length : Int)) = true := decide_eq_true c26
                                                clear c26
                                                obtain ⟨bq27, hbq27⟩ : ∃ b_ : Bool, b_ = (rdOf false x7_3 x43_3) := ⟨_, rfl⟩
                                                replace H : (if bq27 = true then (impl_ReducedArcs.l2 k3 l0 x4_1 x22_1 (rd_L1 l0 x22_1) (x7_3.set (x43_3 : Int).toNat true) l0 (l0.length : Int) x22_1 (rd_L1 l0 x22_1) ((rd_L1 l0 x22_1).length : Int) x32_2 t195 (t195.length : Int) (wrap64 (x43_3 + 1))) else (impl_ReducedArcs.l2 k3 l0 x4_1 x22_1 (rd_L1 l0 x22_1) (x7_3.set (x43_3 : Int).toNat (rdOf false t195 x43_3)) l0 (l0.length : Int) x22_1 (rd_L1 l0 x22_1) ((rd_L1 l0 x22_1).length : Int) x32_2 t195 (t195.length : Int) (wrap64 (x43_3 + 1)))) = some (r1, r2) := by rw [← hbq27] at H; exact H
                                                have Nbq27 := Aside0.mk hbq27
                                                clear hbq27
                                                by_cases c28 : bq27 = true
                                                · subst c28
                                                  have H1 : (impl_ReducedArcs.l2 k3 l0 x4_1 x22_1 (rd_L1 l0 x22_1) (x7_3.set (x43_3 : Int).toNat true) l0 (l0.length : Int) x22_1 (rd_L1 l0 x22_1) ((rd_L1 l0 x22_1).length : Int) x32_2 t195 (t195.length : Int) (wrap64 (x43_3 + 1))) = some (r1, r2) := by rw [if_pos rfl] at H; exact H
                                                  clear H
                                                  have H := H1
                                                  clear H1
                                                  obtain ⟨y200, hy200⟩ : ∃ y_ : List Bool, y_ = (x7_3.set (x43_3 : Int).toNat true) := ⟨_, rfl⟩
                                                  replace H : (impl_ReducedArcs.l2 k3 l0 x4_1 x22_1 (rd_L1 l0 x22_1) y200 l0 (l0.length : Int) x22_1 (rd_L1 l0 x22_1) ((rd_L1 l0 x22_1).length : Int) x32_2 t195 (t195.length : Int) (wrap64 (x43_3 + 1))) = some (r1, r2) := by first | (rw [hy200]; with_reducible exact H) | (have H2_ := (Option.bind_some _ _).symm.trans H; rw [hy200]; with_reducible exact H2_) | (have H2_ := (Option.bind_some _ _).symm.trans H; with_reducible exact H2_) | with_reducible exact H | (rw [hy200]; exact H) | exact H
                                                  have Ny200 := Aside0.mk hy200
                                                  clear hy200
                                                  have H' := Aside0.mk H
                                                  clear H
                                                  have p198 : 0 ≤ (x43_3 : Int) := of_decide_eq_true (by first | (with_reducible assumption) | assumption)
                                                  have q198 : x43_3 < (t195.length : Int) := of_decide_eq_true (by first | (with_reducible assumption) | assumption)
                                                  obtain ⟨ad198, e198, hx198_0⟩ := Kd.at_bool (Kd.R_reads' HO_41.out).2.2 x43_3 p198 q198
                                                  (try rw [← Nbq27.out] at hx198_0)
                                                  cases e198
                                                  replace p198 := eq_true p198
                                                  replace q198 := eq_true q198
                                                  obtain ⟨Ao30, co30, eo30⟩ := Kd.R_slice HO_7.out
                                                  subst eo30
                                                  have p199 : 0 ≤ (x43_3 : Int) := of_decide_eq_true (by first | (with_reducible assumption) | assumption)
                                                  have q199 : x43_3 < (x7_3.length : Int) := of_decide_eq_true (by first | (with_reducible assumption) | assumption)
                                                  obtain ⟨ad199, e199, hx199_0⟩ := Kd.at_bool (Kd.R_reads' HO_7.out).2.2 x43_3 p199 q199
                                                  (try rw [← Nbq27.out] at hx199_0)
                                                  cases e199
                                                  replace p199 := eq_true p199
                                                  replace q199 := eq_true q199
                                                  have p29 : 0 ≤ (x43_3 : Int) := of_decide_eq_true (by first | (with_reducible assumption) | assumption)
                                                  have q29 : (x43_3 : Int) < ((x7_3.length : Int) : Int) := of_decide_eq_true (by first | (with_reducible assumption) | assumption)
                                                  obtain ⟨go29, co29, eo29, gb29, gl29, cl29, HG29⟩ := Kd.R_form HO_7.out (by omega)
                                                  (first | cases eo29 | (injection eo29 with ea_ en_ ec_; (first | subst ea_ | (injection ea_ with ea_; subst ea_)); subst ec_; clear en_))
                                                  have GB29 := Aside0.mk gb29
                                                  have GG29 := Aside0.mk HG29
                                                  clear gb29 gl29 HG29
                                                  (first | simp only [add_plain] at hx199_0 | skip)
                                                  obtain ⟨hx29_0, hf29_0⟩ := Kd.R_celln false HO_7.out (x43_3 : Int) p29 q29
                                                  replace p29 := eq_true p29
                                                  replace q29 := eq_true q29
                                                  have HP31 := Kd.R_putg HO_7.out (x43_3 : Int) true
                                                  go_wp2_with (first | ((with_reducible refine gate_store (t := 4) (p := 57) rfl ?_); refine store_event (t := 4) (p := 57) (v := ?vo_w32) (w1 := (wr.setCell ⟨go29, (x43_3 : Int).toNat, none⟩ (.bool true))) ?hg ?ho ?hn ?hr ?_; (case ho => rfl); (case hg => rfl); (case hn => rfl); (case hr => first | (go_simp; done) | (go_simp; rfl)); intro w32 hw; have hg : wr.grownBy w32 (some go29) := (by rw [hw]; exact HP31.2); have hp_ : Kd.R Kd.bool 4 w32 w.heap.size (fun k_ => some k_ ≠ (.slice (some ad198) t195.length co22 : Value).ownBlock) (.slice (some ⟨go29, 0, none⟩) x7_3.length co30) y200 := (by rw [hw, Ny200.out]; exact HP31.1); clear HP31; have n0_ := Aside0.mk (Kd.S_over' (v := (.slice (some ⟨go29, 0, none⟩) x7_3.length co30)) (by (with_reducible repeat (first | apply Kd.S_alloc | apply Kd.S_drewN | apply Kd.S_drew)); exact HO_4.out) (Kd.R_typed HO_7.out) (by decide) hg); have n1_ := Aside0.mk (hp_); have n2_ := Aside0.mk (Kd.R_after (v := (.slice (some ⟨go29, 0, none⟩) x7_3.length co30)) (v1 := (.slice (some ⟨go29, 0, none⟩) x7_3.length co30)) (ok := (fun _ => True)) (by (with_reducible repeat (first | apply Kd.R_alloc | apply Kd.R_drewN | apply Kd.R_drew)); exact Kd.R_mono HO_41.out (fun _ hk => ⟨trivial, hk⟩)) hg (.inl rfl)); have n3_ := Aside0.mk ((by rw [hw]; exact below_set (HB.out) GB29.out : Below w.heap.size w w32)); clear HO_4; clear HO_7; clear HO_41; clear HB; have HO_4 := n0_; have HO_7 := n1_; have HO_41 := n2_; have HB := n3_; clear n0_ n1_ n2_ n3_; clear hg hw hp_))
                                                  go_roundg k3
                                                  case measure => have := HK1.out; have := HK2.out; have := HK3.out; omega
                                                  case rel => exact ⟨(y200), (wrap64 (x43_3 + 1)), (by first | rfl | (simp; done) | (simp [*]; done)), H', ⟨by have := HK1.out; have := HK2.out; have := HK3.out; omega⟩, ⟨by (with_reducible repeat (first | apply Kd.S_alloc | apply Kd.S_drewN | apply Kd.S_drew)); exact HO_4.out⟩, ⟨by (with_reducible repeat (first | apply Kd.R_alloc | apply Kd.R_drewN | apply Kd.R_drew)); exact HO_7.out⟩, ⟨by (with_reducible repeat (first | apply Kd.R_alloc | apply Kd.R_drewN | apply Kd.R_drew)); exact Kd.R_mono HO_41.out (fun _ hk => hk.2)⟩, ⟨by repeat (first | (with_reducible first | exact HB.out | apply below_alloc | apply pw_below_drewN | apply below_drew1) | exact HB.out)⟩⟩
                                                · replace c28 := Bool.eq_false_iff.mpr c28
                                                  subst c28
                                                  have H1 : (impl_ReducedArcs.l2 k3 l0 x4_1 x22_1 (rd_L1 l0 x22_1) (x7_3.set (x43_3 : Int).toNat (rdOf false t195 x43_3)) l0 (l0.length : Int) x22_1 (rd_L1 l0 x22_1) ((rd_L1 l0 x22_1).length : Int) x32_2 t195 (t195.length : Int) (wrap64 (x43_3 + 1))) = some (r1, r2) := by rw [if_neg (show ¬ (false = true) by decide)] at H; exact H
                                                  clear H
                                                  have H := H1
                                                  clear H1
                                                  obtain ⟨y201, hy201⟩ : ∃ y_ : List Bool, y_ = (x7_3.set (x43_3 : Int).toNat (rdOf false t195 x43_3)) := ⟨_, rfl⟩
                                                  replace H : (impl_ReducedArcs.l2 k3 l0 x4_1 x22_1 (rd_L1 l0 x22_1) y201 l0 (l0.length : Int) x22_1 (rd_L1 l0 x22_1) ((rd_L1 l0 x22_1).length : Int) x32_2 t195 (t195.length : Int) (wrap64 (x43_3 + 1))) = some (r1, r2) := by first | (rw [hy201]; with_reducible exact H) | (have H2_ := (Option.bind_some _ _).symm.trans H; rw [hy201]; with_reducible exact H2_) | (have H2_ := (Option.bind_some _ _).symm.trans H; with_reducible exact H2_) | with_reducible exact H | (rw [hy201]; exact H) | exact H
                                                  have Ny201 := Aside0.mk hy201
                                                  clear hy201
                                                  have H' := Aside0.mk H
                                                  clear H
                                                  have p198 : 0 ≤ (x43_3 : Int) := of_decide_eq_true (by first | (with_reducible assumption) | assumption)
                                                  have q198 : x43_3 < (t195.length : Int) := of_decide_eq_true (by first | (with_reducible assumption) | assumption)
                                                  obtain ⟨ad198, e198, hx198_0⟩ := Kd.at_bool (Kd.R_reads' HO_41.out).2.2 x43_3 p198 q198
                                                  (try rw [← Nbq27.out] at hx198_0)
                                                  cases e198
                                                  replace p198 := eq_true p198
                                                  replace q198 := eq_true q198
                                                  obtain ⟨Ao34, co34, eo34⟩ := Kd.R_slice HO_7.out
                                                  subst eo34
                                                  have p199 : 0 ≤ (x43_3 : Int) := of_decide_eq_true (by first | (with_reducible assumption) | assumption)
                                                  have q199 : x43_3 < (x7_3.length : Int) := of_decide_eq_true (by first | (with_reducible assumption) | assumption)
                                                  obtain ⟨ad199, e199, hx199_0⟩ := Kd.at_bool (Kd.R_reads' HO_7.out).2.2 x43_3 p199 q199
                                                  (try rw [← Nbq27.out] at hx199_0)
                                                  cases e199
                                                  replace p199 := eq_true p199
                                                  replace q199 := eq_true q199
                                                  have p33 : 0 ≤ (x43_3 : Int) := of_decide_eq_true (by first | (with_reducible assumption) | assumption)
                                                  have q33 : (x43_3 : Int) < ((x7_3.length : Int) : Int) := of_decide_eq_true (by first | (with_reducible assumption) | assumption)
                                                  obtain ⟨go33, co33, eo33, gb33, gl33, cl33, HG33⟩ := Kd.R_form HO_7.out (by omega)
                                                  (first | cases eo33 | (injection eo33 with ea_ en_ ec_; (first | subst ea_ | (injection ea_ with ea_; subst ea_)); subst ec_; clear en_))
                                                  have GB33 := Aside0.mk gb33
                                                  have GG33 := Aside0.mk HG33
                                                  clear gb33 gl33 HG33
                                                  (first | simp only [add_plain] at hx199_0 | skip)
                                                  obtain ⟨hx33_0, hf33_0⟩ := Kd.R_celln false HO_7.out (x43_3 : Int) p33 q33
                                                  replace p33 := eq_true p33
                                                  replace q33 := eq_true q33
                                                  have HP35 := Kd.R_putg HO_7.out (x43_3 : Int) (rdOf false t195 x43_3)
                                                  go_wp2_with (first | ((with_reducible refine gate_store (t := 4) (p := 57) rfl ?_); refine store_event (t := 4) (p := 57) (v := ?vo_w36) (w1 := (wr.setCell ⟨go33, (x43_3 : Int).toNat, none⟩ (.bool (rdOf false t195 x43_3)))) ?hg ?ho ?hn ?hr ?_; (case ho => rfl); (case hg => rfl); (case hn => rfl); (case hr => first | (go_simp; done) | (go_simp; rfl)); intro w36 hw; have hg : wr.grownBy w36 (some go33) := (by rw [hw]; exact HP35.2); have hp_ : Kd.R Kd.bool 4 w36 w.heap.size (fun k_ => some k_ ≠ (.slice (some ad198) t195.length co22 : Value).ownBlock) (.slice (some ⟨go33, 0, none⟩) x7_3.length co34) y201 := (by rw [hw, Ny201.out]; exact HP35.1); clear HP35; have n0_ := Aside0.mk (Kd.S_over' (v := (.slice (some ⟨go33, 0, none⟩) x7_3.length co34)) (by (with_reducible repeat (first | apply Kd.S_alloc | apply Kd.S_drewN | apply Kd.S_drew)); exact HO_4.out) (Kd.R_typed HO_7.out) (by decide) hg); have n1_ := Aside0.mk (hp_); have n2_ := Aside0.mk (Kd.R_after (v := (.slice (some ⟨go33, 0, none⟩) x7_3.length co34)) (v1 := (.slice (some ⟨go33, 0, none⟩) x7_3.length co34)) (ok := (fun _ => True)) (by (with_reducible repeat (first | apply Kd.R_alloc | apply Kd.R_drewN | apply Kd.R_drew)); exact Kd.R_mono HO_41.out (fun _ hk => ⟨trivial, hk⟩)) hg (.inl rfl)); have n3_ := Aside0.mk ((by rw [hw]; exact below_set (HB.out) GB33.out : Below w.heap.size w w36)); clear HO_4; clear HO_7; clear HO_41; clear HB; have HO_4 := n0_; have HO_7 := n1_; have HO_41 := n2_; have HB := n3_; clear n0_ n1_ n2_ n3_; clear hg hw hp_))
                                                  go_roundg k3
                                                  case measure => have := HK1.out; have := HK2.out; have := HK3.out; omega
                                                  case rel => exact ⟨(y201), (wrap64 (x43_3 + 1)), (by first | rfl | (simp; done) | (simp [*]; done)), H', ⟨by have := HK1.out; have := HK2.out; have := HK3.out; omega⟩, ⟨by (with_reducible repeat (first | apply Kd.S_alloc | apply Kd.S_drewN | apply Kd.S_drew)); exact HO_4.out⟩, ⟨by (with_reducible repeat (first | apply Kd.R_alloc | apply Kd.R_drewN | apply Kd.R_drew)); exact HO_7.out⟩, ⟨by (with_reducible repeat (first | apply Kd.R_alloc | apply Kd.R_drewN | apply Kd.R_drew)); exact Kd.R_mono HO_41.out (fun _ hk => hk.2)⟩, ⟨by repeat (first | (with_reducible first | exact HB.out | apply below_alloc | apply pw_below_drewN | apply below_drew1) | exact HB.out)⟩⟩
                                              · rw [if_neg c26] at H
                                                exact absurd H (by simp)
                                            · rw [if_neg c25] at H
                                              exact absurd H (by simp)
                                          · rw [if_neg c24] at H
                                            exact absurd H (by simp)
                                        · rw [if_neg c23] at H
                                          have c23b0 : decide (x43_3 < (t195.length : Int)) = false := decide_eq_false c23
                                          clear c23
                                          have H' := Aside0.mk H
                                          clear H
                                          go_wp2
                                          go_roundg k3
                                          case measure => have := HK1.out; have := HK2.out; have := HK3.out; omega
                                          case rel => exact ⟨(x7_3), (wrap64 (x32_2 + 1)), (by first | rfl | (simp; done) | (simp [*]; done)), H', ⟨by have := HK1.out; have := HK2.out; have := HK3.out; omega⟩, ⟨by (with_reducible repeat (first | apply Kd.S_alloc | apply Kd.S_drewN | apply Kd.S_drew)); exact HO_4.out⟩, ⟨by (with_reducible repeat (first | apply Kd.R_alloc | apply Kd.R_drewN | apply Kd.R_drew)); exact Kd.R_mono HO_7.out (fun _ hk => trivial)⟩, ⟨by repeat (first | (with_reducible first | exact HB.out | apply below_alloc | apply pw_below_drewN | apply below_drew1) | exact HB.out)⟩⟩
                                  · rw [if_neg c19] at H
                                    exact absurd H (by simp)
                                · rw [if_neg c18] at H
                                  exact absurd H (by simp)
                              · rw [if_neg c17] at H
                                exact absurd H (by simp)
                            · rw [if_neg c16] at H
                              exact absurd H (by simp)
                          · rw [if_neg c15] at H
                            have c15b0 : decide (x32_2 < ((rd_L1 l0 x22_1).length : Int)) = false := decide_eq_false c15
                            clear c15
                            have H' := Aside0.mk H
                            clear H
                            go_wp2
                            go_loopg [62] k2 (fun kq v62 w' => ∃ (x4_3 : List (List Int)) (x62_3 : Int), v62 = .int .i64 x62_3 ∧ Aside0 (impl_ReducedArcs.l3 kq l0 x4_3 x22_1 x7_2 l0 (l0.length : Int) x22_1 (rd_L1 l0 x22_1) ((rd_L1 l0 x22_1).length : Int) x62_3 = some (r1, r2)) ∧ Aside0 (kq ≤ k2) ∧ Aside0 (Kd.S (Kd.slice 3 (Kd.int .i64)) 24 w' w.heap.size (fun _ => True) v187 x4_3) ∧ Aside0 (Kd.R Kd.bool 4 w' w.heap.size (fun _ => True) v191 x7_2) ∧ Aside0 (Below w.heap.size w w'))
                            case atStart => exact ⟨(x4_1), (0), (by first | rfl | (simp; done) | (simp [*]; done)), H', ⟨Nat.le_refl _⟩, ⟨by (with_reducible repeat (first | apply Kd.S_alloc | apply Kd.S_drewN | apply Kd.S_drew)); exact HO_4.out⟩, ⟨by (with_reducible repeat (first | apply Kd.R_alloc | apply Kd.R_drewN | apply Kd.R_drew)); exact HO_7.out⟩, ⟨by repeat (first | (with_reducible first | exact HB.out | apply below_alloc | apply pw_below_drewN | apply below_drew1) | exact HB.out)⟩⟩
                            case round =>
                              clear H'
                              try clear c1
                              try clear p1
                              try clear q1
                              try clear hx1
                              try clear c2
                              try clear p2
                              try clear q2
                              try clear hx2
                              try clear hf2
                              try clear c3
                              try clear p3
                              try clear q3
                              try clear hx3
                              try clear hf3
                              try clear c4
                              try clear c4b0
                              try clear c4b1
                              try clear c5
                              try clear c5b0
                              try clear c5b1
                              try clear p6
                              try clear c8
                              try clear c8b0
                              try clear c9
                              try clear c9b0
                              try clear c10
                              try clear c10b0
                              try clear c11
                              try clear c11b0
                              try clear c11b1
                              try clear c12
                              try clear c12b0
                              try clear c12b1
                              try clear c15
                              try clear c15b0
                              try clear c16
                              try clear c16b0
                              try clear c17
                              try clear c17b0
                              try clear c18
                              try clear c18b0
                              try clear p18
                              try clear q18
                              try clear hx18
                              try clear c19
                              try clear c19b0
                              try clear p19
                              try clear q19
                              try clear hx19
                              try clear c23
                              try clear c23b0
                              try clear c24
                              try clear c24b0
                              try clear c25
                              try clear c25b0
                              try clear c26
                              try clear c26b0
                              try clear q27
                              try clear c28
                              try clear p29
                              try clear q29
                              try clear hx29
                              try clear hf29
                              try clear p33
                              try clear q33
                              try clear hx33
                              try clear hf33
                              try clear hx189_0
                              try clear hx193_0
                              try clear hx194_0
                              try clear hx198_0
                              try clear hx199_0
                              try clear hx29_0
                              try clear hx33_0
                              try clear p1
                              try clear p18
                              try clear p189
                              try clear p19
                              try clear p193
                              try clear p194
                              try clear p198
                              try clear p199
                              try clear p2
                              try clear p29
                              try clear p33
                              try clear q1
                              try clear q18
                              try clear q189
                              try clear q19
                              try clear q193
                              try clear q194
                              try clear q198
                              try clear q199
                              try clear q29
                              try clear q33
                              obtain ⟨x4_3, x62_3, rfl, HA, HK3, HO_4, HO_7, HB⟩ := hrel
                              cases gk with
                              | zero => exact absurd HA.out (by simp [impl_ReducedArcs.l3])
                              | succ k3 =>
                                have H := HA.out
                                clear HA
                                simp only [impl_ReducedArcs.l3] at H
                                by_cases c37 : x62_3 < ((rd_L1 l0 x22_1).length : Int)
                                · rw [if_pos c37] at H
                                  have c37b0 : decide (x62_3 < ((rd_L1 l0 x22_1).length : Int)) = true := decide_eq_true c37
                                  clear c37
                                  by_cases c38 : 0 ≤ x62_3
                                  · rw [if_pos c38] at H
                                    have c38b0 : decide (0 ≤ x62_3) = true := decide_eq_true c38
                                    clear c38
                                    by_cases c39 : x62_3 < ((rd_L1 l0 x22_1).length : Int)
                                    · rw [if_pos c39] at H
                                      have c39b0 : decide (x62_3 < ((rd_L1 l0 x22_1).length : Int)) = true := decide_eq_true c39
                                      clear c39
                                      by_cases c40 : 0 ≤ (rd (rd_L1 l0 x22_1) x62_3)
                                      · rw [if_pos c40] at H
                                        have c40b0 : decide (0 ≤ (rd (rd_L1 l0 x22_1) x62_3)) = true := decide_eq_true c40
                                        clear c40
                                        by_cases c41 : (rd (rd_L1 l0 x22_1) x62_3) < (x7_2.length : Int)
                                        · rw [if_pos c41] at H
                                          have c41b0 : decide ((rd (rd_L1 l0 x22_1) x62_3) < (x7_2.length : Int)) = true := decide_eq_true c41
                                          clear c41
                                          obtain ⟨bq42, hbq42⟩ : ∃ b_ : Bool, b_ = (rdOf false x7_2 (rd (rd_L1 l0 x22_1) x62_3)) := ⟨_, rfl⟩
                                          replace H : (if (bq42 = true) then (impl_ReducedArcs.l3 k3 l0 x4_3 x22_1 x7_2 l0 (l0.length : Int) x22_1 (rd_L1 l0 x22_1) ((rd_L1 l0 x22_1).length : Int) (wrap64 (x62_3 + 1))) else (if 0 ≤ x22_1 then (if x22_1 < (x4_3.length : Int) then (if (rd_L1 x4_3 x22_1).length < 17592186044416 then (impl_ReducedArcs.l3 k3 l0 (x4_3.set (x22_1 : Int).toNat ((rd_L1 x4_3 x22_1) ++ [rd (rd_L1 l0 x22_1) x62_3])) x22_1 x7_2 l0 (l0.length : Int) x22_1 (rd_L1 l0 x22_1) ((rd_L1 l0 x22_1).length : Int) (wrap64 (x62_3 + 1))) else (none)) else (none)) else (none))) = some (r1, r2) := by rw [← hbq42] at H; exact H
                                          have Nbq42 := Aside0.mk hbq42
                                          clear hbq42
                                          by_cases c43 : (bq42 = true)
                                          · subst c43
                                            have H1 : (impl_ReducedArcs.l3 k3 l0 x4_3 x22_1 x7_2 l0 (l0.length : Int) x22_1 (rd_L1 l0 x22_1) ((rd_L1 l0 x22_1).length : Int) (wrap64 (x62_3 + 1))) = some (r1, r2) := by rw [if_pos rfl] at H; exact H
                                            clear H
                                            have H := H1
                                            clear H1
                                            have H' := Aside0.mk H
                                            clear H
                                            have p202 : 0 ≤ (x62_3 : Int) := of_decide_eq_true (by first | (with_reducible assumption) | assumption)
                                            have q202 : x62_3 < ((rd_L1 l0 x22_1).length : Int) := of_decide_eq_true (by first | (with_reducible assumption) | assumption)
                                            obtain ⟨ad202, e202, hx202_0⟩ := Kd.at_int HR189_0.out x62_3 p202 q202
                                            cases e202
                                            replace hx202_0 := (HB.out.cell (World.block_lt_of_cell? w _ hx202_0)).trans hx202_0
                                            replace p202 := eq_true p202
                                            replace q202 := eq_true q202
                                            obtain ⟨Ao44, co44, eo44⟩ := Kd.R_slice HO_7.out
                                            subst eo44
                                            have p203 : 0 ≤ ((rd (rd_L1 l0 x22_1) x62_3) : Int) := of_decide_eq_true (by first | (with_reducible assumption) | assumption)
                                            have q203 : (rd (rd_L1 l0 x22_1) x62_3) < (x7_2.length : Int) := of_decide_eq_true (by first | (with_reducible assumption) | assumption)
                                            obtain ⟨ad203, e203, hx203_0⟩ := Kd.at_bool (Kd.R_reads' HO_7.out).2.2 (rd (rd_L1 l0 x22_1) x62_3) p203 q203
                                            (try rw [← Nbq42.out] at hx203_0)
                                            cases e203
                                            replace p203 := eq_true p203
                                            replace q203 := eq_true q203
                                            go_wp2
                                            go_roundg k3
                                            case measure => have := HK1.out; have := HK2.out; have := HK3.out; omega
                                            case rel => exact ⟨(x4_3), (wrap64 (x62_3 + 1)), (by first | rfl | (simp; done) | (simp [*]; done)), H', ⟨by have := HK1.out; have := HK2.out; have := HK3.out; omega⟩, ⟨by (with_reducible repeat (first | apply Kd.S_alloc | apply Kd.S_drewN | apply Kd.S_drew)); exact HO_4.out⟩, ⟨by (with_reducible repeat (first | apply Kd.R_alloc | apply Kd.R_drewN | apply Kd.R_drew)); exact HO_7.out⟩, ⟨by repeat (first | (with_reducible first | exact HB.out | apply below_alloc | apply pw_below_drewN | apply below_drew1) | exact HB.out)⟩⟩
                                          · replace c43 := Bool.eq_false_iff.mpr c43
                                            subst c43
                                            have H1 : (if 0 ≤ x22_1 then (if x22_1 < (x4_3.length : Int) then (if (rd_L1 x4_3 x22_1).length < 17592186044416 then (impl_ReducedArcs.l3 k3 l0 (x4_3.set (x22_1 : Int).toNat ((rd_L1 x4_3 x22_1) ++ [rd (rd_L1 l0 x22_1) x62_3])) x22_1 x7_2 l0 (l0.length : Int) x22_1 (rd_L1 l0 x22_1) ((rd_L1 l0 x22_1).length : Int) (wrap64 (x62_3 + 1))) else (none)) else (none)) else (none)) = some (r1, r2) := by rw [if_neg (show ¬ (false = true) by decide)] at H; exact H
                                            clear H
                                            have H := H1
                                            clear H1
                                            by_cases c45 : 0 ≤ x22_1
                                            · rw [if_pos c45] at H
                                              have c45b0 : decide (0 ≤ x22_1) = true := decide_eq_true c45
                                              clear c45
                                              by_cases c46 : x22_1 < (x4_3.length : Int)
                                              · rw [if_pos c46] at H
                                                have c46b0 : decide (x22_1 < (x4_3.length : Int)) = true := decide_eq_true c46
                                                clear c46
                                                by_cases c47 : (rd_L1 x4_3 x22_1).length < 17592186044416
                                                · rw [if_pos c47] at H
                                                  have LMc47 := Aside0.mk c47
                                                  clear c47
                                                  obtain ⟨y205, hy205⟩ : ∃ y_ : List Int, y_ = ((rd_L1 x4_3 x22_1) ++ [rd (rd_L1 l0 x22_1) x62_3]) := ⟨_, rfl⟩
                                                  replace H : (impl_ReducedArcs.l3 k3 l0 (x4_3.set (x22_1 : Int).toNat y205) x22_1 x7_2 l0 (l0.length : Int) x22_1 (rd_L1 l0 x22_1) ((rd_L1 l0 x22_1).length : Int) (wrap64 (x62_3 + 1))) = some (r1, r2) := by first | (rw [hy205]; with_reducible exact H) | (have H2_ := (Option.bind_some _ _).symm.trans H; rw [hy205]; with_reducible exact H2_) | (have H2_ := (Option.bind_some _ _).symm.trans H; with_reducible exact H2_) | with_reducible exact H | (rw [hy205]; exact H) | exact H
                                                  have Ny205 := Aside0.mk hy205
                                                  clear hy205
                                                  obtain ⟨y208, hy208⟩ : ∃ y_ : List (List Int), y_ = (x4_3.set (x22_1 : Int).toNat y205) := ⟨_, rfl⟩
                                                  replace H : (impl_ReducedArcs.l3 k3 l0 y208 x22_1 x7_2 l0 (l0.length : Int) x22_1 (rd_L1 l0 x22_1) ((rd_L1 l0 x22_1).length : Int) (wrap64 (x62_3 + 1))) = some (r1, r2) := by first | (rw [hy208]; with_reducible exact H) | (have H2_ := (Option.bind_some _ _).symm.trans H; rw [hy208]; with_reducible exact H2_) | (have H2_ := (Option.bind_some _ _).symm.trans H; with_reducible exact H2_) | with_reducible exact H | (rw [hy208]; exact H) | exact H
                                                  have Ny208 := Aside0.mk hy208
                                                  clear hy208
                                                  have H' := Aside0.mk H
                                                  clear H
                                                  have p202 : 0 ≤ (x62_3 : Int) := of_decide_eq_true (by first | (with_reducible assumption) | assumption)
                                                  have q202 : x62_3 < ((rd_L1 l0 x22_1).length : Int) := of_decide_eq_true (by first | (with_reducible assumption) | assumption)
                                                  obtain ⟨ad202, e202, hx202_0⟩ := Kd.at_int HR189_0.out x62_3 p202 q202
                                                  cases e202
                                                  replace hx202_0 := (HB.out.cell (World.block_lt_of_cell? w _ hx202_0)).trans hx202_0
                                                  replace p202 := eq_true p202
                                                  replace q202 := eq_true q202
                                                  obtain ⟨Ao49, co49, eo49⟩ := Kd.R_slice HO_7.out
                                                  subst eo49
                                                  have p203 : 0 ≤ ((rd (rd_L1 l0 x22_1) x62_3) : Int) := of_decide_eq_true (by first | (with_reducible assumption) | assumption)
                                                  have q203 : (rd (rd_L1 l0 x22_1) x62_3) < (x7_2.length : Int) := of_decide_eq_true (by first | (with_reducible assumption) | assumption)
                                                  obtain ⟨ad203, e203, hx203_0⟩ := Kd.at_bool (Kd.R_reads' HO_7.out).2.2 (rd (rd_L1 l0 x22_1) x62_3) p203 q203
                                                  (try rw [← Nbq42.out] at hx203_0)
                                                  cases e203
                                                  replace p203 := eq_true p203
                                                  replace q203 := eq_true q203
                                                  obtain ⟨Ao50, co50, eo50⟩ := Kd.S_slice HO_4.out
                                                  subst eo50
                                                  have p204 : 0 ≤ (x22_1 : Int) := of_decide_eq_true (by first | (with_reducible assumption) | assumption)
                                                  have q204 : x22_1 < (x4_3.length : Int) := of_decide_eq_true (by first | (with_reducible assumption) | assumption)
                                                  obtain ⟨ad204, A204_0, c204_0, e204, hx204_0, hl204_0, hi204_0⟩ := at_L1 (Kd.S_reads' HO_4.out).2.2 x22_1 p204 q204
                                                  cases e204
                                                  obtain ⟨ce204, hce204, hMe204, hcc204⟩ := Kd.S_get HO_4.out [] x22_1 p204 (by first | exact q204 | exact of_decide_eq_true (by first | (with_reducible assumption) | assumption) | (have e_ := (Kd.S_reads' HO_4.out).1; omega))
                                                  obtain ⟨ve204_0, rfl, ge204_0⟩ := hMe204
                                                  have hv204_0 := hcc204 0 _ rfl
                                                  rw [Nat.add_zero, show ((Kd.slice 3 (Kd.int .i64))).sz = 1 from rfl, Nat.mul_one] at hv204_0
                                                  replace hv204_0 := Option.some.inj (hv204_0.symm.trans hx204_0)
                                                  rw [hv204_0] at ge204_0
                                                  have HL204_0 := Aside0.mk (show Kd.R (Kd.int .i64) 3 _ _ _ _ (rd_L1 x4_3 x22_1) from ge204_0)
                                                  clear hv204_0 ge204_0
                                                  have HX204_0 := Aside0.mk hx204_0
                                                  clear hcc204 hce204
                                                  have HR204_0 := Aside0.mk hi204_0
                                                  have HC204_0 := Aside0.mk hl204_0
                                                  clear hi204_0 hl204_0
                                                  replace p204 := eq_true p204
                                                  replace q204 := eq_true q204
                                                  obtain ⟨go51, co51, eo51, gb51, gl51, cl51, HG51⟩ := Kd.S_form HO_4.out (by have h_ : (x22_1 : Int) < ((x4_3.length : Int) : Int) := of_decide_eq_true (by first | (with_reducible assumption) | assumption); have h2_ : 0 ≤ (x22_1 : Int) := (of_decide_eq_true (by first | (with_reducible assumption) | assumption)); omega)
                                                  (first | cases eo51 | (injection eo51 with ea_ en_ ec_; (first | subst ea_ | (injection ea_ with ea_; subst ea_)); subst ec_; clear en_))
                                                  have GB51 := Aside0.mk gb51
                                                  have GG51 := Aside0.mk HG51
                                                  clear gb51 gl51 HG51
                                                  (first | simp only [add_plain] at hx204_0 | skip)
                                                  obtain ⟨oki51, ce51, hcl51, hM51, hcc51, _, _, hH51⟩ := Kd.S_elem HO_4.out [] (x22_1 : Int) (of_decide_eq_true (by first | (with_reducible assumption) | assumption)) (by have h_ : (x22_1 : Int) < ((x4_3.length : Int) : Int) := of_decide_eq_true (by first | (with_reducible assumption) | assumption); first | exact h_ | (have e_ := (Kd.S_reads' HO_4.out).1; omega) | simpa using h_)
                                                  obtain ⟨ve51_0, rfl, ge51_0⟩ := hM51
                                                  have hv51 := hcc51 0 _ rfl
                                                  have hX51 := HX204_0.out
                                                  (try simp only [add_plain] at hX51)
                                                  (try simp only [Nat.add_zero] at hv51)
                                                  (try rw [show ((Kd.slice 3 (Kd.int .i64))).sz = 1 from rfl, Nat.mul_one] at hv51)
                                                  replace hv51 := Option.some.inj (hv51.symm.trans hX51)
                                                  subst hv51
                                                  clear hX51 hcc51 hcl51
                                                  have UU51 := Aside0.mk (show Kd.R (Kd.int .i64) 3 _ w.heap.size oki51 (.slice A204_0 (rd_L1 x4_3 x22_1).length c204_0) (rd_L1 x4_3 x22_1) from ge51_0)
                                                  have HH51 := Aside0.mk hH51
                                                  have HN51 := Aside0.mk (Kd.S_reads' HO_4.out).1
                                                  clear hH51 ge51_0
                                                  go_wp2_with (first | ((with_reducible refine gate_builtin (b := .append) (xs := #[.tmp 76, .tmp 78]) rfl ?_); at_builtin; refine Kd.R_append (Kd.int .i64) (w0 := w) w.heap.size rfl (.tmp 76) (.tmp 78) 24 3 (.int .i64 0) 8 rfl Try.underlying24 info3 rfl (by decide) (by omega) (.slice A204_0 (rd_L1 x4_3 x22_1).length c204_0) (rd_L1 x4_3 x22_1) (rd (rd_L1 l0 x22_1) x62_3) [.int .i64 (rd (rd_L1 l0 x22_1) x62_3)] (fun k_ => oki51 k_ ∨ ((fun _ => True)) k_ ∧ wr.heap.size ≤ k_) (fun _ => False) rfl rfl ?aP (fun _ hk => hk.elim) ?aF ?aO ?aB ?aS ?aL ?_; (case aP => exact rfl); (case aB => exact (by repeat (first | (with_reducible first | exact HB.out | apply below_alloc | apply pw_below_drewN | apply below_drew1) | exact HB.out))); (case aF => exact (fun k_ hk => .inr ⟨trivial, hk⟩)); (case aO => exact (by (with_reducible repeat (first | apply Kd.R_alloc | apply Kd.R_drewN | apply Kd.R_drew)); exact Kd.R_mono UU51.out (fun _ hk => .inl hk))); (case aS => exact (below_size (by repeat (first | (with_reducible first | exact HB.out | apply below_alloc | apply pw_below_drewN | apply below_drew1) | exact HB.out)))); (case aL => have := LMc47.out; omega); intro v206 w52 ho hb hg hat; rw [← Ny205.out] at ho; have n0_ := Aside0.mk (Kd.R_over' (v := (.slice A204_0 (rd_L1 x4_3 x22_1).length c204_0)) (by (with_reducible repeat (first | apply Kd.R_alloc | apply Kd.R_drewN | apply Kd.R_drew)); exact HO_7.out) (Kd.R_typed HL204_0.out) (by decide) hg); have n1_ := Aside0.mk (hb); have n2_ := Aside0.mk (Kd.H_grown (Kd.H_widen (by repeat (first | exact HH51.out | refine Kd.H_alloc ?_ _ | refine Kd.H_drewN ?_ _ | refine Kd.H_drew ?_))) hg (fun k_ e_ => .inl (UU51.out.1 k_ e_))); have n3_ := Aside0.mk (ho); clear HO_7; clear HB; clear HH51; clear HO_4; clear UU51; clear HL204_0; have HO_7 := n0_; have HB := n1_; have HH51 := n2_; have HO207 := n3_; clear n0_ n1_ n2_ n3_; clear ho hb hg hat; have p48 : 0 ≤ (x22_1 : Int) := of_decide_eq_true (by first | (with_reducible assumption) | assumption); have q48 : (x22_1 : Int) < ((x4_3.length : Int) : Int) := of_decide_eq_true (by first | (with_reducible assumption) | assumption); replace p48 := eq_true p48; replace q48 := eq_true q48; obtain ⟨Ao55, co55, eo55⟩ := Kd.R_slice HO207.out; subst eo55; obtain ⟨_, _, hraw53, _, _, hcc53, _⟩ := Kd.H_raw HH51.out (of_decide_eq_true (by first | (with_reducible assumption) | assumption)) (by have h_ : (x22_1 : Int) < ((x4_3.length : Int) : Int) := of_decide_eq_true (by first | (with_reducible assumption) | assumption); first | exact h_ | (have e_ := (HN51.out); omega) | simpa using h_); obtain ⟨_, hfr53⟩ := Kd.H_at HH51.out (of_decide_eq_true (by first | (with_reducible assumption) | assumption)) (by have h_ : (x22_1 : Int) < ((x4_3.length : Int) : Int) := of_decide_eq_true (by first | (with_reducible assumption) | assumption); first | exact h_ | (have e_ := (HN51.out); omega) | simpa using h_); have hx53_0 := hcc53 0 _ rfl; have hf53_0 := hfr53 0; (try simp only [Nat.add_zero] at hx53_0 hf53_0); (try rw [show ((Kd.slice 3 (Kd.int .i64))).sz = 1 from rfl, Nat.mul_one] at hx53_0); (try rw [show ((Kd.slice 3 (Kd.int .i64))).sz = 1 from rfl, Nat.mul_one] at hf53_0); have HP53 := Kd.S_seg0 HH51.out (of_decide_eq_true (by first | (with_reducible assumption) | assumption)) (by have h_ : (x22_1 : Int) < ((x4_3.length : Int) : Int) := of_decide_eq_true (by first | (with_reducible assumption) | assumption); first | exact h_ | (have e_ := (HN51.out); omega) | simpa using h_) (seg := [.slice Ao55 y205.length co55]) (j := 0) (show 1 ≤ 1 from by decide) (x' := y205) (Kd.M_row HO207.out) (fun _ hk => hk); (try simp only [show ((Kd.slice 3 (Kd.int .i64))).sz = 1 from rfl, Nat.mul_one, Nat.add_zero] at HP53); clear hcc53 hfr53) | ((with_reducible refine gate_store (t := 24) (p := 80) rfl ?_); refine store_event (t := 24) (p := 80) (v := ?vo_w54) (w1 := (w52.setCell ⟨go51, (x22_1 : Int).toNat, none⟩ (.slice Ao55 y205.length co55))) ?hg ?ho ?hn ?hr ?_; (case ho => rfl); (case hg => rfl); (case hn => rfl); (case hr => first | (go_simp; done) | (go_simp; rfl)); intro w54 hw; have hg : w52.grownBy w54 (some go51) := (by rw [hw]; exact HP53.2); have hp_ : Kd.S (Kd.slice 3 (Kd.int .i64)) 24 w54 w.heap.size (fun _ => True) (.slice (some ⟨go51, 0, none⟩) x4_3.length co50) y208 := (by rw [hw, Ny208.out]; exact HP53.1); clear HP53; have n0_ := Aside0.mk (Kd.R_over' (v := (.slice (some ⟨go51, 0, none⟩) x4_3.length co50)) (by (with_reducible repeat (first | apply Kd.R_alloc | apply Kd.R_drewN | apply Kd.R_drew)); exact HO_7.out) (Kd.R_typed hraw53) (by decide) hg); have n1_ := Aside0.mk ((by rw [hw]; exact below_set HB.out GB51.out : Below w.heap.size w w54)); have n2_ := Aside0.mk (hp_); clear HO_7; clear HB; clear HO207; clear HH51; have HO_7 := n0_; have HB := n1_; have HO_4 := n2_; clear n0_ n1_ n2_; clear hg hw hp_ hraw53))
                                                  go_roundg k3
                                                  case measure => have := HK1.out; have := HK2.out; have := HK3.out; omega
                                                  case rel => exact ⟨(y208), (wrap64 (x62_3 + 1)), (by first | rfl | (simp; done) | (simp [*]; done)), H', ⟨by have := HK1.out; have := HK2.out; have := HK3.out; omega⟩, ⟨by (with_reducible repeat (first | apply Kd.S_alloc | apply Kd.S_drewN | apply Kd.S_drew)); exact HO_4.out⟩, ⟨by (with_reducible repeat (first | apply Kd.R_alloc | apply Kd.R_drewN | apply Kd.R_drew)); exact HO_7.out⟩, ⟨by repeat (first | (with_reducible first | exact HB.out | apply below_alloc | apply pw_below_drewN | apply below_drew1) | exact HB.out)⟩⟩
                                                · rw [if_neg c47] at H
                                                  exact absurd H (by simp)
                                              · rw [if_neg c46] at H
                                                exact absurd H (by simp)
                                            · rw [if_neg c45] at H
                                              exact absurd H (by simp)
                                        · rw [if_neg c41] at H
                                          exact absurd H (by simp)
                                      · rw [if_neg c40] at H
                                        exact absurd H (by simp)
                                    · rw [if_neg c39] at H
                                      exact absurd H (by simp)
                                  · rw [if_neg c38] at H
                                    exact absurd H (by simp)
                                · rw [if_neg c37] at H
                                  have c37b0 : decide (x62_3 < ((rd_L1 l0 x22_1).length : Int)) = false := decide_eq_false c37
                                  clear c37
                                  have H' := Aside0.mk H
                                  clear H
                                  go_wp2
                                  go_roundg k3
                                  case measure => have := HK1.out; have := HK2.out; have := HK3.out; omega
                                  case rel => exact ⟨(x4_3), (wrap64 (x22_1 + 1)), (by first | rfl | (simp; done) | (simp [*]; done)), H', ⟨by have := HK1.out; have := HK2.out; have := HK3.out; omega⟩, ⟨by (with_reducible repeat (first | apply Kd.S_alloc | apply Kd.S_drewN | apply Kd.S_drew)); exact HO_4.out⟩, ⟨by repeat (first | (with_reducible first | exact HB.out | apply below_alloc | apply pw_below_drewN | apply below_drew1) | exact HB.out)⟩⟩
                    · rw [if_neg c12] at H
                      exact absurd H (by simp)
                  · rw [if_neg c11] at H
                    exact absurd H (by simp)
                · rw [if_neg c10] at H
                  exact absurd H (by simp)
              · rw [if_neg c9] at H
                exact absurd H (by simp)
            · rw [if_neg c8] at H
              have c8b0 : decide (x22_1 < (l0.length : Int)) = false := decide_eq_false c8
              clear c8
              simp only [Option.some.injEq, Prod.mk.injEq] at H
              obtain ⟨rfl, rfl⟩ := H
              go_wp2
              go_ret2
              exact ⟨_, by first | rfl | (simp [errW_none, errW_some] <;> rfl) | (simp [*, errW_none, errW_some] <;> rfl), by (with_reducible repeat (first | apply Kd.S_alloc | apply Kd.S_drewN | apply Kd.S_drew)); exact HO_4.out, by repeat (first | (with_reducible first | exact HB.out | apply below_alloc | apply pw_below_drewN | apply below_drew1) | exact HB.out)⟩
      · rw [if_neg c5] at H
        exact absurd H (by simp)
    · rw [if_neg c4] at H
      exact absurd H (by simp)
  · replace c3 := Bool.eq_false_iff.mpr c3
    subst c3
    have H1 : (some (([] : List (List Int)), false)) = some (r1, r2) := by rw [if_neg (show ¬ (false = true) by decide)] at H; exact H
    clear H
    have H := H1
    clear H1
    simp only [Option.some.injEq, Prod.mk.injEq] at H
    obtain ⟨rfl, rfl⟩ := H
    go_enter Try.func40, Try.ntmps40
    go_wp2_with (first | ((with_reducible refine gate_callee (f := 56) rfl ?_); refine goesL_ (some 15) rfl rfl Try.func56 (by kernel_rfl) rfl #[.slice A0 l0.length c0] rfl (by (try simp only [List.map_toArray, List.map_cons, List.map_nil]); first | done | rfl | (simp only [List.length_drop, List.length_take]; rfl)) ?_; (with_reducible refine (impl_AreArcs.calls k _ _ l0 false _ ?side1 ?side2 A2.out).mono ?_); (case side1 => repeat (first | exact HR0.out | (with_reducible refine Kd.C_alloc ?_ _) | (with_reducible refine Kd.C_drewN ?_ _) | (with_reducible refine Kd.C_drew ?_))); (case side2 => exact HC0.out); rintro e w' ⟨rfl, ⟨nd, rfl⟩⟩; refine ⟨_, rfl, ?_⟩))
    go_ret2
    exact ⟨_, by first | rfl | (simp [errW_none, errW_some] <;> rfl) | (simp [*, errW_none, errW_some] <;> rfl), by first | exact Kd.S_nil _ _ _ _ _ | exact Kd.N_nil _ _ _ _ _ | exact Kd.V_nil _ _ _ _ _ | exact Kd.Q_nil _ _ _ _ _ | exact Kd.R_nil _ _ _ _ _, by repeat (first | (with_reducible first | exact HB.out | apply below_alloc | apply pw_below_drewN | apply below_drew1) | exact HB.out)⟩

end Go.Proofs.Ytdjahpigkbgobaa.PFnExactReducedArcs
