/- slices.Sort over at most twelve whole numbers, by hand: what it leaves is the same numbers, rising. -/
import Derived.Test.YtpndghkfbojokaaTFold
import Derived.Test.YtpndghkfbojokaaTOpen
import Derived.Test.YtpndghkfbojokaaTMFnExactArcsOfx3
namespace Go.Proofs.Ytpndghkfbojokaa.OwnSort
open Go.RowKit Go.Proofs.Ytpndghkfbojokaa.PFnExactArcsOf Go.Proofs.YtpndghkfbojokaaW.PrintWords Go.Proofs.YtpndghkfbojokaaW.PrintLast Go.Proofs.YtpndghkfbojokaaW.PrintMore Go.Proofs.Ytpndghkfbojokaa.B
set_option linter.unusedVariables false
set_option linter.unusedSimpArgs false
theorem Less_eq (a b : Int) : cmp_Less_int.f a b = some (decide (a < b)) := by
  unfold cmp_Less_int.f cmp_isNaN_int.f
  simp only [Option.bind_some, bne_self_eq_false]
  rw [if_neg (by simp)]
/-- The same numbers, none twice. -/
def Sh (l x : List Int) : Prop := x.length = l.length ∧ (∀ v, v ∈ x ↔ v ∈ l) ∧ ∀ a b, a < b → b < x.length → x.getD a 0 ≠ x.getD b 0
theorem mem_at {l : List Int} {v : Int} : v ∈ l ↔ ∃ j, j < l.length ∧ l.getD j 0 = v := ⟨fun h => mem_getD h, by rintro ⟨j, hj, rfl⟩; exact getD_mem hj⟩
def swp (x : List Int) (j : Nat) : List Int := (x.set (j + 1) (x.getD j 0)).set j (x.getD (j + 1) 0)
theorem swp_len {x : List Int} {j : Nat} : (swp x j).length = x.length := by unfold swp; rw [List.length_set, List.length_set]
theorem swp_at {x : List Int} {j : Nat} (h : j + 1 < x.length) (k : Nat) : (swp x j).getD k 0 = if k = j then x.getD (j + 1) 0 else if k = j + 1 then x.getD j 0 else x.getD k 0 := by
  unfold swp
  rw [getD_set, getD_set, List.length_set]
  by_cases h1 : k = j
  · subst h1; rw [if_pos ⟨rfl, by omega⟩, if_pos rfl]
  · rw [if_neg (by omega), if_neg h1]
    by_cases h2 : k = j + 1
    · subst h2; rw [if_pos ⟨rfl, h⟩, if_pos rfl]
    · rw [if_neg (by omega), if_neg h2]
theorem sh_swp {l x : List Int} {j : Nat} (hs : Sh l x) (h : j + 1 < x.length) : Sh l (swp x j) := by
  refine ⟨by rw [swp_len]; exact hs.1, fun v => ?_, fun a b hab hb => ?_⟩
  · rw [← hs.2.1, mem_at, mem_at, swp_len]
    constructor
    · rintro ⟨k, hk, rfl⟩
      rw [swp_at h]
      split
      · exact ⟨j + 1, h, rfl⟩
      · split
        · exact ⟨j, by omega, rfl⟩
        · exact ⟨k, hk, rfl⟩
    · rintro ⟨k, hk, rfl⟩
      by_cases h1 : k = j
      · subst h1; exact ⟨k + 1, h, by rw [swp_at h, if_neg (by omega), if_pos rfl]⟩
      · by_cases h2 : k = j + 1
        · subst h2; exact ⟨j, by omega, by rw [swp_at h, if_pos rfl]⟩
        · exact ⟨k, hk, by rw [swp_at h, if_neg h1, if_neg h2]⟩
  · rw [swp_len] at hb
    have D := hs.2.2
    rw [swp_at h, swp_at h]
    by_cases a1 : a = j
    · subst a1
      rw [if_pos rfl, if_neg (by omega)]
      by_cases b2 : b = a + 1
      · rw [if_pos b2]; exact (D a (a + 1) (by omega) h).symm
      · rw [if_neg b2]; exact D (a + 1) b (by omega) hb
    · rw [if_neg a1]
      by_cases a2 : a = j + 1
      · rw [if_pos a2, if_neg (by omega), if_neg (by omega)]; exact D j b (by omega) hb
      · rw [if_neg a2]
        by_cases b1 : b = j
        · rw [if_pos b1]; exact D a (j + 1) (by omega) h
        · rw [if_neg b1]
          by_cases b2 : b = j + 1
          · rw [if_pos b2]; exact D a j (by omega) (by omega)
          · rw [if_neg b2]; exact D a b hab hb
/-- The first i numbers rise, but for the one at place j, of which only those behind are known to be no less. -/
def Up (x : List Int) (i j : Nat) : Prop := ∀ a b, a < b → b < i → b ≠ j → x.getD a 0 ≤ x.getD b 0
theorem up_swp {x : List Int} {i j : Nat} (hi : i ≤ x.length) (hj : j + 1 < i) (h : Up x i (j + 1)) (hlt : x.getD (j + 1) 0 < x.getD j 0) : Up (swp x j) i j := by
  intro a b hab hb hne
  have hl : j + 1 < x.length := by omega
  rw [swp_at hl, swp_at hl, if_neg hne]
  by_cases b2 : b = j + 1
  · rw [if_pos b2]
    by_cases a1 : a = j
    · rw [if_pos a1]; omega
    · rw [if_neg a1, if_neg (by omega)]; exact h a j (by omega) (by omega) (by omega)
  · rw [if_neg b2]
    by_cases a1 : a = j
    · rw [if_pos a1]; exact h (j + 1) b (by omega) hb b2
    · rw [if_neg a1]
      by_cases a2 : a = j + 1
      · rw [if_pos a2]; exact h j b (by omega) hb b2
      · rw [if_neg a2]; exact h a b hab hb b2
theorem isort_l1 (l : List Int) (n : Int) (i : Nat) (hi : i < l.length) (hn : n = (l.length : Int)) (hl : l.length ≤ 1048576)
    (ih : ∀ x, Sh l x → (∀ a b, a < b → b < i + 1 → x.getD a 0 ≤ x.getD b 0) → ∃ r, Ev (fun k => slices_insertionSortOrdered_int.l0 k x 0 n ((i + 1 : Nat) : Int)) r ∧ Sh l r ∧ ∀ a b, a < b → b < l.length → r.getD a 0 ≤ r.getD b 0) :
    ∀ (j : Nat) (x : List Int), j ≤ i → Sh l x → Up x (i + 1) j →
      ∃ r, Ev (fun k => slices_insertionSortOrdered_int.l1 k x 0 n (i : Int) (j : Int)) r ∧ Sh l r ∧ ∀ a b, a < b → b < l.length → r.getD a 0 ≤ r.getD b 0 := by
  intro j
  induction j with
  | zero =>
    intro x hj hs hu
    obtain ⟨r, hr, hz⟩ := ih x hs (fun a b hab hb => hu a b hab hb (by omega))
    refine ⟨r, Ev.step (fun k => slices_insertionSortOrdered_int.l1.eq_2 x 0 n i ((0 : Nat) : Int) k) (ev_neg (by omega) ?_), hz⟩
    rw [w_succ (n := i + 1) (by omega) (by omega)]
    exact hr
  | succ j ihj =>
    intro x hj hs hu
    have hxl := hs.1
    have hw : wrap64 (((j + 1 : Nat) : Int) - 1) = (j : Int) := by rw [w64 (by omega) (by omega)]; omega
    by_cases hlt : x.getD (j + 1) 0 < x.getD j 0
    · obtain ⟨r, hr, hz⟩ := ihj (swp x j) (by omega) (sh_swp hs (by omega)) (up_swp (by omega) (by omega) hu hlt)
      refine ⟨r, Ev.step (fun k => slices_insertionSortOrdered_int.l1.eq_2 x 0 n i ((j + 1 : Nat) : Int) k) ?_, hz⟩
      rw [hw, rd_nat, rd_nat, toNat_nat, toNat_nat]
      exact ev_pos (by omega) (ev_pos (by omega) (ev_pos (by omega) (ev_pos (by omega) (ev_pos (by omega) (ev_bindc (Less_eq _ _) (ev_pos (decide_eq_true hlt) hr))))))
    · obtain ⟨r, hr, hz⟩ := ih x hs (fun a b hab hb => by
        by_cases e : b = j + 1
        · subst e
          by_cases e2 : a = j
          · subst e2; omega
          · have := hu a j (by omega) (by omega) (by omega); omega
        · exact hu a b hab hb e)
      refine ⟨r, Ev.step (fun k => slices_insertionSortOrdered_int.l1.eq_2 x 0 n i ((j + 1 : Nat) : Int) k) ?_, hz⟩
      rw [hw, rd_nat, rd_nat, toNat_nat, toNat_nat, w_succ (n := i + 1) (by omega) (by omega)]
      exact ev_pos (by omega) (ev_pos (by omega) (ev_pos (by omega) (ev_pos (by omega) (ev_pos (by omega) (ev_bindc (Less_eq _ _) (ev_neg (by rw [decide_eq_true_eq]; exact hlt) hr))))))
theorem isort_l0 (l : List Int) (hl : l.length ≤ 1048576) : ∀ (d i : Nat) (x : List Int), 1 ≤ i → l.length ≤ i + d → Sh l x → (∀ a b, a < b → b < i → b < l.length → x.getD a 0 ≤ x.getD b 0) →
    ∃ r, Ev (fun k => slices_insertionSortOrdered_int.l0 k x 0 (l.length : Int) (i : Int)) r ∧ Sh l r ∧ ∀ a b, a < b → b < l.length → r.getD a 0 ≤ r.getD b 0 := by
  intro d
  induction d with
  | zero =>
    intro i x h1 hd hs hu
    exact ⟨x, Ev.step (fun k => slices_insertionSortOrdered_int.l0.eq_2 x 0 l.length i k) (ev_neg (by omega) (ev_some rfl)), hs, fun a b hab hb => hu a b hab (by omega) hb⟩
  | succ d ih =>
    intro i x h1 hd hs hu
    by_cases hi : i < l.length
    · obtain ⟨r, hr, hz⟩ := isort_l1 l l.length i hi rfl hl (fun x hx hu => ih (i + 1) x (by omega) (by omega) hx (fun a b hab hb _ => hu a b hab hb)) i x (Nat.le_refl _) hs
        (fun a b hab hb hne => hu a b hab (by omega) (by omega))
      exact ⟨r, Ev.step (fun k => slices_insertionSortOrdered_int.l0.eq_2 x 0 l.length i k) (ev_pos (by omega) hr), hz⟩
    · exact ⟨x, Ev.step (fun k => slices_insertionSortOrdered_int.l0.eq_2 x 0 l.length i k) (ev_neg (by omega) (ev_some rfl)), hs, fun a b hab hb => hu a b hab (by omega) hb⟩
theorem isort_ev (l : List Int) (hl : l.length ≤ 1048576) (hd : ∀ a b, a < b → b < l.length → l.getD a 0 ≠ l.getD b 0) :
    ∃ r, Ev (fun k => slices_insertionSortOrdered_int.f k l 0 (l.length : Int)) r ∧ r.length = l.length ∧ r.Pairwise (· < ·) ∧ ∀ v, v ∈ r ↔ v ∈ l := by
  unfold slices_insertionSortOrdered_int.f
  obtain ⟨r, hr, hs, hu⟩ := isort_l0 l hl l.length 1 l (by omega) (by omega) ⟨rfl, fun _ => Iff.rfl, hd⟩ (fun a b hab hb _ => by omega)
  refine ⟨r, by rw [show wrap64 (0 + 1) = ((1 : Nat) : Int) from by unfold wrap64; omega]; exact hr, hs.1, ?_, hs.2.1⟩
  rw [List.pairwise_iff_getElem]
  intro a b ha hb hab
  have h1 := hu a b hab (by rw [← hs.1]; exact hb)
  have h2 := hs.2.2 a b hab hb
  rw [List.getD_eq_getElem?_getD, List.getD_eq_getElem?_getD, List.getElem?_eq_getElem ha, List.getElem?_eq_getElem hb] at h1 h2
  simp only [Option.getD_some] at h1 h2
  omega
theorem drawn_below {w w' : World} (h : Drawn0 w w') : Below w.heap.size w w' := by
  obtain ⟨n, rfl⟩ := h
  exact pw_below_drewN (Below.refl _ _) n
set_option maxHeartbeats 4000000 in
set_option maxRecDepth 100000 in
theorem len64_calls (a : Int) (h0 : 0 ≤ a) (h1 : a ≤ 12) (w : World) :
    Calls Try.prog 109 #[.int .u64 a] w fun e w' => ∃ r : Int, e = .returned (.int .i64 r) ∧ w' = w := by
  have c1 : decide (4294967296 ≤ a) = false := decide_eq_false (by omega)
  have c2 : decide (65536 ≤ a) = false := decide_eq_false (by omega)
  have c3 : decide (256 ≤ a) = false := decide_eq_false (by omega)
  go_enter Try.func109, Try.ntmps109
  go_wp2_with fail
  go_ret
  exact ⟨_, rfl, rfl⟩
set_option maxHeartbeats 4000000 in
set_option maxRecDepth 100000 in
theorem len_calls (a : Int) (h0 : 0 ≤ a) (h1 : a ≤ 12) (w : World) :
    Calls Try.prog 89 #[.int .u64 a] w fun e w' => ∃ r : Int, e = .returned (.int .i64 r) ∧ w' = w := by
  go_enter Try.func89, Try.ntmps89
  go_wp2_with fail
  refine (len64_calls a h0 h1 _).mono ?_
  rintro e w1 ⟨r, rfl, rfl⟩
  go_wp2_with fail
  go_ret
  exact ⟨_, rfl, rfl⟩
set_option maxHeartbeats 4000000 in
set_option maxRecDepth 100000 in
theorem pdq_calls (k : Nat) (P0 : Nat → Prop) (v : Value) (l r : List Int) (n lim : Int) (hn : 0 ≤ n ∧ n ≤ 12) (w0 w : World) (hB : Below w0.heap.size w0 w) (ho : Kd.R (Kd.int .i64) 3 w w0.heap.size P0 v l) (h : slices_insertionSortOrdered_int.f k l 0 n = some r) :
    Calls Try.prog 99 #[v, .int .i64 0, .int .i64 n, .int .i64 lim] w fun e w' => e = .returned (.tuple #[]) ∧ Kd.R (Kd.int .i64) 3 w' w0.heap.size (fun k_ => (P0 k_ ∨ w.heap.size ≤ k_)) v r ∧ Below w0.heap.size w0 w' ∧ Kept w w' P0 := by
  have w1 : wrap64 (n - 0) = n := by rw [w64 (by omega) (by omega)]; omega
  have c1 : decide (n ≤ 12) = true := decide_eq_true (by omega)
  go_enter Try.func99, Try.ntmps99
  go_wp2_with fail
  go_loopg [1, 2, 3, 8, 9] 1 (fun d v1 v2 v3 v8 v9 wr => v1 = .int .i64 0 ∧ v2 = .int .i64 n ∧ v3 = .int .i64 lim ∧ wr = w ∧ d = 1)
  case atStart => exact ⟨rfl, rfl, rfl, rfl, rfl⟩
  case round =>
    obtain ⟨rfl, rfl, rfl, rfl, rfl⟩ := hrel
    go_wp2_with fail
    refine (slices_insertionSortOrdered_int.calls k P0 v l 0 n r w0 wr hB ho h).mono ?_
    rintro e w2 ⟨rfl, h1, h2, h3⟩
    go_wp2_with fail
    first | go_end0 | ((try simp only [Exit.inBlock, Exit.then]); refine bodyPost_ret (results_none rfl _ _ _) rfl ?_)
    exact ⟨rfl, h1, h2, h3⟩
set_option maxHeartbeats 4000000 in
set_option maxRecDepth 100000 in
/-- slices.Sort over at most twelve numbers. -/
theorem sort_calls (k : Nat) (P0 : Nat → Prop) (v : Value) (l r : List Int) (hl : l.length ≤ 12) (w0 w : World) (hB : Below w0.heap.size w0 w) (ho : Kd.R (Kd.int .i64) 3 w w0.heap.size P0 v l) (h : slices_insertionSortOrdered_int.f k l 0 (l.length : Int) = some r) :
    Calls Try.prog 87 #[v] w fun e w' => e = .returned (.tuple #[]) ∧ Kd.R (Kd.int .i64) 3 w' w0.heap.size (fun k_ => (P0 k_ ∨ w.heap.size ≤ k_)) v r ∧ Below w0.heap.size w0 w' ∧ Kept w w' P0 := by
  obtain ⟨A, c, rfl⟩ := Kd.R_slice ho
  obtain ⟨m, em⟩ : ∃ m, m = l.length := ⟨_, rfl⟩
  rw [← em] at ho h hl ⊢
  clear em
  have hw : ((m : Int) % 18446744073709551616) = (m : Int) := Int.emod_eq_of_lt (by omega) (Int.lt_of_le_of_lt (show (m : Int) ≤ 12 by omega) (by decide))
  go_enter Try.func87, Try.ntmps87
  go_wp2_with fail
  refine (len_calls m (by omega) (by omega) _).mono ?_
  rintro e w1 ⟨q, rfl, rfl⟩
  go_wp2_with fail
  refine (pdq_calls k P0 _ l r m q (by omega) w0 w1 hB ho h).mono ?_
  rintro e w2 ⟨rfl, h1, h2, h3⟩
  go_wp2_with fail
  first | go_end0 | ((try simp only [Exit.inBlock, Exit.then]); refine bodyPost_ret (results_none rfl _ _ _) rfl ?_)
  exact ⟨rfl, h1, h2, h3⟩
end Go.Proofs.Ytpndghkfbojokaa.OwnSort
