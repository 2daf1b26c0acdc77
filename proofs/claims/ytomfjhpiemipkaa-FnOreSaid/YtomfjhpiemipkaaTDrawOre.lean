/- What the drawing functions of the law FnOre tell: lists of bounded lengths, and a model with lists. -/
import Derived.Test.YtomfjhpiemipkaaTBase
import Derived.Test.YtomfjhpiemipkaaTMarks
import Derived.Test.YtomfjhpiemipkaaTFold
import Derived.Test.YtomfjhpiemipkaaTWTab
import Derived.Test.YtomfjhpiemipkaaTMFnOrex2
import Derived.Test.YtomfjhpiemipkaaTMFnOrex2
import Derived.Test.YtomfjhpiemipkaaTMFnOrex5
namespace Go.Proofs.Ytomfjhpiemipkaa.DrawOre
open Go.RowKit Go.Proofs.Ytomfjhpiemipkaa.PFnOre Go.Proofs.YtomfjhpiemipkaaW.PrintWords Go.Proofs.YtomfjhpiemipkaaW.PrintLast Go.Proofs.YtomfjhpiemipkaaW.PrintMore Go.Proofs.Ytomfjhpiemipkaa.B
set_option linter.unusedVariables false
set_option linter.unusedSimpArgs false
/-- From some number of rounds on f tells a result with the property P. -/
def Tl {β : Type} (f : Nat → Option β) (P : β → Prop) : Prop := ∃ r, Ev f r ∧ P r
theorem Tl.bind {α β : Type} {f : Nat → Option α} {g : Nat → α → Option β} {P : α → Prop} {Q : β → Prop} (h : Tl f P) (hg : ∀ r, P r → Tl (fun k => g k r) Q) : Tl (fun k => (f k).bind (g k)) Q := by
 obtain ⟨r, e, p⟩ := h
 obtain ⟨s, e2, q⟩ := hg r p
 exact ⟨s, Ev.bind e e2, q⟩
theorem Tl.now {β : Type} {r : β} {P : β → Prop} (h : P r) : Tl (fun _ => some r) P := ⟨r, Ev.now r, h⟩
theorem Tl.const {β : Type} {o : Option β} {P : β → Prop} (h : ∃ r, o = some r ∧ P r) : Tl (fun _ => o) P := by
 obtain ⟨r, e, p⟩ := h
 exact ⟨r, ev_const e, p⟩
theorem Tl.pos {α : Type} {c : Prop} [Decidable c] {a b : Nat → Option α} {P : α → Prop} (h : c) (k : Tl a P) : Tl (fun n => if c then a n else b n) P := by
 simp only [if_pos h]; exact k
theorem Tl.neg {α : Type} {c : Prop} [Decidable c] {a b : Nat → Option α} {P : α → Prop} (h : ¬ c) (k : Tl b P) : Tl (fun n => if c then a n else b n) P := by
 simp only [if_neg h]; exact k
theorem Tl.ite {α : Type} {c : Prop} [Decidable c] {a b : Nat → Option α} {P : α → Prop} (h : c → Tl a P) (k : ¬ c → Tl b P) : Tl (fun n => if c then a n else b n) P := by
 by_cases hc : c
 ·exact Tl.pos hc (h hc)
 ·exact Tl.neg hc (k hc)
theorem Tl.step {α : Type} {g f : Nat → Option α} {P : α → Prop} (h : ∀ k, g (k + 1) = f k) (k : Tl f P) : Tl g P := by
 obtain ⟨r, e, p⟩ := k
 exact ⟨r, Ev.step h e, p⟩
theorem Tl.mono {α : Type} {f : Nat → Option α} {P Q : α → Prop} (h : Tl f P) (hq : ∀ r, P r → Q r) : Tl f Q := by
 obtain ⟨r, e, p⟩ := h
 exact ⟨r, e, hq r p⟩
/-- The bytes that a drawing goes by. -/
def Bytes (s : List Int) : Prop := (∀ x ∈ s, 0 ≤ x ∧ x < 256) ∧ s.length ≤ 1048576
/-- Where the drawing stands. -/
abbrev At (a : Int) (n : Int) : Prop := 0 ≤ a ∧ a ≤ n
theorem u64_mod (n : Int) : IntKind.u64.wrap n = n % 18446744073709551616 := by simp [IntKind.wrap, IntKind.bits, IntKind.signed]
theorem low_byte (x : Int) (h0 : 0 ≤ x) (h1 : x < 16777216) : 0 ≤ Go.bits .and .u64 x 255 ∧ Go.bits .and .u64 x 255 < 256 := by
 have h := bits_mask .u64 24 (by decide) (fun n a b => by rw [u64_mod]; have : n < 16777216 := b; omega) 8 (by decide) x h0 h1
 rw [show ((2 : Int) ^ 8 - 1) = 255 from rfl] at h
 rw [h]
 have : (2 : Int) ^ 8 = 256 := rfl
 omega
theorem next_tl {s : List Int} (hs : Bytes s) (a d : Int) (ha : At a 1152921504606846976) : ∃ r, spec_l1Cur_next.f s a d = some r ∧ 0 ≤ r.1 ∧ r.1 < 256 ∧ r.2.1 = a + 1 := by
 have hw : wrap64 (a + 1) = a + 1 := w64 (by omega) (by omega)
 have hl := hs.2
 have hb : ∀ z : Int, 0 ≤ wrap64 (Go.bits .and .u64 (IntKind.u64.wrap z / 1099511627776) 255) ∧ wrap64 (Go.bits .and .u64 (IntKind.u64.wrap z / 1099511627776) 255) < 256 := by
  intro z
  rw [u64_mod]
  have h := low_byte (z % 18446744073709551616 / 1099511627776) (by omega) (by omega)
  rw [w64 (by omega) (by omega)]
  exact h
 unfold spec_l1Cur_next.f
 rw [hw]
 by_cases h : a < (s.length : Int)
 ·have hr : 0 ≤ rd s a ∧ rd s a < 256 := hs.1 _ (by unfold rd; exact getD_mem (by omega))
  rw [if_pos h, if_pos ha.1]
  by_cases h2 : a + 1 ≤ (s.length : Int)
  ·rw [if_pos h2]
   exact ⟨_, rfl, by show 0 ≤ wrap64 (rd s a); rw [w64 (by omega) (by omega)]; exact hr.1, by show wrap64 (rd s a) < 256; rw [w64 (by omega) (by omega)]; exact hr.2, rfl⟩
  ·rw [if_neg h2]
   exact ⟨_, rfl, (hb _).1, (hb _).2, rfl⟩
 ·rw [if_neg h]
  by_cases h2 : a + 1 ≤ (s.length : Int)
  ·omega
  ·rw [if_neg h2]
   exact ⟨_, rfl, (hb _).1, (hb _).2, rfl⟩
theorem pick_some {s : List Int} (hs : Bytes s) (a d n : Int) (ha : At a 576460752303423488) : ∃ r, spec_l1Cur_pick.f s a d n = some r ∧ 0 ≤ r.1 ∧ (r.1 < n ∨ r.1 = 0) ∧ a ≤ r.2.1 ∧ r.2.1 ≤ a + 2 := by
 unfold spec_l1Cur_pick.f
 by_cases h : n ≤ 1
 ·rw [if_pos h]; exact ⟨_, rfl, Int.le_refl _, Or.inr rfl, Int.le_refl _, by show a ≤ a + 2; omega⟩
 ·rw [if_neg h]
  obtain ⟨x, ex, x0, x1, xa⟩ := next_tl hs a d (by omega)
  rw [ex, Option.bind_some]
  by_cases h2 : n > 200
  ·rw [if_pos h2]
   obtain ⟨y, ey, y0, y1, ya⟩ := next_tl hs x.2.1 x.2.2 (by omega)
   rw [ey, Option.bind_some, if_neg (by omega)]
   have e1 : wrap64 (x.1 * 256) = x.1 * 256 := w64 (by omega) (by omega)
   have e2 : wrap64 (x.1 * 256 + y.1) = x.1 * 256 + y.1 := w64 (by omega) (by omega)
   refine ⟨_, rfl, ?_, Or.inl ?_, ?_, ?_⟩
   ·show 0 ≤ Int.tmod (wrap64 (wrap64 (x.1 * 256) + y.1)) n
    rw [e1, e2, Int.tmod_eq_emod_of_nonneg (by omega)]; exact Int.emod_nonneg _ (by omega)
   ·show Int.tmod (wrap64 (wrap64 (x.1 * 256) + y.1)) n < n
    rw [e1, e2, Int.tmod_eq_emod_of_nonneg (by omega)]; exact Int.emod_lt_of_pos _ (by omega)
   ·show a ≤ y.2.1; omega
   ·show y.2.1 ≤ a + 2; omega
  ·rw [if_neg h2, if_neg (by omega)]
   refine ⟨_, rfl, ?_, Or.inl ?_, ?_, ?_⟩
   ·show 0 ≤ Int.tmod x.1 n
    rw [Int.tmod_eq_emod_of_nonneg (by omega)]; exact Int.emod_nonneg _ (by omega)
   ·show Int.tmod x.1 n < n
    rw [Int.tmod_eq_emod_of_nonneg (by omega)]; exact Int.emod_lt_of_pos _ (by omega)
   ·show a ≤ x.2.1; omega
   ·show x.2.1 ≤ a + 2; omega
/-- pick(n) for n from 1 on -/
theorem pick_tl {s : List Int} (hs : Bytes s) (a d n : Int) (hn : 1 ≤ n) (ha : At a 576460752303423488) : Tl (fun _ => spec_l1Cur_pick.f s a d n) (fun r => (0 ≤ r.1 ∧ r.1 < n) ∧ a ≤ r.2.1 ∧ r.2.1 ≤ a + 2) := by
 obtain ⟨r, e, h0, h1, h2, h3⟩ := pick_some hs a d n ha
 exact Tl.const ⟨r, e, ⟨h0, by omega⟩, h2, h3⟩
theorem one_tl {s : List Int} (hs : Bytes s) (a d n : Int) (ha : At a 576460752303423488) : Tl (fun _ => spec_l1Cur_one.f s a d n) (fun r => a ≤ r.2.1 ∧ r.2.1 ≤ a + 2) := by
 unfold spec_l1Cur_one.f
 obtain ⟨r, e, h0, h1, h2, h3⟩ := pick_some hs a d n ha
 rw [e]
 exact Tl.const ⟨_, rfl, h2, h3⟩
theorem among_tl {s : List Int} (hs : Bytes s) (a d : Int) (l : List Int) (hl : 1 ≤ l.length) (ha : At a 576460752303423488) : Tl (fun _ => spec_l1Cur_among.f s a d l) (fun r => r.1 ∈ l ∧ a ≤ r.2.1 ∧ r.2.1 ≤ a + 2) := by
 unfold spec_l1Cur_among.f
 obtain ⟨r, e, h0, h1, h2, h3⟩ := pick_some hs a d (l.length : Int) ha
 rw [e]
 refine Tl.const ?_
 rw [Option.bind_some, if_pos h0, if_pos (by omega)]
 exact ⟨_, rfl, by show rd l r.1 ∈ l; unfold rd; exact getD_mem (by omega), h2, h3⟩
def LisP (a n : Int) (m : Nat) (r : List Int × Int × Int) : Prop := r.1.length ≤ m ∧ a ≤ r.2.1 ∧ r.2.1 ≤ a + n
theorem LisP.up {a n b q : Int} {m m' : Nat} {r : List Int × Int × Int} (h : LisP b q m r) (hm : m ≤ m') (h1 : a ≤ b) (h2 : b + q ≤ a + n) : LisP a n m' r := by
 unfold LisP at *
 omega
theorem values_l0 {s : List Int} (hs : Bytes s) : ∀ (q : Nat) (l : List Int) (a d : Int), l.length + q ≤ 100000 → At a (288230376151711744 - 4 * (q : Int)) → Tl (fun k => spec_l1Cur_values.l0 k (q : Int) l s a d) (LisP a (10 + 4 * q) (l.length + q + 1)) := by
 intro q
 induction q with
 | zero =>
  intro l a d hl ha
  refine Tl.step (fun k => spec_l1Cur_values.l0.eq_2 _ l s a d k) (Tl.neg (by omega) (Tl.ite (fun c => ?_) (fun c => ?_)))
  ·refine Tl.bind (pick_tl hs _ _ 40 (by omega) (by omega)) (fun r p => Tl.ite (fun c => ?_) (fun c => Tl.ite (fun c => ?_) (fun c => ?_)))
   ·refine Tl.bind (pick_tl hs _ _ l.length (by omega) (by omega)) (fun r2 p2 => Tl.bind (among_tl hs _ _ _ (by simp) (by omega)) (fun r3 p3 => Tl.pos (by omega) (Tl.pos (by omega) (Tl.now ?_))))
    exact ⟨by rw [List.length_set]; omega, by show a ≤ r3.2.1; omega, by show r3.2.1 ≤ _; omega⟩
   ·exact Tl.pos (by omega) (Tl.now ⟨by rw [List.length_append, List.length_singleton]; omega, by show a ≤ r.2.1; omega, by show r.2.1 ≤ _; omega⟩)
   ·exact Tl.now ⟨by show l.length ≤ _; omega, by show a ≤ r.2.1; omega, by show r.2.1 ≤ _; omega⟩
  ·exact Tl.now ⟨by show l.length ≤ _; omega, Int.le_refl _, by show a ≤ _; omega⟩
 | succ q ih =>
  intro l a d hl ha
  refine Tl.step (fun k => spec_l1Cur_values.l0.eq_2 _ l s a d k) (Tl.pos (by omega) (Tl.bind (pick_tl hs _ _ 200 (by omega) (by omega)) (fun r p => Tl.bind (among_tl hs _ _ _ (by simp) (by omega)) (fun r2 p2 => Tl.pos (by omega) ?_))))
  rw [show wrap64 (((q + 1 : Nat) : Int) - 1) = (q : Int) by rw [w64 (by omega) (by omega)]; omega]
  exact (ih _ r2.2.1 r2.2.2 (by rw [List.length_append, List.length_singleton]; omega) (by omega)).mono (fun r3 h => h.up (by rw [List.length_append, List.length_singleton]; omega) (by omega) (by omega))
theorem values_tl {s : List Int} (hs : Bytes s) (n : Nat) (hn : n ≤ 10000) (a d : Int) (ha : At a 288230376151000000) : Tl (fun k => spec_l1Cur_values.f k s a d (n : Int)) (LisP a 50000 (n + 1)) := by
 unfold spec_l1Cur_values.f
 exact (values_l0 hs n [] a d (by simp only [List.length_nil]; omega) (by omega)).mono (fun r h => h.up (by simp only [List.length_nil]; omega) (by omega) (by omega))
theorem some_l1 (s : List Int) (n : Int) (a d : Int) : ∀ (q : Nat) (l : List Int) (x : Int), 0 ≤ x → n ≤ x + q → n ≤ 20000 → l.length + q ≤ 100000 → Tl (fun k => spec_l1Cur_some.l1 k n l x s a d) (LisP a 0 (l.length + q)) := by
 intro q
 induction q with
 | zero =>
  intro l x h0 h1 h2 h3
  exact Tl.step (fun k => spec_l1Cur_some.l1.eq_2 n l x s a d k) (Tl.neg (by omega) (Tl.now ⟨by show l.length ≤ _; omega, Int.le_refl _, by show a ≤ a + 0; omega⟩))
 | succ q ih =>
  intro l x h0 h1 h2 h3
  refine Tl.step (fun k => spec_l1Cur_some.l1.eq_2 n l x s a d k) (Tl.ite (fun c => Tl.pos (by omega) ?_) (fun c => Tl.now ⟨by show l.length ≤ _; omega, Int.le_refl _, by show a ≤ a + 0; omega⟩))
  rw [show wrap64 (x + 1) = x + 1 from w64 (by omega) (by omega)]
  exact (ih _ (x + 1) (by omega) (by omega) h2 (by rw [List.length_append, List.length_singleton]; omega)).mono (fun r h => h.up (by rw [List.length_append, List.length_singleton]; omega) (by omega) (by omega))
theorem some_l0 {s : List Int} (hs : Bytes s) (n : Nat) (hn : n ≤ 10001) : ∀ (q : Nat) (l : List Int) (x a d : Int), x + q = n → 0 ≤ x → l.length + q ≤ 50000 → At a (288230376151711744 - 4 * (q : Int)) → Tl (fun k => spec_l1Cur_some.l0 k (n : Int) l x s a d) (LisP a (10 + 4 * q) (l.length + q + n + 1)) := by
 intro q
 induction q with
 | zero =>
  intro l x a d h1 h0 hl ha
  refine Tl.step (fun k => spec_l1Cur_some.l0.eq_2 _ l x s a d k) (Tl.neg (by omega) (Tl.bind (pick_tl hs _ _ 24 (by omega) (by omega)) (fun r p => Tl.ite (fun c => ?_) (fun c => Tl.ite (fun c => ?_) (fun c => ?_)))))
  ·refine Tl.bind (among_tl hs _ _ _ (by simp) (by omega)) (fun r3 p3 => Tl.pos (by omega) (Tl.now ?_))
   exact ⟨by rw [List.length_append, List.length_singleton]; omega, by show a ≤ r3.2.1; omega, by show r3.2.1 ≤ _; omega⟩
  ·exact (some_l1 s n _ _ n [] 0 (by omega) (by omega) (by omega) (by simp only [List.length_nil]; omega)).mono (fun r h => h.up (by simp only [List.length_nil]; omega) (by omega) (by omega))
  ·exact Tl.now ⟨by show l.length ≤ _; omega, by show a ≤ r.2.1; omega, by show r.2.1 ≤ _; omega⟩
 | succ q ih =>
  intro l x a d h1 h0 hl ha
  have hw : wrap64 (x + 1) = x + 1 := w64 (by omega) (by omega)
  refine Tl.step (fun k => spec_l1Cur_some.l0.eq_2 _ l x s a d k) (Tl.pos (by omega) (Tl.bind (one_tl hs _ _ 3 (by omega)) (fun r p => Tl.ite (fun c => Tl.pos (by omega) ?_) (fun c => ?_))))
  ·rw [hw]
   exact (ih _ (x + 1) r.2.1 r.2.2 (by omega) (by omega) (by rw [List.length_append, List.length_singleton]; omega) (by omega)).mono (fun r3 h => h.up (by rw [List.length_append, List.length_singleton]; omega) (by omega) (by omega))
  ·rw [hw]
   exact (ih _ (x + 1) r.2.1 r.2.2 (by omega) (by omega) (by omega) (by omega)).mono (fun r3 h => h.up (by omega) (by omega) (by omega))
theorem some_tl {s : List Int} (hs : Bytes s) (n : Nat) (hn : n ≤ 10001) (a d : Int) (ha : At a 288230376151000000) : Tl (fun k => spec_l1Cur_some.f k s a d (n : Int)) (LisP a 50000 (2 * n + 1)) := by
 unfold spec_l1Cur_some.f
 exact (some_l0 hs n hn n [] 0 a d (by omega) (by omega) (by simp only [List.length_nil]; omega) (by omega)).mono (fun r h => h.up (by simp only [List.length_nil]; omega) (by omega) (by omega))
def GridP (a n : Int) (r : Int × Int × Int × Int × Int) : Prop := ((1 ≤ r.1 ∧ r.1 ≤ 8) ∧ (1 ≤ r.2.1 ∧ r.2.1 ≤ 6) ∧ (1 ≤ r.2.2.1 ∧ r.2.2.1 ≤ 5)) ∧ a ≤ r.2.2.2.1 ∧ r.2.2.2.1 ≤ a + n
theorem grid_tl {s : List Int} (hs : Bytes s) (a d : Int) (ha : At a 288230376151711744) : Tl (fun _ => spec_l1Cur_grid.f s a d) (GridP a 20) := by
 unfold spec_l1Cur_grid.f
 refine Tl.bind (one_tl hs _ _ 24 (by omega)) (fun r p => Tl.ite (fun c => ?_) (fun c => ?_))
 ·refine Tl.bind (Tl.now (P := fun y => y = [⟨8, 5, 3⟩, ⟨8, 3, 5⟩, ⟨4, 6, 5⟩, ⟨1, 1, 1⟩]) rfl) (fun y hy => ?_)
  subst hy
  refine Tl.bind (pick_tl hs _ _ 4 (by omega) (by omega)) (fun r2 p2 => Tl.pos (by omega) (Tl.pos (by show r2.1 < ((4 : Nat) : Int); omega) (Tl.now ?_)))
  have hm : rd_T32 [⟨8, 5, 3⟩, ⟨8, 3, 5⟩, ⟨4, 6, 5⟩, ⟨1, 1, 1⟩] r2.1 ∈ [(⟨8, 5, 3⟩ : S32), ⟨8, 3, 5⟩, ⟨4, 6, 5⟩, ⟨1, 1, 1⟩] := by unfold rd_T32; exact getD_mem (by show r2.1.toNat < 4; omega)
  generalize rd_T32 [⟨8, 5, 3⟩, ⟨8, 3, 5⟩, ⟨4, 6, 5⟩, ⟨1, 1, 1⟩] r2.1 = g at hm
  simp only [List.mem_cons, List.not_mem_nil, or_false] at hm
  refine ⟨?_, by show a ≤ r2.2.1; omega, by show r2.2.1 ≤ _; omega⟩
  rcases hm with rfl | rfl | rfl | rfl <;> simp
 ·refine Tl.bind (pick_tl hs _ _ 4 (by omega) (by omega)) (fun r2 p2 => Tl.bind (pick_tl hs _ _ 3 (by omega) (by omega)) (fun r3 p3 => Tl.bind (pick_tl hs _ _ 3 (by omega) (by omega)) (fun r4 p4 => Tl.now ?_)))
  refine ⟨⟨?_, ?_, ?_⟩, by show a ≤ r4.2.1; omega, by show r4.2.1 ≤ _; omega⟩
  ·show 1 ≤ wrap64 (1 + r2.1) ∧ wrap64 (1 + r2.1) ≤ 8; rw [w64 (by omega) (by omega)]; omega
  ·show 1 ≤ wrap64 (1 + r3.1) ∧ wrap64 (1 + r3.1) ≤ 6; rw [w64 (by omega) (by omega)]; omega
  ·show 1 ≤ wrap64 (1 + r4.1) ∧ wrap64 (1 + r4.1) ≤ 5; rw [w64 (by omega) (by omega)]; omega
theorem anyGrid_tl {s : List Int} (hs : Bytes s) (a d : Int) (ha : At a 288230376151000000) : Tl (fun _ => spec_l1Cur_anyGrid.f s a d) (fun r => a ≤ r.2.2.2.1 ∧ r.2.2.2.1 ≤ a + 40) := by
 unfold spec_l1Cur_anyGrid.f
 refine Tl.bind (grid_tl hs a d (by omega)) (fun g hg => ?_)
 have hg := hg.2
 refine Tl.bind (pick_tl hs _ _ 30 (by omega) (by omega)) (fun r p => ?_)
 refine Tl.ite (fun c => Tl.bind (among_tl hs _ _ _ (by simp) (by omega)) (fun q h => Tl.now ⟨by show a ≤ q.2.1; omega, by show q.2.1 ≤ _; omega⟩)) (fun c => ?_)
 refine Tl.ite (fun c => Tl.bind (among_tl hs _ _ _ (by simp) (by omega)) (fun q h => Tl.now ⟨by show a ≤ q.2.1; omega, by show q.2.1 ≤ _; omega⟩)) (fun c => ?_)
 refine Tl.ite (fun c => Tl.bind (among_tl hs _ _ _ (by simp) (by omega)) (fun q h => Tl.now ⟨by show a ≤ q.2.1; omega, by show q.2.1 ≤ _; omega⟩)) (fun c => ?_)
 refine Tl.ite (fun c => Tl.bind (among_tl hs _ _ _ (by simp) (by omega)) (fun q h => Tl.now ⟨by show a ≤ q.2.1; omega, by show q.2.1 ≤ _; omega⟩)) (fun c => ?_)
 exact Tl.ite (fun c => Tl.now ⟨by show a ≤ r.2.1; omega, by show r.2.1 ≤ _; omega⟩) (fun c => Tl.now ⟨by show a ≤ r.2.1; omega, by show r.2.1 ≤ _; omega⟩)
def ModP (a n : Int) (m : Nat) (r : Int × Int × Int × List Int × List Int × List Int × Int × Int) : Prop := (r.2.2.2.1.length = m ∧ r.2.2.2.2.1.length = m ∧ r.2.2.2.2.2.1.length = m) ∧ a ≤ r.2.2.2.2.2.2.1 ∧ r.2.2.2.2.2.2.1 ≤ a + n
theorem model_l0 {s : List Int} (hs : Bytes s) (x y z : Int) : ∀ (q : Nat) (t g c : List Int) (m : Nat) (a d : Int), m ≤ 1000 → t.length + q = m → g.length + q = m → c.length + q = m → At a (288230376151700000 - 10 * (q : Int)) → Tl (fun k => spec_l1Cur_model.l0 k (q : Int) s a d x y z t g c) (fun r => (r.1 = x ∧ r.2.1 = y ∧ r.2.2.1 = z) ∧ ModP a (10 * q) m r) := by
 intro q
 induction q with
 | zero =>
  intro t g c m a d hm h1 h2 h3 ha
  exact Tl.step (fun k => spec_l1Cur_model.l0.eq_2 _ s a d x y z t g c k) (Tl.neg (by omega) (Tl.now ⟨⟨rfl, rfl, rfl⟩, ⟨by omega, by omega, by omega⟩, Int.le_refl _, by show a ≤ _; omega⟩))
 | succ q ih =>
  intro t g c m a d hm h1 h2 h3 ha
  refine Tl.step (fun k => spec_l1Cur_model.l0.eq_2 _ s a d x y z t g c k) (Tl.pos (by omega) (Tl.bind (pick_tl hs _ _ 10001 (by omega) (by omega)) (fun r1 p1 => Tl.bind (among_tl hs _ _ _ (by simp) (by omega)) (fun r2 p2 => Tl.pos (by omega) (Tl.bind (pick_tl hs _ _ 1001 (by omega) (by omega)) (fun r3 p3 => Tl.bind (among_tl hs _ _ _ (by simp) (by omega)) (fun r4 p4 => Tl.pos (by omega) (Tl.bind (pick_tl hs _ _ 5 (by omega) (by omega)) (fun r5 p5 => Tl.pos (by omega) ?_)))))))))
  rw [show wrap64 (((q + 1 : Nat) : Int) - 1) = (q : Int) by rw [w64 (by omega) (by omega)]; omega]
  refine (ih _ _ _ m r5.2.1 r5.2.2 hm (by rw [List.length_append, List.length_singleton]; omega) (by rw [List.length_append, List.length_singleton]; omega) (by rw [List.length_append, List.length_singleton]; omega) (by omega)).mono (fun r h => ⟨h.1, h.2.1, ?_, ?_⟩)
  ·have := h.2.2; omega
  ·have := h.2.2; omega
theorem model_tl {s : List Int} (hs : Bytes s) (a d : Int) (ha : At a 288230376151000000) : Tl (fun k => spec_l1Cur_model.f k s a d) (fun r => ∃ m : Nat, 1 ≤ m ∧ m ≤ 240 ∧ spec_grCount.f r.1 r.2.1 r.2.2.1 = some (m : Int) ∧ ModP a 3000 m r) := by
 unfold spec_l1Cur_model.f
 refine Tl.bind (grid_tl hs a d (by omega)) (fun g hg => ?_)
 obtain ⟨⟨hx, hy, hz⟩, ha1, ha2⟩ := hg
 have b1 : 1 ≤ g.1 * g.2.1 := Int.mul_pos (by omega) (by omega)
 have b2 : g.1 * g.2.1 ≤ 48 := Int.le_trans (Int.mul_le_mul hx.2 hy.2 (by omega) (by omega)) (by omega)
 have b3 : 1 ≤ g.1 * g.2.1 * g.2.2.1 := Int.mul_pos (by omega) (by omega)
 have b4 : g.1 * g.2.1 * g.2.2.1 ≤ 240 := Int.le_trans (Int.mul_le_mul b2 hz.2 (by omega) (by omega)) (by omega)
 have hc : spec_grCount.f g.1 g.2.1 g.2.2.1 = some (((g.1 * g.2.1 * g.2.2.1).toNat : Nat) : Int) := by
  unfold spec_grCount.f
  rw [w64 (x := g.1 * g.2.1) (by omega) (by omega), w64 (x := g.1 * g.2.1 * g.2.2.1) (by omega) (by omega), Int.toNat_of_nonneg (by omega)]
 refine Tl.bind (Tl.const ⟨_, hc, rfl⟩) (fun t ht => ?_)
 subst ht
 refine (model_l0 hs _ _ _ (g.1 * g.2.1 * g.2.2.1).toNat [] [] [] (g.1 * g.2.1 * g.2.2.1).toNat g.2.2.2.1 g.2.2.2.2 (by omega) (by simp) (by simp) (by simp) (by omega)).mono (fun r h => ⟨(g.1 * g.2.1 * g.2.2.1).toNat, by omega, by omega, ?_, h.2.1, ?_, ?_⟩)
 ·rw [h.1.1, h.1.2.1, h.1.2.2]; exact hc
 ·have := h.2.2; omega
 ·have := h.2.2; omega
theorem anyModel_tl {s : List Int} (hs : Bytes s) (a d : Int) (ha : At a 288230376150000000) : Tl (fun k => spec_l1Cur_anyModel.f k s a d) (fun r => (r.2.2.2.1.length ≤ 300 ∧ r.2.2.2.2.1.length ≤ 300 ∧ r.2.2.2.2.2.1.length ≤ 300) ∧ a ≤ r.2.2.2.2.2.2.1 ∧ r.2.2.2.2.2.2.1 ≤ a + 4000) := by
 unfold spec_l1Cur_anyModel.f
 refine Tl.bind (model_tl hs a d (by omega)) (fun g hg => ?_)
 obtain ⟨m, m1, m2, hc, ⟨l1, l2, l3⟩, ha1, ha2⟩ := hg
 refine Tl.bind (Tl.const ⟨_, hc, rfl⟩) (fun t ht => ?_)
 subst ht
 refine Tl.bind (pick_tl hs _ _ 30 (by omega) (by omega)) (fun r p => ?_)
 refine Tl.ite (fun c => ?_) (fun c => ?_)
 ·refine Tl.bind (anyGrid_tl hs _ _ (by omega)) (fun q h => Tl.now ⟨⟨?_, ?_, ?_⟩, ?_, ?_⟩)
  ·show g.2.2.2.1.length ≤ 300; omega
  ·show g.2.2.2.2.1.length ≤ 300; omega
  ·show g.2.2.2.2.2.1.length ≤ 300; omega
  ·show a ≤ q.2.2.2.1; omega
  ·show q.2.2.2.1 ≤ _; omega
 refine Tl.ite (fun c => ?_) (fun c => ?_)
 ·refine Tl.bind (pick_tl hs _ _ (m : Int) (by omega) (by omega)) (fun r2 p2 => Tl.bind (among_tl hs _ _ _ (by simp) (by omega)) (fun q h => Tl.pos (by omega) (Tl.pos (by omega) (Tl.now ⟨⟨?_, ?_, ?_⟩, ?_, ?_⟩))))
  ·rw [List.length_set]; omega
  ·show g.2.2.2.2.1.length ≤ 300; omega
  ·show g.2.2.2.2.2.1.length ≤ 300; omega
  ·show a ≤ q.2.1; omega
  ·show q.2.1 ≤ _; omega
 refine Tl.ite (fun c => ?_) (fun c => ?_)
 ·refine Tl.bind (pick_tl hs _ _ (m : Int) (by omega) (by omega)) (fun r2 p2 => Tl.bind (among_tl hs _ _ _ (by simp) (by omega)) (fun q h => Tl.pos (by omega) (Tl.pos (by omega) (Tl.now ⟨⟨?_, ?_, ?_⟩, ?_, ?_⟩))))
  ·show g.2.2.2.1.length ≤ 300; omega
  ·rw [List.length_set]; omega
  ·show g.2.2.2.2.2.1.length ≤ 300; omega
  ·show a ≤ q.2.1; omega
  ·show q.2.1 ≤ _; omega
 refine Tl.ite (fun c => ?_) (fun c => ?_)
 ·refine Tl.bind (pick_tl hs _ _ (m : Int) (by omega) (by omega)) (fun r2 p2 => Tl.bind (among_tl hs _ _ _ (by simp) (by omega)) (fun q h => Tl.pos (by omega) (Tl.pos (by omega) (Tl.now ⟨⟨?_, ?_, ?_⟩, ?_, ?_⟩))))
  ·show g.2.2.2.1.length ≤ 300; omega
  ·show g.2.2.2.2.1.length ≤ 300; omega
  ·rw [List.length_set]; omega
  ·show a ≤ q.2.1; omega
  ·show q.2.1 ≤ _; omega
 refine Tl.ite (fun c => Tl.pos (by omega) (Tl.now ⟨⟨?_, ?_, ?_⟩, ?_, ?_⟩)) (fun c => Tl.now ⟨⟨?_, ?_, ?_⟩, ?_, ?_⟩)
 ·show g.2.2.2.1.length ≤ 300; omega
 ·show g.2.2.2.2.1.length ≤ 300; omega
 ·rw [List.length_append, List.length_singleton]; omega
 ·show a ≤ r.2.1; omega
 ·show r.2.1 ≤ _; omega
 ·show g.2.2.2.1.length ≤ 300; omega
 ·show g.2.2.2.2.1.length ≤ 300; omega
 ·show g.2.2.2.2.2.1.length ≤ 300; omega
 ·show a ≤ r.2.1; omega
 ·show r.2.1 ≤ _; omega
set_option maxHeartbeats 4000000 in
set_option maxRecDepth 100000 in
/-- spec.DrawSumOfValues -/
theorem drawSum (s : List Int) (hs : Bytes s) : ∃ l b : List Int, (l.length ≤ 1000 ∧ b.length ≤ 3000) ∧ ∀ (A0 : Option Addr) (c0 : Nat) (w : World), Kd.C (Kd.int .u8) w A0 s.length s → s.length ≤ c0 →
  Calls Try.prog 47 #[.slice A0 s.length c0] w fun e w' => ∃ A c A' c', e = .returned (.tuple #[.slice A l.length c, .slice A' b.length c']) ∧ (Kd.C (Kd.int .i64) w' A l.length l ∧ l.length ≤ c) ∧ (Kd.C (Kd.int .i64) w' A' b.length b ∧ b.length ≤ c') ∧ Below w.heap.size w w' := by
 obtain ⟨⟨n, a1, d1⟩, hev, hn, ha1⟩ := among_tl hs 0 0 [1, 2, 9, 30, 120] (by simp) (by omega)
 simp only at hn ha1
 have hnn : 0 ≤ n ∧ n ≤ 200 := by simp only [List.mem_cons, List.not_mem_nil, or_false] at hn; omega
 obtain ⟨q, rfl⟩ := Int.eq_ofNat_of_zero_le hnn.1
 obtain ⟨⟨l, a2, d2⟩, hev2, hl, ha2⟩ := values_tl hs q (by omega) a1 d1 (by omega)
 simp only at hl ha2
 obtain ⟨⟨b, a3, d3⟩, hev3, hb, ha3⟩ := some_tl hs l.length (by omega) a2 d2 (by omega)
 simp only at hb
 obtain ⟨k1, hk1⟩ := hev.rounds
 obtain ⟨k2, hk2⟩ := hev2.rounds
 obtain ⟨k3, hk3⟩ := hev3.rounds
 refine ⟨l, b, ⟨by omega, by omega⟩, fun A0 c0 w h0 e0 => ?_⟩
 generalize hN : ((q : Nat) : Int) = n at *
 have HK1 := Aside0.mk hk1
 have HK2 := Aside0.mk hk2
 have HK3 := Aside0.mk hk3
 have H0 := Aside0.mk h0
 have hu := Try.underlying146
 clear hk1 hk2 hk3 h0 hn hnn ha1 hl ha2 hb ha3 hev hev2 hev3 hN
 go_enter Try.func47, Try.ntmps47
 go_wp2_with (first | ((with_reducible refine gate_dst (N := 8) rfl ?_); refine box_event ?hg (N := 8) ?hd (cs := #[.slice A0 s.length c0, .int .i64 0, .int .u64 0]) (t := 146) ?hr ?_; (case hd => rfl); (case hg => rfl); (case hr => first | (go_simp; done) | (go_simp; rfl)); intro g1 hg w6 hbox hb; have HI : Aside0 (IsS146 w w6 g1 s 0 0) := ⟨⟨A0, c0, hbox, by rw [hg]; exact Nat.le_refl _, H0.out⟩⟩; have HB := Aside0.mk hb; clear hg hbox hb) | ((with_reducible refine gate_dst (N := 11) rfl ?_); refine Kd.R_lit (Kd.int .i64) _ 3 ?hg (N := 11) ?hd (xs := [1, 2, 9, 30, 120]) (inner := [.int .i64 1, .int .i64 2, .int .i64 9, .int .i64 30, .int .i64 120]) (ok := fun k => k ≠ g1) (okp := fun _ => False) ?hr ?hp (fun _ hk => hk.elim) ?hf (Below.refl _ _) (Nat.le_refl _) (by simp) ?_; (case hd => rfl); (case hg => rfl); (case hr => first | (go_simp; done) | (go_simp; rfl)); (case hp => exact Kd.reps_scalar [1, 2, 9, 30, 120]); (case hf => have := IsS146.lt HI.out; omega); intro vq w11 ho hb hg_ hnew_; have m0_ := Aside0.mk ho; have m1_ := Aside0.mk (IsS146.below HI.out hb); have m3_ := Aside0.mk (below_step HB.out hb); clear HI HB ho hb hg_ hnew_))
 obtain ⟨A40, c40, rfl⟩ := Kd.R_slice m0_.out
 refine (spec_l1Cur_among.calls g1 s 0 0 A40 c40 [1, 2, 9, 30, 120] n a1 d1 w w11 m1_.out m3_.out (Kd.R_reads' m0_.out).2.2 (Kd.R_reads' m0_.out).2.1 (fun ad he _ => by subst he; exact m0_.out.1 ad.block rfl) HK1.out).mono ?_
 rintro e w7 ⟨rfl, hi, hb, hkp⟩
 have HI7 := Aside0.mk hi
 have HB7 := Aside0.mk hb
 clear m0_ m1_ m3_ hi hb hkp
 go_wp2_with fail
 refine (spec_l1Cur_values.calls k2 g1 s a1 d1 n l a2 d2 w w7 HI7.out HB7.out HK2.out).mono ?_
 rintro e w8 ⟨v, rfl, ho, hi, hb, _⟩
 have HO := Aside0.mk (IsS146.apart hi ho (by decide))
 obtain ⟨A, c, rfl⟩ := Kd.R_slice ho
 have HB8 := Aside0.mk hb
 have HI8 := Aside0.mk hi
 clear ho hb hi HI7 HB7
 go_wp2_with fail
 refine (spec_l1Cur_some.calls k3 g1 s a2 d2 l.length b a3 d3 w w8 HI8.out HB8.out HK3.out).mono ?_
 rintro e w9 ⟨v, rfl, ho, hi, hb, hkp⟩
 have HO2 := Aside0.mk (Kd.R_keep HO.out hkp (fun _ h => h.2))
 obtain ⟨A', c', rfl⟩ := Kd.R_slice ho
 have HR := Aside0.mk ho
 have HB9 := Aside0.mk hb
 clear ho hb hi hkp HI8 HB8 HO
 go_wp2_with fail
 go_ret2
 exact ⟨A, c, A', c', rfl, ⟨(Kd.R_reads' HO2.out).2.2, (Kd.R_reads' HO2.out).2.1⟩, ⟨(Kd.R_reads' HR.out).2.2, (Kd.R_reads' HR.out).2.1⟩, HB9.out⟩
set_option maxHeartbeats 4000000 in
set_option maxRecDepth 100000 in
/-- spec.DrawAreValues -/
theorem drawVals (s : List Int) (hs : Bytes s) : ∃ (l : List Int) (m : Int), (l.length ≤ 1000 ∧ 0 ≤ m ∧ m ≤ 1000) ∧ ∀ (A0 : Option Addr) (c0 : Nat) (w : World), Kd.C (Kd.int .u8) w A0 s.length s → s.length ≤ c0 →
  Calls Try.prog 54 #[.slice A0 s.length c0] w fun e w' => ∃ A c, e = .returned (.tuple #[.slice A l.length c, .int .i64 m]) ∧ (Kd.C (Kd.int .i64) w' A l.length l ∧ l.length ≤ c) ∧ Below w.heap.size w w' := by
 obtain ⟨⟨n, a1, d1⟩, hev, hn, ha1⟩ := among_tl hs 0 0 [1, 2, 9, 30, 119, 120, 121, 0] (by simp) (by omega)
 simp only at hn ha1
 have hnn : 0 ≤ n ∧ n ≤ 200 := by simp only [List.mem_cons, List.not_mem_nil, or_false] at hn; omega
 obtain ⟨q, rfl⟩ := Int.eq_ofNat_of_zero_le hnn.1
 obtain ⟨⟨l, a2, d2⟩, hev2, hl, ha2⟩ := values_tl hs q (by omega) a1 d1 (by omega)
 simp only at hl ha2
 obtain ⟨⟨y, a3, d3⟩, hev3, hy, ha3⟩ := pick_tl hs a2 d2 20 (by omega) (by omega)
 simp only at hy
 obtain ⟨k1, hk1⟩ := hev.rounds
 obtain ⟨k2, hk2⟩ := hev2.rounds
 obtain ⟨_, hk3⟩ := hev3.rounds
 have ht : 0 ≤ Int.tdiv y 19 ∧ Int.tdiv y 19 ≤ 1 := by
  rw [Int.tdiv_eq_ediv_of_nonneg hy.1]
  omega
 have hw : wrap64 ((q : Int) + wrap64 (Int.tdiv y 19)) = (q : Int) + Int.tdiv y 19 := by rw [w64 (x := Int.tdiv y 19) (by omega) (by omega), w64 (by omega) (by omega)]
 refine ⟨l, (q : Int) + Int.tdiv y 19, ⟨by omega, by omega, by omega⟩, fun A0 c0 w h0 e0 => ?_⟩
 generalize hN : ((q : Nat) : Int) = n at *
 have HK1 := Aside0.mk hk1
 have HK2 := Aside0.mk hk2
 have HK3 := Aside0.mk hk3
 have HW := Aside0.mk hw
 have H0 := Aside0.mk h0
 have hu := Try.underlying146
 clear hk1 hk2 hk3 h0 hn hnn ha1 hl ha2 hy ha3 hev hev2 hev3 hN ht hw
 go_enter Try.func54, Try.ntmps54
 go_wp2_with (first | ((with_reducible refine gate_dst (N := 8) rfl ?_); refine box_event ?hg (N := 8) ?hd (cs := #[.slice A0 s.length c0, .int .i64 0, .int .u64 0]) (t := 146) ?hr ?_; (case hd => rfl); (case hg => rfl); (case hr => first | (go_simp; done) | (go_simp; rfl)); intro g1 hg w6 hbox hb; have HI : Aside0 (IsS146 w w6 g1 s 0 0) := ⟨⟨A0, c0, hbox, by rw [hg]; exact Nat.le_refl _, H0.out⟩⟩; have HB := Aside0.mk hb; clear hg hbox hb) | ((with_reducible refine gate_dst (N := 10) rfl ?_); refine Kd.R_lit (Kd.int .i64) _ 3 ?hg (N := 10) ?hd (xs := [1, 2, 9, 30, 119, 120, 121, 0]) (inner := [.int .i64 1, .int .i64 2, .int .i64 9, .int .i64 30, .int .i64 119, .int .i64 120, .int .i64 121, .int .i64 0]) (ok := fun k => k ≠ g1) (okp := fun _ => False) ?hr ?hp (fun _ hk => hk.elim) ?hf (Below.refl _ _) (Nat.le_refl _) (by simp) ?_; (case hd => rfl); (case hg => rfl); (case hr => first | (go_simp; done) | (go_simp; rfl)); (case hp => exact Kd.reps_scalar [1, 2, 9, 30, 119, 120, 121, 0]); (case hf => have := IsS146.lt HI.out; omega); intro vq w11 ho hb hg_ hnew_; have m0_ := Aside0.mk ho; have m1_ := Aside0.mk (IsS146.below HI.out hb); have m3_ := Aside0.mk (below_step HB.out hb); clear HI HB ho hb hg_ hnew_))
 obtain ⟨A40, c40, rfl⟩ := Kd.R_slice m0_.out
 refine (spec_l1Cur_among.calls g1 s 0 0 A40 c40 [1, 2, 9, 30, 119, 120, 121, 0] n a1 d1 w w11 m1_.out m3_.out (Kd.R_reads' m0_.out).2.2 (Kd.R_reads' m0_.out).2.1 (fun ad he _ => by subst he; exact m0_.out.1 ad.block rfl) HK1.out).mono ?_
 rintro e w7 ⟨rfl, hi, hb, hkp⟩
 have HI7 := Aside0.mk hi
 have HB7 := Aside0.mk hb
 clear m0_ m1_ m3_ hi hb hkp
 go_wp2_with fail
 refine (spec_l1Cur_values.calls k2 g1 s a1 d1 n l a2 d2 w w7 HI7.out HB7.out HK2.out).mono ?_
 rintro e w8 ⟨v, rfl, ho, hi, hb, _⟩
 have HO := Aside0.mk (IsS146.apart hi ho (by decide))
 obtain ⟨A, c, rfl⟩ := Kd.R_slice ho
 have HB8 := Aside0.mk hb
 have HI8 := Aside0.mk hi
 clear ho hb hi HI7 HB7
 go_wp2_with fail
 refine (spec_l1Cur_pick.calls g1 s a2 d2 20 y a3 d3 w w8 HI8.out HB8.out HK3.out).mono ?_
 rintro e w9 ⟨rfl, hi, hb, hkp⟩
 have HO2 := Aside0.mk (Kd.R_keep HO.out hkp (fun _ h => h.2))
 have HB9 := Aside0.mk hb
 clear hb hi hkp HI8 HB8 HO
 go_wp2_with fail
 go_ret2
 exact ⟨A, c, by show Ending.returned (.tuple #[.slice A l.length c, .int .i64 (wrap64 (n + wrap64 (Int.tdiv y 19)))]) = _; rw [HW.out], ⟨(Kd.R_reads' HO2.out).2.2, (Kd.R_reads' HO2.out).2.1⟩, HB9.out⟩
/-- spec.DrawOreBlocks -/
theorem drawOre (s : List Int) (hs : Bytes s) : ∃ (l : List Int), l.length ≤ 1000 ∧ ∀ (A0 : Option Addr) (c0 : Nat) (w : World), Kd.C (Kd.int .u8) w A0 s.length s → s.length ≤ c0 →
  Calls Try.prog 50 #[.slice A0 s.length c0] w fun e w' => ∃ A c, e = .returned (.slice A l.length c) ∧ (Kd.C (Kd.int .i64) w' A l.length l ∧ l.length ≤ c) ∧ Below w.heap.size w w' := by
 obtain ⟨l, m, hl, h⟩ := drawVals s hs
 refine ⟨l, hl.1, fun A0 c0 w h0 e0 => ?_⟩
 have HH := Aside0.mk (h A0 c0 w h0 e0)
 clear h h0 e0 hl
 go_enter Try.func50, Try.ntmps50
 go_wp2_with fail
 refine HH.out.mono ?_
 rintro e w7 ⟨A, c, rfl, h1, h3⟩
 have HQ := Aside0.mk h1
 have HB2 := Aside0.mk h3
 clear h1 h3 HH
 go_wp2_with fail
 go_ret
 exact ⟨A, c, rfl, HQ.out, HB2.out⟩
theorem run_store_row {P : Program} {o : Oper} {a : Act} {w : World} (ty : TypeId) (x y : Operand) (ho : o.op = .store ty x y)
  (g : Nat) (cells : Array Value) (hx : a.eval x = .pointer (some ⟨g, 0, none⟩)) (hy : a.eval y = .agg cells)
  (t : TypeId) (old : Array Value) (hg : w.heap[g]? = some (.cells old t (0, 0))) (hi : (P.info? ty).map (·.size) = some cells.size)
  (hold : old.size = cells.size) (h1 : cells.all (·.oneCell') = true) : (execOp a.eval o).run P w = .ok .skip (w.setRow g cells) := by
 unfold execOp
 simp only [ho, hx, hy, Instr.storeAt, Instr.sureAddr, Sem.run_bind, Sem.run_pure, Result.andThen_ok, run_storeVar_row w g t ty old cells hg hi hold h1]
theorem below_row {B g : Nat} {w0 w : World} (hb : Below B w0 w) (hBg : B ≤ g) (cs : Array Value) : Below B w0 (w.setRow g cs) :=
 hb.trans ⟨rfl, rfl, rfl, by simp [World.setRow], fun k hk => setRow_other w g k cs (by omega)⟩
def spec_DrawStripRatio_T4 : Bool × List (List Nat × List Nat) := (true, [([], []), ([], []), ([], []), ([1, 2], [1, 2]), ([], []), ([], []), ([4, 5, 3], [4, 5]), ([0, 6, 0], [0]), ([3, 7, 0, 1, 2, 3, 7], [3]), ([6, 8, 0, 1, 2, 3, 4, 5, 6, 7, 8], [6])])
def spec_DrawStripRatio_B4 : List Nat := [0, 0, 0, 6, 0, 0, 62, 127, 255, 511]
theorem spec_DrawStripRatio_tab4 : rtab .any (opsOf Try.f53 4) = spec_DrawStripRatio_T4 := by kernel_rfl
theorem spec_DrawStripRatio_bits4 : waitsOk spec_DrawStripRatio_T4.2 spec_DrawStripRatio_B4 = true := by kernel_rfl
set_option maxHeartbeats 4000000 in
set_option maxRecDepth 100000 in
/-- spec.DrawStripRatio -/
theorem drawStrip (s : List Int) (hs : Bytes s) : ∃ (x y z : Int) (t g r v l : List Int), (t.length ≤ 300 ∧ g.length ≤ 300 ∧ r.length ≤ 300 ∧ v.length ≤ 1000 ∧ l.length ≤ 1000) ∧ ∀ (A0 : Option Addr) (c0 : Nat) (w : World), Kd.C (Kd.int .u8) w A0 s.length s → s.length ≤ c0 →
  Calls Try.prog 53 #[.slice A0 s.length c0] w fun e w' => ∃ A3 c3 A4 c4 A5 c5 A c A' c', e = .returned (.tuple #[.agg #[.int .i64 x, .int .i64 y, .int .i64 z, .slice A3 t.length c3, .slice A4 g.length c4, .slice A5 r.length c5], .slice A v.length c, .slice A' l.length c']) ∧ (Kd.C (Kd.int .i64) w' A3 t.length t ∧ t.length ≤ c3) ∧ (Kd.C (Kd.int .i64) w' A4 g.length g ∧ g.length ≤ c4) ∧ (Kd.C (Kd.int .i64) w' A5 r.length r ∧ r.length ≤ c5) ∧ (Kd.C (Kd.int .i64) w' A v.length v ∧ v.length ≤ c) ∧ (Kd.C (Kd.int .i64) w' A' l.length l ∧ l.length ≤ c') ∧ Below w.heap.size w w' := by
 obtain ⟨⟨x, y, z, t, g, r, a1, d1⟩, hev, ⟨ht, hg, hr⟩, ha1⟩ := anyModel_tl hs 0 0 (by omega)
 simp only at ht hg hr ha1
 obtain ⟨⟨v, a2, d2⟩, hev2, hv, ha2⟩ := values_tl hs t.length (by omega) a1 d1 (by omega)
 simp only at hv ha2
 obtain ⟨⟨l, a3, d3⟩, hev3, hl, ha3⟩ := some_tl hs t.length (by omega) a2 d2 (by omega)
 simp only at hl
 obtain ⟨k1, hk1⟩ := hev.rounds
 obtain ⟨k2, hk2⟩ := hev2.rounds
 obtain ⟨k3, hk3⟩ := hev3.rounds
 refine ⟨x, y, z, t, g, r, v, l, ⟨by omega, by omega, by omega, by omega, by omega⟩, fun A0 c0 w h0 e0 => ?_⟩
 have HK1 := Aside0.mk hk1
 have HK2 := Aside0.mk hk2
 have HK3 := Aside0.mk hk3
 have H0 := Aside0.mk h0
 have HT := Aside0.mk ht
 have hu := Try.underlying146
 have hum := Try.underlying34
 clear hk1 hk2 hk3 h0 e0 ht hg hr ha1 hv ha2 hl ha3 hev hev2 hev3
 go_enter Try.func53, Try.ntmps53
 go_wp2_with (first
  | ((with_reducible refine gate_dst (N := 2) rfl ?_); refine box_event ?hg (N := 2) ?hd (cs := #[.int .i64 0, .int .i64 0, .int .i64 0, .slice none 0 0, .slice none 0 0, .slice none 0 0]) (t := 34) ?hr ?_; (case hd => rfl); (case hg => rfl); (case hr => first | (go_simp; done) | (go_simp; rfl)); intro g2 hg w4 hbox hb; have K2 := Aside0.mk hbox; have HB0 := Aside0.mk hb; have G2 := Aside0.mk (Nat.le_of_eq hg.symm : w.heap.size ≤ g2); clear hg hbox hb)
  | ((with_reducible refine gate_dst (N := 10) rfl ?_); refine box_event ?hg (N := 10) ?hd (cs := #[.slice A0 s.length c0, .int .i64 0, .int .u64 0]) (t := 146) ?hr ?_; (case hd => rfl); (case hg => rfl); (case hr => first | (go_simp; done) | (go_simp; rfl)); intro g1 hg w6 hbox hb; have HI : Aside0 (IsS146 w w6 g1 s 0 0) := ⟨⟨A0, c0, hbox, by rw [hg]; exact below_size HB0.out, H0.out⟩⟩; have HB := Aside0.mk (below_step HB0.out hb); have N21 := Aside0.mk ((by rw [hg]; exact Nat.ne_of_lt (blk_lt K2.out)) : g2 ≠ g1); have n0_ := Aside0.mk (blk_below K2.out hb); clear K2 HB0; have K2 := n0_; clear n0_ hg hbox hb))
 have L1 := Aside0.mk (IsS146.lt HI.out)
 have L2 := Aside0.mk (blk_lt K2.out)
 refine (spec_l1Cur_anyModel.calls k1 g1 s 0 0 x y z t g r a1 d1 w w6 HI.out HB.out HK1.out).mono ?_
 rintro e w7 ⟨v3, v4, v5, rfl, h3, h4, h5, hi, hb, hkp⟩
 obtain ⟨A3, c3, rfl⟩ := Kd.R_slice h3
 obtain ⟨A4, c4, rfl⟩ := Kd.R_slice h4
 obtain ⟨A5, c5, rfl⟩ := Kd.R_slice h5
 have N3 : Aside0 (Kd.R (Kd.int .i64) 3 w7 w6.heap.size (fun k => w6.heap.size ≤ k ∧ k < w7.heap.size) (.slice A3 t.length c3) t) := ⟨Kd.R_mono (Kd.R_bound h3) (fun k hk => ⟨hk.2.1, hk.2.2.1⟩)⟩
 have N4 : Aside0 (Kd.R (Kd.int .i64) 3 w7 w6.heap.size (fun k => w6.heap.size ≤ k ∧ k < w7.heap.size) (.slice A4 g.length c4) g) := ⟨Kd.R_mono (Kd.R_bound h4) (fun k hk => ⟨hk.2.1, hk.2.2.1⟩)⟩
 have N5 : Aside0 (Kd.R (Kd.int .i64) 3 w7 w6.heap.size (fun k => w6.heap.size ≤ k ∧ k < w7.heap.size) (.slice A5 r.length c5) r) := ⟨Kd.R_mono (Kd.R_bound h5) (fun k hk => ⟨hk.2.1, hk.2.2.1⟩)⟩
 have HI7 := Aside0.mk hi
 have HB7 := Aside0.mk hb
 have n0_ := Aside0.mk ((hkp.2 g2 L2.out N21.out (by simp)).trans K2.out)
 have LS := Aside0.mk hkp.1
 have HB6 := Aside0.mk HB.out
 clear K2 h3 h4 h5 hi hb hkp HI HB
 have K2 := n0_
 clear n0_
 go_wp2_with fail
 have hb := below_alloc (Below.refl w7.heap.size w7) (Obj.cells #[.int .i64 x, .int .i64 y, .int .i64 z, .slice A3 t.length c3, .slice A4 g.length c4, .slice A5 r.length c5] 34)
 have hbox : (w7.alloc (Obj.cells #[.int .i64 x, .int .i64 y, .int .i64 z, .slice A3 t.length c3, .slice A4 g.length c4, .slice A5 r.length c5] 34)).heap[w7.heap.size]? = some (.cells #[.int .i64 x, .int .i64 y, .int .i64 z, .slice A3 t.length c3, .slice A4 g.length c4, .slice A5 r.length c5] 34 (0, 0)) := blk_new w7 _
 have n0_ := Aside0.mk (blk_below K2.out hb)
 have n3_ := Aside0.mk (Kd.R_below N3.out hb)
 have n4_ := Aside0.mk (Kd.R_below N4.out hb)
 have n5_ := Aside0.mk (Kd.R_below N5.out hb)
 have n6_ := Aside0.mk (IsS146.below HI7.out hb)
 have n7_ := Aside0.mk (below_step HB7.out hb)
 clear K2 N3 N4 N5 HI7 HB7 hb
 generalize w7.alloc (Obj.cells #[.int .i64 x, .int .i64 y, .int .i64 z, .slice A3 t.length c3, .slice A4 g.length c4, .slice A5 r.length c5] 34) = w9 at n0_ n3_ n4_ n5_ n6_ n7_ hbox ⊢
 obtain ⟨g6, hg6⟩ : ∃ g6, g6 = w7.heap.size := ⟨_, rfl⟩
 rw [← hg6] at hbox ⊢
 have G6 := Aside0.mk (Nat.le_of_eq hg6.symm : w7.heap.size ≤ g6)
 have K2 : Aside0 (w9.drew.heap[g2]? = _) := n0_
 have K6 : Aside0 (w9.drew.heap[g6]? = _) := Aside0.mk hbox
 have N3 := Aside0.mk (Kd.R_drew n3_.out)
 have N4 := Aside0.mk (Kd.R_drew n4_.out)
 have N5 := Aside0.mk (Kd.R_drew n5_.out)
 have HI9 := Aside0.mk (IsS146.drew n6_.out)
 have HB9 := Aside0.mk (below_drew1 n7_.out)
 have N61 : Aside0 (g6 ≠ g1) := ⟨by have := L1.out; have := G6.out; have := LS.out; omega⟩
 have N62 : Aside0 (g6 ≠ g2) := ⟨by have := L2.out; have := G6.out; have := LS.out; omega⟩
 have L6 : Aside0 (w6.heap.size ≤ w9.drew.heap.size) := ⟨by have := blk_lt K6.out; have := G6.out; have := LS.out; omega⟩
 clear n0_ n3_ n4_ n5_ n6_ n7_ hbox hg6
 refine start_ (n := 10) (S := fun w' => w'.cell? ⟨g6, 0, none⟩ = some (.int .i64 x) ∧ w'.cell? ⟨g6, 1, none⟩ = some (.int .i64 y) ∧ w'.cell? ⟨g6, 2, none⟩ = some (.int .i64 z) ∧ w'.cell? ⟨g6, 3, none⟩ = some (.slice A3 t.length c3) ∧ w'.cell? ⟨g6, 4, none⟩ = some (.slice A4 g.length c4) ∧ w'.cell? ⟨g6, 5, none⟩ = some (.slice A5 r.length c5)) (ds := [7]) #[false, false, false, false, false, false, false, false, false, false] (by kernel_rfl) rfl rfl ⟨(blk_cell K6.out 0).trans rfl, (blk_cell K6.out 1).trans rfl, (blk_cell K6.out 2).trans rfl, (blk_cell K6.out 3).trans rfl, (blk_cell K6.out 4).trans rfl, (blk_cell K6.out 5).trans rfl⟩ (fun hHeld => ?_)
 refine with_tabW spec_DrawStripRatio_tab4 spec_DrawStripRatio_bits4 (fun HT_ HW_ => ?_)
 generalize w9.drew = wa at K2 K6 N3 N4 N5 HI9 HB9 L6 hHeld ⊢
 refine pure_ (i := 1) (N := some 17) (v := ?_) (a' := ?_) #[false, true, false, false, false, false, false, false, false, false] rfl rfl (any_of HT_.out (by kernel_rfl)) (fun _ _ _ h => h) (Or.inl ⟨by rfl, ?_⟩) ?_ ?_
 rotate_left
 ·intro w'
  go_simp
  with_reducible rfl
 rotate_left
 ·simp only [Act.put, List.setIfInBounds_toArray, List.set_cons_zero, List.set_cons_succ, i64_w, i32_w]
  rfl
 refine pure_ (i := 2) (N := some 18) (v := ?_) (a' := ?_) #[false, true, true, false, false, false, false, false, false, false] rfl rfl (any_of HT_.out (by kernel_rfl)) (fun _ _ _ h => h) (Or.inl ⟨by rfl, ?_⟩) ?_ ?_
 rotate_left
 ·intro w'
  go_simp
  with_reducible rfl
 rotate_left
 ·simp only [Act.put, List.setIfInBounds_toArray, List.set_cons_zero, List.set_cons_succ, i64_w, i32_w]
  rfl
 refine pure_ (i := 4) (N := some 20) (v := ?_) (a' := ?_) #[false, true, true, false, true, false, false, false, false, false] rfl rfl (any_of HT_.out (by kernel_rfl)) (fun _ _ _ h => h) (Or.inl ⟨by rfl, ?_⟩) ?_ ?_
 rotate_left
 ·intro w'
  go_simp
  with_reducible rfl
 rotate_left
 ·simp only [Act.put, List.setIfInBounds_toArray, List.set_cons_zero, List.set_cons_succ, i64_w, i32_w]
  rfl
 refine pure_ (i := 5) (N := some 21) (v := ?_) (a' := ?_) #[false, true, true, false, true, true, false, false, false, false] rfl rfl (any_of HT_.out (by kernel_rfl)) (fun _ _ _ h => h) (Or.inl ⟨by rfl, ?_⟩) ?_ ?_
 rotate_left
 ·intro w'
  go_simp
  with_reducible rfl
 rotate_left
 ·simp only [Act.put, List.setIfInBounds_toArray, List.set_cons_zero, List.set_cons_succ, i64_w, i32_w]
  rfl
 refine take_ (i := 0) (N := some 16) (v := ?_) (a' := ?_) #[true, true, true, false, true, true, false, false, false, false] rfl rfl (take_ofW HT_.out HW_.out (by kernel_rfl)) (fun _ _ _ h => h) (Or.inl ⟨by rfl, ?_⟩) hHeld ?_ ?_
 rotate_left
 ·rintro w' ⟨s0, s1, s2, s3, s4, s5⟩
  go_simp
  with_reducible rfl
 rotate_left
 ·simp only [Act.put, List.setIfInBounds_toArray, List.set_cons_zero, List.set_cons_succ, i64_w, i32_w]
  rfl
 refine one_ (i := 3) (N := some 19) #[true, true, true, true, true, true, false, false, false, false] rfl rfl (one_of HT_.out (by kernel_rfl)) (by decide) (fun K hK => ?_)
 refine goes_ Try.func127 (by kernel_rfl) rfl #[.pointer (some ⟨g1, 0, none⟩), .int .i64 (t.length : Int)] (by rfl) rfl rfl (by (try simp only [List.map_toArray, List.map_cons, List.map_nil]); first | done | rfl | (simp only [List.length_drop, List.length_take]; rfl)) ?_
 refine (spec_l1Cur_values.calls k2 g1 s a1 d1 t.length v a2 d2 w wa HI9.out HB9.out HK2.out).mono ?_
 rintro e wb ⟨vv, rfl, ho, hi, hb, hkp⟩
 obtain ⟨A, c, rfl⟩ := Kd.R_slice ho
 refine ⟨_, rfl, ?_⟩
 have HO : Aside0 (Kd.R (Kd.int .i64) 3 wb wa.heap.size (fun k => w6.heap.size ≤ k ∧ k ≠ g1) (.slice A v.length c) v) := ⟨Kd.R_mono (Kd.R_bound (IsS146.apart hi ho (by decide))) (fun k hk => ⟨Nat.le_trans L6.out hk.2.1, hk.1.2⟩)⟩
 have n3_ := Aside0.mk (Kd.R_keep N3.out hkp (fun k hk => by have := L1.out; omega))
 have n4_ := Aside0.mk (Kd.R_keep N4.out hkp (fun k hk => by have := L1.out; omega))
 have n5_ := Aside0.mk (Kd.R_keep N5.out hkp (fun k hk => by have := L1.out; omega))
 have n6_ := Aside0.mk ((hkp.2 g2 (blk_lt K2.out) N21.out (by simp)).trans K2.out)
 have n7_ := Aside0.mk ((hkp.2 g6 (blk_lt K6.out) N61.out (by simp)).trans K6.out)
 have n1_ := Aside0.mk hi
 have n2_ := Aside0.mk hb
 have L6b := Aside0.mk (Nat.le_trans L6.out hkp.1)
 clear K2 K6 N3 N4 N5 HI9 HB9 L6 ho hi hb hkp
 have HIb := n1_
 have HBb := n2_
 have N3 := n3_
 have N4 := n4_
 have N5 := n5_
 have K2 := n6_
 have K6 := n7_
 clear n1_ n2_ n3_ n4_ n5_ n6_ n7_
 refine hK.out _ _ ⟨(blk_cell K6.out 0).trans rfl, (blk_cell K6.out 1).trans rfl, (blk_cell K6.out 2).trans rfl, (blk_cell K6.out 3).trans rfl, (blk_cell K6.out 4).trans rfl, (blk_cell K6.out 5).trans rfl⟩ (fun hHeld => ?_)
 clear hK K
 refine one_ (i := 6) (N := some 22) #[true, true, true, true, true, true, true, false, false, false] rfl rfl (one_of HT_.out (by kernel_rfl)) (by decide) (fun K hK => ?_)
 refine goes_ Try.func129 (by kernel_rfl) rfl #[.pointer (some ⟨g1, 0, none⟩), .int .i64 (t.length : Int)] (by rfl) rfl rfl (by (try simp only [List.map_toArray, List.map_cons, List.map_nil]); first | done | rfl | (simp only [List.length_drop, List.length_take]; rfl)) ?_
 refine (spec_l1Cur_some.calls k3 g1 s a2 d2 t.length l a3 d3 w wb HIb.out HBb.out HK3.out).mono ?_
 rintro e wc ⟨vw, rfl, ho, hi, hb, hkp⟩
 obtain ⟨A', c', rfl⟩ := Kd.R_slice ho
 refine ⟨_, rfl, ?_⟩
 have HP : Aside0 (Kd.R (Kd.int .i64) 3 wc wb.heap.size (fun k => w6.heap.size ≤ k) (.slice A' l.length c') l) := ⟨Kd.R_mono (Kd.R_bound ho) (fun k hk => Nat.le_trans L6b.out hk.2.1)⟩
 have n8_ := Aside0.mk (Kd.R_keep HO.out hkp (fun k hk => hk.2))
 have n3_ := Aside0.mk (Kd.R_keep N3.out hkp (fun k hk => by have := L1.out; omega))
 have n4_ := Aside0.mk (Kd.R_keep N4.out hkp (fun k hk => by have := L1.out; omega))
 have n5_ := Aside0.mk (Kd.R_keep N5.out hkp (fun k hk => by have := L1.out; omega))
 have n6_ := Aside0.mk ((hkp.2 g2 (blk_lt K2.out) N21.out (by simp)).trans K2.out)
 have n7_ := Aside0.mk ((hkp.2 g6 (blk_lt K6.out) N61.out (by simp)).trans K6.out)
 have n2_ := Aside0.mk hb
 clear K2 K6 N3 N4 N5 HIb HBb L6b HO ho hi hb hkp
 have HBc := n2_
 have HO := n8_
 have N3 := n3_
 have N4 := n4_
 have N5 := n5_
 have K2 := n6_
 have K6 := n7_
 clear n2_ n3_ n4_ n5_ n6_ n7_ n8_
 refine hK.out _ _ ⟨(blk_cell K6.out 0).trans rfl, (blk_cell K6.out 1).trans rfl, (blk_cell K6.out 2).trans rfl, (blk_cell K6.out 3).trans rfl, (blk_cell K6.out 4).trans rfl, (blk_cell K6.out 5).trans rfl⟩ (fun hHeld => ?_)
 clear hK K
 refine last_ (i := 7) (N := none) #[true, true, true, true, true, true, true, true, false, false] rfl rfl (one_of HT_.out (by kernel_rfl)) (by decide) (fun K hK => ?_)
 refine skip_ (w1 := wc.setRow g2 (#[.int .i64 x, .int .i64 y, .int .i64 z, .slice A3 t.length c3, .slice A4 g.length c4, .slice A5 r.length c5])) (by rfl) rfl ?_ ?_
 ·exact run_store_row (o := { dst := none, op := .store 34 (.tmp 2) (.tmp 16), type := 0, pos := _, after := _, guard := none }) 34 (.tmp 2) (.tmp 16) rfl g2 (#[.int .i64 x, .int .i64 y, .int .i64 z, .slice A3 t.length c3, .slice A4 g.length c4, .slice A5 r.length c5]) rfl rfl 34 _ K2.out (by kernel_rfl) rfl (by simp [Value.oneCell'])
 refine hK.out _ _ ?_
 clear hK K
 refine pure_ (i := 8) (N := some 3) (v := ?_) (a' := ?_) #[true, true, true, true, true, true, true, true, true, false] rfl rfl (any_of HT_.out (by kernel_rfl)) (fun _ _ _ h => h) (Or.inl ⟨by rfl, ?_⟩) ?_ ?_
 rotate_left
 ·intro w'
  go_simp
  with_reducible rfl
 rotate_left
 ·simp only [Act.put, List.setIfInBounds_toArray, List.set_cons_zero, List.set_cons_succ, i64_w, i32_w]
  rfl
 refine pure_ (i := 9) (N := some 4) (v := ?_) (a' := ?_) #[true, true, true, true, true, true, true, true, true, true] rfl rfl (any_of HT_.out (by kernel_rfl)) (fun _ _ _ h => h) (Or.inl ⟨by rfl, ?_⟩) ?_ ?_
 rotate_left
 ·intro w'
  go_simp
  with_reducible rfl
 rotate_left
 ·simp only [Act.put, List.setIfInBounds_toArray, List.set_cons_zero, List.set_cons_succ, i64_w, i32_w]
  rfl
 refine done_ (done_of HT_.out (by kernel_rfl)) ?_
 have n0_ := Aside0.mk (setRow_heap wc g2 _ (#[.int .i64 x, .int .i64 y, .int .i64 z, .slice A3 t.length c3, .slice A4 g.length c4, .slice A5 r.length c5]) 34 _ K2.out)
 have n3_ := Aside0.mk (Kd.R_step N3.out (fun k hk _ => setRow_other wc g2 k (#[.int .i64 x, .int .i64 y, .int .i64 z, .slice A3 t.length c3, .slice A4 g.length c4, .slice A5 r.length c5]) (by have := L2.out; omega)))
 have n4_ := Aside0.mk (Kd.R_step N4.out (fun k hk _ => setRow_other wc g2 k (#[.int .i64 x, .int .i64 y, .int .i64 z, .slice A3 t.length c3, .slice A4 g.length c4, .slice A5 r.length c5]) (by have := L2.out; omega)))
 have n5_ := Aside0.mk (Kd.R_step N5.out (fun k hk _ => setRow_other wc g2 k (#[.int .i64 x, .int .i64 y, .int .i64 z, .slice A3 t.length c3, .slice A4 g.length c4, .slice A5 r.length c5]) (by have := L2.out; omega)))
 have n6_ := Aside0.mk (Kd.R_step HO.out (fun k hk _ => setRow_other wc g2 k (#[.int .i64 x, .int .i64 y, .int .i64 z, .slice A3 t.length c3, .slice A4 g.length c4, .slice A5 r.length c5]) (by have := L2.out; omega)))
 have n7_ := Aside0.mk (Kd.R_step HP.out (fun k hk _ => setRow_other wc g2 k (#[.int .i64 x, .int .i64 y, .int .i64 z, .slice A3 t.length c3, .slice A4 g.length c4, .slice A5 r.length c5]) (by have := L2.out; omega)))
 have n8_ := Aside0.mk (below_row HBc.out G2.out (#[.int .i64 x, .int .i64 y, .int .i64 z, .slice A3 t.length c3, .slice A4 g.length c4, .slice A5 r.length c5]))
 clear K2 K6 N3 N4 N5 HO HP HBc
 generalize wc.setRow g2 (#[.int .i64 x, .int .i64 y, .int .i64 z, .slice A3 t.length c3, .slice A4 g.length c4, .slice A5 r.length c5]) = wd at n0_ n3_ n4_ n5_ n6_ n7_ n8_ ⊢
 go_wp2_with fail
 refine bodyPost_ret (results_list (rs := [.cell 2 34, .tmp 3, .tmp 4]) rfl (by simp) (.cell g2 34 _ (0, 0) _ rfl n0_.out Try.underlying34 rfl (by kernel_rfl) (.tmp (.tmp .nil)))) rfl ?_
 exact ⟨A3, c3, A4, c4, A5, c5, A, c, A', c', rfl, ⟨(Kd.R_reads' n3_.out).2.2, (Kd.R_reads' n3_.out).2.1⟩, ⟨(Kd.R_reads' n4_.out).2.2, (Kd.R_reads' n4_.out).2.1⟩, ⟨(Kd.R_reads' n5_.out).2.2, (Kd.R_reads' n5_.out).2.1⟩, ⟨(Kd.R_reads' n6_.out).2.2, (Kd.R_reads' n6_.out).2.1⟩, ⟨(Kd.R_reads' n7_.out).2.2, (Kd.R_reads' n7_.out).2.1⟩, n8_.out⟩
end Go.Proofs.Ytomfjhpiemipkaa.DrawOre
