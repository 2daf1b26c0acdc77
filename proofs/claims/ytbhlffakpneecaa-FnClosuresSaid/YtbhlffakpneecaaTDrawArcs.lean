/- What the drawing of arcs tells: rows of bounded lengths, of one block at least. -/
import Derived.Test.YtbhlffakpneecaaTBase
import Derived.Test.YtbhlffakpneecaaTMarks
import Derived.Test.YtbhlffakpneecaaTFold
import Derived.Test.YtbhlffakpneecaaTWTab
import Derived.Test.YtbhlffakpneecaaTMFnClosuresx5
import Derived.Test.YtbhlffakpneecaaTMFnClosuresx5
import Derived.Test.YtbhlffakpneecaaTMFnClosuresx1
namespace Go.Proofs.Ytbhlffakpneecaa.DrawArcs
open Go.RowKit Go.Proofs.Ytbhlffakpneecaa.PFnClosures Go.Proofs.YtbhlffakpneecaaW.PrintWords Go.Proofs.YtbhlffakpneecaaW.PrintLast Go.Proofs.YtbhlffakpneecaaW.PrintMore Go.Proofs.Ytbhlffakpneecaa.B
set_option linter.unusedVariables false
set_option linter.unusedSimpArgs false
theorem zrcs_0 {P:Prop} (h:P:=by show a ≤ r3.2.1; omega):P:=h
theorem zrcs_1 {P:Prop} (h:P:=by show r3.2.1 ≤ a + 50; omega):P:=h
/-- From some number of rounds on f tells a result with the property P. -/
def Tl {β : Type} (f : Nat → Option β) (P : β → Prop) : Prop := ∃ r, Ev f r ∧ P r
theorem Tl.bind {α β : Type} {f : Nat → Option α} {g : Nat → α → Option β} {P : α → Prop} {Q : β → Prop} (h : Tl f P) (hg : ∀ r, P r → Tl (fun k => g k r) Q) : Tl (fun k => (f k).bind (g k)) Q := by
 obtain ⟨r, e, p⟩ := h
 obtain ⟨s, e2, q⟩ := hg r p
 exact ⟨s, Ev.bind e e2, q⟩
theorem Tl.now {β : Type} {r : β} {P : β → Prop} (h : P r) : Tl (fun _ => some r) P := ⟨r, Ev.now r, h⟩
theorem Tl.const {β : Type} {o : Option β} {P : β → Prop} (h : ∃ r, o = some r ∧ P r) : Tl (fun _ => o) P := by
 obtain ⟨r, e, p⟩ := h
 exact ⟨r, ev_const e, p⟩
theorem Tl.pos {α : Type} {c : Prop} [Decidable c] {a b : Nat → Option α} {P : α → Prop} (h : c) (k : Tl a P) : Tl (fun n => if c then a n else b n) P := by
 simp only [if_pos h]; exact k
theorem Tl.neg {α : Type} {c : Prop} [Decidable c] {a b : Nat → Option α} {P : α → Prop} (h : ¬ c) (k : Tl b P) : Tl (fun n => if c then a n else b n) P := by
 simp only [if_neg h]; exact k
theorem Tl.ite {α : Type} {c : Prop} [Decidable c] {a b : Nat → Option α} {P : α → Prop} (h : c → Tl a P) (k : ¬ c → Tl b P) : Tl (fun n => if c then a n else b n) P := by
 by_cases hc : c
 ·exact Tl.pos hc (h hc)
 ·exact Tl.neg hc (k hc)
theorem Tl.step {α : Type} {g f : Nat → Option α} {P : α → Prop} (h : ∀ k, g (k + 1) = f k) (k : Tl f P) : Tl g P := by
 obtain ⟨r, e, p⟩ := k
 exact ⟨r, Ev.step h e, p⟩
theorem Tl.mono {α : Type} {f : Nat → Option α} {P Q : α → Prop} (h : Tl f P) (hq : ∀ r, P r → Q r) : Tl f Q := by
 obtain ⟨r, e, p⟩ := h
 exact ⟨r, e, hq r p⟩
theorem Tl.ev {α : Type} {f : Nat → Option α} {P : α → Prop} {r : α} (h : Ev f r) (p : P r) : Tl f P := ⟨r, h, p⟩
/-- The bytes that a drawing goes by. -/
def Bytes (s : List Int) : Prop := (∀ x ∈ s, 0 ≤ x ∧ x < 256) ∧ s.length ≤ 1048576
/-- Where the drawing stands. -/
abbrev At (a : Int) (n : Int) : Prop := 0 ≤ a ∧ a ≤ n
theorem u64_mod (n : Int) : IntKind.u64.wrap n = n % 18446744073709551616 := by simp [IntKind.wrap, IntKind.bits, IntKind.signed]
theorem low_byte (x : Int) (h0 : 0 ≤ x) (h1 : x < 16777216) : 0 ≤ Go.bits .and .u64 x 255 ∧ Go.bits .and .u64 x 255 < 256 := by
 have h := bits_mask .u64 24 (by decide) (fun n a b => by rw [u64_mod]; have : n < 16777216 := b; omega) 8 (by decide) x h0 h1
 rw [show ((2 : Int) ^ 8 - 1) = 255 from rfl] at h
 rw [h]
 have : (2 : Int) ^ 8 = 256 := rfl
 omega
theorem next_tl {s : List Int} (hs : Bytes s) (a d : Int) (ha : At a 1152921504606846976) : ∃ r, spec_l1Cur_next.f s a d = some r ∧ 0 ≤ r.1 ∧ r.1 < 256 ∧ r.2.1 = a + 1 := by
 have hw : wrap64 (a + 1) = a + 1 := w64 (by omega) (by omega)
 have hl := hs.2
 have hb : ∀ z : Int, 0 ≤ wrap64 (Go.bits .and .u64 (IntKind.u64.wrap z / 1099511627776) 255) ∧ wrap64 (Go.bits .and .u64 (IntKind.u64.wrap z / 1099511627776) 255) < 256 := by
  intro z
  rw [u64_mod]
  have h := low_byte (z % 18446744073709551616 / 1099511627776) (by omega) (by omega)
  rw [w64 (by omega) (by omega)]
  exact h
 unfold spec_l1Cur_next.f
 rw [hw]
 by_cases h : a < (s.length : Int)
 ·have hr : 0 ≤ rd s a ∧ rd s a < 256 := hs.1 _ (by unfold rd; exact getD_mem (by omega))
  rw [if_pos h, if_pos ha.1]
  by_cases h2 : a + 1 ≤ (s.length : Int)
  ·rw [if_pos h2]
   exact ⟨_, rfl, by show 0 ≤ wrap64 (rd s a); rw [w64 (by omega) (by omega)]; exact hr.1, by show wrap64 (rd s a) < 256; rw [w64 (by omega) (by omega)]; exact hr.2, rfl⟩
  ·rw [if_neg h2]
   exact ⟨_, rfl, (hb _).1, (hb _).2, rfl⟩
 ·rw [if_neg h]
  by_cases h2 : a + 1 ≤ (s.length : Int)
  ·omega
  ·rw [if_neg h2]
   exact ⟨_, rfl, (hb _).1, (hb _).2, rfl⟩
theorem pick_some {s : List Int} (hs : Bytes s) (a d n : Int) (ha : At a 576460752303423488) : ∃ r, spec_l1Cur_pick.f s a d n = some r ∧ 0 ≤ r.1 ∧ (r.1 < n ∨ r.1 = 0) ∧ a ≤ r.2.1 ∧ r.2.1 ≤ a + 2 := by
 unfold spec_l1Cur_pick.f
 by_cases h : n ≤ 1
 ·rw [if_pos h]; exact ⟨_, rfl, Int.le_refl _, Or.inr rfl, Int.le_refl _, by show a ≤ a + 2; omega⟩
 ·rw [if_neg h]
  obtain ⟨x, ex, x0, x1, xa⟩ := next_tl hs a d (by omega)
  rw [ex, Option.bind_some]
  by_cases h2 : n > 200
  ·rw [if_pos h2]
   obtain ⟨y, ey, y0, y1, ya⟩ := next_tl hs x.2.1 x.2.2 (by omega)
   rw [ey, Option.bind_some, if_neg (by omega)]
   have e1 : wrap64 (x.1 * 256) = x.1 * 256 := w64 (by omega) (by omega)
   have e2 : wrap64 (x.1 * 256 + y.1) = x.1 * 256 + y.1 := w64 (by omega) (by omega)
   refine ⟨_, rfl, ?_, Or.inl ?_, ?_, ?_⟩
   ·show 0 ≤ Int.tmod (wrap64 (wrap64 (x.1 * 256) + y.1)) n
    rw [e1, e2, Int.tmod_eq_emod_of_nonneg (by omega)]; exact Int.emod_nonneg _ (by omega)
   ·show Int.tmod (wrap64 (wrap64 (x.1 * 256) + y.1)) n < n
    rw [e1, e2, Int.tmod_eq_emod_of_nonneg (by omega)]; exact Int.emod_lt_of_pos _ (by omega)
   ·show a ≤ y.2.1; omega
   ·show y.2.1 ≤ a + 2; omega
  ·rw [if_neg h2, if_neg (by omega)]
   refine ⟨_, rfl, ?_, Or.inl ?_, ?_, ?_⟩
   ·show 0 ≤ Int.tmod x.1 n
    rw [Int.tmod_eq_emod_of_nonneg (by omega)]; exact Int.emod_nonneg _ (by omega)
   ·show Int.tmod x.1 n < n
    rw [Int.tmod_eq_emod_of_nonneg (by omega)]; exact Int.emod_lt_of_pos _ (by omega)
   ·show a ≤ x.2.1; omega
   ·show x.2.1 ≤ a + 2; omega
/-- pick(n) for n from 1 on -/
theorem pick_tl {s : List Int} (hs : Bytes s) (a d n : Int) (hn : 1 ≤ n) (ha : At a 576460752303423488) : Tl (fun _ => spec_l1Cur_pick.f s a d n) (fun r => (0 ≤ r.1 ∧ r.1 < n) ∧ a ≤ r.2.1 ∧ r.2.1 ≤ a + 2) := by
 obtain ⟨r, e, h0, h1, h2, h3⟩ := pick_some hs a d n ha
 exact Tl.const ⟨r, e, ⟨h0, by omega⟩, h2, h3⟩
theorem one_tl {s : List Int} (hs : Bytes s) (a d n : Int) (ha : At a 576460752303423488) : Tl (fun _ => spec_l1Cur_one.f s a d n) (fun r => a ≤ r.2.1 ∧ r.2.1 ≤ a + 2) := by
 unfold spec_l1Cur_one.f
 obtain ⟨r, e, h0, h1, h2, h3⟩ := pick_some hs a d n ha
 rw [e]
 exact Tl.const ⟨_, rfl, h2, h3⟩
theorem among_tl {s : List Int} (hs : Bytes s) (a d : Int) (l : List Int) (hl : 1 ≤ l.length) (ha : At a 576460752303423488) : Tl (fun _ => spec_l1Cur_among.f s a d l) (fun r => r.1 ∈ l ∧ a ≤ r.2.1 ∧ r.2.1 ≤ a + 2) := by
 unfold spec_l1Cur_among.f
 obtain ⟨r, e, h0, h1, h2, h3⟩ := pick_some hs a d (l.length : Int) ha
 rw [e]
 refine Tl.const ?_
 rw [Option.bind_some, if_pos h0, if_pos (by omega)]
 exact ⟨_, rfl, by show rd l r.1 ∈ l; unfold rd; exact getD_mem (by omega), h2, h3⟩
/-- whether standard template k has an offset, by what it is away -/
def tA (k x y u : Int) : Bool := (u == 1 && ((k == 1 && x + y == 0) || (((k == 2 || k == 4) && decide (x + y ≤ 1)) || (k == 3 && decide (max x y ≤ 1))))) || (u == 2 && (k == 4 && (max x y == 2 && x + y == 2)))
def absI (x : Int) : Int := if x < 0 then -x else x
def tP (k dx dy u : Int) : Bool := tA k (absI dx) (absI dy) u
def row1 (k u dy : Int) (o : List S96) (j : Nat) : List S96 := if tP k ((j : Int) - 2) dy u = true then o ++ [⟨(j : Int) - 2, dy, u⟩] else o
def row2 (k u : Int) (o : List S96) (j : Nat) : List S96 := foldR (row1 k u ((j : Int) - 2)) 0 5 o
def lev (k : Int) (o : List S96) (j : Nat) : List S96 := foldR (row2 k ((j : Int) + 1)) 0 5 o
def tmpl (k : Int) : List S96 := foldR (lev k) 0 2 []
theorem row1_len (k u dy : Int) (i : Nat) (o : List S96) : (foldR (row1 k u dy) 0 i o).length ≤ o.length + i := by
 induction i with
 | zero => rw [foldR_end (Nat.le_refl _)]; exact Nat.le_refl _
 | succ i ih =>
  rw [foldR_last (Nat.zero_le _)]
  generalize foldR (row1 k u dy) 0 i o = q at *
  unfold row1
  split
  ·rw [List.length_append]; simp; omega
  ·omega
theorem row2_len (k u : Int) (i : Nat) (o : List S96) : (foldR (row2 k u) 0 i o).length ≤ o.length + 5 * i := by
 induction i with
 | zero => rw [foldR_end (Nat.le_refl _)]; exact Nat.le_refl _
 | succ i ih =>
  rw [foldR_last (Nat.zero_le _)]
  have := row1_len k u ((i : Int) - 2) 5 (foldR (row2 k u) 0 i o)
  unfold row2 at *
  omega
theorem lev_len (k : Int) (i : Nat) : (foldR (lev k) 0 i []).length ≤ 25 * i := by
 induction i with
 | zero => rw [foldR_end (Nat.le_refl _)]; exact Nat.le_refl _
 | succ i ih =>
  rw [foldR_last (Nat.zero_le _)]
  have := row2_len k ((i : Int) + 1) 5 (foldR (lev k) 0 i [])
  unfold lev at *
  omega
theorem five {x : Int} (h : -2 ≤ x ∧ x ≤ 2) : x = -2 ∨ x = -1 ∨ x = 0 ∨ x = 1 ∨ x = 2 := by omega
theorem slHas_all : (([1, 2, 3, 4] : List Int).all fun k => ([-2, -1, 0, 1, 2] : List Int).all fun dx => ([-2, -1, 0, 1, 2] : List Int).all fun dy => ([1, 2] : List Int).all fun u => decide (spec_slHas.f k dx dy u = some (tP k dx dy u))) = true := by kernel_rfl
theorem slHas_eq {k dx dy u : Int} (hk : 1 ≤ k ∧ k ≤ 4) (hx : -2 ≤ dx ∧ dx ≤ 2) (hy : -2 ≤ dy ∧ dy ≤ 2) (hu : u = 1 ∨ u = 2) : spec_slHas.f k dx dy u = some (tP k dx dy u) := by
 have hk' : k = 1 ∨ k = 2 ∨ k = 3 ∨ k = 4 := by omega
 have h := slHas_all
 simp only [List.all_eq_true] at h
 refine of_decide_eq_true (h k ?_ dx ?_ dy ?_ u ?_)
 ·rcases hk' with rfl | rfl | rfl | rfl <;> simp
 ·rcases five hx with rfl | rfl | rfl | rfl | rfl <;> simp
 ·rcases five hy with rfl | rfl | rfl | rfl | rfl <;> simp
 ·rcases hu with rfl | rfl <;> simp
theorem slStandard_l2 (k : Int) (hk : 1 ≤ k ∧ k ≤ 4) (u dy : Int) (hu : u = 1 ∨ u = 2) (hy : -2 ≤ dy ∧ dy ≤ 2) (o : List S96) (ho : o.length ≤ 1000) (q : List S96)
  (hq : Ev (fun n => spec_slStandard.l1 n k (foldR (row1 k u dy) 0 5 o) u (wrap64 (dy + 1))) q) : ∀ (d i : Nat), i + d = 5 → Ev (fun n => spec_slStandard.l2 n k (foldR (row1 k u dy) 0 i o) u dy ((i : Int) - 2)) q := by
 intro d
 induction d with
 | zero =>
  intro i hi
  obtain rfl : i = 5 := by omega
  exact Ev.step (fun n => spec_slStandard.l2.eq_2 k (foldR (row1 k u dy) 0 5 o) u dy _ n) (ev_neg (by omega) hq)
 | succ d ih =>
  intro i hi
  have ih := ih (i + 1) (by omega)
  rw [foldR_last (Nat.zero_le _)] at ih
  have hl := row1_len k u dy i o
  refine Ev.step (fun n => spec_slStandard.l2.eq_2 k (foldR (row1 k u dy) 0 i o) u dy _ n) (ev_pos (by omega) ?_)
  refine ev_bindc (slHas_eq hk (by omega) hy hu) ?_
  have hw : wrap64 ((i : Int) - 2 + 1) = ((i + 1 : Nat) : Int) - 2 := by rw [w64 (by omega) (by omega)]; omega
  rw [hw]
  refine ev_ite (fun h => ev_pos (by omega) ?_) (fun h => ?_)
  ·rwa [show row1 k u dy (foldR (row1 k u dy) 0 i o) i = foldR (row1 k u dy) 0 i o ++ [⟨(i : Int) - 2, dy, u⟩] from if_pos h] at ih
  ·rwa [show row1 k u dy (foldR (row1 k u dy) 0 i o) i = foldR (row1 k u dy) 0 i o from if_neg h] at ih
theorem slStandard_l1 (k : Int) (hk : 1 ≤ k ∧ k ≤ 4) (u : Int) (hu : u = 1 ∨ u = 2) (o : List S96) (ho : o.length ≤ 500) (q : List S96)
  (hq : Ev (fun n => spec_slStandard.l0 n k (foldR (row2 k u) 0 5 o) (wrap64 (u + 1))) q) : ∀ (d i : Nat), i + d = 5 → Ev (fun n => spec_slStandard.l1 n k (foldR (row2 k u) 0 i o) u ((i : Int) - 2)) q := by
 intro d
 induction d with
 | zero =>
  intro i hi
  obtain rfl : i = 5 := by omega
  exact Ev.step (fun n => spec_slStandard.l1.eq_2 k (foldR (row2 k u) 0 5 o) u _ n) (ev_neg (by omega) hq)
 | succ d ih =>
  intro i hi
  have ih := ih (i + 1) (by omega)
  rw [foldR_last (Nat.zero_le _)] at ih
  have hl := row2_len k u i o
  refine Ev.step (fun n => spec_slStandard.l1.eq_2 k (foldR (row2 k u) 0 i o) u _ n) (ev_pos (by omega) ?_)
  have h2 := slStandard_l2 k hk u ((i : Int) - 2) hu (by omega) (foldR (row2 k u) 0 i o) (by omega) q (by
   rw [show wrap64 ((i : Int) - 2 + 1) = ((i + 1 : Nat) : Int) - 2 by rw [w64 (by omega) (by omega)]; omega]
   exact ih) 5 0 (by omega)
  rw [foldR_end (Nat.le_refl _)] at h2
  exact h2
theorem slStandard_ev (k : Int) (hk : 1 ≤ k ∧ k ≤ 4) : Ev (fun n => spec_slStandard.f n k) (tmpl k) := by
 unfold spec_slStandard.f
 have e3 : Ev (fun n => spec_slStandard.l0 n k (foldR (lev k) 0 2 []) 3) (tmpl k) := Ev.step (fun n => spec_slStandard.l0.eq_2 k _ 3 n) (ev_neg (by omega) (ev_some rfl))
 have e2 : Ev (fun n => spec_slStandard.l0 n k (foldR (lev k) 0 1 []) 2) (tmpl k) := by
  refine Ev.step (fun n => spec_slStandard.l0.eq_2 k _ 2 n) (ev_pos (by omega) ?_)
  have h := slStandard_l1 k hk 2 (Or.inr rfl) (foldR (lev k) 0 1 []) (by have := lev_len k 1; omega) (tmpl k) (by
   rw [foldR_last (Nat.zero_le 1)] at e3
   rw [show (foldR (row2 k 2) 0 5 (foldR (lev k) 0 1 [])) = lev k (foldR (lev k) 0 1 []) 1 from rfl, show wrap64 ((2 : Int) + 1) = 3 by rw [w64 (by omega) (by omega)]; rfl]
   exact e3) 5 0 (by omega)
  rw [foldR_end (Nat.le_refl _)] at h
  exact h
 refine Ev.step (fun n => spec_slStandard.l0.eq_2 k _ 1 n) (ev_pos (by omega) ?_)
 have h := slStandard_l1 k hk 1 (Or.inl rfl) [] (by simp) (tmpl k) (by
  rw [foldR_last (Nat.zero_le 0), foldR_end (Nat.le_refl _)] at e2
  rw [show (foldR (row2 k 1) 0 5 []) = lev k [] 0 from rfl, show wrap64 ((1 : Int) + 1) = 2 by rw [w64 (by omega) (by omega)]; rfl]
  exact e2) 5 0 (by omega)
 rw [foldR_end (Nat.le_refl _)] at h
 exact h
def befO (a b : S96) : Bool := if a.f2 = b.f2 then (if a.f1 = b.f1 then decide (a.f0 < b.f0) else decide (a.f1 < b.f1)) else decide (a.f2 < b.f2)
def okO (o : S96) : Bool := decide (-2 ≤ o.f0 ∧ o.f0 ≤ 2 ∧ -2 ≤ o.f1 ∧ o.f1 ≤ 2 ∧ 1 ≤ o.f2 ∧ o.f2 ≤ 2)
def offAt (l : List S96) (j : Nat) : Bool := okO (l.getD j z96) && (decide (j = 0) || befO (l.getD (j - 1) z96) (l.getD j z96))
def tmplOk (l : List S96) : Bool := decide (1 ≤ l.length ∧ l.length ≤ 12) && allR (offAt l) 0 l.length
theorem rdO (l : List S96) (i : Nat) : rd_T96 l (i : Int) = l.getD i z96 := by unfold rd_T96; rw [toNat_nat]
theorem l1In_eq (a b c : Int) : spec_l1In.f a b c = some (decide (b ≤ a ∧ a ≤ c)) := by
 unfold spec_l1In.f
 by_cases h : a ≥ b
 ·rw [if_pos h]; simp [show b ≤ a from h]
 ·rw [if_neg h]; simp [show ¬ b ≤ a from h]
theorem slBefore_eq (a b : S96) : spec_slBefore.f a.f0 a.f1 a.f2 b.f0 b.f1 b.f2 = some (befO a b) := by
 unfold spec_slBefore.f befO
 split <;> (try split) <;> rfl
theorem slTemplate_l0 (l : List S96) (hl : l.length ≤ maxLen) : ∀ (d i : Nat), i + d = l.length →
  Ev (fun k => spec_slTemplate.l0 k l l (l.length : Int) (i : Int)) (decide (1 ≤ l.length ∧ l.length ≤ 12) && allR (offAt l) i l.length) := by
 have hl := maxLen_le hl
 intro d
 induction d with
 | zero =>
  intro i hi
  refine Ev.step (fun k => spec_slTemplate.l0.eq_2 l l l.length i k) (ev_neg (by omega) (ev_bindc (l1In_eq _ _ _) (ev_some ?_)))
  rw [allR_end (by omega), Bool.and_true, decide_eq_decide]; omega
 | succ d ih =>
  intro i hi
  refine Ev.step (fun k => spec_slTemplate.l0.eq_2 l l l.length i k) ?_
  have ih := ih (i + 1) (by omega)
  rw [allR_step (by omega), w_succ (n := l.length) (by omega) (by omega), rdO]
  have no : offAt l i = false → false = (decide (1 ≤ l.length ∧ l.length ≤ 12) && (offAt l i && allR (offAt l) (i + 1) l.length)) := by
   intro h; rw [h, Bool.false_and, Bool.and_false]
  have yes : offAt l i = true → Ev (fun k => spec_slTemplate.l0 k l l (l.length : Int) ((i + 1 : Nat) : Int)) (decide (1 ≤ l.length ∧ l.length ≤ 12) && (offAt l i && allR (offAt l) (i + 1) l.length)) := by
   intro h; rw [h, Bool.true_and]; exact ih
  have bad : okO (l.getD i z96) = false → offAt l i = false := by intro h; unfold offAt; rw [h, Bool.false_and]
  refine ev_pos (by omega) (ev_pos (by omega) (ev_pos (by omega) (ev_bindc (l1In_eq _ _ _) ?_)))
  refine ev_ite (fun h => ?_) (fun h => ev_some (no (bad (by unfold okO; simp only [decide_eq_true_eq] at h; simp only [decide_eq_false_iff_not]; omega))))
  refine ev_bindc (l1In_eq _ _ _) (ev_ite (fun h1 => ?_) (fun h1 => ev_some (no (bad (by unfold okO; simp only [decide_eq_true_eq] at h1; simp only [decide_eq_false_iff_not]; omega)))))
  refine ev_bindc (l1In_eq _ _ _) (ev_ite (fun h2 => ?_) (fun h2 => ev_some (no (bad (by unfold okO; simp only [decide_eq_true_eq] at h2; simp only [decide_eq_false_iff_not]; omega)))))
  simp only [decide_eq_true_eq] at h h1 h2
  have hok : okO (l.getD i z96) = true := decide_eq_true (by omega)
  refine ev_ite (fun h0 => ?_) (fun h0 => yes (by unfold offAt; rw [hok, decide_eq_true (show i = 0 by omega)]; rfl))
  rw [w64 (x := (i : Int) - 1) (by omega) (by omega), show (i : Int) - 1 = ((i - 1 : Nat) : Int) by omega, rdO]
  refine ev_pos (by omega) (ev_pos (by omega) (ev_bindc (slBefore_eq _ _) (ev_ite (fun h3 => yes ?_) (fun h3 => ev_some (no ?_)))))
  ·unfold offAt; rw [hok, h3, Bool.or_true]; rfl
  ·rw [Bool.not_eq_true] at h3; unfold offAt; rw [h3, decide_eq_false (show ¬ i = 0 by omega)]; simp
theorem slTemplate_ev (l : List S96) (hl : l.length ≤ maxLen) : Ev (fun k => spec_slTemplate.f k l) (tmplOk l) := by
 unfold spec_slTemplate.f tmplOk
 exact slTemplate_l0 l hl l.length 0 (by omega)
theorem tmpl_size {t : List S96} (h : tmplOk t = true) : 1 ≤ t.length ∧ t.length ≤ 12 := by
 unfold tmplOk at h
 rw [Bool.and_eq_true, decide_eq_true_eq] at h
 exact h.1
theorem std_ok {k : Int} (h : 1 ≤ k ∧ k ≤ 4) : tmplOk (tmpl k) = true := by
 have : k = 1 ∨ k = 2 ∨ k = 3 ∨ k = 4 := by omega
 rcases this with rfl | rfl | rfl | rfl
 ·exact (by kernel_rfl : tmplOk (tmpl 1) = true)
 ·exact (by kernel_rfl : tmplOk (tmpl 2) = true)
 ·exact (by kernel_rfl : tmplOk (tmpl 3) = true)
 ·exact (by kernel_rfl : tmplOk (tmpl 4) = true)
theorem tdraw_l0 {s : List Int} (a d : Int) : ∀ (m : Nat) (l : List S96), m ≤ 20 → l.length + m ≤ 100 → Tl (fun k => spec_l1Cur_template.l0 k l (m : Int) s a d) (fun r => r.1.length ≤ 100 ∧ a ≤ r.2.1 ∧ r.2.1 ≤ a + 2) := by
 intro m
 induction m with
 | zero =>
  intro l _ hl
  refine Tl.step (fun k => spec_l1Cur_template.l0.eq_2 l _ s a d k) (Tl.neg (by omega) (Tl.now ⟨by show l.length ≤ 100; omega, Int.le_refl _, by show a ≤ a + 2; omega⟩))
 | succ m ih =>
  intro l hm hl
  refine Tl.step (fun k => spec_l1Cur_template.l0.eq_2 l _ s a d k) (Tl.pos (by omega) (Tl.pos (by omega) ?_))
  rw [show wrap64 (((m + 1 : Nat) : Int) - 1) = (m : Int) by rw [w64 (by omega) (by omega)]; omega]
  exact ih _ (by omega) (by rw [List.length_append]; simp; omega)
theorem tdraw_tl {s : List Int} (hs : Bytes s) (a d : Int) (ha : At a 288230376151711744) : Tl (fun k => spec_l1Cur_template.f k s a d) (fun r => r.1.length ≤ 100 ∧ a ≤ r.2.1 ∧ r.2.1 ≤ a + 50) := by
 unfold spec_l1Cur_template.f
 refine Tl.bind (pick_tl hs a d 4 (by omega) (by omega)) (fun r1 p1 => ?_)
 have e1 : wrap64 (1 + r1.1) = 1 + r1.1 := w64 (by omega) (by omega)
 have hk : 1 ≤ wrap64 (1 + r1.1) ∧ wrap64 (1 + r1.1) ≤ 4 := by omega
 refine Tl.bind (Tl.ev (P := fun t => tmplOk t = true) (slStandard_ev _ hk) (std_ok hk)) (fun t ht => ?_)
 have hts := tmpl_size ht
 refine Tl.bind (pick_tl hs _ _ 10 (by omega) (by omega)) (fun r2 p2 => ?_)
 refine Tl.ite (fun c => ?_) (fun c => ?_)
 ·refine Tl.bind (pick_tl hs _ _ 5 (by omega) (by omega)) (fun r3 p3 => ?_)
  exact Tl.pos (by omega) (Tl.now ⟨by simp; omega, zrcs_0, zrcs_1⟩)
 refine Tl.ite (fun c => ?_) (fun c => ?_)
 ·refine Tl.bind (pick_tl hs _ _ t.length (by omega) (by omega)) (fun r3 p3 => ?_)
  exact Tl.pos (by omega) (Tl.pos (by omega) (Tl.now ⟨by simp; omega, zrcs_0, zrcs_1⟩))
 refine Tl.ite (fun c => ?_) (fun c => ?_)
 ·refine Tl.bind (one_tl hs _ _ 3 (by omega)) (fun r3 p3 => Tl.ite (fun c => ?_) (fun c => ?_))
  ·refine Tl.bind (pick_tl hs _ _ t.length (by omega) (by omega)) (fun r4 p4 => Tl.bind (among_tl hs _ _ _ (by simp) (by omega)) (fun r5 p5 => ?_))
   exact Tl.pos (by omega) (Tl.pos (by omega) (Tl.now ⟨by simp; omega, by show a ≤ r5.2.1; omega, by show r5.2.1 ≤ a + 50; omega⟩))
  ·exact Tl.now ⟨by show t.length ≤ 100; omega, zrcs_0, zrcs_1⟩
 refine Tl.ite (fun c => ?_) (fun c => ?_)
 ·refine Tl.bind (one_tl hs _ _ 3 (by omega)) (fun r3 p3 => Tl.ite (fun c => ?_) (fun c => ?_))
  ·refine Tl.bind (pick_tl hs _ _ t.length (by omega) (by omega)) (fun r4 p4 => Tl.bind (among_tl hs _ _ _ (by simp) (by omega)) (fun r5 p5 => ?_))
   exact Tl.pos (by omega) (Tl.pos (by omega) (Tl.now ⟨by simp; omega, by show a ≤ r5.2.1; omega, by show r5.2.1 ≤ a + 50; omega⟩))
  ·exact Tl.now ⟨by show t.length ≤ 100; omega, zrcs_0, zrcs_1⟩
 refine Tl.ite (fun c => ?_) (fun c => ?_)
 ·refine Tl.bind (one_tl hs _ _ 3 (by omega)) (fun r3 p3 => Tl.ite (fun c => ?_) (fun c => ?_))
  ·refine Tl.bind (pick_tl hs _ _ 2 (by omega) (by omega)) (fun r4 p4 => ?_)
   obtain ⟨m, em⟩ := Int.eq_ofNat_of_zero_le (show 0 ≤ wrap64 (12 + r4.1) by rw [w64 (by omega) (by omega)]; omega)
   have hm : (m : Int) ≤ 13 := by rw [← em, w64 (by omega) (by omega)]; omega
   rw [em]
   refine (tdraw_l0 r4.2.1 r4.2.2 m [] (by omega) (by simp; omega)).mono (fun r h => ⟨h.1, by omega, by omega⟩)
  ·exact Tl.now ⟨by show t.length ≤ 100; omega, zrcs_0, zrcs_1⟩
 refine Tl.ite (fun c => ?_) (fun c => ?_)
 ·refine Tl.bind (one_tl hs _ _ 3 (by omega)) (fun r3 p3 => Tl.ite (fun c => ?_) (fun c => ?_))
  ·exact Tl.now ⟨by simp, zrcs_0, zrcs_1⟩
  ·exact Tl.now ⟨by show t.length ≤ 100; omega, zrcs_0, zrcs_1⟩
 ·exact Tl.now ⟨by show t.length ≤ 100; omega, by show a ≤ r2.2.1; omega, by show r2.2.1 ≤ a + 50; omega⟩
theorem l1Put_l0 (l : List Int) (hl : l.length ≤ 1048576) (hs : l.Pairwise (· < ·)) (n : Int) : ∀ (d i : Nat), i + d = l.length → (∀ j, j < i → l.getD j 0 < n) →
  ∃ r, Ev (fun k => spec_l1Put.l0 k l n (i : Int)) r ∧ r.Pairwise (· < ·) ∧ (∀ x, x ∈ r ↔ x ∈ l ∨ x = n) ∧ r.length ≤ l.length + 1 := by
 intro d
 induction d with
 | zero =>
  intro i hi h
  obtain rfl : i = l.length := by omega
  have hp := put_sorted hs (Nat.le_refl _) h (fun hc => by omega)
  refine ⟨_, Ev.step (fun k => spec_l1Put.l0.eq_2 l n l.length k) (ev_neg (by omega) ?_), hp.1, hp.2, by simp⟩
  simp only [Option.bind_some, toNat_nat, List.nil_append, List.length_append, List.length_take, List.length_drop, List.length_cons, List.length_nil]
  exact ev_pos (by omega) (ev_pos (by omega) (ev_pos (by omega) (ev_pos (by omega) (ev_pos (by omega) (ev_some rfl)))))
 | succ d ih =>
  intro i hi h
  by_cases h1 : l.getD i 0 < n
  ·obtain ⟨r, hr, hz⟩ := ih (i + 1) (by omega) (fun j hj => by
    by_cases e : j = i
    ·subst e; exact h1
    ·exact h j (by omega))
   refine ⟨r, Ev.step (fun k => spec_l1Put.l0.eq_2 l n i k) ?_, hz⟩
   rw [w_succ (n := l.length) (by omega) (by omega), rd_nat]
   exact ev_pos (by omega) (ev_pos (by omega) (ev_pos h1 hr))
  ·by_cases h2 : l.getD i 0 = n
   ·refine ⟨l, Ev.step (fun k => spec_l1Put.l0.eq_2 l n i k) ?_, hs, fun x => ⟨.inl, ?_⟩, by omega⟩
    ·rw [rd_nat]; exact ev_pos (by omega) (ev_pos (by omega) (ev_neg h1 (ev_pos h2 (ev_some rfl))))
    ·rintro (h3 | rfl)
     ·exact h3
     ·rw [← h2]; exact getD_mem (by omega)
   ·have hp := put_sorted hs (show i ≤ l.length by omega) h (fun _ => by omega)
    refine ⟨_, Ev.step (fun k => spec_l1Put.l0.eq_2 l n i k) ?_, hp.1, hp.2, by simp; omega⟩
    rw [rd_nat]
    refine ev_pos (by omega) (ev_pos (by omega) (ev_neg h1 (ev_neg h2 ?_)))
    simp only [Option.bind_some, toNat_nat, List.nil_append, List.length_append, List.length_take, List.length_drop, List.length_cons, List.length_nil]
    exact ev_pos (by omega) (ev_pos (by omega) (ev_pos (by omega) (ev_pos (by omega) (ev_some rfl))))
theorem l1Put_ev (l : List Int) (hl : l.length ≤ 1048576) (hs : l.Pairwise (· < ·)) (n : Int) :
  ∃ r, Ev (fun k => spec_l1Put.f k l n) r ∧ r.Pairwise (· < ·) ∧ (∀ x, x ∈ r ↔ x ∈ l ∨ x = n) ∧ r.length ≤ l.length + 1 := by
 unfold spec_l1Put.f
 exact l1Put_l0 l hl hs n l.length 0 (by omega) (fun j hj => by omega)
def gOk (x y z : Int) : Prop := (1 ≤ x ∧ x ≤ 8) ∧ (1 ≤ y ∧ y ≤ 6) ∧ (1 ≤ z ∧ z ≤ 5) ∧ 1 ≤ x * y ∧ x * y ≤ 48 ∧ 1 ≤ x * y * z ∧ x * y * z ≤ 240
theorem gOk_of {x y z : Int} (hx : 1 ≤ x ∧ x ≤ 8) (hy : 1 ≤ y ∧ y ≤ 6) (hz : 1 ≤ z ∧ z ≤ 5) : gOk x y z := by
 have a1 : x * y ≤ 8 * 6 := Int.mul_le_mul hx.2 hy.2 (by omega) (by omega)
 have a2 : 1 * 1 ≤ x * y := Int.mul_le_mul hx.1 hy.1 (by omega) (by omega)
 have a3 : x * y * z ≤ (8 * 6) * 5 := Int.mul_le_mul a1 hz.2 (by omega) (by omega)
 have a4 : (1 * 1) * 1 ≤ x * y * z := Int.mul_le_mul a2 hz.1 (by omega) (by omega)
 exact ⟨hx, hy, hz, by omega, by omega, by omega, by omega⟩
theorem grid_tl {s : List Int} (hs : Bytes s) (a d : Int) (ha : At a 288230376151711744) : Tl (fun _ => spec_l1Cur_grid.f s a d) (fun r => gOk r.1 r.2.1 r.2.2.1 ∧ a ≤ r.2.2.2.1 ∧ r.2.2.2.1 ≤ a + 20) := by
 unfold spec_l1Cur_grid.f
 refine Tl.bind (one_tl hs _ _ 24 (by omega)) (fun r p => Tl.ite (fun c => ?_) (fun c => ?_))
 ·refine Tl.bind (Tl.now (P := fun y => y = [⟨8, 5, 3⟩, ⟨8, 3, 5⟩, ⟨4, 6, 5⟩, ⟨1, 1, 1⟩]) rfl) (fun y hy => ?_)
  subst hy
  refine Tl.bind (pick_tl hs _ _ 4 (by omega) (by omega)) (fun r2 p2 => Tl.pos (by omega) (Tl.pos (by show r2.1 < ((4 : Nat) : Int); omega) (Tl.now ?_)))
  have hm : rd_T84 [⟨8, 5, 3⟩, ⟨8, 3, 5⟩, ⟨4, 6, 5⟩, ⟨1, 1, 1⟩] r2.1 ∈ [(⟨8, 5, 3⟩ : S84), ⟨8, 3, 5⟩, ⟨4, 6, 5⟩, ⟨1, 1, 1⟩] := by unfold rd_T84; exact getD_mem (by show r2.1.toNat < 4; omega)
  generalize rd_T84 [⟨8, 5, 3⟩, ⟨8, 3, 5⟩, ⟨4, 6, 5⟩, ⟨1, 1, 1⟩] r2.1 = g at hm
  simp only [List.mem_cons, List.not_mem_nil, or_false] at hm
  refine ⟨?_, by show a ≤ r2.2.1; omega, by show r2.2.1 ≤ _; omega⟩
  rcases hm with rfl | rfl | rfl | rfl
  ·exact gOk_of (x := 8) (y := 5) (z := 3) (by omega) (by omega) (by omega)
  ·exact gOk_of (x := 8) (y := 3) (z := 5) (by omega) (by omega) (by omega)
  ·exact gOk_of (x := 4) (y := 6) (z := 5) (by omega) (by omega) (by omega)
  ·exact gOk_of (x := 1) (y := 1) (z := 1) (by omega) (by omega) (by omega)
 ·refine Tl.bind (pick_tl hs _ _ 4 (by omega) (by omega)) (fun r2 p2 => Tl.bind (pick_tl hs _ _ 3 (by omega) (by omega)) (fun r3 p3 => Tl.bind (pick_tl hs _ _ 3 (by omega) (by omega)) (fun r4 p4 => Tl.now ?_)))
  refine ⟨gOk_of ?_ ?_ ?_, by show a ≤ r4.2.1; omega, by show r4.2.1 ≤ _; omega⟩
  ·show 1 ≤ wrap64 (1 + r2.1) ∧ wrap64 (1 + r2.1) ≤ 8; rw [w64 (by omega) (by omega)]; omega
  ·show 1 ≤ wrap64 (1 + r3.1) ∧ wrap64 (1 + r3.1) ≤ 6; rw [w64 (by omega) (by omega)]; omega
  ·show 1 ≤ wrap64 (1 + r4.1) ∧ wrap64 (1 + r4.1) ≤ 5; rw [w64 (by omega) (by omega)]; omega
def SlP (x y : Int) (s : List Int) (T : List (List S96)) : Prop := (s.length : Int) = x * y ∧ (1 ≤ T.length ∧ T.length ≤ 2) ∧ (∀ j, j < T.length → (T.getD j []).length ≤ 12) ∧ ∀ j, j < s.length → 0 ≤ s.getD j 0 ∧ s.getD j 0 < T.length
theorem uniform_ev {x y z k : Int} (h : gOk x y z) (hk : 1 ≤ k ∧ k ≤ 4) : Ev (fun n => spec_slUniform.f n x y z k) (List.replicate (x * y).toNat 0, [tmpl k]) := by
 obtain ⟨h1, h2, h3, h4, h5, h6⟩ := h
 unfold spec_slUniform.f
 rw [w64 (x := x * y) (by omega) (by omega)]
 exact ev_pos (by omega) (ev_pos (by omega) (Ev.bind (slStandard_ev k hk) (ev_some rfl)))
theorem slopes_l0 {s : List Int} (hs : Bytes s) (T : List (List S96)) (m : Nat) (hm : m ≤ 48) : ∀ (q i : Nat) (l : List Int) (a d : Int), i + q = m → l.length = m → (∀ j, j < m → 0 ≤ l.getD j 0 ∧ l.getD j 0 < 2) → At a (288230376151000000 - 4 * (q : Int)) →
  Tl (fun k => spec_l1Cur_slopes.l0 k (m : Int) (i : Int) s a d l T) (fun r => (r.1.length = m ∧ (∀ j, j < m → 0 ≤ r.1.getD j 0 ∧ r.1.getD j 0 < 2) ∧ r.2.1 = T) ∧ a ≤ r.2.2.1 ∧ r.2.2.1 ≤ a + 4 * q) := by
 intro q
 induction q with
 | zero =>
  intro i l a d hi hl hv ha
  refine Tl.step (fun k => spec_l1Cur_slopes.l0.eq_2 _ _ s a d l T k) (Tl.neg (by omega) (Tl.now ⟨⟨hl, hv, rfl⟩, Int.le_refl _, by show a ≤ _; omega⟩))
 | succ q ih =>
  intro i l a d hi hl hv ha
  refine Tl.step (fun k => spec_l1Cur_slopes.l0.eq_2 _ _ s a d l T k) (Tl.pos (by omega) (Tl.bind (pick_tl hs _ _ 2 (by omega) (by omega)) (fun r p => Tl.pos (by omega) (Tl.pos (by omega) ?_))))
  rw [w_succ (n := m) (by omega) (by omega), toNat_nat]
  exact (ih (i + 1) (l.set i r.1) r.2.1 r.2.2 (by omega) (by rw [List.length_set]; exact hl) (fun j hj => by
   rw [getD_set]
   split
   ·omega
   ·exact hv j hj) (by omega)).mono (fun r3 h => ⟨h.1, by omega, by omega⟩)
theorem slopes_tl {s : List Int} (hs : Bytes s) (x y z : Int) (h : gOk x y z) (a d : Int) (ha : At a 288230376150000000) : Tl (fun k => spec_l1Cur_slopes.f k s a d x y z) (fun r => SlP x y r.1 r.2.1 ∧ a ≤ r.2.2.1 ∧ r.2.2.1 ≤ a + 400) := by
 have h0 := h
 obtain ⟨h1, h2, h3, h4, h5, h6⟩ := h
 unfold spec_l1Cur_slopes.f
 refine Tl.bind (pick_tl hs a d 4 (by omega) (by omega)) (fun r1 p1 => ?_)
 have hk : 1 ≤ wrap64 (1 + r1.1) ∧ wrap64 (1 + r1.1) ≤ 4 := by rw [w64 (by omega) (by omega)]; omega
 have ht := tmpl_size (std_ok hk)
 refine Tl.bind (Tl.ev (P := fun (t : List Int × List (List S96)) => t.1.length = (x * y).toNat ∧ (∀ j, j < (x * y).toNat → t.1.getD j 0 = 0) ∧ ∃ u, t.2 = [u] ∧ u.length ≤ 12) (uniform_ev h0 hk) ⟨by simp, fun j hj => getD_replicate hj, _, rfl, ht.2⟩) (fun t ht => ?_)
 obtain ⟨q, T⟩ := t
 obtain ⟨t1, t2, u, t3, t4⟩ := ht
 simp only at t1 t2 t3
 subst t3
 have base : SlP x y q [u] := by
  refine ⟨by omega, ⟨by simp, by simp⟩, fun j hj => ?_, fun j hj => ?_⟩
  ·rw [List.length_singleton] at hj
   obtain rfl : j = 0 := by omega
   exact t4
  ·rw [t2 j (by omega)]; simp
 refine Tl.bind (one_tl hs _ _ 3 (by omega)) (fun r2 p2 => Tl.ite (fun c => ?_) (fun c => ?_))
 ·refine Tl.bind (tdraw_tl hs _ _ (by omega)) (fun r3 p3 => Tl.bind (Tl.ev (P := fun b => b = tmplOk r3.1) (slTemplate_ev r3.1 (maxLen_val (by omega))) rfl) (fun b hb => Tl.ite (fun c => ?_) (fun c => ?_)))
  ·subst hb
   have h12 := tmpl_size c
   refine Tl.pos (by show 1 < 5864062014805; omega) ?_
   have key := slopes_l0 hs ([u] ++ [r3.1]) q.length (by omega) q.length 0 q r3.2.1 r3.2.2 (by omega) rfl (fun j hj => by rw [t2 j (by omega)]; omega) (by omega)
   refine key.mono (fun r4 h4' => ?_)
   obtain ⟨⟨q1, q2, q3⟩, q4, q5⟩ := h4'
   refine ⟨⟨by rw [q1]; omega, by rw [q3]; simp, fun j hj => ?_, fun j hj => ?_⟩, by omega, by omega⟩
   ·rw [q3] at hj ⊢
    have : j = 0 ∨ j = 1 := by simp at hj; omega
    rcases this with rfl | rfl
    ·exact t4
    ·exact h12.2
   ·have := q2 j (by omega)
    rw [q3]
    show 0 ≤ r4.1.getD j 0 ∧ r4.1.getD j 0 < ((2 : Nat) : Int)
    omega
  ·exact Tl.now ⟨base, zrcs_0, by show r3.2.1 ≤ _; omega⟩
 ·exact Tl.now ⟨base, by show a ≤ r2.2.1; omega, by show r2.2.1 ≤ _; omega⟩
theorem grAt_some (X Y Z a b c : Int) : ∃ v, spec_grAt.f X Y Z a b c = some v := by
 unfold spec_grAt.f
 rw [l1In_eq, l1In_eq, l1In_eq]
 simp only [Option.bind_some]
 repeat' split
 all_goals exact ⟨_, rfl⟩
theorem sa_l1 (X Y Z : Int) (s : List Int) (T : List (List S96)) (x5 : List (List Int)) (x6 a b c : Int) (t : List S96) (hl : t.length ≤ 12) (h5 : x5.length ≤ 1000) (P : List (List Int) → Prop)
  (hn : ∀ row : List Int, row.length ≤ 12 → Tl (fun k => spec_slArcs.l0 k (x5 ++ [row]) (wrap64 (x6 + 1)) X Y Z s T) P) :
  ∀ (d j : Nat) (l : List Int), j + d = t.length → l.Pairwise (· < ·) → l.length ≤ j → Tl (fun k => spec_slArcs.l1 k x5 x6 a b c l t (t.length : Int) (j : Int) X Y Z s T) P := by
 intro d
 induction d with
 | zero =>
  intro j l hj hp hlen
  exact Tl.step (fun k => spec_slArcs.l1.eq_2 x5 x6 a b c l t t.length j X Y Z s T k) (Tl.neg (by omega) (Tl.pos (by omega) (hn l (by omega))))
 | succ d ih =>
  intro j l hj hp hlen
  refine Tl.step (fun k => spec_slArcs.l1.eq_2 x5 x6 a b c l t t.length j X Y Z s T k) (Tl.pos (by omega) (Tl.pos (by omega) (Tl.pos (by omega) ?_)))
  rw [w_succ (n := t.length) (by omega) (by omega)]
  obtain ⟨v, hv⟩ := grAt_some X Y Z (wrap64 (a + (rd_T96 t (j : Int)).f0)) (wrap64 (b + (rd_T96 t (j : Int)).f1)) (wrap64 (c - (rd_T96 t (j : Int)).f2))
  refine Tl.bind (Tl.const (P := fun r => r = v) ⟨v, hv, rfl⟩) (fun r hr => Tl.ite (fun c1 => ?_) (fun c1 => ?_))
  ·obtain ⟨q, hq, hq1, hq2, hq3⟩ := l1Put_ev l (by omega) hp r
   exact Tl.bind (Tl.ev (P := fun u => u = q) hq rfl) (fun u hu => by subst hu; exact ih (j + 1) u (by omega) hq1 (by omega))
  ·exact ih (j + 1) l (by omega) hp (by omega)
theorem place_in {X Y Z : Int} (h : gOk X Y Z) (i : Nat) (hi : (i : Int) < X * Y * Z) : 0 ≤ wrap64 (wrap64 (Int.tmod (wrap64 (Int.tdiv i X)) Y * X) + Int.tmod i X) ∧ wrap64 (wrap64 (Int.tmod (wrap64 (Int.tdiv i X)) Y * X) + Int.tmod i X) < X * Y := by
 obtain ⟨⟨hX, hX8⟩, ⟨hY, hY6⟩, ⟨hZ, hZ5⟩, h4, h5, h6, h7⟩ := h
 have h0 : (0 : Int) ≤ (i : Int) := Int.natCast_nonneg _
 have e1 : Int.tdiv (i : Int) X = (i : Int) / X := Int.tdiv_eq_ediv_of_nonneg h0
 have b1 : 0 ≤ (i : Int) / X := Int.ediv_nonneg h0 (by omega)
 have b2 : (i : Int) / X < Y * Z := Int.ediv_lt_of_lt_mul (by omega) (by rw [Int.mul_comm, ← Int.mul_assoc]; exact hi)
 have b3 : Y * Z ≤ 6 * 5 := Int.mul_le_mul (by omega) (by omega) (by omega) (by omega)
 have w1 : wrap64 ((i : Int) / X) = (i : Int) / X := w64 (by omega) (by omega)
 rw [e1, w1, Int.tmod_eq_emod_of_nonneg b1, Int.tmod_eq_emod_of_nonneg h0]
 have x0 : 0 ≤ (i : Int) % X := Int.emod_nonneg _ (by omega)
 have x1 : (i : Int) % X < X := Int.emod_lt_of_pos _ (by omega)
 have y0 : 0 ≤ (i : Int) / X % Y := Int.emod_nonneg _ (by omega)
 have y1 : (i : Int) / X % Y < Y := Int.emod_lt_of_pos _ (by omega)
 generalize (i : Int) / X % Y = y at *
 generalize (i : Int) % X = x at *
 have m1 : y * X ≤ (Y - 1) * X := Int.mul_le_mul_of_nonneg_right (by omega) (by omega)
 have m2 : (Y - 1) * X = X * Y - X := by rw [Int.sub_mul, Int.mul_comm Y X]; omega
 have m3 : 0 ≤ y * X := Int.mul_nonneg y0 (by omega)
 rw [w64 (x := y * X) (by omega) (by omega), w64 (by omega) (by omega)]
 omega
theorem sa_l0 {X Y Z : Int} (h : gOk X Y Z) (n : Nat) (hn : (n : Int) = X * Y * Z) (s : List Int) (T : List (List S96)) (hs : SlP X Y s T) : ∀ (d i : Nat) (x5 : List (List Int)), i + d = n → x5.length = i → (∀ r ∈ x5, r.length ≤ 12) →
  Tl (fun k => spec_slArcs.l0 k x5 (i : Int) X Y Z s T) (fun r => r.length = n ∧ ∀ x ∈ r, x.length ≤ 12) := by
 have h0 := h
 obtain ⟨⟨hX, hX8⟩, ⟨hY, hY6⟩, ⟨hZ, hZ5⟩, h4, h5, h6, h7⟩ := h
 have hc : spec_grCount.f X Y Z = some (n : Int) := by unfold spec_grCount.f; rw [w64 (x := X * Y) (by omega) (by omega), w64 (by omega) (by omega), hn]
 intro d
 induction d with
 | zero =>
  intro i x5 hi hl hx
  exact Tl.step (fun k => spec_slArcs.l0.eq_2 x5 i X Y Z s T k) (Tl.bind (Tl.const (P := fun r => r = (n : Int)) ⟨_, hc, rfl⟩) (fun r hr => by subst hr; exact Tl.neg (by omega) (Tl.now ⟨by omega, hx⟩)))
 | succ d ih =>
  intro i x5 hi hl hx
  have hp := place_in h0 i (by omega)
  obtain ⟨q1, q2, q3, q4⟩ := hs
  have hs4 := q4 (wrap64 (wrap64 (Int.tmod (wrap64 (Int.tdiv i X)) Y * X) + Int.tmod i X)).toNat (by omega)
  refine Tl.step (fun k => spec_slArcs.l0.eq_2 x5 i X Y Z s T k) (Tl.bind (Tl.const (P := fun r => r = (n : Int)) ⟨_, hc, rfl⟩) (fun r hr => ?_))
  subst hr
  refine Tl.pos (by omega) ?_
  refine Tl.bind (Tl.const (P := fun r => r = Int.tmod i X) ⟨_, by unfold spec_grX.f; rw [if_neg (by omega)], rfl⟩) (fun r1 e1 => ?_)
  refine Tl.bind (Tl.const (P := fun r => r = Int.tmod (wrap64 (Int.tdiv i X)) Y) ⟨_, by unfold spec_grY.f; rw [if_neg (by omega), if_neg (by omega)], rfl⟩) (fun r2 e2 => ?_)
  refine Tl.bind (Tl.const (P := fun r => True) ⟨_, by unfold spec_grZ.f; rw [if_neg (by omega), if_neg (by omega)], trivial⟩) (fun r3 e3 => ?_)
  subst e1 e2
  refine Tl.pos hp.1 (Tl.pos (by omega) (Tl.pos hs4.1 (Tl.pos hs4.2 ?_)))
  refine sa_l1 X Y Z s T x5 i _ _ r3 _ (q3 _ (by show (s.getD _ 0).toNat < _; omega)) (by omega) _ (fun row hrow => ?_) _ 0 [] (by rw [Nat.zero_add]) List.Pairwise.nil (Nat.le_refl _)
  rw [w_succ (n := n) (by omega) (by omega)]
  exact ih (i + 1) _ (by omega) (by rw [List.length_append, List.length_singleton, hl]) (fun r hr => by
   rw [List.mem_append, List.mem_singleton] at hr
   rcases hr with hr | hr
   ·exact hx r hr
   ·subst hr; exact hrow)
def RowsP (r : List (List Int)) : Prop := (1 ≤ r.length ∧ r.length ≤ 240) ∧ ∀ x ∈ r, x.length ≤ 240
theorem arcs_l1 {s : List Int} (hs : Bytes s) (n : Int) (x3 : List (List Int)) (i : Nat) (hi : i ≤ 21) (h3 : x3.length ≤ 1000) (A B : Int) (hA : At A 200000000000000000) (P : List (List Int) × Int × Int → Prop)
  (hn : ∀ (row : List Int) (a d : Int), row.length ≤ i → A ≤ a → a ≤ A + 2 * i → Tl (fun k => spec_l1Cur_arcs.l0 k (x3 ++ [row]) n (wrap64 ((i : Int) + 1)) s a d) P) :
  ∀ (q j : Nat) (l : List Int) (a d : Int), j + q = i → l.length ≤ j → A ≤ a → a ≤ A + 2 * j → Tl (fun k => spec_l1Cur_arcs.l1 k x3 n (i : Int) l (j : Int) s a d) P := by
 intro q
 induction q with
 | zero =>
  intro j l a d hj hl ha ha2
  exact Tl.step (fun k => spec_l1Cur_arcs.l1.eq_2 x3 n i l j s a d k) (Tl.neg (by omega) (Tl.pos (by omega) (hn l a d (by omega) ha (by omega))))
 | succ q ih =>
  intro j l a d hj hl ha ha2
  refine Tl.step (fun k => spec_l1Cur_arcs.l1.eq_2 x3 n i l j s a d k) (Tl.pos (by omega) (Tl.bind (one_tl hs a d 4 (by omega)) (fun r p => Tl.ite (fun c => Tl.pos (by omega) ?_) (fun c => ?_))))
  ·rw [w_succ (n := i) (by omega) (by omega)]
   exact ih (j + 1) _ r.2.1 r.2.2 (by omega) (by rw [List.length_append, List.length_singleton]; omega) (by omega) (by omega)
  ·rw [w_succ (n := i) (by omega) (by omega)]
   exact ih (j + 1) _ r.2.1 r.2.2 (by omega) (by omega) (by omega) (by omega)
theorem arcs_l0 {s : List Int} (hs : Bytes s) (n : Nat) (hn : 1 ≤ n ∧ n ≤ 21) : ∀ (q i : Nat) (x3 : List (List Int)) (a d : Int), i + q = n → x3.length = i → (∀ x ∈ x3, x.length ≤ 240) → At a (200000000000000000 - 42 * (q : Int)) →
  Tl (fun k => spec_l1Cur_arcs.l0 k x3 (n : Int) (i : Int) s a d) (fun r => RowsP r.1 ∧ a ≤ r.2.1 ∧ r.2.1 ≤ a + 42 * q) := by
 intro q
 induction q with
 | zero =>
  intro i x3 a d hi hl hx ha
  exact Tl.step (fun k => spec_l1Cur_arcs.l0.eq_2 x3 n i s a d k) (Tl.neg (by omega) (Tl.now ⟨⟨by show 1 ≤ x3.length ∧ x3.length ≤ 240; omega, hx⟩, Int.le_refl _, by show a ≤ _; omega⟩))
 | succ q ih =>
  intro i x3 a d hi hl hx ha
  refine Tl.step (fun k => spec_l1Cur_arcs.l0.eq_2 x3 n i s a d k) (Tl.pos (by omega) ?_)
  refine arcs_l1 hs n x3 i (by omega) (by omega) a 0 (by omega) _ (fun row a2 d2 hrow h1 h2 => ?_) i 0 [] a d (by omega) (Nat.le_refl _) (Int.le_refl _) (by omega)
  rw [w_succ (n := n) (by omega) (by omega)]
  exact (ih (i + 1) (x3 ++ [row]) a2 d2 (by omega) (by rw [List.length_append, List.length_singleton, hl]) (fun r hr => by
   rw [List.mem_append, List.mem_singleton] at hr
   rcases hr with hr | hr
   ·exact hx r hr
   ·subst hr; omega) (by omega)).mono (fun r h => ⟨h.1, by omega, by omega⟩)
theorem arcs_j0 {s : List Int} (hs : Bytes s) (n : Int) (hn : 1 ≤ n ∧ n ≤ 21) (a d : Int) (ha : At a 190000000000000000) : Tl (fun k => spec_l1Cur_arcs.j0 k [] n s a d) (fun r => RowsP r.1 ∧ a ≤ r.2.1 ∧ r.2.1 ≤ a + 1000) := by
 obtain ⟨m, rfl⟩ := Int.eq_ofNat_of_zero_le (show 0 ≤ n by omega)
 exact Tl.step (fun k => spec_l1Cur_arcs.j0.eq_2 [] m s a d k) ((arcs_l0 hs m (by omega) m 0 [] a d (by omega) rfl (by simp) (by omega)).mono (fun r h => ⟨h.1, by omega, by omega⟩))
theorem arcs_tl {s : List Int} (hs : Bytes s) (a d : Int) (ha : At a 180000000000000000) : Tl (fun k => spec_l1Cur_arcs.f k s a d) (fun r => RowsP r.1 ∧ a ≤ r.2.1 ∧ r.2.1 ≤ a + 2000) := by
 unfold spec_l1Cur_arcs.f
 refine Tl.bind (one_tl hs a d 3 (by omega)) (fun r1 p1 => Tl.ite (fun c => ?_) (fun c => ?_))
 ·refine Tl.bind (pick_tl hs _ _ 14 (by omega) (by omega)) (fun r2 p2 => Tl.bind (one_tl hs _ _ 16 (by omega)) (fun r3 p3 => Tl.ite (fun c => ?_) (fun c => ?_)))
  ·refine Tl.bind (pick_tl hs _ _ 2 (by omega) (by omega)) (fun r4 p4 => ?_)
   exact (arcs_j0 hs _ (by rw [w64 (by omega) (by omega)]; omega) _ _ (by omega)).mono (fun r h => ⟨h.1, by omega, by omega⟩)
  ·exact (arcs_j0 hs _ (by rw [w64 (by omega) (by omega)]; omega) _ _ (by omega)).mono (fun r h => ⟨h.1, by omega, by omega⟩)
 ·refine Tl.bind (grid_tl hs _ _ (by omega)) (fun g hg => Tl.bind (slopes_tl hs _ _ _ hg.1 _ _ (by omega)) (fun sl hsl => ?_))
  obtain ⟨m, hm⟩ := Int.eq_ofNat_of_zero_le (show 0 ≤ g.1 * g.2.1 * g.2.2.1 by have := hg.1.2.2.2.2.2.1; omega)
  have hb := hg.1.2.2.2.2.2
  have hA : Tl (fun k => spec_slArcs.f k g.1 g.2.1 g.2.2.1 sl.1 sl.2.1) (fun r => RowsP r) := by
   unfold spec_slArcs.f
   exact (sa_l0 hg.1 m hm.symm _ _ hsl.1 m 0 [] (by omega) rfl (by simp)).mono (fun r h => ⟨by omega, fun x hx => by have := h.2 x hx; omega⟩)
  exact Tl.bind hA (fun r hr => Tl.now ⟨hr, by show a ≤ sl.2.2.1; omega, by show sl.2.2.1 ≤ _; omega⟩)
end Go.Proofs.Ytbhlffakpneecaa.DrawArcs
