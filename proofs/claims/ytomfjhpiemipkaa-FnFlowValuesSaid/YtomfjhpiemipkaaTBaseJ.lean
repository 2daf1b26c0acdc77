/- Texts of this claim put together in one file. -/
import Derived.RowKit
import Derived.Test.YtomfjhpiemipkaaTWWords
import Derived.Test.YtomfjhpiemipkaaTWMore
section
/- Small laws on rounds, whole numbers of 64 bits, and tests over ranges; nothing of the program. -/
namespace Go.Proofs.Ytomfjhpiemipkaa.B
open Go.RowKit Go.Proofs.YtomfjhpiemipkaaW.PrintWords Go.Proofs.YtomfjhpiemipkaaW.PrintMore
set_option linter.unusedVariables false
set_option linter.unusedSimpArgs false
theorem ev_pos {α : Type} {c : Prop} [Decidable c] {a b : Nat → Option α} {r : α} (h : c) (k : Ev a r) : Ev (fun n => if c then a n else b n) r := by
  simp only [if_pos h]; exact k
theorem ev_neg {α : Type} {c : Prop} [Decidable c] {a b : Nat → Option α} {r : α} (h : ¬ c) (k : Ev b r) : Ev (fun n => if c then a n else b n) r := by
  simp only [if_neg h]; exact k
theorem ev_ite {α : Type} {c : Prop} [Decidable c] {a b : Nat → Option α} {r : α} (h : c → Ev a r) (k : ¬ c → Ev b r) : Ev (fun n => if c then a n else b n) r := by
  by_cases hc : c
  · exact ev_pos hc (h hc)
  · exact ev_neg hc (k hc)
theorem ev_some {α : Type} {r s : α} (h : s = r) : Ev (fun _ => some s) r := by subst h; exact Ev.now _
theorem ev_const {α : Type} {o : Option α} {r : α} (h : o = some r) : Ev (fun _ => o) r := by subst h; exact Ev.now _
theorem ev_eq {α : Type} {g : Nat → Option α} {r s : α} (h : r = s) (k : Ev g r) : Ev g s := by subst h; exact k
theorem ev_bindc {α β : Type} {o : Option α} {f : Nat → α → Option β} {a : α} {r : β} (h : o = some a) (k : Ev (fun n => f n a) r) : Ev (fun n => o.bind (f n)) r := by
  subst h; exact k
theorem ev_id {α : Type} {g : Nat → Option α} {r : α} (h : Ev g r) : Ev (fun n => (g n).bind fun t => some t) r := Ev.bind h (Ev.now _)
theorem w64 {x : Int} (h1 : -9223372036854775808 ≤ x) (h2 : x ≤ 9223372036854775807) : wrap64 x = x := by
  unfold wrap64; omega
theorem w_succ {i n : Nat} (h : i < n) (hn : n ≤ 9223372036854775807) : wrap64 ((i : Int) + 1) = ((i + 1 : Nat) : Int) := by
  unfold wrap64; omega
theorem maxLen_le {n : Nat} (h : n ≤ maxLen) : n ≤ 9223372036854775807 := by unfold maxLen at h; omega
theorem maxLen_val {n : Nat} (h : n ≤ 9223372036854775807) : n ≤ maxLen := by unfold maxLen; omega
theorem rd_nat (xs : List Int) (i : Nat) : rd xs (i : Int) = xs.getD i 0 := by unfold rd; rw [Int.toNat_natCast]
theorem toNat_nat (i : Nat) : ((i : Int)).toNat = i := Int.toNat_natCast i
def allR (p : Nat → Bool) (i n : Nat) : Bool := (List.range' i (n - i)).all p
theorem allR_step {p : Nat → Bool} {i n : Nat} (h : i < n) : allR p i n = (p i && allR p (i + 1) n) := by
  unfold allR; rw [show n - i = (n - (i + 1)) + 1 by omega, List.range'_succ, List.all_cons]
theorem allR_end {p : Nat → Bool} {i n : Nat} (h : n ≤ i) : allR p i n = true := by
  unfold allR; rw [show n - i = 0 by omega]; rfl
theorem allR_iff {p : Nat → Bool} {i n : Nat} : allR p i n = true ↔ ∀ j, i ≤ j → j < n → p j = true := by
  unfold allR; rw [List.all_eq_true]
  constructor
  · intro h j h1 h2; exact h j (by rw [List.mem_range'_1]; omega)
  · intro h j hj; rw [List.mem_range'_1] at hj; exact h j (by omega) (by omega)
theorem allR_congr {p q : Nat → Bool} {i n : Nat} (h : ∀ j, i ≤ j → j < n → p j = q j) : allR p i n = allR q i n := by
  rw [Bool.eq_iff_iff, allR_iff, allR_iff]
  exact ⟨fun k j h1 h2 => by rw [← h j h1 h2]; exact k j h1 h2, fun k j h1 h2 => by rw [h j h1 h2]; exact k j h1 h2⟩
def foldR {σ : Type} (f : σ → Nat → σ) (i n : Nat) (s : σ) : σ := (List.range' i (n - i)).foldl f s
theorem foldR_step {σ : Type} {f : σ → Nat → σ} {i n : Nat} {s : σ} (h : i < n) : foldR f i n s = foldR f (i + 1) n (f s i) := by
  unfold foldR; rw [show n - i = (n - (i + 1)) + 1 by omega, List.range'_succ, List.foldl_cons]
theorem foldR_end {σ : Type} {f : σ → Nat → σ} {i n : Nat} {s : σ} (h : n ≤ i) : foldR f i n s = s := by
  unfold foldR; rw [show n - i = 0 by omega]; rfl
theorem foldR_last {σ : Type} {f : σ → Nat → σ} {i n : Nat} {s : σ} (h : i ≤ n) : foldR f i (n + 1) s = f (foldR f i n s) n := by
  unfold foldR
  rw [show n + 1 - i = (n - i) + 1 by omega, List.range'_1_concat, List.foldl_append, show i + (n - i) = n by omega]; rfl
theorem foldR_inv {σ : Type} {f : σ → Nat → σ} {P : Nat → σ → Prop} {i n : Nat} {s : σ} (h0 : P i s) (hs : ∀ j t, i ≤ j → j < n → P j t → P (j + 1) (f t j)) (hi : i ≤ n) : P n (foldR f i n s) := by
  induction n with
  | zero => obtain rfl : i = 0 := by omega
            exact h0
  | succ n ih =>
    by_cases hh : i = n + 1
    · subst hh; rw [foldR_end (Nat.le_refl _)]; exact h0
    · rw [foldR_last (by omega)]
      exact hs _ _ (by omega) (by omega) (ih (fun j t h1 h2 h3 => hs j t h1 (by omega) h3) (by omega))
theorem foldR_congr {σ : Type} {f g : σ → Nat → σ} {i n : Nat} {s : σ} (h : ∀ t j, i ≤ j → j < n → f t j = g t j) : foldR f i n s = foldR g i n s := by
  induction n with
  | zero => rw [foldR_end (Nat.zero_le _), foldR_end (Nat.zero_le _)]
  | succ n ih =>
    by_cases hh : n + 1 ≤ i
    · rw [foldR_end hh, foldR_end hh]
    · rw [foldR_last (by omega), foldR_last (by omega), ih (fun t j h1 h2 => h t j h1 (by omega)), h _ n (by omega) (by omega)]
/-- strictly increasing, and in 0..n - 1 -/
def ascAt (l : List Int) (n : Int) (j : Nat) : Bool := decide (0 ≤ l.getD j 0 ∧ l.getD j 0 < n ∧ (0 < j → l.getD (j - 1) 0 < l.getD j 0))
def asc (l : List Int) (n : Int) : Bool := allR (ascAt l n) 0 l.length
end Go.Proofs.Ytomfjhpiemipkaa.B
end
section
/- Marks over blocks, rising lists, closures: plain laws, nothing of the program. -/
namespace Go.Proofs.Ytomfjhpiemipkaa.B
open Go.RowKit Go.Proofs.YtomfjhpiemipkaaW.PrintWords Go.Proofs.YtomfjhpiemipkaaW.PrintMore
set_option linter.unusedVariables false
set_option linter.unusedSimpArgs false
theorem getD_mem {α : Type} {l : List α} {z : α} {j : Nat} (h : j < l.length) : l.getD j z ∈ l := by
  rw [List.getD_eq_getElem?_getD, List.getElem?_eq_getElem h]; exact List.getElem_mem _
theorem mem_getD {α : Type} {l : List α} {z x : α} (h : x ∈ l) : ∃ j, j < l.length ∧ l.getD j z = x := by
  obtain ⟨j, hj, rfl⟩ := List.getElem_of_mem h
  exact ⟨j, hj, by rw [List.getD_eq_getElem?_getD, List.getElem?_eq_getElem hj]; rfl⟩
theorem getD_none {α : Type} {l : List α} {z : α} {j : Nat} (h : l.length ≤ j) : l.getD j z = z := by
  rw [List.getD_eq_getElem?_getD, List.getElem?_eq_none h]; rfl
theorem getD_set {α : Type} {l : List α} {z v : α} {i j : Nat} : (l.set i v).getD j z = if i = j ∧ j < l.length then v else l.getD j z := by
  rw [List.getD_eq_getElem?_getD, List.getElem?_set]
  by_cases h : i = j
  · subst h
    by_cases h1 : i < l.length
    · simp [h1]
    · simp [h1, List.getD_eq_getElem?_getD]
  · simp [h, List.getD_eq_getElem?_getD]
theorem getD_ext {α : Type} {l m : List α} (z : α) (h : l.length = m.length) (k : ∀ j, j < l.length → l.getD j z = m.getD j z) : l = m := by
  refine List.ext_getElem h (fun j h1 h2 => ?_)
  have := k j h1
  simpa [List.getD_eq_getElem?_getD, h1, h2] using this
theorem getD_replicate {α : Type} {z v : α} {n j : Nat} (h : j < n) : (List.replicate n v).getD j z = v := by
  rw [List.getD_eq_getElem?_getD, List.getElem?_replicate]; simp [h]
theorem asc_iff {l : List Int} {n : Int} : asc l n = true ↔ ∀ j, j < l.length → 0 ≤ l.getD j 0 ∧ l.getD j 0 < n ∧ (0 < j → l.getD (j - 1) 0 < l.getD j 0) := by
  unfold asc ascAt
  rw [allR_iff]
  exact ⟨fun h j hj => of_decide_eq_true (h j (Nat.zero_le _) hj), fun h j _ hj => decide_eq_true (h j hj)⟩
theorem asc_mem {l : List Int} {n : Int} (h : asc l n = true) {x : Int} (hx : x ∈ l) : 0 ≤ x ∧ x < n := by
  obtain ⟨j, hj, rfl⟩ := mem_getD (z := 0) hx
  have := (asc_iff.1 h) j hj
  exact ⟨this.1, this.2.1⟩
theorem asc_len {l : List Int} {n : Nat} (h : asc l n = true) : l.length ≤ n := by
  rw [asc_iff] at h
  have : ∀ j, j < l.length → (j : Int) ≤ l.getD j 0 := by
    intro j
    induction j with
    | zero => intro hj; exact (h 0 hj).1
    | succ j ih => intro hj; have := ih (by omega); have := (h (j + 1) hj).2.2 (by omega); simp only [Nat.add_sub_cancel] at this; omega
  by_cases h0 : l.length = 0
  · omega
  · have h1 := this (l.length - 1) (by omega)
    have h2 := (h (l.length - 1) (by omega)).2.1
    omega
theorem asc_of {l : List Int} {n : Int} (h : l.Pairwise (· < ·)) (hb : ∀ x ∈ l, 0 ≤ x ∧ x < n) : asc l n = true := by
  rw [asc_iff]
  intro j hj
  have hm := hb _ (getD_mem (z := 0) hj)
  refine ⟨hm.1, hm.2, fun h0 => ?_⟩
  rw [List.pairwise_iff_getElem] at h
  have := h (j - 1) j (by omega) hj (by omega)
  simpa [List.getD_eq_getElem?_getD, hj, show j - 1 < l.length by omega] using this
/-- arcs of n blocks -/
structure Arcs (a : List (List Int)) : Prop where
  pos : 1 ≤ a.length
  le : a.length ≤ 120
  row : ∀ i, i < a.length → asc (a.getD i []) i = true
theorem Arcs.down {a : List (List Int)} (h : Arcs a) {i : Nat} {x : Int} (hx : x ∈ a.getD i []) : 0 ≤ x ∧ x < i := by
  by_cases hi : i < a.length
  · exact asc_mem (h.row i hi) hx
  · rw [getD_none (by omega)] at hx; simp at hx
theorem Arcs.len {a : List (List Int)} (h : Arcs a) (i : Nat) : (a.getD i []).length ≤ 120 := by
  by_cases hi : i < a.length
  · have := asc_len (h.row i hi); have := h.le; omega
  · rw [getD_none (by omega)]; simp
def at_ (m : List Bool) (x : Int) : Bool := m.getD x.toNat false
def setAt (l : List Int) (m : List Bool) (j : Nat) : List Bool := m.set (l.getD j 0).toNat true
def setAll (m : List Bool) (l : List Int) : List Bool := foldR (setAt l) 0 l.length m
def mk (n : Nat) (l : List Int) : List Bool := setAll (List.replicate n false) l
theorem setAt_fold_len {l : List Int} {m : List Bool} {i n : Nat} : (foldR (setAt l) i n m).length = m.length := by
  by_cases h : i ≤ n
  · exact foldR_inv (P := fun _ (t : List Bool) => t.length = m.length) rfl (fun j t _ _ h => by unfold setAt; rw [List.length_set]; exact h) h
  · rw [foldR_end (by omega)]
theorem setAll_len {l : List Int} {m : List Bool} : (setAll m l).length = m.length := setAt_fold_len
theorem setAll_at {l : List Int} {m : List Bool} (hl : ∀ x ∈ l, 0 ≤ x ∧ x < m.length) (j : Nat) : (setAll m l).getD j false = true ↔ m.getD j false = true ∨ (j : Int) ∈ l := by
  unfold setAll
  have key : ∀ n, n ≤ l.length → ((foldR (setAt l) 0 n m).getD j false = true ↔ m.getD j false = true ∨ ∃ i, i < n ∧ l.getD i 0 = (j : Int)) := by
    intro n
    induction n with
    | zero => intro _; rw [foldR_end (Nat.le_refl _)]; simp
    | succ n ih =>
      intro hn
      have ih := ih (by omega)
      rw [foldR_last (Nat.zero_le _)]
      have hx := hl _ (getD_mem (z := 0) (show n < l.length by omega))
      have hlen := setAt_fold_len (l := l) (m := m) (i := 0) (n := n)
      generalize foldR (setAt l) 0 n m = t at ih hlen ⊢
      unfold setAt
      rw [getD_set]
      constructor
      · intro h
        split at h
        · rename_i hc; exact .inr ⟨n, by omega, by omega⟩
        · rcases ih.1 h with h | ⟨i, hi, he⟩
          · exact .inl h
          · exact .inr ⟨i, by omega, he⟩
      · rintro (h | ⟨i, hi, he⟩)
        · split
          · rfl
          · exact ih.2 (.inl h)
        · split
          · rfl
          · rename_i hc
            by_cases e : i = n
            · subst e; exact absurd ⟨by omega, by omega⟩ hc
            · exact ih.2 (.inr ⟨i, by omega, he⟩)
  rw [key _ (Nat.le_refl _)]
  constructor
  · rintro (h | ⟨i, hi, he⟩)
    · exact .inl h
    · exact .inr (he ▸ getD_mem hi)
  · rintro (h | h)
    · exact .inl h
    · obtain ⟨i, hi, he⟩ := mem_getD (z := 0) h; exact .inr ⟨i, hi, he⟩
theorem mk_len {n : Nat} {l : List Int} : (mk n l).length = n := by unfold mk; rw [setAll_len, List.length_replicate]
theorem mk_at {n : Nat} {l : List Int} (hl : ∀ x ∈ l, 0 ≤ x ∧ x < n) (j : Nat) : (mk n l).getD j false = true ↔ (j : Int) ∈ l := by
  unfold mk
  rw [setAll_at (by simpa using hl)]
  simp only [List.getD_eq_getElem?_getD, List.getElem?_replicate]
  split <;> simp
def putAt (m : List Bool) (o : List Int) (j : Nat) : List Int := if m.getD j false = true then o ++ [(j : Int)] else o
def listOf (m : List Bool) : List Int := foldR (putAt m) 0 m.length []
theorem putAt_len {m : List Bool} (n : Nat) : (foldR (putAt m) 0 n []).length ≤ n := by
  induction n with
  | zero => rw [foldR_end (Nat.le_refl _)]; exact Nat.le_refl _
  | succ n ih =>
    rw [foldR_last (Nat.zero_le _)]
    unfold putAt at *
    split
    · rw [List.length_append]; simp; exact ih
    · omega
theorem putAt_mem {m : List Bool} (n : Nat) (x : Int) : x ∈ foldR (putAt m) 0 n [] ↔ ∃ j : Nat, j < n ∧ m.getD j false = true ∧ x = j := by
  induction n with
  | zero => rw [foldR_end (Nat.le_refl _)]; simp
  | succ n ih =>
    rw [foldR_last (Nat.zero_le _)]
    generalize foldR (putAt m) 0 n [] = t at ih ⊢
    unfold putAt
    split
    · rename_i h
      rw [List.mem_append, ih, List.mem_singleton]
      constructor
      · rintro (⟨j, h1, h2, h3⟩ | rfl)
        · exact ⟨j, by omega, h2, h3⟩
        · exact ⟨n, by omega, h, rfl⟩
      · rintro ⟨j, h1, h2, h3⟩
        by_cases e : j = n
        · subst e; exact .inr h3
        · exact .inl ⟨j, by omega, h2, h3⟩
    · rename_i h
      rw [ih]
      constructor
      · rintro ⟨j, h1, h2, h3⟩; exact ⟨j, by omega, h2, h3⟩
      · rintro ⟨j, h1, h2, h3⟩
        by_cases e : j = n
        · subst e; exact absurd h2 h
        · exact ⟨j, by omega, h2, h3⟩
theorem putAt_sorted {m : List Bool} (n : Nat) : (foldR (putAt m) 0 n []).Pairwise (· < ·) := by
  induction n with
  | zero => rw [foldR_end (Nat.le_refl _)]; exact List.Pairwise.nil
  | succ n ih =>
    rw [foldR_last (Nat.zero_le _)]
    have hm := putAt_mem (m := m) n
    generalize foldR (putAt m) 0 n [] = t at ih hm ⊢
    unfold putAt
    split
    · rw [List.pairwise_append]
      refine ⟨ih, List.pairwise_singleton _ _, fun x hx y hy => ?_⟩
      obtain ⟨j, h1, _, rfl⟩ := (hm x).1 hx
      rw [List.mem_singleton] at hy
      omega
    · exact ih
theorem listOf_mem {m : List Bool} (x : Int) : x ∈ listOf m ↔ 0 ≤ x ∧ at_ m x = true := by
  unfold listOf at_
  rw [putAt_mem]
  constructor
  · rintro ⟨j, _, h, rfl⟩; exact ⟨by omega, by rw [toNat_nat]; exact h⟩
  · rintro ⟨h0, h⟩
    refine ⟨x.toNat, ?_, h, by omega⟩
    by_cases hx : x.toNat < m.length
    · exact hx
    · rw [getD_none (by omega)] at h; simp at h
theorem listOf_asc {m : List Bool} : asc (listOf m) m.length = true := by
  refine asc_of (putAt_sorted _) (fun x hx => ?_)
  obtain ⟨j, h, _, rfl⟩ := (putAt_mem _ _).1 hx
  omega
theorem listOf_len {m : List Bool} : (listOf m).length ≤ m.length := putAt_len _
inductive Up (a : List (List Int)) : Nat → Nat → Prop
  | refl (i : Nat) : Up a i i
  | step {i j k : Nat} : (j : Int) ∈ a.getD i [] → Up a j k → Up a i k
theorem Up.trans {a : List (List Int)} {i j k : Nat} (h : Up a i j) (h' : Up a j k) : Up a i k := by
  induction h with
  | refl => exact h'
  | step h1 _ ih => exact .step h1 (ih h')
theorem Up.le {a : List (List Int)} (ha : Arcs a) {i j : Nat} (h : Up a i j) : j ≤ i := by
  induction h with
  | refl => exact Nat.le_refl _
  | step h1 _ ih => have := (ha.down h1).2; omega
end Go.Proofs.Ytomfjhpiemipkaa.B
end
section
/- More on ranges, kept elements, insertion into rising lists, blocks below: plain laws, nothing of the program. -/
namespace Go.Proofs.Ytomfjhpiemipkaa.B
open Go.RowKit Go.Proofs.YtomfjhpiemipkaaW.PrintWords Go.Proofs.YtomfjhpiemipkaaW.PrintMore
set_option linter.unusedVariables false
set_option linter.unusedSimpArgs false
end Go.Proofs.Ytomfjhpiemipkaa.B
end
section
/- Greatest flows on lists, in plain Lean: levels, pushes along levels, runs until no more flows; nothing of the program. -/
namespace Go.Proofs.Ytomfjhpiemipkaa.Flow
open Go.RowKit Go.Proofs.YtomfjhpiemipkaaW.PrintWords Go.Proofs.YtomfjhpiemipkaaW.PrintMore Go.Proofs.Ytomfjhpiemipkaa.B
set_option linter.unusedVariables false
set_option linter.unusedSimpArgs false
def put (l : List Int) (u x : Int) : List Int := l.set u.toNat x
theorem put_len (l : List Int) (u x : Int) : (put l u x).length = l.length := by unfold put; rw [List.length_set]
theorem rd_def (l : List Int) (i : Int) : rd l i = l.getD i.toNat 0 := rfl
theorem rd_put (l : List Int) {u j : Int} (x : Int) (hu : 0 ≤ u) (hj : 0 ≤ j) : rd (put l u x) j = if u = j ∧ u < l.length then x else rd l j := by
  unfold put
  rw [rd_def, rd_def, List.getD_eq_getElem?_getD, List.getElem?_set, List.getD_eq_getElem?_getD]
  by_cases h : u = j
  · subst h
    by_cases h2 : u.toNat < l.length
    · rw [if_pos rfl, if_pos h2, if_pos ⟨rfl, by omega⟩]; rfl
    · rw [if_pos rfl, if_neg h2, if_neg (by omega), List.getElem?_eq_none (by omega)]
  · rw [if_neg (by omega), if_neg (by omega)]
theorem rd_put_ne (l : List Int) {u j : Int} (x : Int) (hu : 0 ≤ u) (hj : 0 ≤ j) (h : u ≠ j) : rd (put l u x) j = rd l j := by rw [rd_put l x hu hj, if_neg (by omega)]
theorem rd_put_eq (l : List Int) {u : Int} (x : Int) (hu : 0 ≤ u) (h : u < l.length) : rd (put l u x) u = x := by rw [rd_put l x hu hu, if_pos ⟨rfl, h⟩]
/-- the edge that leads back -/
def par (e : Int) : Int := if e % 2 = 0 then e + 1 else e - 1
theorem par_par {e : Int} : par (par e) = e := by unfold par; split <;> split <;> omega
theorem par_ne {e : Int} : par e ≠ e := by unfold par; split <;> omega
theorem par_bd {e : Int} {m : Nat} (h0 : 0 ≤ e) (h : e < 2 * (m : Int)) : 0 ≤ par e ∧ par e < 2 * (m : Int) := by unfold par; split <;> omega
def row (a : List (List Int)) (u : Int) : List Int := a.getD u.toNat []
def inc (l : List Int) (u : Int) : List Int := put l u (rd l u + 1)
def give (left : List Int) (e s : Int) : List Int := put (put left e (rd left e - s)) (par e) (rd (put left e (rd left e - s)) (par e) + s)
theorem give_len (l : List Int) (e s : Int) : (give l e s).length = l.length := by unfold give; rw [put_len, put_len]
/-- nodes 0 .. n - 1, edges 0 .. 2 m - 1 by the nodes to which they lead, and each node's edges -/
structure Net (n m : Nat) (tos : List Int) (adj : List (List Int)) : Prop where
  al : adj.length = n
  tl : tos.length = 2 * m
  nd : 2 ≤ n
  rng : ∀ e : Int, 0 ≤ e → e < 2 * (m : Int) → 0 ≤ rd tos e ∧ rd tos e < n
  row : ∀ u : Int, 0 ≤ u → u < n → ∀ e ∈ row adj u, (0 ≤ e ∧ e < 2 * (m : Int)) ∧ rd tos (par e) = u
  all : ∀ e : Int, 0 ≤ e → e < 2 * (m : Int) → e ∈ Flow.row adj (rd tos (par e))
def Good (m : Nat) (left : List Int) : Prop := left.length = 2 * m ∧ ∀ e : Int, 0 ≤ e → e < 2 * (m : Int) → 0 ≤ rd left e ∧ rd left e + rd left (par e) ≤ 1000000000
theorem rd_give {left : List Int} {m : Nat} {e j : Int} (s : Int) (hl : left.length = 2 * m) (h0 : 0 ≤ e) (h1 : e < 2 * (m : Int)) (hj : 0 ≤ j) : rd (give left e s) j = if j = e then rd left e - s else if j = par e then rd left (par e) + s else rd left j := by
  have hp := par_bd h0 h1
  have hn := par_ne (e := e)
  unfold give
  rw [rd_put_ne left _ h0 hp.1 (Ne.symm hn), rd_put _ _ hp.1 hj, put_len, rd_put left _ h0 hj]
  by_cases e1 : j = e
  · subst e1
    rw [if_neg (by omega), if_pos ⟨rfl, by omega⟩, if_pos rfl]
  · by_cases e2 : j = par e
    · subst e2
      rw [if_pos ⟨rfl, by omega⟩, if_neg hn, if_pos rfl]
    · rw [if_neg (by omega), if_neg (by omega), if_neg e1, if_neg e2]
theorem give_good {left : List Int} {m : Nat} {e s : Int} (h : Good m left) (h0 : 0 ≤ e) (h1 : e < 2 * (m : Int)) (s0 : 0 ≤ s) (s1 : s ≤ rd left e) : Good m (give left e s) := by
  have hp := par_bd h0 h1
  have hn := par_ne (e := e)
  have ge := h.2 e h0 h1
  have gp := h.2 (par e) hp.1 hp.2
  rw [par_par] at gp
  refine ⟨by rw [give_len]; exact h.1, ?_⟩
  intro j j0 j1
  have jp := par_bd j0 j1
  have gj := h.2 j j0 j1
  rw [rd_give s h.1 h0 h1 j0, rd_give s h.1 h0 h1 jp.1]
  by_cases e1 : j = e
  · subst e1
    rw [if_pos rfl, if_neg hn, if_pos rfl]; omega
  · by_cases e2 : j = par e
    · subst e2
      rw [if_neg hn, if_pos rfl, par_par, if_pos rfl]; omega
    · have e3 : par j ≠ e := by intro h; exact e2 (by rw [← h, par_par])
      have e4 : par j ≠ par e := by intro h; exact e1 (by rw [← par_par (e := j), h, par_par])
      rw [if_neg e1, if_neg e2, if_neg e3, if_neg e4]; exact gj
theorem give_pair {left : List Int} {m : Nat} {e j s : Int} (hl : left.length = 2 * m) (h0 : 0 ≤ e) (h1 : e < 2 * (m : Int)) (j0 : 0 ≤ j) (j1 : j < 2 * (m : Int)) : rd (give left e s) j + rd (give left e s) (par j) = rd left j + rd left (par j) := by
  have jp := par_bd j0 j1
  have hn := par_ne (e := e)
  rw [rd_give s hl h0 h1 j0, rd_give s hl h0 h1 jp.1]
  by_cases e1 : j = e
  · subst e1
    rw [if_pos rfl, if_neg hn, if_pos rfl]; omega
  · by_cases e2 : j = par e
    · subst e2
      rw [if_neg hn, if_pos rfl, par_par, if_pos rfl]; omega
    · have e3 : par j ≠ e := by intro h; exact e2 (by rw [← h, par_par])
      have e4 : par j ≠ par e := by intro h; exact e1 (by rw [← par_par (e := j), h, par_par])
      rw [if_neg e1, if_neg e2, if_neg e3, if_neg e4]
/-- the net outflow of a node -/
def ex (tos left : List Int) (v : Int) : Nat → Int
  | 0 => 0
  | m + 1 => ex tos left v m + rd left (2 * (m : Int) + 1) * ((if rd tos (2 * (m : Int) + 1) = v then 1 else 0) - (if rd tos (2 * (m : Int)) = v then 1 else 0))
theorem ex_congr {tos left left' : List Int} {v : Int} {m : Nat} (h : ∀ k : Int, 0 ≤ k → k < m → rd left (2 * k + 1) = rd left' (2 * k + 1)) : ex tos left v m = ex tos left' v m := by
  induction m with
  | zero => rfl
  | succ m ih => unfold ex; rw [ih (fun k h0 h1 => h k h0 (by omega)), h m (by omega) (by omega)]
theorem ex_upd {tos left left' : List Int} {v x : Int} {m : Nat} {j : Int} (j0 : 0 ≤ j) (j1 : j < m) (hx : rd left' (2 * j + 1) = rd left (2 * j + 1) + x) (h : ∀ k : Int, 0 ≤ k → k ≠ j → rd left' (2 * k + 1) = rd left (2 * k + 1)) :
    ex tos left' v m = ex tos left v m + x * ((if rd tos (2 * j + 1) = v then 1 else 0) - (if rd tos (2 * j) = v then 1 else 0)) := by
  induction m with
  | zero => omega
  | succ m ih =>
    unfold ex
    by_cases e : j = m
    · subst e
      rw [ex_congr (left := left') (left' := left) (m := m) (fun k h0 h1 => h k h0 (by omega)), hx, Int.add_mul]; omega
    · rw [ih (by omega), h m (by omega) (by omega)]; omega
theorem ex_give {tos left : List Int} {m : Nat} {e : Int} (v s : Int) (hl : left.length = 2 * m) (h0 : 0 ≤ e) (h1 : e < 2 * (m : Int)) :
    ex tos (give left e s) v m = ex tos left v m + s * ((if rd tos (par e) = v then 1 else 0) - (if rd tos e = v then 1 else 0)) := by
  have hp := par_bd h0 h1
  by_cases he : e % 2 = 0
  · have hq : par e = 2 * (e / 2) + 1 := by unfold par; rw [if_pos he]; omega
    have h2 : e = 2 * (e / 2) := by omega
    rw [ex_upd (j := e / 2) (x := s) (left := left) (by omega) (by omega) ?_ ?_]
    · rw [← hq, ← h2]
    · rw [← hq, rd_give s hl h0 h1 hp.1, if_neg par_ne, if_pos rfl]
    · intro k k0 k1
      rw [rd_give s hl h0 h1 (by omega), if_neg (by omega), if_neg (by omega)]
  · have hq : par e = 2 * (e / 2) := by unfold par; rw [if_neg he]; omega
    have h2 : e = 2 * (e / 2) + 1 := by omega
    rw [ex_upd (j := e / 2) (x := -s) (left := left) (by omega) (by omega) ?_ ?_]
    · rw [← h2, ← hq]
      rw [Int.neg_mul, ← Int.mul_neg]; congr 2; omega
    · rw [← h2, rd_give s hl h0 h1 h0, if_pos rfl]; omega
    · intro k k0 k1
      rw [rd_give s hl h0 h1 (by omega), if_neg (by omega), if_neg (by omega)]
/-- sends at most so much from a node that is not the sink along growing levels -/
def pushL (tos : List Int) (adj : List (List Int)) (d : List Int) (snk : Int) : Nat → Int → Int → List Int → List Int → Option (Int × List Int × List Int)
  | 0, _, _, _, _ => none
  | k + 1, u, most, left, next =>
    if rd next u < ((row adj u).length : Int) then
      if rd left (rd (row adj u) (rd next u)) = 0 ∨ rd d (rd tos (rd (row adj u) (rd next u))) ≠ rd d u + 1 then pushL tos adj d snk k u most left (inc next u)
      else (if rd tos (rd (row adj u) (rd next u)) = snk then some (min most (rd left (rd (row adj u) (rd next u))), left, next) else pushL tos adj d snk k (rd tos (rd (row adj u) (rd next u))) (min most (rd left (rd (row adj u) (rd next u)))) left next).bind fun r =>
        if 0 < r.1 then some (r.1, give r.2.1 (rd (row adj u) (rd next u)) r.1, r.2.2) else pushL tos adj d snk k u most r.2.1 (inc r.2.2 u)
    else some (0, left, next)
/-- each edge ahead of next is of no use -/
def Dead (tos : List Int) (adj : List (List Int)) (d : List Int) (snk : Int) (next : List Int) (u : Int) : Prop := u ≠ snk ∧ ((row adj u).length : Int) ≤ rd next u
def Used (n : Nat) (tos : List Int) (adj : List (List Int)) (d : List Int) (snk : Int) (left next : List Int) : Prop :=
  ∀ u : Int, 0 ≤ u → u < n → ∀ j : Int, 0 ≤ j → j < rd next u → j < ((row adj u).length : Int) → rd left (rd (row adj u) j) = 0 ∨ rd d (rd tos (rd (row adj u) j)) ≠ rd d u + 1 ∨ Dead tos adj d snk next (rd tos (rd (row adj u) j))
def NextOk (n : Nat) (adj : List (List Int)) (next : List Int) : Prop := next.length = n ∧ ∀ u : Int, 0 ≤ u → u < n → 0 ≤ rd next u ∧ rd next u ≤ ((row adj u).length : Int)
theorem row_mem {l : List Int} {j : Int} (h0 : 0 ≤ j) (h1 : j < l.length) : rd l j ∈ l := by
  rw [rd_def, List.getD_eq_getElem?_getD, List.getElem?_eq_getElem (by omega)]; exact List.getElem_mem (by omega)
theorem inc_ok {n : Nat} {adj : List (List Int)} {next : List Int} {u : Int} (h : NextOk n adj next) (h0 : 0 ≤ u) (h1 : u < n) (h2 : rd next u < ((row adj u).length : Int)) : NextOk n adj (inc next u) := by
  refine ⟨by unfold inc; rw [put_len]; exact h.1, ?_⟩
  intro v v0 v1
  have := h.2 v v0 v1
  unfold inc
  rw [rd_put _ _ h0 v0]
  split
  · rename_i e; obtain ⟨rfl, e⟩ := e; omega
  · exact this
theorem inc_at {n : Nat} {adj : List (List Int)} {next : List Int} {u : Int} (h : NextOk n adj next) (h0 : 0 ≤ u) (h1 : u < n) : rd (inc next u) u = rd next u + 1 := by
  unfold inc; rw [rd_put_eq _ _ h0 (by rw [h.1]; exact h1)]
theorem inc_ne {next : List Int} {u v : Int} (h0 : 0 ≤ u) (v0 : 0 ≤ v) (h : u ≠ v) : rd (inc next u) v = rd next v := by
  unfold inc; rw [rd_put_ne _ _ h0 v0 h]
theorem dead_inc {n : Nat} {tos : List Int} {adj : List (List Int)} {d : List Int} {snk : Int} {next : List Int} {u v : Int} (h : Dead tos adj d snk next v) (h0 : 0 ≤ u) (v0 : 0 ≤ v) (hl : u < next.length) : Dead tos adj d snk (inc next u) v := by
  refine ⟨h.1, ?_⟩
  have := h.2
  unfold inc
  rw [rd_put _ _ h0 v0]
  split
  · rename_i e; obtain ⟨rfl, e⟩ := e; omega
  · exact this
theorem used_inc {n m : Nat} {tos : List Int} {adj : List (List Int)} {d : List Int} {snk : Int} {left next : List Int} {u : Int} (N : Net n m tos adj) (hx : NextOk n adj next) (u0 : 0 ≤ u) (u1 : u < n) (c1 : rd next u < ((row adj u).length : Int)) (hU : Used n tos adj d snk left next)
    (hc : rd left (rd (row adj u) (rd next u)) = 0 ∨ rd d (rd tos (rd (row adj u) (rd next u))) ≠ rd d u + 1 ∨ Dead tos adj d snk next (rd tos (rd (row adj u) (rd next u)))) : Used n tos adj d snk left (inc next u) := by
  have hl : u < next.length := by rw [hx.1]; exact u1
  intro v v0 v1 j j0 j1 j2
  have hE2 := N.row v v0 v1 _ (row_mem j0 j2)
  have hT2 := N.rng _ hE2.1.1 hE2.1.2
  have fin : (rd left (rd (row adj v) j) = 0 ∨ rd d (rd tos (rd (row adj v) j)) ≠ rd d v + 1 ∨ Dead tos adj d snk next (rd tos (rd (row adj v) j))) → (rd left (rd (row adj v) j) = 0 ∨ rd d (rd tos (rd (row adj v) j)) ≠ rd d v + 1 ∨ Dead tos adj d snk (inc next u) (rd tos (rd (row adj v) j))) := by
    rintro (c | c | c)
    · exact Or.inl c
    · exact Or.inr (Or.inl c)
    · exact Or.inr (Or.inr (dead_inc (n := n) c u0 hT2.1 hl))
  apply fin
  by_cases hv : u = v
  · subst hv
    rw [inc_at hx u0 u1] at j1
    by_cases hj : j = rd next u
    · subst hj; exact hc
    · exact hU u v0 v1 j j0 (by omega) j2
  · rw [inc_ne u0 v0 hv] at j1
    exact hU v v0 v1 j j0 j1 j2
structure Told (n m : Nat) (tos : List Int) (adj : List (List Int)) (d : List Int) (snk : Int) (u most : Int) (left next : List Int) (r : Int × List Int × List Int) : Prop where
  s0 : 0 ≤ r.1
  s1 : r.1 ≤ most
  good : Good m r.2.1
  nxt : NextOk n adj r.2.2
  mono : ∀ v : Int, 0 ≤ v → v < n → rd next v ≤ rd r.2.2 v
  keep : ∀ v : Int, 0 ≤ v → v < n → rd d v < rd d u → rd r.2.2 v = rd next v
  none : r.1 = 0 → r.2.1 = left ∧ (Used n tos adj d snk left next → Used n tos adj d snk left r.2.2) ∧ ((row adj u).length : Int) ≤ rd r.2.2 u
  sent : ∀ v : Int, ex tos r.2.1 v m = ex tos left v m + r.1 * ((if u = v then 1 else 0) - (if snk = v then 1 else 0))
  stay : ∀ e : Int, 0 ≤ e → e < 2 * (m : Int) → rd d (rd tos (par e)) < rd d u → rd r.2.1 e = rd left e
  pair : ∀ e : Int, 0 ≤ e → e < 2 * (m : Int) → rd r.2.1 e + rd r.2.1 (par e) = rd left e + rd left (par e)
theorem push_told {n m : Nat} {tos : List Int} {adj : List (List Int)} {d : List Int} {snk : Int} (N : Net n m tos adj) : ∀ (k : Nat) (u most : Int) (left next : List Int) (r : Int × List Int × List Int), pushL tos adj d snk k u most left next = some r →
    0 ≤ u → u < n → u ≠ snk → 0 < most → Good m left → NextOk n adj next → Told n m tos adj d snk u most left next r := by
  intro k
  induction k with
  | zero => intro u most left next r h; cases h
  | succ k ih =>
    intro u most left next r h u0 u1 us hm hg hx
    have hxu := hx.2 u u0 u1
    unfold pushL at h
    by_cases c1 : rd next u < ((row adj u).length : Int)
    · rw [if_pos c1] at h
      obtain ⟨e, he⟩ : ∃ e, e = rd (row adj u) (rd next u) := ⟨_, rfl⟩
      rw [← he] at h
      have hmem : e ∈ row adj u := by rw [he]; exact row_mem hxu.1 c1
      have hE := N.row u u0 u1 e hmem
      have hT := N.rng e hE.1.1 hE.1.2
      have hi := inc_ok hx u0 u1 c1
      have hia := inc_at hx u0 u1
      by_cases c2 : rd left e = 0 ∨ rd d (rd tos e) ≠ rd d u + 1
      · rw [if_pos c2] at h
        have q := ih u most left (inc next u) r h u0 u1 us hm hg hi
        refine ⟨q.s0, q.s1, q.good, q.nxt, ?_, ?_, ?_, q.sent, q.stay, q.pair⟩
        · intro v v0 v1
          have := q.mono v v0 v1
          by_cases hv : u = v
          · subst hv; omega
          · rw [inc_ne u0 v0 hv] at this; exact this
        · intro v v0 v1 hv
          rw [q.keep v v0 v1 hv, inc_ne u0 v0 (by rintro rfl; omega)]
        · intro z
          obtain ⟨z1, z2, z3⟩ := q.none z
          refine ⟨z1, fun hU => z2 (used_inc N hx u0 u1 c1 hU ?_), z3⟩
          rw [← he]
          rcases c2 with c | c
          · exact Or.inl c
          · exact Or.inr (Or.inl c)
      · rw [if_neg c2] at h
        have hge := hg.2 e hE.1.1 hE.1.2
        have hl0 : 0 < rd left e := by omega
        have hlv : rd d (rd tos e) = rd d u + 1 := by omega
        have hmin : 0 < min most (rd left e) := by omega
        -- what the deeper push tells
        obtain ⟨r1, h1, h2⟩ : ∃ r1, (if rd tos e = snk then some (min most (rd left e), left, next) else pushL tos adj d snk k (rd tos e) (min most (rd left e)) left next) = some r1 ∧ (if 0 < r1.1 then some (r1.1, give r1.2.1 e r1.1, r1.2.2) else pushL tos adj d snk k u most r1.2.1 (inc r1.2.2 u)) = some r := by
          cases hc : (if rd tos e = snk then some (min most (rd left e), left, next) else pushL tos adj d snk k (rd tos e) (min most (rd left e)) left next) with
          | none => rw [hc] at h; cases h
          | some r1 => rw [hc] at h; exact ⟨r1, rfl, h⟩
        have hq : (0 ≤ r1.1 ∧ r1.1 ≤ min most (rd left e)) ∧ Good m r1.2.1 ∧ NextOk n adj r1.2.2 ∧ (∀ v : Int, 0 ≤ v → v < n → rd next v ≤ rd r1.2.2 v) ∧ (∀ v : Int, 0 ≤ v → v < n → rd d v < rd d u + 1 → rd r1.2.2 v = rd next v) ∧
            (r1.1 = 0 → r1.2.1 = left ∧ (Used n tos adj d snk left next → Used n tos adj d snk left r1.2.2) ∧ Dead tos adj d snk r1.2.2 (rd tos e)) ∧
            (∀ v : Int, ex tos r1.2.1 v m = ex tos left v m + r1.1 * ((if rd tos e = v then 1 else 0) - (if snk = v then 1 else 0))) ∧ (∀ e : Int, 0 ≤ e → e < 2 * (m : Int) → rd d (rd tos (par e)) < rd d u + 1 → rd r1.2.1 e = rd left e) ∧ (∀ e : Int, 0 ≤ e → e < 2 * (m : Int) → rd r1.2.1 e + rd r1.2.1 (par e) = rd left e + rd left (par e)) := by
          by_cases c3 : rd tos e = snk
          · rw [if_pos c3] at h1
            injection h1 with h1
            subst h1
            refine ⟨⟨by show 0 ≤ min most (rd left e); omega, Int.le_refl _⟩, hg, hx, fun v _ _ => Int.le_refl _, fun v _ _ _ => rfl, fun z => by exfalso; replace z : min most (rd left e) = 0 := z; omega, ?_, ?_⟩
            · intro v
              show ex tos left v m = ex tos left v m + min most (rd left e) * _
              rw [c3, Int.sub_self, Int.mul_zero, Int.add_zero]
            · exact ⟨fun e' _ _ _ => rfl, fun e' _ _ => rfl⟩
          · rw [if_neg c3] at h1
            have q := ih _ _ _ _ _ h1 hT.1 hT.2 c3 hmin hg hx
            refine ⟨⟨q.s0, q.s1⟩, q.good, q.nxt, q.mono, fun v v0 v1 hv => q.keep v v0 v1 (by omega), fun z => ?_, q.sent, fun e' h0 h1 h2 => q.stay e' h0 h1 (by omega), q.pair⟩
            obtain ⟨z1, z2, z3⟩ := q.none z
            exact ⟨z1, z2, c3, z3⟩
        clear h1 h
        obtain ⟨⟨q0, q1⟩, qg, qx, qm, qk, qz, qs, qy, qp⟩ := hq
        have hr1 : rd r1.2.2 u = rd next u := qk u u0 u1 (by omega)
        by_cases c4 : 0 < r1.1
        · rw [if_pos c4] at h2
          injection h2 with h2
          subst h2
          have hy := qy e hE.1.1 hE.1.2 (by rw [hE.2]; omega)
          refine ⟨q0, by show r1.1 ≤ most; omega, give_good qg hE.1.1 hE.1.2 q0 (by omega), qx, qm, fun v v0 v1 hv => qk v v0 v1 (by omega), fun z => by exfalso; replace z : r1.1 = 0 := z; omega, ?_, ?_, ?_⟩
          · intro v
            show ex tos (give r1.2.1 e r1.1) v m = _
            rw [ex_give v r1.1 qg.1 hE.1.1 hE.1.2, qs v, hE.2, Int.add_assoc, ← Int.mul_add]
            congr 2
            omega
          · intro e' h0 h1 h2
            show rd (give r1.2.1 e r1.1) e' = _
            have n1 : e' ≠ e := by rintro rfl; rw [hE.2] at h2; omega
            have n2 : e' ≠ par e := by rintro rfl; rw [par_par] at h2; omega
            rw [rd_give _ qg.1 hE.1.1 hE.1.2 h0, if_neg n1, if_neg n2]
            exact qy e' h0 h1 (by omega)
          · intro e' h0 h1
            show rd (give r1.2.1 e r1.1) e' + rd (give r1.2.1 e r1.1) (par e') = _
            rw [give_pair qg.1 hE.1.1 hE.1.2 h0 h1]
            exact qp e' h0 h1
        · rw [if_neg c4] at h2
          have hz : r1.1 = 0 := by omega
          obtain ⟨z1, z2, z3⟩ := qz hz
          rw [z1] at h2
          have hc1 : rd r1.2.2 u < ((row adj u).length : Int) := by rw [hr1]; exact c1
          have hi2 := inc_ok qx u0 u1 hc1
          have hia2 := inc_at qx u0 u1
          have q := ih u most left (inc r1.2.2 u) r h2 u0 u1 us hm hg hi2
          refine ⟨q.s0, q.s1, q.good, q.nxt, ?_, ?_, ?_, q.sent, q.stay, q.pair⟩
          · intro v v0 v1
            have h3 := q.mono v v0 v1
            have h4 := qm v v0 v1
            by_cases hv : u = v
            · subst hv; omega
            · rw [inc_ne u0 v0 hv] at h3; omega
          · intro v v0 v1 hv
            rw [q.keep v v0 v1 hv, inc_ne u0 v0 (by rintro rfl; omega), qk v v0 v1 (by omega)]
          · intro z
            obtain ⟨y1, y2, y3⟩ := q.none z
            refine ⟨y1, fun hU => y2 (used_inc N qx u0 u1 hc1 (z2 hU) ?_), y3⟩
            rw [hr1, ← he]
            exact Or.inr (Or.inr z3)
    · rw [if_neg c1] at h
      injection h with h
      subst h
      exact ⟨Int.le_refl _, by omega, hg, hx, fun v _ _ => Int.le_refl _, fun v _ _ _ => rfl, fun _ => ⟨rfl, fun h => h, by show _ ≤ rd next u; omega⟩, fun v => by show _ = _ + 0 * _; rw [Int.zero_mul, Int.add_zero], fun e _ _ _ => rfl, fun e _ _ => rfl⟩
theorem push_or {n m : Nat} {tos : List Int} {adj : List (List Int)} {d : List Int} {snk : Int} (N : Net n m tos adj) {k : Nat} {u most : Int} {left next : List Int} {r : Int × List Int × List Int} (h : (if u = snk then some (most, left, next) else pushL tos adj d snk k u most left next) = some r)
    (u0 : 0 ≤ u) (u1 : u < n) (hm : 0 < most) (hg : Good m left) (hx : NextOk n adj next) :
    (0 ≤ r.1 ∧ r.1 ≤ most) ∧ Good m r.2.1 ∧ NextOk n adj r.2.2 ∧ (∀ v : Int, 0 ≤ v → v < n → rd d v < rd d u → rd r.2.2 v = rd next v) ∧ (∀ e : Int, 0 ≤ e → e < 2 * (m : Int) → rd d (rd tos (par e)) < rd d u → rd r.2.1 e = rd left e) := by
  by_cases us : u = snk
  · rw [if_pos us] at h
    injection h with h
    subst h
    exact ⟨⟨Int.le_of_lt hm, Int.le_refl _⟩, hg, hx, fun _ _ _ _ => rfl, fun _ _ _ _ => rfl⟩
  · rw [if_neg us] at h
    have q := push_told N k u most left next r h u0 u1 us hm hg hx
    exact ⟨⟨q.s0, q.s1⟩, q.good, q.nxt, q.keep, q.stay⟩
theorem push_ends {n m : Nat} {tos : List Int} {adj : List (List Int)} {d : List Int} {snk B : Int} (N : Net n m tos adj) (hB : ∀ u : Int, 0 ≤ u → u < n → rd d u ≤ B) : ∀ (b c : Nat) (u most : Int) (left next : List Int), B ≤ rd d u + b → ((row adj u).length : Int) ≤ rd next u + c →
    0 ≤ u → u < n → u ≠ snk → 0 < most → Good m left → NextOk n adj next → ∃ r, Ev (fun k => pushL tos adj d snk k u most left next) r := by
  intro b
  induction b using Nat.strongRecOn with
  | ind b ihb =>
    intro c
    induction c with
    | zero =>
      intro u most left next hb hc u0 u1 us hm hg hx
      exact ⟨(0, left, next), Ev.step (fun k => rfl) (ev_neg (by omega) (ev_some rfl))⟩
    | succ c ihc =>
      intro u most left next hb hc u0 u1 us hm hg hx
      by_cases c1 : rd next u < ((row adj u).length : Int)
      · have hxu := hx.2 u u0 u1
        have hmem := row_mem hxu.1 c1
        have hE := N.row u u0 u1 _ hmem
        have hT := N.rng _ hE.1.1 hE.1.2
        have hi := inc_ok hx u0 u1 c1
        have hia := inc_at hx u0 u1
        by_cases c2 : rd left (rd (row adj u) (rd next u)) = 0 ∨ rd d (rd tos (rd (row adj u) (rd next u))) ≠ rd d u + 1
        · obtain ⟨r, hr⟩ := ihc u most left (inc next u) hb (by omega) u0 u1 us hm hg hi
          exact ⟨r, Ev.step (fun k => rfl) (ev_pos c1 (ev_pos c2 hr))⟩
        · have hge := hg.2 _ hE.1.1 hE.1.2
          have hlv : rd d (rd tos (rd (row adj u) (rd next u))) = rd d u + 1 := by omega
          have hmin : 0 < min most (rd left (rd (row adj u) (rd next u))) := by omega
          have hBt := hB _ hT.1 hT.2
          by_cases c3 : rd tos (rd (row adj u) (rd next u)) = snk
          · exact ⟨_, Ev.step (fun k => rfl) (ev_pos c1 (ev_neg c2 (Ev.bind (ev_pos c3 (Ev.now _)) (ev_pos hmin (ev_some rfl)))))⟩
          · have hxt := hx.2 _ hT.1 hT.2
            obtain ⟨r1, hr1⟩ := ihb (b - 1) (by omega) (row adj (rd tos (rd (row adj u) (rd next u)))).length _ _ left next (by omega) (by omega) hT.1 hT.2 c3 hmin hg hx
            obtain ⟨k1, hk1⟩ := hr1.rounds
            have q := push_told N k1 _ _ _ _ _ hk1 hT.1 hT.2 c3 hmin hg hx
            by_cases c4 : 0 < r1.1
            · exact ⟨_, Ev.step (fun k => rfl) (ev_pos c1 (ev_neg c2 (Ev.bind (ev_neg c3 hr1) (ev_pos c4 (ev_some rfl)))))⟩
            · have hs : rd r1.2.2 u = rd next u := q.keep u u0 u1 (by omega)
              have hia2 := inc_at q.nxt u0 u1
              obtain ⟨r, hr⟩ := ihc u most r1.2.1 (inc r1.2.2 u) hb (by omega) u0 u1 us hm q.good (inc_ok q.nxt u0 u1 (by omega))
              exact ⟨r, Ev.step (fun k => rfl) (ev_pos c1 (ev_neg c2 (Ev.bind (ev_neg c3 hr1) (ev_neg c4 hr))))⟩
      · exact ⟨(0, left, next), Ev.step (fun k => rfl) (ev_neg c1 (ev_some rfl))⟩
/-- so much that nothing is held back: any amount will do -/
theorem push_most {n m : Nat} {tos : List Int} {adj : List (List Int)} {d : List Int} {snk : Int} (N : Net n m tos adj) (M M' : Int) (h1 : 1000000000 ≤ M) (h2 : 1000000000 ≤ M') : ∀ (k : Nat) (u : Int) (left next : List Int), 0 ≤ u → u < n → u ≠ snk → Good m left → NextOk n adj next → pushL tos adj d snk k u M left next = pushL tos adj d snk k u M' left next := by
  intro k
  induction k with
  | zero => intros; rfl
  | succ k ih =>
    intro u left next u0 u1 us hg hx
    unfold pushL
    by_cases c1 : rd next u < ((row adj u).length : Int)
    · rw [if_pos c1, if_pos c1]
      have hxu := hx.2 u u0 u1
      have hmem := row_mem hxu.1 c1
      have hE := N.row u u0 u1 _ hmem
      have hT := N.rng _ hE.1.1 hE.1.2
      have hi := inc_ok hx u0 u1 c1
      have hge := hg.2 _ hE.1.1 hE.1.2
      have hp := par_bd hE.1.1 hE.1.2
      have hgp := hg.2 _ hp.1 hp.2
      rw [ih u left (inc next u) u0 u1 us hg hi, show min M (rd left (rd (row adj u) (rd next u))) = rd left (rd (row adj u) (rd next u)) by omega, show min M' (rd left (rd (row adj u) (rd next u))) = rd left (rd (row adj u) (rd next u)) by omega]
      by_cases c2 : rd left (rd (row adj u) (rd next u)) = 0 ∨ rd d (rd tos (rd (row adj u) (rd next u))) ≠ rd d u + 1
      · rw [if_pos c2, if_pos c2]
      · rw [if_neg c2, if_neg c2]
        by_cases c3 : rd tos (rd (row adj u) (rd next u)) = snk
        · rw [if_pos c3]
          show (if 0 < rd left (rd (row adj u) (rd next u)) then _ else _) = (if 0 < rd left (rd (row adj u) (rd next u)) then _ else _)
          rw [if_pos (by omega), if_pos (by omega)]
        · rw [if_neg c3]
          cases hk : pushL tos adj d snk k (rd tos (rd (row adj u) (rd next u))) (rd left (rd (row adj u) (rd next u))) left next with
          | none => rfl
          | some r1 =>
            have q := push_told N k _ _ _ _ _ hk hT.1 hT.2 c3 (by omega) hg hx
            have hs : rd r1.2.2 u = rd next u := q.keep u u0 u1 (by omega)
            show (if 0 < r1.1 then _ else _) = (if 0 < r1.1 then _ else _)
            rw [ih u r1.2.1 (inc r1.2.2 u) u0 u1 us q.good (inc_ok q.nxt u0 u1 (by omega))]
    · rw [if_neg c1, if_neg c1]
/-- how many are below 0 -/
def unre (d : List Int) : Nat := d.countP fun x => decide (x < 0)
theorem unre_set (d : List Int) (i : Nat) (x : Int) (h : i < d.length) (h1 : d.getD i 0 < 0) (h2 : 0 ≤ x) : unre (d.set i x) + 1 = unre d := by
  induction d generalizing i with
  | nil => simp at h
  | cons y d ih =>
    cases i with
    | zero =>
      have e : y < 0 := h1
      unfold unre
      rw [List.set_cons_zero, List.countP_cons, List.countP_cons, decide_eq_true e, decide_eq_false (by omega : ¬ x < 0)]
      simp
    | succ i =>
      have := ih i (by simpa using h) h1
      unfold unre at this ⊢
      rw [List.set_cons_succ, List.countP_cons, List.countP_cons]
      omega
theorem unre_put {d : List Int} {u x : Int} (h0 : 0 ≤ u) (h : u < d.length) (h1 : rd d u < 0) (h2 : 0 ≤ x) : unre (put d u x) + 1 = unre d :=
  unre_set d u.toNat x (by omega) h1 h2
/-- one node's edges: who is not yet reached is, on the next level -/
def scanAt (tos left : List Int) (lv : Int) (r : List Int) (s : List Int × List Int) (j : Nat) : List Int × List Int :=
  if 0 < rd left (rd r j) ∧ rd s.1 (rd tos (rd r j)) < 0 then (put s.1 (rd tos (rd r j)) lv, s.2 ++ [rd tos (rd r j)]) else s
def scan (tos left : List Int) (lv : Int) (r : List Int) (d q : List Int) : List Int × List Int := foldR (scanAt tos left lv r) 0 r.length (d, q)
def bfsL (tos : List Int) (adj : List (List Int)) (left : List Int) : Nat → List Int → List Int → Option (List Int)
  | 0, _, _ => none
  | k + 1, d, q => match q with
    | [] => some d
    | u :: q => bfsL tos adj left k (scan tos left (rd d u + 1) (row adj u) d q).1 (scan tos left (rd d u + 1) (row adj u) d q).2
/-- levels while they grow: q waits; of node x only the edges ahead of j have been seen -/
structure Lev (n m : Nat) (tos : List Int) (adj : List (List Int)) (o : Int) (left d q : List Int) (x : Int) (j : Nat) : Prop where
  len : d.length = n
  lo : ∀ u : Int, 0 ≤ u → u < n → -1 ≤ rd d u
  hi : ∀ u : Int, 0 ≤ u → u < n → rd d u + unre d ≤ n - 1
  wait : ∀ u ∈ q, (0 ≤ u ∧ u < n) ∧ 0 ≤ rd d u
  org : 0 ≤ o ∧ o < n
  src : rd d o = 0
  zero : ∀ u : Int, 0 ≤ u → u < n → rd d u = 0 → u = o
  pred : ∀ v : Int, 0 ≤ v → v < n → 0 < rd d v → ∃ u e : Int, (0 ≤ u ∧ u < n) ∧ e ∈ row adj u ∧ 0 < rd left e ∧ rd tos e = v ∧ rd d u + 1 = rd d v
  clos : ∀ u : Int, 0 ≤ u → u < n → 0 ≤ rd d u → u ∉ q → u ≠ x → ∀ e ∈ row adj u, 0 < rd left e → 0 ≤ rd d (rd tos e)
  seen : ∀ i : Nat, i < j → i < (row adj x).length → 0 < rd left (rd (row adj x) i) → 0 ≤ rd d (rd tos (rd (row adj x) i))
theorem scan_step {n m : Nat} {tos : List Int} {adj : List (List Int)} {o : Int} {left : List Int} (N : Net n m tos adj) {x : Int} (x0 : 0 ≤ x) (x1 : x < n) {lv : Int} {s : List Int × List Int} {j : Nat} (hj : j < (row adj x).length)
    (hl : 0 < lv) (hx : rd s.1 x + 1 = lv) (h : Lev n m tos adj o left s.1 s.2 x j) :
    Lev n m tos adj o left (scanAt tos left lv (row adj x) s j).1 (scanAt tos left lv (row adj x) s j).2 x (j + 1) ∧ rd (scanAt tos left lv (row adj x) s j).1 x + 1 = lv ∧ (scanAt tos left lv (row adj x) s j).2.length + unre (scanAt tos left lv (row adj x) s j).1 = s.2.length + unre s.1
      ∧ ∀ v : Int, 0 ≤ v → 0 ≤ rd s.1 v → rd (scanAt tos left lv (row adj x) s j).1 v = rd s.1 v := by
  have hmem := row_mem (l := row adj x) (j := (j : Int)) (by omega) (by omega)
  have hE := N.row x x0 x1 _ hmem
  have hT := N.rng _ hE.1.1 hE.1.2
  obtain ⟨e, he⟩ : ∃ e, e = rd (row adj x) (j : Int) := ⟨_, rfl⟩
  obtain ⟨d, q⟩ := s
  unfold scanAt
  rw [← he] at hmem hE hT ⊢
  obtain ⟨y, hy⟩ : ∃ y, y = rd tos e := ⟨_, rfl⟩
  rw [← hy] at hT ⊢
  show _ ∧ _ ∧ _ ∧ _
  by_cases c : 0 < rd left e ∧ rd d y < 0
  · rw [if_pos c]
    have hlen : y < d.length := by rw [h.len]; exact hT.2
    have hun := unre_put (x := lv) hT.1 hlen c.2 (by omega)
    have hxy : y ≠ x := by rintro rfl; replace hx : rd d y + 1 = lv := hx; omega
    have hput : ∀ v : Int, 0 ≤ v → v ≠ y → rd (put d y lv) v = rd d v := fun v v0 hv => rd_put_ne d lv hT.1 v0 (Ne.symm hv)
    have hpy : rd (put d y lv) y = lv := rd_put_eq d lv hT.1 hlen
    have old : ∀ v : Int, 0 ≤ v → 0 ≤ rd d v → rd (put d y lv) v = rd d v := fun v v0 hv => hput v v0 (by rintro rfl; omega)
    have hxx : rd d x + 1 = lv := hx
    have hix := h.hi x x0 x1
    replace hix : rd d x + unre d ≤ n - 1 := hix
    refine ⟨⟨?_, ?_, ?_, ?_, h.org, ?_, ?_, ?_, ?_, ?_⟩, ?_, ?_, old⟩
    · show (put d y lv).length = n
      rw [put_len]; exact h.len
    · intro u u0 u1
      show -1 ≤ rd (put d y lv) u
      have := h.lo u u0 u1
      by_cases hu : u = y
      · rw [hu, hpy]; omega
      · rw [hput u u0 hu]; exact this
    · intro u u0 u1
      show rd (put d y lv) u + unre (put d y lv) ≤ n - 1
      have := h.hi u u0 u1
      replace this : rd d u + unre d ≤ n - 1 := this
      by_cases hu : u = y
      · rw [hu, hpy]; omega
      · rw [hput u u0 hu]; omega
    · intro u hu
      show _ ∧ 0 ≤ rd (put d y lv) u
      replace hu : u ∈ q ++ [y] := hu
      rcases List.mem_append.1 hu with hu | hu
      · have := h.wait u hu
        exact ⟨this.1, by rw [old u this.1.1 this.2]; exact this.2⟩
      · obtain rfl := List.mem_singleton.1 hu
        exact ⟨hT, by rw [hpy]; omega⟩
    · show rd (put d y lv) o = 0
      rw [old o h.org.1 (by have := h.src; replace this : rd d o = 0 := this; omega)]; exact h.src
    · intro u u0 u1 hu
      replace hu : rd (put d y lv) u = 0 := hu
      by_cases hy : u = y
      · rw [hy, hpy] at hu; omega
      · rw [hput u u0 hy] at hu; exact h.zero u u0 u1 hu
    · intro v v0 v1 hv
      replace hv : 0 < rd (put d y lv) v := hv
      show ∃ u e : Int, _ ∧ _ ∧ _ ∧ _ ∧ rd (put d y lv) u + 1 = rd (put d y lv) v
      by_cases hvy : v = y
      · refine ⟨x, e, ⟨x0, x1⟩, hmem, c.1, by rw [hvy, hy], ?_⟩
        rw [hvy, hpy, hput x x0 (Ne.symm hxy)]; exact hxx
      · rw [hput v v0 hvy] at hv ⊢
        obtain ⟨u, e2, a1, a2, a3, a4, a5⟩ := h.pred v v0 v1 hv
        have a6 := h.lo u a1.1 a1.2
        replace a5 : rd d u + 1 = rd d v := a5
        refine ⟨u, e2, a1, a2, a3, a4, ?_⟩
        by_cases huy : u = y
        · replace a6 : -1 ≤ rd d u := a6
          rw [huy] at a5 a6; omega
        · rw [hput u a1.1 huy]; exact a5
    · intro u u0 u1 hu hq hux e2 hm2 hl2
      replace hu : 0 ≤ rd (put d y lv) u := hu
      replace hq : u ∉ q ++ [y] := hq
      rw [List.mem_append, List.mem_singleton, not_or] at hq
      show 0 ≤ rd (put d y lv) (rd tos e2)
      rw [hput u u0 hq.2] at hu
      have hc := h.clos u u0 u1 hu hq.1 hux e2 hm2 hl2
      have hE2 := N.row u u0 u1 e2 hm2
      have hT2 := N.rng e2 hE2.1.1 hE2.1.2
      rw [old _ hT2.1 hc]; exact hc
    · intro i h1 h2 h3
      show 0 ≤ rd (put d y lv) (rd tos (rd (row adj x) i))
      by_cases hi : i = j
      · subst hi
        rw [← he, ← hy, hpy]; omega
      · have hc := h.seen i (by omega) h2 h3
        have hE2 := N.row x x0 x1 _ (row_mem (l := row adj x) (j := (i : Int)) (by omega) (by omega))
        have hT2 := N.rng _ hE2.1.1 hE2.1.2
        rw [old _ hT2.1 hc]; exact hc
    · show rd (put d y lv) x + 1 = lv
      rw [hput x x0 (Ne.symm hxy)]; exact hxx
    · show (q ++ [y]).length + unre (put d y lv) = q.length + unre d
      rw [List.length_append]
      show q.length + 1 + _ = _
      omega
  · rw [if_neg c]
    refine ⟨⟨h.len, h.lo, h.hi, h.wait, h.org, h.src, h.zero, h.pred, h.clos, ?_⟩, hx, rfl, fun v _ _ => rfl⟩
    intro i h1 h2 h3
    by_cases hi : i = j
    · subst hi
      show 0 ≤ rd d (rd tos (rd (row adj x) i))
      rw [← he] at h3 ⊢
      rw [← hy]
      omega
    · exact h.seen i (by omega) h2 h3
theorem scan_upto {n m : Nat} {tos : List Int} {adj : List (List Int)} {o : Int} {left : List Int} (N : Net n m tos adj) {u : Int} (u0 : 0 ≤ u) (u1 : u < n) {d q : List Int} (hu : 0 ≤ rd d u) (h : Lev n m tos adj o left d q u 0) (j : Nat) (hj : j ≤ (row adj u).length) :
    Lev n m tos adj o left (foldR (scanAt tos left (rd d u + 1) (row adj u)) 0 j (d, q)).1 (foldR (scanAt tos left (rd d u + 1) (row adj u)) 0 j (d, q)).2 u j ∧ rd (foldR (scanAt tos left (rd d u + 1) (row adj u)) 0 j (d, q)).1 u = rd d u
      ∧ (foldR (scanAt tos left (rd d u + 1) (row adj u)) 0 j (d, q)).2.length + unre (foldR (scanAt tos left (rd d u + 1) (row adj u)) 0 j (d, q)).1 = q.length + unre d := by
  induction j with
  | zero => rw [foldR_end (Nat.le_refl _)]; exact ⟨h, rfl, rfl⟩
  | succ j ih =>
    obtain ⟨a1, a2, a3⟩ := ih (by omega)
    rw [foldR_last (Nat.zero_le _)]
    have := scan_step N u0 u1 (lv := rd d u + 1) (j := j) (by omega) (by omega) (by rw [a2]) a1
    exact ⟨this.1, by have := this.2.1; omega, by rw [this.2.2.1, a3]⟩
theorem scan_told {n m : Nat} {tos : List Int} {adj : List (List Int)} {o : Int} {left : List Int} (N : Net n m tos adj) {u : Int} {d q : List Int} (h : Lev n m tos adj o left d (u :: q) (-1) 0) :
    Lev n m tos adj o left (scan tos left (rd d u + 1) (row adj u) d q).1 (scan tos left (rd d u + 1) (row adj u) d q).2 (-1) 0 ∧ (scan tos left (rd d u + 1) (row adj u) d q).2.length + unre (scan tos left (rd d u + 1) (row adj u) d q).1 = q.length + unre d := by
  have hu := h.wait u (List.mem_cons_self ..)
  have h0 : Lev n m tos adj o left d q u 0 := ⟨h.len, h.lo, h.hi, fun v hv => h.wait v (List.mem_cons_of_mem _ hv), h.org, h.src, h.zero, h.pred, fun v v0 v1 hv hq hx => h.clos v v0 v1 hv (by rw [List.mem_cons]; exact fun e => e.elim hx hq) (by omega), fun i hi => by omega⟩
  have := scan_upto N hu.1.1 hu.1.2 hu.2 h0 (row adj u).length (Nat.le_refl _)
  unfold scan
  refine ⟨⟨this.1.len, this.1.lo, this.1.hi, this.1.wait, this.1.org, this.1.src, this.1.zero, this.1.pred, ?_, fun i hi => by omega⟩, this.2.2⟩
  intro v v0 v1 hv hq hx e he hl
  by_cases hvu : v = u
  · subst hvu
    obtain ⟨i, hi, rfl⟩ := List.getElem_of_mem he
    have e2 : (row adj v)[i] = rd (row adj v) (i : Int) := by rw [rd_def, Int.toNat_natCast, List.getD_eq_getElem?_getD, List.getElem?_eq_getElem hi]; rfl
    rw [e2] at hl ⊢
    exact this.1.seen i hi hi hl
  · exact this.1.clos v v0 v1 hv hq hvu e he hl
theorem bfs_told {n m : Nat} {tos : List Int} {adj : List (List Int)} {o : Int} {left : List Int} (N : Net n m tos adj) : ∀ (k : Nat) (d q r : List Int), bfsL tos adj left k d q = some r → Lev n m tos adj o left d q (-1) 0 → Lev n m tos adj o left r [] (-1) 0 := by
  intro k
  induction k with
  | zero => intro d q r h; cases h
  | succ k ih =>
    intro d q r h hl
    cases q with
    | nil => injection h with h; subst h; exact hl
    | cons u q => exact ih _ _ _ h (scan_told N hl).1
theorem bfs_ends {n m : Nat} {tos : List Int} {adj : List (List Int)} {o : Int} {left : List Int} (N : Net n m tos adj) : ∀ (c : Nat) (d q : List Int), q.length + unre d ≤ c → Lev n m tos adj o left d q (-1) 0 → ∃ r, Ev (fun k => bfsL tos adj left k d q) r := by
  intro c
  induction c with
  | zero =>
    intro d q hc hl
    cases q with
    | nil => exact ⟨d, Ev.step (fun k => rfl) (Ev.now _)⟩
    | cons u q => simp at hc
  | succ c ih =>
    intro d q hc hl
    cases q with
    | nil => exact ⟨d, Ev.step (fun k => rfl) (Ev.now _)⟩
    | cons u q =>
      obtain ⟨h1, h2⟩ := scan_told N hl
      obtain ⟨r, hr⟩ := ih _ _ (by rw [h2]; rw [List.length_cons] at hc; omega) h1
      exact ⟨r, Ev.step (fun k => rfl) hr⟩
/-- the start: only node o is reached -/
def d0 (n : Nat) (o : Int) : List Int := put (List.replicate n (-1)) o 0
theorem rd_rep {n : Nat} {x : Int} {i : Int} (h0 : 0 ≤ i) (h : i < n) : rd (List.replicate n x) i = x := by
  rw [rd_def, List.getD_eq_getElem?_getD, List.getElem?_replicate, if_pos (by omega)]; rfl
theorem rd_d0 {n : Nat} {o : Int} (o0 : 0 ≤ o) {i : Int} (h0 : 0 ≤ i) (h : i < n) : rd (d0 n o) i = if i = o then 0 else -1 := by
  unfold d0
  rw [rd_put _ _ o0 h0, List.length_replicate, rd_rep h0 h]
  split
  · rw [if_pos (by omega)]
  · rw [if_neg (by omega)]
theorem unre_rep (n : Nat) : unre (List.replicate n (-1)) = n := by
  unfold unre; rw [List.countP_replicate]; simp
theorem lev0 {n m : Nat} {tos : List Int} {adj : List (List Int)} {o : Int} {left : List Int} (N : Net n m tos adj) (o0 : 0 ≤ o) (o1 : o < n) : Lev n m tos adj o left (d0 n o) [o] (-1) 0 ∧ [o].length + unre (d0 n o) ≤ n := by
  have hn := N.nd
  have hu : unre (d0 n o) + 1 = n := by
    have := unre_put (d := List.replicate n (-1)) (u := o) (x := 0) o0 (by rw [List.length_replicate]; exact o1) (by rw [rd_rep o0 o1]; omega) (by omega)
    rw [unre_rep] at this; exact this
  refine ⟨⟨by unfold d0; rw [put_len, List.length_replicate], ?_, ?_, ?_, ⟨o0, o1⟩, ?_, ?_, ?_, ?_, fun i hi => by omega⟩, by show 1 + _ ≤ n; omega⟩
  · intro u u0 u1
    rw [rd_d0 o0 u0 u1]; split <;> omega
  · intro u u0 u1
    rw [rd_d0 o0 u0 u1]; split <;> omega
  · intro u hu
    obtain rfl := List.mem_singleton.1 hu
    exact ⟨⟨o0, o1⟩, by rw [rd_d0 o0 o0 o1, if_pos rfl]; omega⟩
  · rw [rd_d0 o0 o0 o1, if_pos rfl]
  · intro u u0 u1 hu
    rw [rd_d0 o0 u0 u1] at hu
    split at hu
    · assumption
    · omega
  · intro v v0 v1 hv
    rw [rd_d0 o0 v0 v1] at hv
    split at hv <;> omega
  · intro u u0 u1 hu hq
    exfalso
    rw [rd_d0 o0 u0 u1] at hu
    split at hu
    · rename_i e; subst e; simp at hq
    · omega
/-- the first push on new levels sends something if the sink is reached -/
theorem progress {n m : Nat} {tos : List Int} {adj : List (List Int)} {left d : List Int} {snk : Int} (N : Net n m tos adj) (hg : Good m left) (L : Lev n m tos adj 0 left d [] (-1) 0) (s0 : 0 ≤ snk) (s1 : snk < n) (hs : 0 ≤ rd d snk) (hz : snk ≠ 0) {k : Nat} {most : Int} {r : Int × List Int × List Int} (hm : 0 < most)
    (h : pushL tos adj d snk k 0 most left (List.replicate n 0) = some r) : 0 < r.1 := by
  have hn := N.nd
  have hx : NextOk n adj (List.replicate n 0) := ⟨List.length_replicate, fun u u0 u1 => by rw [rd_rep u0 u1]; omega⟩
  have q := push_told N k 0 most left _ r h (by omega) (by omega) (Ne.symm hz) hm hg hx
  by_cases c : r.1 = 0
  · exfalso
    obtain ⟨z1, z2, z3⟩ := q.none c
    have hU := z2 (fun u u0 u1 j j0 j1 => by rw [rd_rep u0 u1] at j1; omega)
    have all : ∀ t : Nat, ∀ v : Int, 0 ≤ v → v < n → rd d v = t → Dead tos adj d snk r.2.2 v := by
      intro t
      induction t with
      | zero =>
        intro v v0 v1 hv
        obtain rfl := L.zero v v0 v1 hv
        exact ⟨Ne.symm hz, z3⟩
      | succ t ih =>
        intro v v0 v1 hv
        obtain ⟨u, e, a1, a2, a3, a4, a5⟩ := L.pred v v0 v1 (by omega)
        have hD := ih u a1.1 a1.2 (by omega)
        obtain ⟨i, hi, rfl⟩ := List.getElem_of_mem a2
        have e2 : (row adj u)[i] = rd (row adj u) (i : Int) := by rw [rd_def, Int.toNat_natCast, List.getD_eq_getElem?_getD, List.getElem?_eq_getElem hi]; rfl
        rw [e2] at a3 a4
        have hd2 := hD.2
        rcases hU u a1.1 a1.2 i (by omega) (by omega) (by omega) with c | c | c
        · omega
        · rw [a4] at c; omega
        · rw [a4] at c; exact c
    exact (all (rd d snk).toNat snk s0 s1 (by omega)).1 rfl
  · have := q.s0; omega
/-- pushes on the same levels, until one sends nothing -/
def pushes (tos : List Int) (adj : List (List Int)) (d : List Int) (snk big : Int) : Nat → Int → List Int → List Int → Option (Int × List Int × List Int)
  | 0, _, _, _ => none
  | k + 1, val, left, next => (pushL tos adj d snk k 0 big left next).bind fun r => if r.1 = 0 then some (val, r.2.1, r.2.2) else pushes tos adj d snk big k (val + r.1) r.2.1 r.2.2
/-- pushes on new levels, until the sink is not reached -/
def runL (n : Nat) (tos : List Int) (adj : List (List Int)) (snk big : Int) : Nat → Int → List Int → Option (Int × List Int × List Int)
  | 0, _, _ => none
  | k + 1, val, left => (bfsL tos adj left k (d0 n 0) [0]).bind fun d => if rd d snk < 0 then some (val, left, d) else (pushes tos adj d snk big k val left (List.replicate n 0)).bind fun r => runL n tos adj snk big k r.1 r.2.1
structure Flows (n m : Nat) (tos : List Int) (l0 : List Int) (snk val : Int) (left : List Int) : Prop where
  good : Good m left
  pair : ∀ e : Int, 0 ≤ e → e < 2 * (m : Int) → rd left e + rd left (par e) = rd l0 e + rd l0 (par e)
  val : ex tos left 0 m = val
  bal : ∀ v : Int, 0 ≤ v → v < n → v ≠ 0 → v ≠ snk → ex tos left v m = 0
theorem ex_bd {tos left : List Int} {v : Int} {m : Nat} (h : ∀ k : Int, 0 ≤ k → k < m → 0 ≤ rd left (2 * k + 1) ∧ rd left (2 * k + 1) ≤ 1000000000) : -(1000000000 * (m : Int)) ≤ ex tos left v m ∧ ex tos left v m ≤ 1000000000 * (m : Int) := by
  induction m with
  | zero => unfold ex; omega
  | succ m ih =>
    have := ih (fun k h0 h1 => h k h0 (by omega))
    have h2 := h m (by omega) (by omega)
    unfold ex
    split <;> split <;> omega
theorem flows_bd {n m : Nat} {l0 : List Int} {tos left : List Int} {snk val : Int} (h : Flows n m tos l0 snk val left) : val ≤ 1000000000 * (m : Int) := by
  rw [← h.val]
  refine (ex_bd ?_).2
  intro k k0 k1
  have h1 := h.good.2 (2 * k + 1) (by omega) (by omega)
  have h2 := par_bd (m := m) (e := 2 * k + 1) (by omega) (by omega)
  have h3 := h.good.2 _ h2.1 h2.2
  omega
theorem flows_push {n m : Nat} {l0 : List Int} {tos : List Int} {adj : List (List Int)} {d : List Int} {snk val most : Int} {left next : List Int} {r : Int × List Int × List Int} (hz : snk ≠ 0) (h : Flows n m tos l0 snk val left) (q : Told n m tos adj d snk 0 most left next r) : Flows n m tos l0 snk (val + r.1) r.2.1 := by
  refine ⟨q.good, fun e h0 h1 => (q.pair e h0 h1).trans (h.pair e h0 h1), ?_, ?_⟩
  · rw [q.sent 0, h.val, if_pos rfl, if_neg hz]; omega
  · intro v v0 v1 h1 h2
    rw [q.sent v, h.bal v v0 v1 h1 h2, if_neg (Ne.symm h1), if_neg (Ne.symm h2)]; omega
theorem pushes_told {n m : Nat} {l0 : List Int} {tos : List Int} {adj : List (List Int)} {d : List Int} {snk big : Int} (N : Net n m tos adj) (hz : snk ≠ 0) (hb : 0 < big) : ∀ (k : Nat) (val : Int) (left next : List Int) (r : Int × List Int × List Int), pushes tos adj d snk big k val left next = some r →
    Flows n m tos l0 snk val left → NextOk n adj next → Flows n m tos l0 snk r.1 r.2.1 ∧ val ≤ r.1 := by
  have hn := N.nd
  intro k
  induction k with
  | zero => intro val left next r h; cases h
  | succ k ih =>
    intro val left next r h hf hx
    unfold pushes at h
    cases hk : pushL tos adj d snk k 0 big left next with
    | none => rw [hk] at h; cases h
    | some r1 =>
      rw [hk] at h
      have q := push_told N k 0 big left next r1 hk (by omega) (by omega) (Ne.symm hz) hb hf.good hx
      have hf2 := flows_push hz hf q
      replace h : (if r1.1 = 0 then some (val, r1.2.1, r1.2.2) else pushes tos adj d snk big k (val + r1.1) r1.2.1 r1.2.2) = some r := h
      by_cases c : r1.1 = 0
      · rw [if_pos c] at h
        injection h with h
        subst h
        rw [c, Int.add_zero] at hf2
        exact ⟨hf2, Int.le_refl _⟩
      · rw [if_neg c] at h
        have := ih _ _ _ _ h hf2 q.nxt
        have := q.s0
        exact ⟨(ih _ _ _ _ h hf2 q.nxt).1, by omega⟩
theorem pushes_ends {n m : Nat} {l0 : List Int} {tos : List Int} {adj : List (List Int)} {d : List Int} {snk big B : Int} (N : Net n m tos adj) (hz : snk ≠ 0) (hb : 0 < big) (hB : ∀ u : Int, 0 ≤ u → u < n → rd d u ≤ B) : ∀ (c : Nat) (val : Int) (left next : List Int), 1000000000 * (m : Int) < val + c → Flows n m tos l0 snk val left → NextOk n adj next →
    ∃ r, Ev (fun k => pushes tos adj d snk big k val left next) r := by
  have hn := N.nd
  intro c
  induction c with
  | zero => intro val left next hc hf; have := flows_bd hf; omega
  | succ c ih =>
    intro val left next hc hf hx
    obtain ⟨r1, hr1⟩ := push_ends (snk := snk) N hB (B - rd d 0).toNat (row adj 0).length 0 big left next (by omega) (by have := hx.2 0 (by omega) (by omega); omega) (by omega) (by omega) (Ne.symm hz) hb hf.good hx
    obtain ⟨k1, hk1⟩ := hr1.rounds
    have q := push_told N k1 0 big left next r1 hk1 (by omega) (by omega) (Ne.symm hz) hb hf.good hx
    have hf2 := flows_push hz hf q
    by_cases c4 : r1.1 = 0
    · exact ⟨_, Ev.step (fun k => rfl) (Ev.bind hr1 (ev_pos c4 (ev_some rfl)))⟩
    · obtain ⟨r, hr⟩ := ih (val + r1.1) r1.2.1 r1.2.2 (by have := q.s0; omega) hf2 q.nxt
      exact ⟨r, Ev.step (fun k => rfl) (Ev.bind hr1 (ev_neg c4 hr))⟩
theorem rep_ok {n : Nat} {adj : List (List Int)} : NextOk n adj (List.replicate n 0) := ⟨List.length_replicate, fun u u0 u1 => by rw [rd_rep u0 u1]; omega⟩
theorem pushes_first {n m : Nat} {l0 : List Int} {tos : List Int} {adj : List (List Int)} {d left : List Int} {snk big val : Int} (N : Net n m tos adj) (hz : snk ≠ 0) (hb : 0 < big) (L : Lev n m tos adj 0 left d [] (-1) 0) (s0 : 0 ≤ snk) (s1 : snk < n) (hs : 0 ≤ rd d snk) {k : Nat} {r : Int × List Int × List Int}
    (h : pushes tos adj d snk big k val left (List.replicate n 0) = some r) (hf : Flows n m tos l0 snk val left) : val < r.1 := by
  have hn := N.nd
  cases k with
  | zero => cases h
  | succ k =>
    unfold pushes at h
    cases hk : pushL tos adj d snk k 0 big left (List.replicate n 0) with
    | none => rw [hk] at h; cases h
    | some r1 =>
      rw [hk] at h
      have hp := progress N hf.good L s0 s1 hs hz hb hk
      have q := push_told N k 0 big left _ r1 hk (by omega) (by omega) (Ne.symm hz) hb hf.good rep_ok
      replace h : (if r1.1 = 0 then some (val, r1.2.1, r1.2.2) else pushes tos adj d snk big k (val + r1.1) r1.2.1 r1.2.2) = some r := h
      rw [if_neg (by omega)] at h
      have := (pushes_told N hz hb _ _ _ _ _ h (flows_push hz hf q) q.nxt).2
      omega
/-- what a run leaves: flows, and levels that don't reach the sink -/
theorem run_told {n m : Nat} {l0 : List Int} {tos : List Int} {adj : List (List Int)} {snk big : Int} (N : Net n m tos adj) (hz : snk ≠ 0) (hb : 0 < big) : ∀ (k : Nat) (val : Int) (left : List Int) (r : Int × List Int × List Int), runL n tos adj snk big k val left = some r → Flows n m tos l0 snk val left →
    Flows n m tos l0 snk r.1 r.2.1 ∧ Lev n m tos adj 0 r.2.1 r.2.2 [] (-1) 0 ∧ rd r.2.2 snk < 0 := by
  intro k
  induction k with
  | zero => intro val left r h; cases h
  | succ k ih =>
    intro val left r h hf
    unfold runL at h
    cases hk : bfsL tos adj left k (d0 n 0) [0] with
    | none => rw [hk] at h; cases h
    | some d =>
      rw [hk] at h
      have L := bfs_told N k _ _ _ hk (lev0 N (by omega) (by have := N.nd; omega)).1
      replace h : (if rd d snk < 0 then some (val, left, d) else (pushes tos adj d snk big k val left (List.replicate n 0)).bind fun r => runL n tos adj snk big k r.1 r.2.1) = some r := h
      by_cases c : rd d snk < 0
      · rw [if_pos c] at h
        injection h with h
        subst h
        exact ⟨hf, L, c⟩
      · rw [if_neg c] at h
        cases hp : pushes tos adj d snk big k val left (List.replicate n 0) with
        | none => rw [hp] at h; cases h
        | some r1 =>
          rw [hp] at h
          exact ih _ _ _ h (pushes_told N hz hb _ _ _ _ _ hp hf rep_ok).1
theorem run_ends {n m : Nat} {l0 : List Int} {tos : List Int} {adj : List (List Int)} {snk big : Int} (N : Net n m tos adj) (hz : snk ≠ 0) (hb : 0 < big) (s0 : 0 ≤ snk) (s1 : snk < n) : ∀ (c : Nat) (val : Int) (left : List Int), 1000000000 * (m : Int) < val + c → Flows n m tos l0 snk val left → ∃ r, Ev (fun k => runL n tos adj snk big k val left) r := by
  intro c
  induction c with
  | zero => intro val left hc hf; have := flows_bd hf; omega
  | succ c ih =>
    intro val left hc hf
    obtain ⟨d, hd⟩ := bfs_ends (left := left) N n (d0 n 0) [0] (lev0 (left := left) N (by omega) (by have := N.nd; omega)).2 (lev0 N (by omega) (by have := N.nd; omega)).1
    obtain ⟨k1, hk1⟩ := hd.rounds
    have L := bfs_told N k1 _ _ _ hk1 (lev0 N (by omega) (by have := N.nd; omega)).1
    by_cases c4 : rd d snk < 0
    · exact ⟨_, Ev.step (fun k => rfl) (Ev.bind hd (ev_pos c4 (ev_some rfl)))⟩
    · obtain ⟨r1, hr1⟩ := pushes_ends (d := d) (B := n) (big := big) N hz hb (fun u u0 u1 => by have := L.hi u u0 u1; omega) (1000000000 * (m : Int) - val + 1).toNat val left (List.replicate n 0) (by omega) hf rep_ok
      obtain ⟨k2, hk2⟩ := hr1.rounds
      have hlt := pushes_first N hz hb L s0 s1 (by omega) hk2 hf
      obtain ⟨r, hr⟩ := ih r1.1 r1.2.1 (by omega) (pushes_told N hz hb _ _ _ _ _ hk2 hf rep_ok).1
      exact ⟨r, Ev.step (fun k => rfl) (Ev.bind hd (ev_neg c4 (Ev.bind hr1 hr)))⟩
theorem pushes_big {n m : Nat} {tos : List Int} {adj : List (List Int)} {d : List Int} {snk : Int} (N : Net n m tos adj) (hz : snk ≠ 0) (M M' : Int) (h1 : 1000000000 ≤ M) (h2 : 1000000000 ≤ M') : ∀ (k : Nat) (val : Int) (left next : List Int), Good m left → NextOk n adj next → pushes tos adj d snk M k val left next = pushes tos adj d snk M' k val left next := by
  have hn := N.nd
  intro k
  induction k with
  | zero => intros; rfl
  | succ k ih =>
    intro val left next hg hx
    unfold pushes
    rw [push_most N M M' h1 h2 k 0 left next (by omega) (by omega) (Ne.symm hz) hg hx]
    cases hk : pushL tos adj d snk k 0 M' left next with
    | none => rfl
    | some r1 =>
      have q := push_told N k 0 M' left next r1 hk (by omega) (by omega) (Ne.symm hz) (by omega) hg hx
      show (if r1.1 = 0 then _ else _) = (if r1.1 = 0 then _ else _)
      rw [ih _ _ _ q.good q.nxt]
theorem run_big {n m : Nat} {l0 : List Int} {tos : List Int} {adj : List (List Int)} {snk : Int} (N : Net n m tos adj) (hz : snk ≠ 0) (M M' : Int) (h1 : 1000000000 ≤ M) (h2 : 1000000000 ≤ M') : ∀ (k : Nat) (val : Int) (left : List Int), Flows n m tos l0 snk val left → runL n tos adj snk M k val left = runL n tos adj snk M' k val left := by
  intro k
  induction k with
  | zero => intros; rfl
  | succ k ih =>
    intro val left hf
    unfold runL
    cases hk : bfsL tos adj left k (d0 n 0) [0] with
    | none => rfl
    | some d =>
      show (if rd d snk < 0 then _ else _) = (if rd d snk < 0 then _ else _)
      rw [pushes_big N hz M M' h1 h2 k val left _ hf.good rep_ok]
      cases hp : pushes tos adj d snk M' k val left (List.replicate n 0) with
      | none => rfl
      | some r1 =>
        show (if rd d snk < 0 then _ else runL _ _ _ _ _ _ _ _) = (if rd d snk < 0 then _ else runL _ _ _ _ _ _ _ _)
        rw [ih _ _ (pushes_told N hz (by omega) _ _ _ _ _ hp hf rep_ok).1]
end Go.Proofs.Ytomfjhpiemipkaa.Flow
end
section
/- What is left, read against the edges; in plain Lean, nothing of the program. -/
namespace Go.Proofs.Ytomfjhpiemipkaa.Flow
open Go.RowKit Go.Proofs.YtomfjhpiemipkaaW.PrintWords Go.Proofs.YtomfjhpiemipkaaW.PrintMore Go.Proofs.Ytomfjhpiemipkaa.B
set_option linter.unusedVariables false
set_option linter.unusedSimpArgs false
def flipL (left : List Int) : List Int := (List.range left.length).map fun (i : Nat) => rd left (par (i : Int))
theorem rd_flip {left : List Int} {e : Int} (h0 : 0 ≤ e) (h1 : e < left.length) : rd (flipL left) e = rd left (par e) := by
  unfold flipL
  rw [rd_def, List.getD_eq_getElem?_getD, List.getElem?_map, List.getElem?_range (by omega)]
  show rd left (par ((e.toNat : Nat) : Int)) = _
  rw [Int.toNat_of_nonneg h0]
end Go.Proofs.Ytomfjhpiemipkaa.Flow
end
section
/- Least and greatest cuts of greatest flows, in plain Lean; nothing of the program. -/
namespace Go.Proofs.Ytomfjhpiemipkaa.Flow
open Go.RowKit Go.Proofs.YtomfjhpiemipkaaW.PrintWords Go.Proofs.YtomfjhpiemipkaaW.PrintMore Go.Proofs.Ytomfjhpiemipkaa.B
set_option linter.unusedVariables false
set_option linter.unusedSimpArgs false
def exF (tos left : List Int) (g : Int → Int) : Nat → Int
  | 0 => 0
  | m + 1 => exF tos left g m + rd left (2 * (m : Int) + 1) * (g (rd tos (2 * (m : Int) + 1)) - g (rd tos (2 * (m : Int))))
theorem ex_exF (tos left : List Int) (v : Int) (m : Nat) : ex tos left v m = exF tos left (fun u => if u = v then 1 else 0) m := by
  induction m with
  | zero => rfl
  | succ m ih => unfold ex exF; rw [ih]
theorem exF_add (tos left : List Int) (g h : Int → Int) (m : Nat) : exF tos left (fun u => g u + h u) m = exF tos left g m + exF tos left h m := by
  induction m with
  | zero => rfl
  | succ m ih =>
    unfold exF; rw [ih]
    have : ∀ a b c d e : Int, e * (a + b - (c + d)) = e * (a - c) + e * (b - d) := by intros; rw [← Int.mul_add]; congr 1; omega
    rw [this]; omega
theorem exF_mul (tos left : List Int) (c : Int) (g : Int → Int) (m : Nat) : exF tos left (fun u => c * g u) m = c * exF tos left g m := by
  induction m with
  | zero => unfold exF; rw [Int.mul_zero]
  | succ m ih => unfold exF; rw [ih, ← Int.mul_sub, Int.mul_add]; congr 1; rw [← Int.mul_assoc, ← Int.mul_assoc, Int.mul_comm c]
theorem exF_congr {tos left : List Int} {g h : Int → Int} {m : Nat} (hh : ∀ e : Int, 0 ≤ e → e < 2 * (m : Int) → g (rd tos e) = h (rd tos e)) : exF tos left g m = exF tos left h m := by
  induction m with
  | zero => rfl
  | succ m ih => unfold exF; rw [ih (fun e h0 h1 => hh e h0 (by omega)), hh _ (by omega) (by omega), hh (2 * (m : Int)) (by omega) (by omega)]
def nodeSum (f : Int → Int) : Nat → Int
  | 0 => 0
  | j + 1 => nodeSum f j + f j
theorem exF_upto (tos left : List Int) (g : Int → Int) (m j : Nat) : exF tos left (fun u => if 0 ≤ u ∧ u < j then g u else 0) m = nodeSum (fun v => g v * ex tos left v m) j := by
  induction j with
  | zero =>
    have : exF tos left (fun u => if 0 ≤ u ∧ u < ((0 : Nat) : Int) then g u else 0) m = exF tos left (fun u => 0 * g u) m := by congr 1; funext u; rw [if_neg (by omega), Int.zero_mul]
    rw [this, exF_mul, Int.zero_mul]; rfl
  | succ j ih =>
    have : exF tos left (fun u => if 0 ≤ u ∧ u < ((j + 1 : Nat) : Int) then g u else 0) m = exF tos left (fun u => (if 0 ≤ u ∧ u < (j : Int) then g u else 0) + g j * (if u = j then 1 else 0)) m := by
      congr 1; funext u
      by_cases h : u = j
      · subst h; rw [if_pos (by omega), if_neg (by omega), if_pos rfl]; omega
      · by_cases h2 : 0 ≤ u ∧ u < (j : Int)
        · rw [if_pos (by omega), if_pos h2, if_neg h]; omega
        · rw [if_neg (by omega), if_neg h2, if_neg h]; omega
    rw [this, exF_add, exF_mul, ih, ← ex_exF]; rfl
theorem exF_nodes {n m : Nat} {tos left : List Int} (hr : ∀ e : Int, 0 ≤ e → e < 2 * (m : Int) → 0 ≤ rd tos e ∧ rd tos e < n) (g : Int → Int) : exF tos left g m = nodeSum (fun v => g v * ex tos left v m) n := by
  rw [← exF_upto]
  exact exF_congr fun e h0 h1 => by rw [if_pos (hr e h0 h1)]
theorem nodeSum_one {f : Int → Int} {n : Nat} (hn : 0 < n) (h : ∀ v : Int, 0 < v → v < n → f v = 0) : nodeSum f n = f 0 := by
  induction n with
  | zero => omega
  | succ n ih =>
    unfold nodeSum
    by_cases e : n = 0
    · subst e; unfold nodeSum; rw [Int.zero_add]; rfl
    · rw [ih (by omega) (fun v h0 h1 => h v h0 (by omega)), h n (by omega) (by omega), Int.add_zero]
/-- a set of nodes with node 0 and without the sink -/
def cutF (tos l0 : List Int) (C : Int → Bool) : Nat → Int
  | 0 => 0
  | m + 1 => cutF tos l0 C m + (if C (rd tos (2 * (m : Int) + 1)) = true ∧ C (rd tos (2 * (m : Int))) = false then rd l0 (2 * (m : Int)) + rd l0 (2 * (m : Int) + 1) else 0)
theorem cut_val {n m : Nat} {tos l0 left : List Int} {snk val : Int} (hn : 0 < n) (hr : ∀ e : Int, 0 ≤ e → e < 2 * (m : Int) → 0 ≤ rd tos e ∧ rd tos e < n) (hF : Flows n m tos l0 snk val left) {C : Int → Bool} (c0 : C 0 = true) (cs : C snk = false) : exF tos left (fun u => if C u then 1 else 0) m = val := by
  rw [exF_nodes hr, nodeSum_one hn]
  · show (if C 0 = true then 1 else 0) * _ = _
    rw [if_pos c0, hF.val, Int.one_mul]
  · intro v v0 v1
    by_cases h : v = snk
    · subst h
      show (if C v = true then 1 else 0) * _ = _
      rw [if_neg (by rw [cs]; decide), Int.zero_mul]
    · show _ * ex tos left v m = 0
      rw [hF.bal v (by omega) v1 (by omega) h, Int.mul_zero]
theorem cut_terms {tos l0 left : List Int} {C : Int → Bool} {m M : Nat} (hM : m ≤ M) (hg : Good M left) (hp : ∀ e : Int, 0 ≤ e → e < 2 * (M : Int) → rd left e + rd left (par e) = rd l0 e + rd l0 (par e)) :
    exF tos left (fun u => if C u then 1 else 0) m ≤ cutF tos l0 C m ∧ (cutF tos l0 C m = exF tos left (fun u => if C u then 1 else 0) m ↔ ∀ e : Int, 0 ≤ e → e < 2 * (m : Int) → C (rd tos (par e)) = true → C (rd tos e) = false → rd left e = 0) := by
  induction m with
  | zero => exact ⟨Int.le_refl _, fun _ e h0 h1 => by omega, fun _ => rfl⟩
  | succ m ih =>
    obtain ⟨i1, i2⟩ := ih (by omega)
    have g0 := hg.2 (2 * (m : Int)) (by omega) (by omega)
    have g1 := hg.2 (2 * (m : Int) + 1) (by omega) (by omega)
    have p0 := hp (2 * (m : Int)) (by omega) (by omega)
    have q0 : par (2 * (m : Int)) = 2 * (m : Int) + 1 := by unfold par; rw [if_pos (by omega)]
    have q1 : par (2 * (m : Int) + 1) = 2 * (m : Int) := by unfold par; rw [if_neg (by omega)]; omega
    rw [q0] at p0
    unfold exF cutF
    have split2 : ∀ (P : Int → Prop), (∀ e : Int, 0 ≤ e → e < 2 * ((m + 1 : Nat) : Int) → P e) ↔ (∀ e : Int, 0 ≤ e → e < 2 * (m : Int) → P e) ∧ P (2 * (m : Int)) ∧ P (2 * (m : Int) + 1) := by
      intro P
      constructor
      · intro h; exact ⟨fun e h0 h1 => h e h0 (by omega), h _ (by omega) (by omega), h _ (by omega) (by omega)⟩
      · rintro ⟨h1, h2, h3⟩ e e0 e1
        by_cases a : e < 2 * (m : Int)
        · exact h1 e e0 a
        · by_cases b : e = 2 * (m : Int)
          · rw [b]; exact h2
          · rw [show e = 2 * (m : Int) + 1 by omega]; exact h3
    rw [split2 (fun e => C (rd tos (par e)) = true → C (rd tos e) = false → rd left e = 0), ← i2]
    show _ ∧ (_ ↔ _ ∧ (C (rd tos (par (2 * (m : Int)))) = true → C (rd tos (2 * (m : Int))) = false → rd left (2 * (m : Int)) = 0) ∧ (C (rd tos (par (2 * (m : Int) + 1))) = true → C (rd tos (2 * (m : Int) + 1)) = false → rd left (2 * (m : Int) + 1) = 0))
    rw [q0, q1]
    cases ca : C (rd tos (2 * (m : Int) + 1)) <;> cases cb : C (rd tos (2 * (m : Int))) <;> simp <;> omega
theorem weak {n m : Nat} {tos l0 left : List Int} {snk val : Int} (hn : 0 < n) (hr : ∀ e : Int, 0 ≤ e → e < 2 * (m : Int) → 0 ≤ rd tos e ∧ rd tos e < n) (hF : Flows n m tos l0 snk val left) {C : Int → Bool} (c0 : C 0 = true) (cs : C snk = false) : val ≤ cutF tos l0 C m := by
  rw [← cut_val hn hr hF c0 cs]; exact (cut_terms (Nat.le_refl _) hF.good hF.pair).1
theorem tight {n m : Nat} {tos l0 left : List Int} {snk val : Int} (hn : 0 < n) (hr : ∀ e : Int, 0 ≤ e → e < 2 * (m : Int) → 0 ≤ rd tos e ∧ rd tos e < n) (hF : Flows n m tos l0 snk val left) {C : Int → Bool} (c0 : C 0 = true) (cs : C snk = false) :
    cutF tos l0 C m = val ↔ ∀ e : Int, 0 ≤ e → e < 2 * (m : Int) → C (rd tos (par e)) = true → C (rd tos e) = false → rd left e = 0 := by
  rw [← cut_val hn hr hF c0 cs]; exact (cut_terms (Nat.le_refl _) hF.good hF.pair).2
/-- what is reached -/
def R (d : List Int) (u : Int) : Bool := decide (0 ≤ rd d u)
theorem lev_clos {n m : Nat} {tos : List Int} {adj : List (List Int)} {o : Int} {left d : List Int} (N : Net n m tos adj) (L : Lev n m tos adj o left d [] (-1) 0) {e : Int} (h0 : 0 ≤ e) (h1 : e < 2 * (m : Int)) (h : 0 < rd left e) (hu : 0 ≤ rd d (rd tos (par e))) : 0 ≤ rd d (rd tos e) := by
  have hp := par_bd h0 h1
  have hT := N.rng _ hp.1 hp.2
  exact L.clos _ hT.1 hT.2 hu (List.not_mem_nil) (by omega) e (N.all e h0 h1) h
theorem R_tight {n m : Nat} {tos : List Int} {adj : List (List Int)} {l0 left d : List Int} {snk val : Int} (N : Net n m tos adj) (hF : Flows n m tos l0 snk val left) (L : Lev n m tos adj 0 left d [] (-1) 0) (hs : rd d snk < 0) : cutF tos l0 (R d) m = val := by
  have hn := N.nd
  refine (tight (by omega) N.rng hF (by unfold R; rw [L.src]; rfl) (by unfold R; exact decide_eq_false (by omega))).2 ?_
  intro e h0 h1 c1 c2
  unfold R at c1 c2
  have c1 := of_decide_eq_true c1
  have c2 := of_decide_eq_false c2
  have hg := (hF.good.2 e h0 h1).1
  by_cases h : 0 < rd left e
  · exact absurd (lev_clos N L h0 h1 h c1) c2
  · omega
/-- a run's flow is greatest -/
theorem run_most {n m : Nat} {tos : List Int} {adj : List (List Int)} {l0 left d left' : List Int} {snk val val' : Int} (N : Net n m tos adj) (hF : Flows n m tos l0 snk val left) (L : Lev n m tos adj 0 left d [] (-1) 0) (hs : rd d snk < 0) (hF' : Flows n m tos l0 snk val' left') : val' ≤ val := by
  have hn := N.nd
  rw [← R_tight N hF L hs]
  exact weak (by omega) N.rng hF' (by unfold R; rw [L.src]; rfl) (by unfold R; exact decide_eq_false (by omega))
/-- levels against the edges, from the sink -/
structure Bk (n m : Nat) (tos : List Int) (snk : Int) (left : List Int) (b : Int → Int) : Prop where
  src : b snk = 0
  clos : ∀ e : Int, 0 ≤ e → e < 2 * (m : Int) → 0 < rd left e → 0 ≤ b (rd tos e) → 0 ≤ b (rd tos (par e))
  zero : ∀ v : Int, 0 ≤ v → v < n → b v = 0 → v = snk
  pred : ∀ v : Int, 0 ≤ v → v < n → 0 < b v → ∃ e : Int, (0 ≤ e ∧ e < 2 * (m : Int)) ∧ 0 < rd left e ∧ rd tos (par e) = v ∧ b (rd tos e) + 1 = b v
theorem bk_in {n m : Nat} {tos left : List Int} {snk : Int} {b : Int → Int} {T : Int → Bool} (hr : ∀ e : Int, 0 ≤ e → e < 2 * (m : Int) → 0 ≤ rd tos e ∧ rd tos e < n) (B : Bk n m tos snk left b) (hs : T snk = true) (hc : ∀ e : Int, 0 ≤ e → e < 2 * (m : Int) → 0 < rd left e → T (rd tos e) = true → T (rd tos (par e)) = true) : ∀ v : Int, 0 ≤ v → v < n → 0 ≤ b v → T v = true := by
  have all : ∀ t : Nat, ∀ v : Int, 0 ≤ v → v < n → b v = t → T v = true := by
    intro t
    induction t with
    | zero => intro v v0 v1 hv; rw [B.zero v v0 v1 hv]; exact hs
    | succ t ih =>
      intro v v0 v1 hv
      obtain ⟨e, a1, a2, a3, a4⟩ := B.pred v v0 v1 (by omega)
      have hT := hr e a1.1 a1.2
      have := hc e a1.1 a1.2 a2 (ih _ hT.1 hT.2 (by omega))
      rwa [a3] at this
  intro v v0 v1 hv
  exact all (b v).toNat v v0 v1 (by omega)
theorem bk_z0 {n m : Nat} {tos : List Int} {adj : List (List Int)} {left d : List Int} {snk : Int} {b : Int → Int} (N : Net n m tos adj) (L : Lev n m tos adj 0 left d [] (-1) 0) (hd : rd d snk < 0) (B : Bk n m tos snk left b) : ¬ 0 ≤ b 0 := by
  have hn := N.nd
  have apart := bk_in (T := fun u => !R d u) N.rng B (by show (!R d snk) = true; unfold R; rw [decide_eq_false (by omega)]; rfl) (by
    intro e h0 h1 h h2
    have h2 : R d (rd tos e) = false := by simpa using h2
    show (!R d (rd tos (par e))) = true
    rw [Bool.not_eq_true']
    unfold R at h2 ⊢
    have h2 := of_decide_eq_false h2
    exact decide_eq_false fun hh => h2 (lev_clos N L h0 h1 h hh))
  intro h
  have := apart 0 (by omega) (by omega) h
  replace this : (!R d 0) = true := this
  unfold R at this
  rw [L.src] at this
  exact absurd this (by decide)
/-- who reaches the sink is the same for each greatest flow -/
theorem bk_sub {n m : Nat} {tos : List Int} {adj : List (List Int)} {l0 left left' : List Int} {snk val : Int} {b b' : Int → Int} (N : Net n m tos adj) (hs : 0 ≤ snk ∧ snk < n)
    (hF : Flows n m tos l0 snk val left) (z0 : ¬ 0 ≤ b 0) (B : Bk n m tos snk left b)
    (hF' : Flows n m tos l0 snk val left') (B' : Bk n m tos snk left' b') : ∀ v : Int, 0 ≤ v → v < n → 0 ≤ b' v → 0 ≤ b v := by
  have hn := N.nd
  have hT := (tight (C := fun u => !decide (0 ≤ b u)) (by omega) N.rng hF (by show (!decide (0 ≤ b 0)) = true; rw [decide_eq_false z0]; rfl) (by show (!decide (0 ≤ b snk)) = false; rw [B.src]; rfl)).2 (by
    intro e h0 h1 c1 c2
    have c1 : ¬ 0 ≤ b (rd tos (par e)) := by simpa using c1
    have c2 : 0 ≤ b (rd tos e) := by simpa using c2
    have hg := (hF.good.2 e h0 h1).1
    by_cases h : 0 < rd left e
    · exact absurd (B.clos e h0 h1 h c2) c1
    · omega)
  have hT' := (tight (C := fun u => !decide (0 ≤ b u)) (by omega) N.rng hF' (by show (!decide (0 ≤ b 0)) = true; rw [decide_eq_false z0]; rfl) (by show (!decide (0 ≤ b snk)) = false; rw [B.src]; rfl)).1 hT
  have := bk_in (T := fun u => decide (0 ≤ b u)) N.rng B' (by show decide (0 ≤ b snk) = true; rw [B.src]; rfl) (by
    intro e h0 h1 h h2
    have h2 : 0 ≤ b (rd tos e) := of_decide_eq_true h2
    show decide (0 ≤ b (rd tos (par e))) = true
    by_cases c : 0 ≤ b (rd tos (par e))
    · exact decide_eq_true c
    · exfalso
      have := hT' e h0 h1 (by show (!decide _) = true; rw [decide_eq_false c]; rfl) (by show (!decide _) = false; rw [decide_eq_true h2]; rfl)
      omega)
  intro v v0 v1 hv
  exact of_decide_eq_true (this v v0 v1 hv)
theorem bk_of {n m : Nat} {tos : List Int} {adj : List (List Int)} {left b : List Int} {snk : Int} (N : Net n m tos adj) (hl : left.length = 2 * m) (L : Lev n m tos adj snk (flipL left) b [] (-1) 0) : Bk n m tos snk left (rd b) := by
  refine ⟨L.src, ?_, L.zero, ?_⟩
  · intro e h0 h1 h hu
    have hp := par_bd h0 h1
    refine lev_clos N L hp.1 hp.2 (by rw [rd_flip hp.1 (by omega), par_par]; exact h) (by rw [par_par]; exact hu)
  · intro v v0 v1 hv
    obtain ⟨u, e, a1, a2, a3, a4, a5⟩ := L.pred v v0 v1 hv
    have hE := N.row u a1.1 a1.2 e a2
    have hp := par_bd hE.1.1 hE.1.2
    rw [rd_flip hE.1.1 (by omega)] at a3
    exact ⟨par e, hp, a3, by rw [par_par]; exact a4, by rw [hE.2]; exact a5⟩
/-- the turned network -/
structure Turn (n m : Nat) (tos tos' : List Int) : Prop where
  eq : ∀ e : Int, 0 ≤ e → e < 2 * (m : Int) → rd tos' e = n - 1 - rd tos (par e)
theorem turn_ex {n m M : Nat} {tos tos' left : List Int} (hM : m ≤ M) (T : Turn n M tos tos') (v : Int) : ex tos left v m = - ex tos' left (n - 1 - v) m := by
  induction m with
  | zero => rfl
  | succ m ih =>
    have q0 : par (2 * (m : Int)) = 2 * (m : Int) + 1 := by unfold par; rw [if_pos (by omega)]
    have q1 : par (2 * (m : Int) + 1) = 2 * (m : Int) := by unfold par; rw [if_neg (by omega)]; omega
    have t0 := T.eq (2 * (m : Int)) (by omega) (by omega)
    have t1 := T.eq (2 * (m : Int) + 1) (by omega) (by omega)
    rw [q0] at t0
    rw [q1] at t1
    unfold ex
    rw [ih (by omega), t0, t1, Int.neg_add, ← Int.mul_neg]
    congr 2
    have e1 : ((n : Int) - 1 - rd tos (2 * (m : Int)) = n - 1 - v) ↔ rd tos (2 * (m : Int)) = v := by omega
    have e2 : ((n : Int) - 1 - rd tos (2 * (m : Int) + 1) = n - 1 - v) ↔ rd tos (2 * (m : Int) + 1) = v := by omega
    simp only [e1, e2]
    omega
theorem nodeSum_two {f : Int → Int} {n : Nat} (hn : 2 ≤ n) (h : ∀ v : Int, 0 < v → v < n - 1 → f v = 0) : nodeSum f n = f 0 + f ((n : Int) - 1) := by
  obtain ⟨k, rfl⟩ : ∃ k, n = k + 1 := ⟨n - 1, by omega⟩
  unfold nodeSum
  rw [nodeSum_one (n := k) (by omega) (fun v h0 h1 => h v h0 (by omega))]
  congr 2
  omega
theorem turn_flows {n m : Nat} {tos tos' l0 left : List Int} {val : Int} (hn : 2 ≤ n) (hr : ∀ e : Int, 0 ≤ e → e < 2 * (m : Int) → 0 ≤ rd tos' e ∧ rd tos' e < n) (T : Turn n m tos tos') (hF : Flows n m tos' l0 ((n : Int) - 1) val left) : Flows n m tos l0 ((n : Int) - 1) val left := by
  refine ⟨hF.good, hF.pair, ?_, ?_⟩
  · have h1 := exF_nodes (left := left) hr (fun _ => 1)
    have h2 : exF tos' left (fun _ => 1) m = 0 := by
      have : exF tos' left (fun _ => 1) m = exF tos' left (fun u => 0 * 1) m + exF tos' left (fun _ => 1) m := by
        rw [exF_mul, Int.zero_mul, Int.zero_add]
      have z : ∀ q : Nat, exF tos' left (fun _ => 1) q = 0 := by
        intro q
        induction q with
        | zero => rfl
        | succ q ih => unfold exF; rw [ih, Int.sub_self, Int.mul_zero]; rfl
      exact z m
    rw [h2, nodeSum_two hn (fun v v0 v1 => by show 1 * _ = _; rw [Int.one_mul]; exact hF.bal v (by omega) (by omega) (by omega) (by omega))] at h1
    replace h1 : 0 = 1 * ex tos' left 0 m + 1 * ex tos' left ((n : Int) - 1) m := h1
    rw [turn_ex (Nat.le_refl m) T 0, Int.sub_zero]
    have := hF.val
    omega
  · intro v v0 v1 h1 h2
    rw [turn_ex (Nat.le_refl m) T v, hF.bal _ (by omega) (by omega) (by omega) (by omega)]; rfl
theorem turn_bk {n m : Nat} {tos tos' left d' : List Int} {adj' : List (List Int)} (hr : ∀ e : Int, 0 ≤ e → e < 2 * (m : Int) → 0 ≤ rd tos e ∧ rd tos e < n) (N' : Net n m tos' adj') (T : Turn n m tos tos') (L : Lev n m tos' adj' 0 left d' [] (-1) 0) : Bk n m tos ((n : Int) - 1) left (fun v => rd d' (n - 1 - v)) := by
  have hn := N'.nd
  refine ⟨?_, ?_, ?_, ?_⟩
  · show rd d' ((n : Int) - 1 - ((n : Int) - 1)) = 0
    rw [Int.sub_self]; exact L.src
  · intro e h0 h1 h hu
    have hp := par_bd h0 h1
    have t0 := T.eq e h0 h1
    have t1 := T.eq (par e) hp.1 hp.2
    rw [par_par] at t1
    show 0 ≤ rd d' ((n : Int) - 1 - rd tos (par e))
    rw [← t0]
    exact lev_clos N' L h0 h1 h (by rw [t1]; exact hu)
  · intro v v0 v1 hv
    have := L.zero _ (by omega) (by omega) hv
    omega
  · intro v v0 v1 hv
    obtain ⟨u, e, a1, a2, a3, a4, a5⟩ := L.pred ((n : Int) - 1 - v) (by omega) (by omega) hv
    have hE := N'.row u a1.1 a1.2 e a2
    have hp := par_bd hE.1.1 hE.1.2
    have t0 := T.eq e hE.1.1 hE.1.2
    have t1 := T.eq (par e) hp.1 hp.2
    rw [par_par] at t1
    refine ⟨e, hE.1, a3, by omega, ?_⟩
    show rd d' ((n : Int) - 1 - rd tos e) + 1 = rd d' ((n : Int) - 1 - v)
    rw [← t1, hE.2]; exact a5
/-- the greatest cut is what the least cut of the turned network leaves -/
theorem turned {n m : Nat} {tos tos' : List Int} {adj adj' : List (List Int)} {l0 left d b left' d' : List Int} {val val' : Int} (N : Net n m tos adj) (N' : Net n m tos' adj') (T : Turn n m tos tos')
    (hF : Flows n m tos l0 ((n : Int) - 1) val left) (L : Lev n m tos adj 0 left d [] (-1) 0) (hd : rd d ((n : Int) - 1) < 0) (Lb : Lev n m tos adj ((n : Int) - 1) (flipL left) b [] (-1) 0)
    (hF' : Flows n m tos' l0 ((n : Int) - 1) val' left') (L' : Lev n m tos' adj' 0 left' d' [] (-1) 0) (hd' : rd d' ((n : Int) - 1) < 0) : ∀ v : Int, 0 ≤ v → v < n → (0 ≤ rd b v ↔ 0 ≤ rd d' (n - 1 - v)) := by
  have hn := N.nd
  have F2 := turn_flows N.nd N'.rng T hF'
  have T' : Turn n m tos' tos := ⟨fun e h0 h1 => by
    have hp := par_bd h0 h1
    have := T.eq _ hp.1 hp.2
    rw [par_par] at this
    omega⟩
  have F3 := turn_flows N.nd N.rng T' hF
  have h1 := run_most N hF L hd F2
  have h2 := run_most N' hF' L' hd' F3
  obtain rfl : val = val' := by omega
  have B := bk_of N hF.good.1 Lb
  have B2 := turn_bk N.rng N' T L'
  intro v v0 v1
  constructor
  · exact bk_sub N (by omega) F2 (by show ¬ 0 ≤ rd d' ((n : Int) - 1 - 0); rw [Int.sub_zero]; omega) B2 hF B v v0 v1
  · exact bk_sub N (by omega) hF (bk_z0 N L hd B) B F2 B2 v v0 v1
end Go.Proofs.Ytomfjhpiemipkaa.Flow
end
section
/- What marks of nodes say of pits, in plain Lean; nothing of the program. -/
namespace Go.Proofs.Ytomfjhpiemipkaa.PitMath
open Go.RowKit Go.Proofs.YtomfjhpiemipkaaW.PrintWords Go.Proofs.YtomfjhpiemipkaaW.PrintMore Go.Proofs.Ytomfjhpiemipkaa.B Go.Proofs.Ytomfjhpiemipkaa.Flow
set_option linter.unusedVariables false
set_option linter.unusedSimpArgs false
/-- the nodes that are not reached -/
def outB (b : List Int) : List Bool := b.map fun x => decide (x < 0)
theorem outB_len (b : List Int) : (outB b).length = b.length := by unfold outB; rw [List.length_map]
theorem outB_at (b : List Int) (j : Nat) (h : j < b.length) : (outB b).getD j false = decide (b.getD j 0 < 0) := by
  unfold outB
  rw [List.getD_eq_getElem?_getD, List.getElem?_map, List.getD_eq_getElem?_getD, List.getElem?_eq_getElem h]
  rfl
end Go.Proofs.Ytomfjhpiemipkaa.PitMath
end
