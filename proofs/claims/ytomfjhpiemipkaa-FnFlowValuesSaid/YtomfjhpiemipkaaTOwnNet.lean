/- The lists of a residual network are a network with nothing flowing; in plain Lean over the edges. -/
import Derived.Test.YtomfjhpiemipkaaTOwnRows
namespace Go.Proofs.Ytomfjhpiemipkaa.OwnNet
open Go.RowKit Go.Proofs.Ytomfjhpiemipkaa.PFnFlowValues Go.Proofs.YtomfjhpiemipkaaW.PrintWords Go.Proofs.YtomfjhpiemipkaaW.PrintLast Go.Proofs.YtomfjhpiemipkaaW.PrintMore Go.Proofs.Ytomfjhpiemipkaa.B Go.Proofs.Ytomfjhpiemipkaa.Flow Go.Proofs.Ytomfjhpiemipkaa.OwnRows
set_option linter.unusedVariables false
set_option linter.unusedSimpArgs false
def edgeOk (n : Int) (e : S99) : Prop := 0 ≤ e.f0 ∧ e.f0 < n ∧ 0 ≤ e.f1 ∧ e.f1 < n ∧ 0 ≤ e.f2 ∧ e.f2 ≤ 1000000000
theorem flat_at (f g : S99 → Int) (l : List S99) (k : Nat) (h : k < l.length) : (l.flatMap fun e => [f e, g e]).getD (2 * k) 0 = f (l.getD k z99) ∧ (l.flatMap fun e => [f e, g e]).getD (2 * k + 1) 0 = g (l.getD k z99) := by
  induction l generalizing k with
  | nil => simp at h
  | cons e l ih =>
    rw [List.flatMap_cons]
    cases k with
    | zero => exact ⟨rfl, rfl⟩
    | succ k =>
      have := ih k (by simpa using h)
      exact ⟨by rw [show 2 * (k + 1) = 2 * k + 2 by omega]; exact this.1, by rw [show 2 * (k + 1) + 1 = 2 * k + 1 + 2 by omega]; exact this.2⟩
theorem tos_at (l : List S99) (k : Int) (h0 : 0 ≤ k) (h : k < l.length) : rd (tosL l) (2 * k) = (l.getD k.toNat z99).f1 ∧ rd (tosL l) (2 * k + 1) = (l.getD k.toNat z99).f0 := by
  have := flat_at (fun e => e.f1) (fun e => e.f0) l k.toNat (by omega)
  unfold tosL
  rw [rd_def, rd_def, show (2 * k).toNat = 2 * k.toNat by omega, show (2 * k + 1).toNat = 2 * k.toNat + 1 by omega]
  exact this
theorem left_at (l : List S99) (k : Int) (h0 : 0 ≤ k) (h : k < l.length) : rd (leftL l) (2 * k) = (l.getD k.toNat z99).f2 ∧ rd (leftL l) (2 * k + 1) = 0 := by
  have := flat_at (fun e => e.f2) (fun _ => 0) l k.toNat (by omega)
  unfold leftL
  rw [rd_def, rd_def, show (2 * k).toNat = 2 * k.toNat by omega, show (2 * k + 1).toNat = 2 * k.toNat + 1 by omega]
  exact this
def isAt (l : List S99) (u : Int) (i : Nat) (e : Int) : Prop := ∃ k : Nat, k < i ∧ ((e = 2 * (k : Int) ∧ (l.getD k z99).f0 = u) ∨ (e = 2 * (k : Int) + 1 ∧ (l.getD k z99).f1 = u))
theorem row_set {a : List (List Int)} {k u : Int} {r : List Int} (k0 : 0 ≤ k) (k1 : k < a.length) (u0 : 0 ≤ u) : row (a.set k.toNat r) u = if k = u then r else row a u := by
  unfold row
  rw [List.getD_eq_getElem?_getD, List.getElem?_set]
  by_cases h : k = u
  · subst h; rw [if_pos rfl, if_pos (by omega), if_pos rfl]; rfl
  · rw [if_neg (by omega), if_neg h, ← List.getD_eq_getElem?_getD]
theorem mem_snoc {x y : Int} {l : List Int} : x ∈ l ++ [y] ↔ x ∈ l ∨ x = y := by rw [List.mem_append, List.mem_singleton]
theorem adj_mem (n : Nat) (l : List S99) (hE : ∀ j, j < l.length → edgeOk n (l.getD j z99)) (i : Nat) (hi : i ≤ l.length) (u : Int) (u0 : 0 ≤ u) (u1 : u < n) (e : Int) : e ∈ row (adjL l n i) u ↔ isAt l u i e := by
  induction i generalizing e with
  | zero =>
    unfold adjL
    rw [foldR_end (Nat.le_refl _)]
    constructor
    · intro h
      unfold row at h
      rw [List.getD_eq_getElem?_getD, List.getElem?_replicate] at h
      split at h <;> simp at h
    · rintro ⟨k, hk, _⟩; omega
  | succ i ih =>
    have ih := fun e => ih (by omega) e
    have hk := hE i (by omega)
    have hl := adjL_len l n i
    have hs : adjL l n (i + 1) = adjAt l (adjL l n i) i := by unfold adjL; rw [foldR_last (Nat.zero_le _)]
    rw [hs]
    unfold adjAt
    have step : isAt l u (i + 1) e ↔ isAt l u i e ∨ (e = 2 * (i : Int) ∧ (l.getD i z99).f0 = u) ∨ (e = 2 * (i : Int) + 1 ∧ (l.getD i z99).f1 = u) := by
      constructor
      · rintro ⟨k, h1, h2⟩
        by_cases hki : k = i
        · subst hki; exact Or.inr h2
        · exact Or.inl ⟨k, by omega, h2⟩
      · rintro (⟨k, h1, h2⟩ | h2)
        · exact ⟨k, by omega, h2⟩
        · exact ⟨i, by omega, h2⟩
    rw [step, row_set hk.2.2.1 (by rw [List.length_set, hl]; exact hk.2.2.2.1) u0]
    have r1 := row_set (a := adjL l n i) (k := (l.getD i z99).f0) (r := row (adjL l n i) (l.getD i z99).f0 ++ [2 * (i : Int)]) hk.1 (by rw [hl]; exact hk.2.1) u0
    by_cases h1 : (l.getD i z99).f1 = u
    · rw [if_pos h1, mem_snoc, h1, r1]
      by_cases h0 : (l.getD i z99).f0 = u
      · rw [if_pos h0, mem_snoc, h0, ih e]
        simp only [and_true]
        exact or_assoc
      · rw [if_neg h0, ih e]
        simp only [h0, and_false, and_true, false_or]
    · rw [if_neg h1, r1]
      by_cases h0 : (l.getD i z99).f0 = u
      · rw [if_pos h0, mem_snoc, h0, ih e]
        simp only [h1, and_false, and_true, or_false]
      · rw [if_neg h0, ih e]
        simp only [h0, h1, and_false, or_false]
theorem net_of (n : Nat) (l : List S99) (hn : 2 ≤ n) (hE : ∀ j, j < l.length → edgeOk n (l.getD j z99)) : Net n l.length (tosL l) (adjL l n l.length) := by
  have half : ∀ e : Int, 0 ≤ e → e < 2 * (l.length : Int) → (e = 2 * (e / 2) ∧ par e = 2 * (e / 2) + 1 ∨ e = 2 * (e / 2) + 1 ∧ par e = 2 * (e / 2)) ∧ 0 ≤ e / 2 ∧ e / 2 < l.length := by
    intro e h0 h1
    refine ⟨?_, by omega, by omega⟩
    unfold par
    by_cases h : e % 2 = 0
    · rw [if_pos h]; exact Or.inl ⟨by omega, by omega⟩
    · rw [if_neg h]; exact Or.inr ⟨by omega, by omega⟩
  refine ⟨adjL_len l n _, tosL_len l, hn, ?_, ?_, ?_⟩
  · intro e h0 h1
    obtain ⟨h, g0, g1⟩ := half e h0 h1
    have ht := tos_at l (e / 2) g0 g1
    have hk := hE (e / 2).toNat (by omega)
    unfold edgeOk at hk
    rcases h with ⟨h, _⟩ | ⟨h, _⟩
    · rw [h, ht.1]; omega
    · rw [h, ht.2]; omega
  · intro u u0 u1 e he
    rw [adj_mem n l hE _ (Nat.le_refl _) u u0 u1] at he
    obtain ⟨k, hk, h | h⟩ := he
    · obtain ⟨rfl, h⟩ := h
      have ht := tos_at l k (by omega) (by omega)
      refine ⟨by omega, ?_⟩
      rw [show par (2 * (k : Int)) = 2 * (k : Int) + 1 by unfold par; rw [if_pos (by omega)], ht.2, Int.toNat_natCast]; exact h
    · obtain ⟨rfl, h⟩ := h
      have ht := tos_at l k (by omega) (by omega)
      refine ⟨by omega, ?_⟩
      rw [show par (2 * (k : Int) + 1) = 2 * (k : Int) by unfold par; rw [if_neg (by omega)]; omega, ht.1, Int.toNat_natCast]; exact h
  · intro e h0 h1
    obtain ⟨h, g0, g1⟩ := half e h0 h1
    have ht := tos_at l (e / 2) g0 g1
    have hk := hE (e / 2).toNat (by omega)
    unfold edgeOk at hk
    rcases h with ⟨h, hp⟩ | ⟨h, hp⟩
    · rw [hp, ht.2, adj_mem n l hE _ (Nat.le_refl _) _ (by omega) (by omega)]
      exact ⟨(e / 2).toNat, by omega, Or.inl ⟨by omega, rfl⟩⟩
    · rw [hp, ht.1, adj_mem n l hE _ (Nat.le_refl _) _ (by omega) (by omega)]
      exact ⟨(e / 2).toNat, by omega, Or.inr ⟨by omega, rfl⟩⟩
theorem good_of (n : Nat) (l : List S99) (hE : ∀ j, j < l.length → edgeOk n (l.getD j z99)) : Flow.Good l.length (leftL l) := by
  refine ⟨leftL_len l, ?_⟩
  intro e h0 h1
  have ht := left_at l (e / 2) (by omega) (by omega)
  have hk := hE (e / 2).toNat (by omega)
  unfold edgeOk at hk
  unfold par
  by_cases h : e % 2 = 0
  · rw [if_pos h, show e + 1 = 2 * (e / 2) + 1 by omega]
    rw [show rd (leftL l) e = rd (leftL l) (2 * (e / 2)) by congr 1; omega, ht.1, ht.2]; omega
  · rw [if_neg h, show e - 1 = 2 * (e / 2) by omega]
    rw [show rd (leftL l) e = rd (leftL l) (2 * (e / 2) + 1) by congr 1; omega, ht.1, ht.2]; omega
theorem ex_zero (tos left : List Int) (v : Int) (m : Nat) (h : ∀ k : Int, 0 ≤ k → k < m → rd left (2 * k + 1) = 0) : ex tos left v m = 0 := by
  induction m with
  | zero => rfl
  | succ m ih => unfold ex; rw [ih (fun k h0 h1 => h k h0 (by omega)), h m (by omega) (by omega), Int.zero_mul]; rfl
theorem flows_of (n : Nat) (l : List S99) (hE : ∀ j, j < l.length → edgeOk n (l.getD j z99)) : Flows n l.length (tosL l) (leftL l) ((n : Int) - 1) 0 (leftL l) :=
  ⟨good_of n l hE, fun _ _ _ => rfl, ex_zero _ _ _ _ (fun k h0 h1 => (left_at l k h0 h1).2), fun v _ _ _ _ => ex_zero _ _ _ _ (fun k h0 h1 => (left_at l k h0 h1).2)⟩
end Go.Proofs.Ytomfjhpiemipkaa.OwnNet
