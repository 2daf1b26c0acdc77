/- The turned network's lists, in plain Lean over the edges. -/
import Derived.Test.YtomfjhpiemipkaaTOwnNet
import Derived.Test.YtomfjhpiemipkaaTBaseJ
namespace Go.Proofs.Ytomfjhpiemipkaa.OwnTurn
open Go.RowKit Go.Proofs.Ytomfjhpiemipkaa.PFnFlowValues Go.Proofs.YtomfjhpiemipkaaW.PrintWords Go.Proofs.YtomfjhpiemipkaaW.PrintLast Go.Proofs.YtomfjhpiemipkaaW.PrintMore Go.Proofs.Ytomfjhpiemipkaa.B Go.Proofs.Ytomfjhpiemipkaa.Flow Go.Proofs.Ytomfjhpiemipkaa.OwnRows Go.Proofs.Ytomfjhpiemipkaa.OwnNet
set_option linter.unusedVariables false
set_option linter.unusedSimpArgs false
def turnE (n : Int) (e : S99) : S99 := ⟨wrap64 (wrap64 (n - 1) - e.f1), wrap64 (wrap64 (n - 1) - e.f0), e.f2⟩
def turnAt (n : Int) (l : List S99) (o : List S99) (j : Nat) : List S99 := o ++ [turnE n (l.getD j z99)]
def turnL (n : Int) (l : List S99) : List S99 := foldR (turnAt n l) 0 l.length []
theorem turnAt_len (n : Int) (l : List S99) (m : Nat) : (foldR (turnAt n l) 0 m []).length = m := by
  induction m with
  | zero => rw [foldR_end (Nat.le_refl _)]; rfl
  | succ m ih => rw [foldR_last (Nat.zero_le _)]; unfold turnAt at *; rw [List.length_append, ih]; rfl
theorem turnL_len (n : Int) (l : List S99) : (turnL n l).length = l.length := turnAt_len n l _
theorem turnAt_at (n : Int) (l : List S99) (m : Nat) (j : Nat) (hj : j < m) : (foldR (turnAt n l) 0 m []).getD j z99 = turnE n (l.getD j z99) := by
  induction m with
  | zero => omega
  | succ m ih =>
    rw [foldR_last (Nat.zero_le _)]
    have hl := turnAt_len n l m
    unfold turnAt at hl ⊢
    rw [List.getD_eq_getElem?_getD]
    by_cases h : j < m
    · rw [List.getElem?_append_left (by rw [hl]; exact h), ← List.getD_eq_getElem?_getD]
      exact ih h
    · rw [List.getElem?_append_right (by rw [hl]; omega), hl, show j - m = 0 by omega, show j = m by omega]
      rfl
theorem turnL_at (n : Int) (l : List S99) (j : Nat) (hj : j < l.length) : (turnL n l).getD j z99 = turnE n (l.getD j z99) := turnAt_at n l _ j hj
theorem turnE_ok {n : Nat} {e : S99} (hn : n ≤ 130) (h : edgeOk n e) : edgeOk n (turnE n e) ∧ (turnE n e).f0 = (n : Int) - 1 - e.f1 ∧ (turnE n e).f1 = (n : Int) - 1 - e.f0 ∧ (turnE n e).f2 = e.f2 := by
  unfold edgeOk at h
  have w1 : wrap64 ((n : Int) - 1) = (n : Int) - 1 := w64 (by omega) (by omega)
  have w2 : wrap64 (wrap64 ((n : Int) - 1) - e.f1) = (n : Int) - 1 - e.f1 := by rw [w1, w64 (by omega) (by omega)]
  have w3 : wrap64 (wrap64 ((n : Int) - 1) - e.f0) = (n : Int) - 1 - e.f0 := by rw [w1, w64 (by omega) (by omega)]
  refine ⟨?_, w2, w3, rfl⟩
  unfold edgeOk turnE
  show 0 ≤ wrap64 (wrap64 ((n : Int) - 1) - e.f1) ∧ wrap64 (wrap64 ((n : Int) - 1) - e.f1) < n ∧ 0 ≤ wrap64 (wrap64 ((n : Int) - 1) - e.f0) ∧ wrap64 (wrap64 ((n : Int) - 1) - e.f0) < n ∧ 0 ≤ e.f2 ∧ e.f2 ≤ 1000000000
  rw [w2, w3]
  omega
theorem turn_edges {n : Nat} {l : List S99} (hn : n ≤ 130) (hE : ∀ j, j < l.length → edgeOk n (l.getD j z99)) : ∀ j, j < (turnL n l).length → edgeOk n ((turnL n l).getD j z99) := by
  intro j hj
  rw [turnL_len] at hj
  rw [turnL_at n l j hj]
  exact (turnE_ok hn (hE j hj)).1
theorem turn_of {n : Nat} {l : List S99} (hn : n ≤ 130) (hE : ∀ j, j < l.length → edgeOk n (l.getD j z99)) : Turn n l.length (tosL l) (tosL (turnL n l)) := by
  refine ⟨fun e h0 h1 => ?_⟩
  have ht := tos_at l (e / 2) (by omega) (by omega)
  have ht' := tos_at (turnL n l) (e / 2) (by omega) (by rw [turnL_len]; omega)
  have hk := turnE_ok hn (hE (e / 2).toNat (by omega))
  rw [turnL_at n l _ (by omega)] at ht'
  unfold par
  by_cases h : e % 2 = 0
  · rw [if_pos h, show e + 1 = 2 * (e / 2) + 1 by omega, show rd (tosL (turnL n l)) e = rd (tosL (turnL n l)) (2 * (e / 2)) by congr 1; omega, ht'.1, ht.2]
    exact hk.2.2.1
  · rw [if_neg h, show e - 1 = 2 * (e / 2) by omega, show rd (tosL (turnL n l)) e = rd (tosL (turnL n l)) (2 * (e / 2) + 1) by congr 1; omega, ht'.2, ht.1]
    exact hk.2.1
theorem turn_left {n : Nat} {l : List S99} (hn : n ≤ 130) (hE : ∀ j, j < l.length → edgeOk n (l.getD j z99)) : leftL (turnL n l) = leftL l := by
  refine getD_ext 0 (by rw [leftL_len, leftL_len, turnL_len]) (fun j hj => ?_)
  rw [leftL_len, turnL_len] at hj
  have h := left_at l ((j : Int) / 2) (by omega) (by omega)
  have h' := left_at (turnL n l) ((j : Int) / 2) (by omega) (by rw [turnL_len]; omega)
  rw [turnL_at n l _ (by omega), (turnE_ok hn (hE ((j : Int) / 2).toNat (by omega))).2.2.2] at h'
  by_cases c : (j : Int) % 2 = 0
  · have a := h'.1.trans h.1.symm
    rw [rd_def, rd_def, show (2 * ((j : Int) / 2)).toNat = j by omega] at a
    exact a
  · have a := h'.2.trans h.2.symm
    rw [rd_def, rd_def, show (2 * ((j : Int) / 2) + 1).toNat = j by omega] at a
    exact a
end Go.Proofs.Ytomfjhpiemipkaa.OwnTurn
