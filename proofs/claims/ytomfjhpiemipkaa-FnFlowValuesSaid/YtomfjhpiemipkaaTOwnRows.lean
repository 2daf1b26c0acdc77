/- A number is appended to one row of a row of rows, and the row is laid back: what that leaves. And the lists of a residual network. -/
import Derived.Test.YtomfjhpiemipkaaTOwnLevels
import Derived.Test.YtomfjhpiemipkaaTMFnFlowValuesx0
namespace Go.Proofs.Ytomfjhpiemipkaa.OwnRows
open Go.RowKit Go.Proofs.Ytomfjhpiemipkaa.PFnFlowValues Go.Proofs.YtomfjhpiemipkaaW.PrintWords Go.Proofs.YtomfjhpiemipkaaW.PrintLast Go.Proofs.YtomfjhpiemipkaaW.PrintMore Go.Proofs.Ytomfjhpiemipkaa.B Go.Proofs.Ytomfjhpiemipkaa.Flow Go.Proofs.Ytomfjhpiemipkaa.OwnPush
set_option linter.unusedVariables false
set_option linter.unusedSimpArgs false
theorem inf33 : (Try.prog.info? 24).map (fun i => (i.zero, i.size, i.bytes)) = some (some (.slice none 0 0), 1, 24) := by kernel_rfl
/-- Row i, lent: its value, its own region, and what becomes of all rows once it has been appended to and laid back. -/
theorem row_push {W : World} {b g n cap : Nat} {ok : Nat → Prop} {rows : List (List Int)} (h : Kd.S kRows 24 W b ok (.slice (some ⟨g, 0, none⟩) n cap) rows) (i : Int) (h0 : 0 ≤ i) (h1 : i < n) (hfresh : ∀ k, W.heap.size ≤ k → ok k) :
    ∃ v : Value, W.cell? ⟨g, i.toNat, none⟩ = some v ∧ W.frozen? ⟨g, i.toNat, none⟩ = false ∧ (∃ oki : Nat → Prop, (∀ k, oki k → ok k ∧ k ≠ g) ∧ Kd.R (Kd.int .i64) 3 W b oki v (row rows i)) ∧
      ∀ (W1 : World) (v1 : Value) (x : List Int), (∀ k, k < W.heap.size → some k ≠ v.ownBlock → W1.heap[k]? = W.heap[k]?) → (v1.ownBlock = v.ownBlock ∨ ∃ k, v1.ownBlock = some k ∧ W.heap.size ≤ k) → Kd.R (Kd.int .i64) 3 W1 b (fun _ => True) v1 x →
        W1.cell? ⟨g, i.toNat, none⟩ = some v ∧ W1.frozen? ⟨g, i.toNat, none⟩ = false ∧ Kd.S kRows 24 (W1.setCell ⟨g, i.toNat, none⟩ v1) b ok (.slice (some ⟨g, 0, none⟩) n cap) (rows.set i.toNat x) := by
  have hgl : g < W.heap.size := Kd.R_lt (Kd.S_R h) g rfl
  have hS : Kd.S kRows 24 W b (fun k => ok k ∧ ¬ (fun k => W.heap.size ≤ k) k) (.slice (some ⟨g, 0, none⟩) n cap) rows := Kd.S_mono (Kd.S_bound h) (fun k hk => ⟨hk.1, by have := hk.2.2.1; show ¬ W.heap.size ≤ k; omega⟩)
  obtain ⟨oki, c, hcl, hM, hcc, hfr, hoki, hH⟩ := Kd.S_elem hS [] i h0 h1
  obtain ⟨v, rfl, hR⟩ := hM
  have hcc0 := hcc 0 _ rfl
  have hfr0 := hfr 0
  simp only [show kRows.sz = 1 from rfl, Nat.mul_one, Nat.add_zero] at hcc0 hfr0
  refine ⟨v, hcc0, hfr0, ⟨oki, fun k hk => ⟨(hoki k hk).1.1, (hoki k hk).2⟩, hR⟩, ?_⟩
  intro W1 v1 x hg hat hx
  have hne : some g ≠ v.ownBlock := fun e => (hoki g (hR.1 g e.symm)).2 rfl
  have hcell : W1.cell? ⟨g, i.toNat, none⟩ = W.cell? ⟨g, i.toNat, none⟩ := World.cell?_of_block (hg g hgl hne)
  have hfroz : W1.frozen? ⟨g, i.toNat, none⟩ = W.frozen? ⟨g, i.toNat, none⟩ := World.frozen?_of_block (hg g hgl hne)
  have hH1 := Kd.H_step hH (w1 := W1) (fun k _ hk2 hk3 => hg k hk3 (fun e => hk2 (hR.1 k e.symm)))
  have hP := Kd.S_seg hH1 h0 h1 (seg := [v1]) (j := 0) (show 1 ≤ 1 from by decide) (x' := x) (Kd.M_row (Kd.R_mono (Kd.R_tight rfl hx) (ok' := fun k => some k = v1.ownBlock) (fun k hk => hk)))
    (fun k hk => by
      rcases hat with h | ⟨k2, h, h2⟩
      · exact Or.inl (hR.1 k (by rw [← h]; exact hk.symm))
      · rw [h] at hk
        injection hk with hk
        subst hk
        exact Or.inr h2)
    (fun k hk => ⟨hfresh k hk, by have : W.heap.size ≤ k := hk; omega⟩)
  simp only [show kRows.sz = 1 from rfl, Nat.mul_one, Nat.add_zero] at hP
  exact ⟨by rw [hcell]; exact hcc0, by rw [hfroz]; exact hfr0, hP.1⟩
def tosL (l : List S99) : List Int := l.flatMap fun e => [e.f1, e.f0]
def leftL (l : List S99) : List Int := l.flatMap fun e => [e.f2, 0]
def adjAt (l : List S99) (a : List (List Int)) (k : Nat) : List (List Int) :=
  (a.set (l.getD k z99).f0.toNat (row a (l.getD k z99).f0 ++ [2 * (k : Int)])).set (l.getD k z99).f1.toNat (row (a.set (l.getD k z99).f0.toNat (row a (l.getD k z99).f0 ++ [2 * (k : Int)])) (l.getD k z99).f1 ++ [2 * (k : Int) + 1])
def adjL (l : List S99) (n i : Nat) : List (List Int) := foldR (adjAt l) 0 i (List.replicate n [])
theorem adjL_len (l : List S99) (n i : Nat) : (adjL l n i).length = n := by
  unfold adjL
  induction i with
  | zero => rw [foldR_end (Nat.le_refl _), List.length_replicate]
  | succ i ih => rw [foldR_last (Nat.zero_le _)]; unfold adjAt; rw [List.length_set, List.length_set]; exact ih
theorem row_set_len {a : List (List Int)} {b b' k : Nat} {r : List Int} (h : ∀ u, (row a u).length ≤ b) (hr : r.length ≤ b') (hb : b ≤ b') : ∀ u, (row (a.set k r) u).length ≤ b' := by
  intro u
  unfold row
  rw [List.getD_eq_getElem?_getD, List.getElem?_set]
  split
  · split
    · exact hr
    · exact Nat.zero_le _
  · rw [← List.getD_eq_getElem?_getD]; exact Nat.le_trans (h u) hb
theorem adjAt_row {l : List S99} {a : List (List Int)} {b k : Nat} (h : ∀ u, (row a u).length ≤ b) : ∀ u, (row (adjAt l a k) u).length ≤ b + 2 := by
  unfold adjAt
  have h1 := row_set_len (b' := b + 1) (k := (l.getD k z99).f0.toNat) (r := row a (l.getD k z99).f0 ++ [2 * (k : Int)]) h (by rw [List.length_append]; have := h (l.getD k z99).f0; show _ + 1 ≤ _; omega) (by omega)
  refine row_set_len h1 ?_ (by omega)
  rw [List.length_append]
  have := h1 (l.getD k z99).f1
  show _ + 1 ≤ _
  omega
theorem adjL_row (l : List S99) (n i : Nat) : ∀ u, (row (adjL l n i) u).length ≤ 2 * i := by
  unfold adjL
  induction i with
  | zero =>
    intro u
    rw [foldR_end (Nat.le_refl _)]
    unfold row
    rw [List.getD_eq_getElem?_getD, List.getElem?_replicate]
    split <;> exact Nat.le_refl _
  | succ i ih =>
    rw [foldR_last (Nat.zero_le _)]
    exact adjAt_row ih
theorem take_snoc (l : List S99) (i : Nat) (h : i < l.length) : l.take (i + 1) = l.take i ++ [l.getD i z99] := by
  rw [List.take_succ_eq_append_getElem h]
  simp [List.getD_eq_getElem?_getD, h]
theorem tosL_snoc (l : List S99) (i : Nat) (h : i < l.length) : tosL (l.take (i + 1)) = tosL (l.take i) ++ [(l.getD i z99).f1, (l.getD i z99).f0] := by
  rw [take_snoc l i h]; unfold tosL; rw [List.flatMap_append]; simp
theorem leftL_snoc (l : List S99) (i : Nat) (h : i < l.length) : leftL (l.take (i + 1)) = leftL (l.take i) ++ [(l.getD i z99).f2, 0] := by
  rw [take_snoc l i h]; unfold leftL; rw [List.flatMap_append]; simp
theorem tosL_len (l : List S99) : (tosL l).length = 2 * l.length := by
  unfold tosL
  induction l with
  | nil => rfl
  | cons e l ih => rw [List.flatMap_cons, List.length_append, ih]; simp; omega
theorem leftL_len (l : List S99) : (leftL l).length = 2 * l.length := by
  unfold leftL
  induction l with
  | nil => rfl
  | cons e l ih => rw [List.flatMap_cons, List.length_append, ih]; simp; omega
end Go.Proofs.Ytomfjhpiemipkaa.OwnRows
