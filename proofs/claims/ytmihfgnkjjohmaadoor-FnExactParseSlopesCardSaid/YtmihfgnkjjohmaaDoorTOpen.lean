/- How data that can be read become the kinds' values that the printed contracts speak of: whole numbers, bools, strings, slices, structs of two to four fields. -/
import Derived.Test.YtmihfgnkjjohmaaDoorTWWords
import Derived.ChangeArms
import Derived.ChangeSlices
import Derived.ChangeSame
import Derived.Deep.Strs
import Derived.Lib.SmallJoins
namespace Go.Proofs.YtmihfgnkjjohmaaDoor.Open
open Go Go.ChangeShapes Go.WideShapes Go.RowKit Go.Proofs.YtmihfgnkjjohmaaDoorW.PrintWords
set_option linter.unusedVariables false
set_option linter.unusedSimpArgs false
def Opens (P : Program) {α : Type} (t : TypeId) (d : Kd α) (G : α → Prop) : Prop :=
  d.sz = P.cellsOf t ∧ ∀ (H : Type) (enc : TypeId × Value → H) (w : World) (base : Nat) (held : Bool) (fuel : Nat) (cs : List Value) (x : DataW H × List MemPlace),
    DataW.trod enc P w base (fun _ => true) held fuel t cs = some x → ∃ a : α, d.K w a cs ∧ G a
theorem opens_int {P : Program} {t : TypeId} {k : IntKind} (ht : P.underlying t = some (.int k)) (hc : P.cellsOf t = 1) : Opens P t (Kd.int k) (fun n => (Lit.int k n).wf = true) := by
  refine ⟨hc.symm, ?_⟩
  intro H enc w base held fuel cs x h
  obtain ⟨n, rfl, _, hw⟩ := DataW.trod_int ht h
  exact ⟨n, rfl, hw⟩
theorem join2 {β : Type} (cs : List β) (a b : Nat) (h : cs.length = a + b) : cs.take a ++ (cs.drop a).take b = cs := by
  rw [List.take_of_length_le (l := cs.drop a) (by simp; omega), List.take_append_drop]
theorem join3 {β : Type} (cs : List β) (a b c : Nat) (h : cs.length = a + b + c) : cs.take a ++ ((cs.drop a).take b ++ (cs.drop (a + b)).take c) = cs := by
  have e : cs.drop (a + b) = (cs.drop a).drop b := (List.drop_drop).symm
  rw [e, join2 (cs.drop a) b c (by simp; omega), List.take_append_drop]
/-- A struct argument, opened: its fields, one by one. -/
def OpensP (P : Program) {α : Type} (t : TypeId) (K : World → α → List Value → Prop) (G : α → Prop) : Prop :=
  ∀ (H : Type) (enc : TypeId × Value → H) (w : World) (base : Nat) (held : Bool) (fuel : Nat) (cs : List Value) (x : DataW H × List MemPlace),
    DataW.trod enc P w base (fun _ => true) held fuel t cs = some x → ∃ a : α, K w a cs ∧ G a
theorem Opens.toP {P : Program} {α : Type} {t : TypeId} {d : Kd α} {G : α → Prop} (h : Opens P t d G) : OpensP P t d.K G := h.2
theorem opensP_struct3 {P : Program} {α β δ : Type} {t : TypeId} {f0 f1 f2 : Field} {a : World → α → List Value → Prop} {b : World → β → List Value → Prop} {c : World → δ → List Value → Prop} {A : α → Prop} {B : β → Prop} {C : δ → Prop} (ht : P.underlying t = some (.struct #[f0, f1, f2]))
    (h0 : OpensP P f0.type a A) (h1 : OpensP P f1.type b B) (h2 : OpensP P f2.type c C) (o0 : f0.offset = 0) (o1 : f1.offset = P.cellsOf f0.type) (o2 : f2.offset = P.cellsOf f0.type + P.cellsOf f1.type) (ot : P.cellsOf t = P.cellsOf f0.type + P.cellsOf f1.type + P.cellsOf f2.type) :
    OpensP P t (fun w (z : α × β × δ) cs => ∃ c0 c1 c2, cs = c0 ++ (c1 ++ c2) ∧ a w z.1 c0 ∧ b w z.2.1 c1 ∧ c w z.2.2 c2) (fun z => A z.1 ∧ B z.2.1 ∧ C z.2.2) := by
  intro H enc w base held fuel cs x hx
  obtain ⟨y0, y1, y2, n, rfl, hl, t0, t1, t2⟩ := Go.Deep.trod_struct3 ht hx
  obtain ⟨v0, k0, g0⟩ := h0 H enc w base held n _ _ t0
  obtain ⟨v1, k1, g1⟩ := h1 H enc w base held n _ _ t1
  obtain ⟨v2, k2, g2⟩ := h2 H enc w base held n _ _ t2
  rw [o0, List.drop_zero] at k0
  rw [o1] at k1
  rw [o2] at k2
  exact ⟨(v0, v1, v2), ⟨_, _, _, (join3 _ _ _ _ (by omega)).symm, k0, k1, k2⟩, g0, g1, g2⟩
theorem opens_struct_arg {P : Program} {α : Type} {t : TypeId} {K : World → α → List Value → Prop} {G : α → Prop} (h : OpensP P t K G) {H : Type} {enc : TypeId × Value → H} {w : World} {base : Nat} {held : Bool} {cs : Array Value} {dd : DataW H} {ps : List MemPlace}
    (ho : DataW.Trod enc P w base (fun _ => true) held t (.agg cs) dd ps) : ∃ a : α, K w a cs.toList ∧ G a := by
  obtain ⟨fuel, hf⟩ := ho
  exact h H enc w base held fuel _ _ hf
end Go.Proofs.YtmihfgnkjjohmaaDoor.Open
