/- How data that can be read become the kinds' values that the printed contracts speak of: whole numbers, bools, strings, slices, structs of two to four fields. -/
import Derived.Test.YtmihfgnkjjohmaaDoorTWWords
import Derived.ChangeArms
import Derived.ChangeSlices
import Derived.ChangeSame
import Derived.Deep.Strs
import Derived.Lib.SmallJoins
namespace Go.Proofs.YtmihfgnkjjohmaaDoor.Open
open Go Go.ChangeShapes Go.WideShapes Go.RowKit Go.Proofs.YtmihfgnkjjohmaaDoorW.PrintWords
set_option linter.unusedVariables false
set_option linter.unusedSimpArgs false
def Opens (P : Program) {α : Type} (t : TypeId) (d : Kd α) (G : α → Prop) : Prop :=
  d.sz = P.cellsOf t ∧ ∀ (H : Type) (enc : TypeId × Value → H) (w : World) (base : Nat) (held : Bool) (fuel : Nat) (cs : List Value) (x : DataW H × List MemPlace),
    DataW.trod enc P w base (fun _ => true) held fuel t cs = some x → ∃ a : α, d.K w a cs ∧ G a
theorem opens_int {P : Program} {t : TypeId} {k : IntKind} (ht : P.underlying t = some (.int k)) (hc : P.cellsOf t = 1) : Opens P t (Kd.int k) (fun n => (Lit.int k n).wf = true) := by
  refine ⟨hc.symm, ?_⟩
  intro H enc w base held fuel cs x h
  obtain ⟨n, rfl, _, hw⟩ := DataW.trod_int ht h
  exact ⟨n, rfl, hw⟩
theorem list_of {α : Type} {p : Nat → α → Prop} : ∀ (n : Nat), (∀ i, i < n → ∃ a, p i a) → ∃ l : List α, l.length = n ∧ ∀ i a, l[i]? = some a → p i a
  | 0, _ => ⟨[], rfl, by intro i a h; simp at h⟩
  | n + 1, h => by
    obtain ⟨l, hl, hp⟩ := list_of n (fun i hi => h i (by omega))
    obtain ⟨a, ha⟩ := h n (by omega)
    refine ⟨l ++ [a], by simp [hl], ?_⟩
    intro i b hb
    by_cases hi : i < n
    · rw [List.getElem?_append_left (by omega)] at hb
      exact hp i b hb
    · have : i = n := by
        have := (List.getElem?_eq_some_iff.1 hb).1
        simp [hl] at this
        omega
      subst this
      rw [List.getElem?_append_right (by omega), hl] at hb
      simp at hb
      subst hb
      exact ha
theorem opens_slice {P : Program} {α : Type} {t e : TypeId} {d : Kd α} {G : α → Prop} (ht : P.underlying t = some (.slice e)) (hc : P.cellsOf t = 1) (h : Opens P e d G) :
    Opens P t (Kd.slice e d) (fun l => l.length ≤ maxLen ∧ ∀ x ∈ l, G x) := by
  refine ⟨hc.symm, ?_⟩
  intro H enc w base held fuel cs x hx
  rcases DataW.trod_slice ht hx with ⟨rfl, _⟩ | ⟨a, len, cap, elems, rest, n, _, rfl, rfl, hb, hl, hm, hlen, hel, hsp, hns⟩
  · refine ⟨[], ⟨none, 0, rfl, Nat.le_refl _, rfl, Nat.zero_le _, fun h => absurd h (Nat.lt_irrefl 0)⟩, by simp, by simp⟩
  · have each : ∀ i, i < len → ∃ (v : α), ∃ c, c.length = d.sz ∧ d.K w v c ∧ G v ∧ ∀ j u, c[j]? = some u → w.cell? (a.add (i * d.sz + j)) = some u := by
      intro i hi
      have he : ∃ y, elems[i]? = some y := ⟨elems[i]'(by omega), List.getElem?_eq_getElem (by omega)⟩
      obtain ⟨y, hy⟩ := he
      have h1 := hel i hi
      rw [hy, Option.bind_eq_some_iff] at h1
      obtain ⟨cs', hcs, h2⟩ := h1
      obtain ⟨v, hv, hg⟩ := h.2 H enc w base held n cs' y h2
      obtain ⟨_, hcl, hcell⟩ := World.cells?_some hcs
      refine ⟨v, cs', by rw [hcl, h.1], hv, hg, ?_⟩
      intro j u hu
      have hj : j < P.cellsOf e := by
        have := (List.getElem?_eq_some_iff.1 hu).1
        omega
      have := hcell j hj
      rw [hu] at this
      rw [h.1]
      rw [← add_add]
      exact this
    obtain ⟨l, hll, hp⟩ := list_of len each
    refine ⟨l, ⟨some a, cap, by rw [hll], by omega, rfl, ?_, ?_⟩, by omega, ?_⟩
    · rw [hll]; unfold maxLen at hm; omega
    · intro _
      refine ⟨a, rfl, ?_⟩
      intro j p hj
      obtain ⟨c, h1, h2, _, h3⟩ := hp j p hj
      exact ⟨c, h1, h2, h3⟩
    · intro v hv
      obtain ⟨i, hi⟩ := List.getElem?_of_mem hv
      obtain ⟨c, _, _, h3, _⟩ := hp i v hi
      exact h3
theorem join2 {β : Type} (cs : List β) (a b : Nat) (h : cs.length = a + b) : cs.take a ++ (cs.drop a).take b = cs := by
  rw [List.take_of_length_le (l := cs.drop a) (by simp; omega), List.take_append_drop]
theorem join3 {β : Type} (cs : List β) (a b c : Nat) (h : cs.length = a + b + c) : cs.take a ++ ((cs.drop a).take b ++ (cs.drop (a + b)).take c) = cs := by
  have e : cs.drop (a + b) = (cs.drop a).drop b := (List.drop_drop).symm
  rw [e, join2 (cs.drop a) b c (by simp; omega), List.take_append_drop]
theorem opens_struct3 {P : Program} {α β δ γ : Type} {t : TypeId} {f0 f1 f2 : Field} {a : Kd α} {b : Kd β} {c : Kd δ} {A : α → Prop} {B : β → Prop} {C : δ → Prop} {d : Kd γ} {G : γ → Prop} (ht : P.underlying t = some (.struct #[f0, f1, f2]))
    (h0 : Opens P f0.type a A) (h1 : Opens P f1.type b B) (h2 : Opens P f2.type c C) (o0 : f0.offset = 0) (o1 : f1.offset = P.cellsOf f0.type) (o2 : f2.offset = P.cellsOf f0.type + P.cellsOf f1.type) (ot : P.cellsOf t = P.cellsOf f0.type + P.cellsOf f1.type + P.cellsOf f2.type)
    (hsz : d.sz = P.cellsOf t) (hmk : ∀ w x y u, A x → B y → C u → ∃ z : γ, G z ∧ ∀ c0 c1 c2, a.K w x c0 → b.K w y c1 → c.K w u c2 → d.K w z (c0 ++ (c1 ++ c2))) : Opens P t d G := by
  refine ⟨hsz, ?_⟩
  intro H enc w base held fuel cs x hx
  obtain ⟨y0, y1, y2, n, rfl, hl, t0, t1, t2⟩ := Go.Deep.trod_struct3 ht hx
  obtain ⟨v0, k0, g0⟩ := h0.2 H enc w base held n _ _ t0
  obtain ⟨v1, k1, g1⟩ := h1.2 H enc w base held n _ _ t1
  obtain ⟨v2, k2, g2⟩ := h2.2 H enc w base held n _ _ t2
  obtain ⟨z, hz, hk⟩ := hmk w v0 v1 v2 g0 g1 g2
  refine ⟨z, ?_, hz⟩
  have := hk _ _ _ k0 k1 k2
  rw [o0, o1, o2, List.drop_zero] at this
  rw [join3 _ _ _ _ (by omega)] at this
  exact this
/-- A struct argument, opened: its fields, one by one. -/
def OpensP (P : Program) {α : Type} (t : TypeId) (K : World → α → List Value → Prop) (G : α → Prop) : Prop :=
  ∀ (H : Type) (enc : TypeId × Value → H) (w : World) (base : Nat) (held : Bool) (fuel : Nat) (cs : List Value) (x : DataW H × List MemPlace),
    DataW.trod enc P w base (fun _ => true) held fuel t cs = some x → ∃ a : α, K w a cs ∧ G a
theorem Opens.toP {P : Program} {α : Type} {t : TypeId} {d : Kd α} {G : α → Prop} (h : Opens P t d G) : OpensP P t d.K G := h.2
theorem opensP_struct2 {P : Program} {α β : Type} {t : TypeId} {f0 f1 : Field} {a : World → α → List Value → Prop} {b : World → β → List Value → Prop} {A : α → Prop} {B : β → Prop} (ht : P.underlying t = some (.struct #[f0, f1]))
    (h0 : OpensP P f0.type a A) (h1 : OpensP P f1.type b B) (o0 : f0.offset = 0) (o1 : f1.offset = P.cellsOf f0.type) (ot : P.cellsOf t = P.cellsOf f0.type + P.cellsOf f1.type) :
    OpensP P t (fun w (z : α × β) cs => ∃ c0 c1, cs = c0 ++ c1 ∧ a w z.1 c0 ∧ b w z.2 c1) (fun z => A z.1 ∧ B z.2) := by
  intro H enc w base held fuel cs x hx
  obtain ⟨y0, y1, n, rfl, hl, t0, t1⟩ := trod_struct2 ht hx
  obtain ⟨v0, k0, g0⟩ := h0 H enc w base held n _ _ t0
  obtain ⟨v1, k1, g1⟩ := h1 H enc w base held n _ _ t1
  rw [o0, List.drop_zero] at k0
  rw [o1] at k1
  exact ⟨(v0, v1), ⟨_, _, (join2 _ _ _ (by omega)).symm, k0, k1⟩, g0, g1⟩
theorem opensP_struct3 {P : Program} {α β δ : Type} {t : TypeId} {f0 f1 f2 : Field} {a : World → α → List Value → Prop} {b : World → β → List Value → Prop} {c : World → δ → List Value → Prop} {A : α → Prop} {B : β → Prop} {C : δ → Prop} (ht : P.underlying t = some (.struct #[f0, f1, f2]))
    (h0 : OpensP P f0.type a A) (h1 : OpensP P f1.type b B) (h2 : OpensP P f2.type c C) (o0 : f0.offset = 0) (o1 : f1.offset = P.cellsOf f0.type) (o2 : f2.offset = P.cellsOf f0.type + P.cellsOf f1.type) (ot : P.cellsOf t = P.cellsOf f0.type + P.cellsOf f1.type + P.cellsOf f2.type) :
    OpensP P t (fun w (z : α × β × δ) cs => ∃ c0 c1 c2, cs = c0 ++ (c1 ++ c2) ∧ a w z.1 c0 ∧ b w z.2.1 c1 ∧ c w z.2.2 c2) (fun z => A z.1 ∧ B z.2.1 ∧ C z.2.2) := by
  intro H enc w base held fuel cs x hx
  obtain ⟨y0, y1, y2, n, rfl, hl, t0, t1, t2⟩ := Go.Deep.trod_struct3 ht hx
  obtain ⟨v0, k0, g0⟩ := h0 H enc w base held n _ _ t0
  obtain ⟨v1, k1, g1⟩ := h1 H enc w base held n _ _ t1
  obtain ⟨v2, k2, g2⟩ := h2 H enc w base held n _ _ t2
  rw [o0, List.drop_zero] at k0
  rw [o1] at k1
  rw [o2] at k2
  exact ⟨(v0, v1, v2), ⟨_, _, _, (join3 _ _ _ _ (by omega)).symm, k0, k1, k2⟩, g0, g1, g2⟩
theorem opens_struct_arg {P : Program} {α : Type} {t : TypeId} {K : World → α → List Value → Prop} {G : α → Prop} (h : OpensP P t K G) {H : Type} {enc : TypeId × Value → H} {w : World} {base : Nat} {held : Bool} {cs : Array Value} {dd : DataW H} {ps : List MemPlace}
    (ho : DataW.Trod enc P w base (fun _ => true) held t (.agg cs) dd ps) : ∃ a : α, K w a cs.toList ∧ G a := by
  obtain ⟨fuel, hf⟩ := ho
  exact h H enc w base held fuel _ _ hf
end Go.Proofs.YtmihfgnkjjohmaaDoor.Open
