/- What the law FnTemplates says of templates, without any Go: turned templates are templates, four turns lead back, steeper ones have fewer offsets, the standard ones are turned into themselves. -/
import Derived.Test.YtpndghkfbojokaaOwnTurnSort
import Derived.Test.YtpndghkfbojokaaOwnTemplateOf
import Derived.Test.YtpndghkfbojokaaMFnTemplatesx3
import Derived.Test.YtpndghkfbojokaaMFnTemplatesx2
import Derived.Test.YtpndghkfbojokaaMFnTemplatesx1
import Derived.Test.YtpndghkfbojokaaMFnTemplatesx0
namespace Go.Proofs.Ytpndghkfbojokaa.TplMath
open Go.RowKit Go.Proofs.Ytpndghkfbojokaa.PFnTemplates Go.Proofs.YtpndghkfbojokaaW.PrintWords Go.Proofs.YtpndghkfbojokaaW.PrintLast Go.Proofs.YtpndghkfbojokaaW.PrintMore Go.Proofs.Ytpndghkfbojokaa.B Go.Proofs.Ytpndghkfbojokaa.SortG Go.Proofs.Ytpndghkfbojokaa.OwnTurnSort
set_option linter.unusedVariables false
set_option linter.unusedSimpArgs false
def eqO (a b : S86) : Bool := a.f0 == b.f0 && (a.f1 == b.f1 && a.f2 == b.f2)
def hasAt (l : List S86) (o : S86) (j : Nat) : Bool := !(eqO o (l.getD j z86))
def hasO (l : List S86) (o : S86) : Bool := !(allR (hasAt l o) 0 l.length)
def allHas (b a : List S86) : Bool := allR (fun i => hasO b (a.getD i z86)) 0 a.length
theorem index_l0 (l : List S86) (hl : l.length ≤ maxLen) (o : S86) : ∀ (d i : Nat), i + d = l.length →
    ∃ r, Ev (fun k => impl_Offset_94.l0 k l (l.length : Int) (i : Int) o.f0 o.f1 o.f2) r ∧ (decide (r ≥ 0) = !(allR (hasAt l o) i l.length)) := by
  have hl := maxLen_le hl
  intro d
  induction d with
  | zero =>
    intro i hi
    refine ⟨-1, Ev.step (fun k => impl_Offset_94.l0.eq_2 l l.length i _ _ _ k) (ev_neg (by omega) (ev_some rfl)), ?_⟩
    rw [allR_end (by omega)]; rfl
  | succ d ih =>
    intro i hi
    obtain ⟨r, hr, he⟩ := ih (i + 1) (by omega)
    have hx := rdO l i
    by_cases h : eqO o (l.getD i z86) = true
    · refine ⟨i, Ev.step (fun k => impl_Offset_94.l0.eq_2 l l.length i _ _ _ k) ?_, ?_⟩
      · rw [hx]
        exact ev_pos (by omega) (ev_pos (by omega) (ev_pos (by omega) (ev_pos h (ev_some rfl))))
      · rw [allR_step (by omega), show hasAt l o i = false by unfold hasAt; rw [h]; rfl, Bool.false_and]; simp
    · refine ⟨r, Ev.step (fun k => impl_Offset_94.l0.eq_2 l l.length i _ _ _ k) ?_, ?_⟩
      · rw [hx, w_succ (n := l.length) (by omega) (by omega)]
        exact ev_pos (by omega) (ev_pos (by omega) (ev_pos (by omega) (ev_neg h hr)))
      · rw [Bool.not_eq_true] at h
        rw [he, allR_step (i := i) (by omega), show hasAt l o i = true by unfold hasAt; rw [h]; rfl, Bool.true_and]
theorem contains_ev (l : List S86) (hl : l.length ≤ maxLen) (o : S86) : Ev (fun k => impl_Offset_74.f k l o.f0 o.f1 o.f2) (hasO l o) := by
  obtain ⟨r, hr, he⟩ := index_l0 l hl o l.length 0 (by omega)
  unfold impl_Offset_74.f hasO
  rw [← he]
  exact Ev.bind (g := fun k => impl_Offset_94.f k l o.f0 o.f1 o.f2) (by unfold impl_Offset_94.f; exact hr) (ev_some rfl)
theorem iSteeper_l0 (b a : List S86) (ha : a.length ≤ maxLen) (hb : b.length ≤ maxLen) : ∀ (d i : Nat), i + d = a.length → Ev (fun k => impl_IsSteeper.l0 k b a (a.length : Int) (i : Int)) (allR (fun i => hasO b (a.getD i z86)) i a.length, true) := by
  have ha := maxLen_le ha
  intro d
  induction d with
  | zero =>
    intro i hi
    exact Ev.step (fun k => impl_IsSteeper.l0.eq_2 b a a.length i k) (ev_neg (by omega) (ev_some (by rw [allR_end (by omega)])))
  | succ d ih =>
    intro i hi
    refine Ev.step (fun k => impl_IsSteeper.l0.eq_2 b a a.length i k) ?_
    rw [allR_step (by omega), w_succ (n := a.length) (by omega) (by omega), rdO]
    refine ev_pos (by omega) (ev_pos (by omega) (ev_pos (by omega) (Ev.bind (contains_ev b hb _) (ev_ite (fun h => ?_) (fun h => ?_)))))
    · rw [h, Bool.true_and]; exact ih (i + 1) (by omega)
    · rw [Bool.not_eq_true] at h; rw [h, Bool.false_and]; exact ev_some rfl
theorem iSteeper_ev (a b : List S86) (ha : a.length ≤ maxLen) (hb : b.length ≤ maxLen) : Ev (fun k => impl_IsSteeper.f k a b) (if tmplOk a && tmplOk b then (allHas b a, true) else (false, false)) := by
  unfold impl_IsSteeper.f
  refine Ev.bind (IsTemplate_ev a ha) (ev_ite (fun h => ?_) (fun h => ?_))
  · rw [h, Bool.true_and]
    refine Ev.bind (IsTemplate_ev b hb) (Ev.step (fun k => impl_IsSteeper.j0.eq_2 a b _ k) ?_)
    cases h1 : tmplOk b with
    | false => exact ev_pos rfl (ev_some rfl)
    | true => exact ev_neg (by simp) (iSteeper_l0 b a ha hb a.length 0 (by omega))
  · rw [Bool.not_eq_true] at h; rw [h]
    exact Ev.step (fun k => impl_IsSteeper.j0.eq_2 a b _ k) (ev_pos rfl (ev_some rfl))
theorem sSteeper_l1 (b a : List S86) (n i : Int) (hb : b.length ≤ maxLen) (o : S86) (q : Bool) (hq : Ev (fun k => spec_IsSteeper.l0 k b a n (wrap64 (i + 1))) (q, true)) : ∀ (d j : Nat) (m : Bool), j + d = b.length →
    Ev (fun k => spec_IsSteeper.l1 k b m a n i b (b.length : Int) (j : Int) o.f0 o.f1 o.f2) ((m || !(allR (hasAt b o) j b.length)) && q, true) := by
  have hb := maxLen_le hb
  intro d
  induction d with
  | zero =>
    intro j m hj
    refine Ev.step (fun k => spec_IsSteeper.l1.eq_2 b m a n i b b.length j _ _ _ k) (ev_neg (by omega) ?_)
    rw [allR_end (by omega)]
    cases m with
    | true => exact ev_pos rfl hq
    | false => exact ev_neg (by simp) (ev_some rfl)
  | succ d ih =>
    intro j m hj
    refine Ev.step (fun k => spec_IsSteeper.l1.eq_2 b m a n i b b.length j _ _ _ k) ?_
    rw [w_succ (n := b.length) (by omega) (by omega), rdO]
    refine ev_pos (by omega) (ev_pos (by omega) (ev_pos (by omega) ?_))
    cases m with
    | true =>
      refine ev_pos rfl ?_
      have := ih (j + 1) true (by omega)
      rwa [Bool.true_or] at this ⊢
    | false =>
      refine ev_neg (by simp) ?_
      have := ih (j + 1) (eqO o (b.getD j z86)) (by omega)
      rw [allR_step (by omega), Bool.false_or, show hasAt b o j = !(eqO o (b.getD j z86)) from rfl, Bool.not_and, Bool.not_not]
      exact this
theorem sSteeper_l0 (b a : List S86) (ha : a.length ≤ maxLen) (hb : b.length ≤ maxLen) : ∀ (d i : Nat), i + d = a.length → Ev (fun k => spec_IsSteeper.l0 k b a (a.length : Int) (i : Int)) (allR (fun i => hasO b (a.getD i z86)) i a.length, true) := by
  have ha := maxLen_le ha
  intro d
  induction d with
  | zero =>
    intro i hi
    exact Ev.step (fun k => spec_IsSteeper.l0.eq_2 b a a.length i k) (ev_neg (by omega) (ev_some (by rw [allR_end (by omega)])))
  | succ d ih =>
    intro i hi
    refine Ev.step (fun k => spec_IsSteeper.l0.eq_2 b a a.length i k) ?_
    have ih := ih (i + 1) (by omega)
    rw [← w_succ (n := a.length) (i := i) (by omega) (by omega)] at ih
    rw [allR_step (by omega), rdO]
    refine ev_pos (by omega) (ev_pos (by omega) (ev_pos (by omega) ?_))
    have := sSteeper_l1 b a a.length i hb (a.getD i z86) _ ih b.length 0 false (by omega)
    rwa [Bool.false_or] at this
theorem sSteeper_ev (a b : List S86) (ha : a.length ≤ maxLen) (hb : b.length ≤ maxLen) : Ev (fun k => spec_IsSteeper.f k a b) (if tmplOk a && tmplOk b then (allHas b a, true) else (false, false)) := by
  unfold spec_IsSteeper.f
  refine Ev.bind (slTemplate_ev a ha) (ev_ite (fun h => ?_) (fun h => ?_))
  · rw [h, Bool.true_and]
    refine Ev.bind (slTemplate_ev b hb) (Ev.step (fun k => spec_IsSteeper.j0.eq_2 a b _ k) ?_)
    cases h1 : tmplOk b with
    | false => exact ev_pos rfl (ev_some rfl)
    | true => exact ev_neg (by simp) (sSteeper_l0 b a ha hb a.length 0 (by omega))
  · rw [Bool.not_eq_true] at h; rw [h]
    exact Ev.step (fun k => spec_IsSteeper.j0.eq_2 a b _ k) (ev_pos rfl (ev_some rfl))
theorem tmpl_of {t : List S86} (h1 : 1 ≤ t.length ∧ t.length ≤ 12) (h2 : ∀ o ∈ t, okO o = true) (h3 : t.Pairwise (fun a b => befO a b = true)) : tmplOk t = true := by
  unfold tmplOk
  rw [Bool.and_eq_true, decide_eq_true_eq, allR_iff]
  refine ⟨h1, fun j _ hj => ?_⟩
  unfold offAt
  rw [Bool.and_eq_true, Bool.or_eq_true, decide_eq_true_eq]
  refine ⟨h2 _ (getD_mem hj), ?_⟩
  by_cases h0 : j = 0
  · exact Or.inl h0
  · refine Or.inr ?_
    have := List.pairwise_iff_getElem.1 h3 (j - 1) j (by omega) hj (by omega)
    rw [List.getD_eq_getElem?_getD, List.getD_eq_getElem?_getD, List.getElem?_eq_getElem (show j - 1 < t.length by omega), List.getElem?_eq_getElem hj]
    exact this
theorem turn_ok {o : S86} (h : okO o = true) : okO (turnO o) = true := by
  have := okO_iff h
  unfold okO turnO
  rw [decide_eq_true_eq]
  simp only
  omega
theorem tmpl_size {t : List S86} (h : tmplOk t = true) : 1 ≤ t.length ∧ t.length ≤ 12 := by
  unfold tmplOk at h
  rw [Bool.and_eq_true, decide_eq_true_eq] at h
  exact h.1
theorem srt_tmpl {t : List S86} (h : tmplOk t = true) : tmplOk (srtL t) = true := by
  obtain ⟨h1, h2, h3⟩ := srtL_ok h
  have hs := tmpl_size h
  refine tmpl_of (by omega) (fun o ho => ?_) h2
  have hm := (h3 o).1 ho
  unfold turnL at hm
  obtain ⟨x, hx, rfl⟩ := List.mem_map.1 hm
  exact turn_ok ((tmpl_pairwise h).2.1 x hx)
theorem srt_mem {t : List S86} (h : tmplOk t = true) (v : S86) : v ∈ srtL t ↔ ∃ o ∈ t, turnO o = v := by
  rw [(srtL_ok h).2.2]
  unfold turnL
  exact List.mem_map
theorem turn4 (o : S86) : turnO (turnO (turnO (turnO o))) = o := by
  cases o
  unfold turnO
  simp only
  congr 1 <;> omega
theorem srt4 {t : List S86} (h : tmplOk t = true) : srtL (srtL (srtL (srtL t))) = t := by
  have h1 := srt_tmpl h
  have h2 := srt_tmpl h1
  have h3 := srt_tmpl h2
  refine rising_ext befO_asym (srtL_ok h3).2.1 (tmpl_pairwise h).2.2 (fun v => ?_)
  rw [srt_mem h3]
  constructor
  · rintro ⟨o, ho, rfl⟩
    obtain ⟨p, hp, rfl⟩ := (srt_mem h2 o).1 ho
    obtain ⟨q, hq, rfl⟩ := (srt_mem h1 p).1 hp
    obtain ⟨r, hr, rfl⟩ := (srt_mem h q).1 hq
    rw [turn4]
    exact hr
  · intro hv
    exact ⟨turnO (turnO (turnO v)), (srt_mem h2 _).2 ⟨turnO (turnO v), (srt_mem h1 _).2 ⟨turnO v, (srt_mem h _).2 ⟨v, hv, rfl⟩, rfl⟩, rfl⟩, turn4 v⟩
theorem sub_len : ∀ (a b : List S86), a.Pairwise (fun x y => x ≠ y) → (∀ x ∈ a, x ∈ b) → a.length ≤ b.length := by
  intro a
  induction a with
  | nil => intro b _ _; exact Nat.zero_le _
  | cons x a ih =>
    intro b hp hs
    rw [List.pairwise_cons] at hp
    obtain ⟨p, q, rfl⟩ := List.append_of_mem (hs x List.mem_cons_self)
    have := ih (p ++ q) hp.2 (fun y hy => by
      have h1 := hs y (List.mem_cons_of_mem _ hy)
      rw [List.mem_append, List.mem_cons] at h1
      rw [List.mem_append]
      rcases h1 with h1 | h1 | h1
      · exact Or.inl h1
      · exact absurd h1.symm (hp.1 y hy)
      · exact Or.inr h1)
    simp only [List.length_append, List.length_cons] at *
    omega
theorem hasO_mem {b : List S86} {o : S86} (h : hasO b o = true) : o ∈ b := by
  unfold hasO at h
  have h2 : ¬ allR (hasAt b o) 0 b.length = true := by simpa using h
  rw [allR_iff] at h2
  by_cases hm : o ∈ b
  · exact hm
  · refine absurd (fun j _ hj => ?_) h2
    unfold hasAt eqO
    have hne : o ≠ b.getD j z86 := fun e => hm (by rw [e]; exact getD_mem hj)
    cases ho : o
    cases hb : b.getD j z86
    rw [ho, hb] at hne
    simp only [Bool.not_eq_true', Bool.and_eq_false_iff, beq_eq_false_iff_ne]
    rename_i a1 a2 a3 b1 b2 b3
    by_cases c1 : a1 = b1
    · by_cases c2 : a2 = b2
      · by_cases c3 : a3 = b3
        · exact absurd (by rw [c1, c2, c3]) hne
        · exact Or.inr (Or.inr c3)
      · exact Or.inr (Or.inl c2)
    · exact Or.inl c1
theorem steep_len {a b : List S86} (ha : tmplOk a = true) (h : allHas b a = true) : a.length ≤ b.length := by
  refine sub_len a b ?_ (fun x hx => ?_)
  · exact (tmpl_pairwise ha).2.2.imp (fun {x y} hb he => by rw [he] at hb; have := befO_asym _ _ hb; rw [hb] at this; cases this)
  · unfold allHas at h
    rw [allR_iff] at h
    obtain ⟨j, hj, rfl⟩ := mem_getD (z := z86) hx
    exact hasO_mem (h j (Nat.zero_le _) hj)
deriving instance DecidableEq for S86
theorem std_turn {k : Int} (h : 1 ≤ k ∧ k ≤ 4) : tmplOk (OwnTemplateOf.tmpl k) = true ∧ srtL (OwnTemplateOf.tmpl k) = OwnTemplateOf.tmpl k := by
  have : k = 1 ∨ k = 2 ∨ k = 3 ∨ k = 4 := by omega
  rcases this with rfl | rfl | rfl | rfl <;> exact ⟨by kernel_rfl, by kernel_rfl⟩
/-- From some number of rounds on f tells a result with the property P. -/
def Tl {β : Type} (f : Nat → Option β) (P : β → Prop) : Prop := ∃ r, Ev f r ∧ P r
theorem Tl.bind {α β : Type} {f : Nat → Option α} {g : Nat → α → Option β} {P : α → Prop} {Q : β → Prop} (h : Tl f P) (hg : ∀ r, P r → Tl (fun k => g k r) Q) : Tl (fun k => (f k).bind (g k)) Q := by
  obtain ⟨r, e, p⟩ := h
  obtain ⟨s, e2, q⟩ := hg r p
  exact ⟨s, Ev.bind e e2, q⟩
theorem Tl.now {β : Type} {r : β} {P : β → Prop} (h : P r) : Tl (fun _ => some r) P := ⟨r, Ev.now r, h⟩
theorem Tl.const {β : Type} {o : Option β} {P : β → Prop} (h : ∃ r, o = some r ∧ P r) : Tl (fun _ => o) P := by
  obtain ⟨r, e, p⟩ := h
  exact ⟨r, ev_const e, p⟩
theorem Tl.pos {α : Type} {c : Prop} [Decidable c] {a b : Nat → Option α} {P : α → Prop} (h : c) (k : Tl a P) : Tl (fun n => if c then a n else b n) P := by
  simp only [if_pos h]; exact k
theorem Tl.neg {α : Type} {c : Prop} [Decidable c] {a b : Nat → Option α} {P : α → Prop} (h : ¬ c) (k : Tl b P) : Tl (fun n => if c then a n else b n) P := by
  simp only [if_neg h]; exact k
theorem Tl.ite {α : Type} {c : Prop} [Decidable c] {a b : Nat → Option α} {P : α → Prop} (h : c → Tl a P) (k : ¬ c → Tl b P) : Tl (fun n => if c then a n else b n) P := by
  by_cases hc : c
  · exact Tl.pos hc (h hc)
  · exact Tl.neg hc (k hc)
theorem Tl.step {α : Type} {g f : Nat → Option α} {P : α → Prop} (h : ∀ k, g (k + 1) = f k) (k : Tl f P) : Tl g P := by
  obtain ⟨r, e, p⟩ := k
  exact ⟨r, Ev.step h e, p⟩
theorem Tl.mono {α : Type} {f : Nat → Option α} {P Q : α → Prop} (h : Tl f P) (hq : ∀ r, P r → Q r) : Tl f Q := by
  obtain ⟨r, e, p⟩ := h
  exact ⟨r, e, hq r p⟩
theorem Tl.ev {α : Type} {f : Nat → Option α} {P : α → Prop} {r : α} (h : Ev f r) (p : P r) : Tl f P := ⟨r, h, p⟩

/-- The bytes that a drawing goes by. -/
def Bytes (s : List Int) : Prop := (∀ x ∈ s, 0 ≤ x ∧ x < 256) ∧ s.length ≤ 1048576
/-- Where the drawing stands. -/
abbrev At (a : Int) (n : Int) : Prop := 0 ≤ a ∧ a ≤ n
theorem u64_mod (n : Int) : IntKind.u64.wrap n = n % 18446744073709551616 := by simp [IntKind.wrap, IntKind.bits, IntKind.signed]
theorem low_byte (x : Int) (h0 : 0 ≤ x) (h1 : x < 16777216) : 0 ≤ Go.bits .and .u64 x 255 ∧ Go.bits .and .u64 x 255 < 256 := by
  have h := bits_mask .u64 24 (by decide) (fun n a b => by rw [u64_mod]; have : n < 16777216 := b; omega) 8 (by decide) x h0 h1
  rw [show ((2 : Int) ^ 8 - 1) = 255 from rfl] at h
  rw [h]
  have : (2 : Int) ^ 8 = 256 := rfl
  omega
theorem next_tl {s : List Int} (hs : Bytes s) (a d : Int) (ha : At a 1152921504606846976) : ∃ r, spec_l1Cur_next.f s a d = some r ∧ 0 ≤ r.1 ∧ r.1 < 256 ∧ r.2.1 = a + 1 := by
  have hw : wrap64 (a + 1) = a + 1 := w64 (by omega) (by omega)
  have hl := hs.2
  have hb : ∀ z : Int, 0 ≤ wrap64 (Go.bits .and .u64 (IntKind.u64.wrap z / 1099511627776) 255) ∧ wrap64 (Go.bits .and .u64 (IntKind.u64.wrap z / 1099511627776) 255) < 256 := by
    intro z
    rw [u64_mod]
    have h := low_byte (z % 18446744073709551616 / 1099511627776) (by omega) (by omega)
    rw [w64 (by omega) (by omega)]
    exact h
  unfold spec_l1Cur_next.f
  rw [hw]
  by_cases h : a < (s.length : Int)
  · have hr : 0 ≤ rd s a ∧ rd s a < 256 := hs.1 _ (by unfold rd; exact getD_mem (by omega))
    rw [if_pos h, if_pos ha.1]
    by_cases h2 : a + 1 ≤ (s.length : Int)
    · rw [if_pos h2]
      exact ⟨_, rfl, by show 0 ≤ wrap64 (rd s a); rw [w64 (by omega) (by omega)]; exact hr.1, by show wrap64 (rd s a) < 256; rw [w64 (by omega) (by omega)]; exact hr.2, rfl⟩
    · rw [if_neg h2]
      exact ⟨_, rfl, (hb _).1, (hb _).2, rfl⟩
  · rw [if_neg h]
    by_cases h2 : a + 1 ≤ (s.length : Int)
    · omega
    · rw [if_neg h2]
      exact ⟨_, rfl, (hb _).1, (hb _).2, rfl⟩
theorem pick_some {s : List Int} (hs : Bytes s) (a d n : Int) (ha : At a 576460752303423488) : ∃ r, spec_l1Cur_pick.f s a d n = some r ∧ 0 ≤ r.1 ∧ (r.1 < n ∨ r.1 = 0) ∧ a ≤ r.2.1 ∧ r.2.1 ≤ a + 2 := by
  unfold spec_l1Cur_pick.f
  by_cases h : n ≤ 1
  · rw [if_pos h]; exact ⟨_, rfl, Int.le_refl _, Or.inr rfl, Int.le_refl _, by show a ≤ a + 2; omega⟩
  · rw [if_neg h]
    obtain ⟨x, ex, x0, x1, xa⟩ := next_tl hs a d (by omega)
    rw [ex, Option.bind_some]
    by_cases h2 : n > 200
    · rw [if_pos h2]
      obtain ⟨y, ey, y0, y1, ya⟩ := next_tl hs x.2.1 x.2.2 (by omega)
      rw [ey, Option.bind_some, if_neg (by omega)]
      have e1 : wrap64 (x.1 * 256) = x.1 * 256 := w64 (by omega) (by omega)
      have e2 : wrap64 (x.1 * 256 + y.1) = x.1 * 256 + y.1 := w64 (by omega) (by omega)
      refine ⟨_, rfl, ?_, Or.inl ?_, ?_, ?_⟩
      · show 0 ≤ Int.tmod (wrap64 (wrap64 (x.1 * 256) + y.1)) n
        rw [e1, e2, Int.tmod_eq_emod_of_nonneg (by omega)]; exact Int.emod_nonneg _ (by omega)
      · show Int.tmod (wrap64 (wrap64 (x.1 * 256) + y.1)) n < n
        rw [e1, e2, Int.tmod_eq_emod_of_nonneg (by omega)]; exact Int.emod_lt_of_pos _ (by omega)
      · show a ≤ y.2.1; omega
      · show y.2.1 ≤ a + 2; omega
    · rw [if_neg h2, if_neg (by omega)]
      refine ⟨_, rfl, ?_, Or.inl ?_, ?_, ?_⟩
      · show 0 ≤ Int.tmod x.1 n
        rw [Int.tmod_eq_emod_of_nonneg (by omega)]; exact Int.emod_nonneg _ (by omega)
      · show Int.tmod x.1 n < n
        rw [Int.tmod_eq_emod_of_nonneg (by omega)]; exact Int.emod_lt_of_pos _ (by omega)
      · show a ≤ x.2.1; omega
      · show x.2.1 ≤ a + 2; omega
/-- pick(n) for n from 1 on -/
theorem pick_tl {s : List Int} (hs : Bytes s) (a d n : Int) (hn : 1 ≤ n) (ha : At a 576460752303423488) : Tl (fun _ => spec_l1Cur_pick.f s a d n) (fun r => (0 ≤ r.1 ∧ r.1 < n) ∧ a ≤ r.2.1 ∧ r.2.1 ≤ a + 2) := by
  obtain ⟨r, e, h0, h1, h2, h3⟩ := pick_some hs a d n ha
  exact Tl.const ⟨r, e, ⟨h0, by omega⟩, h2, h3⟩

theorem one_tl {s : List Int} (hs : Bytes s) (a d n : Int) (ha : At a 576460752303423488) : Tl (fun _ => spec_l1Cur_one.f s a d n) (fun r => a ≤ r.2.1 ∧ r.2.1 ≤ a + 2) := by
  unfold spec_l1Cur_one.f
  obtain ⟨r, e, h0, h1, h2, h3⟩ := pick_some hs a d n ha
  rw [e]
  exact Tl.const ⟨_, rfl, h2, h3⟩

theorem among_tl {s : List Int} (hs : Bytes s) (a d : Int) (l : List Int) (hl : 1 ≤ l.length) (ha : At a 576460752303423488) : Tl (fun _ => spec_l1Cur_among.f s a d l) (fun r => r.1 ∈ l ∧ a ≤ r.2.1 ∧ r.2.1 ≤ a + 2) := by
  unfold spec_l1Cur_among.f
  obtain ⟨r, e, h0, h1, h2, h3⟩ := pick_some hs a d (l.length : Int) ha
  rw [e]
  refine Tl.const ?_
  rw [Option.bind_some, if_pos h0, if_pos (by omega)]
  exact ⟨_, rfl, by show rd l r.1 ∈ l; unfold rd; exact getD_mem (by omega), h2, h3⟩
theorem tdraw_l0 {s : List Int} (a d : Int) : ∀ (m : Nat) (l : List S86), m ≤ 20 → l.length + m ≤ 100 → Tl (fun k => spec_l1Cur_template.l0 k l (m : Int) s a d) (fun r => r.1.length ≤ 100 ∧ a ≤ r.2.1 ∧ r.2.1 ≤ a + 2) := by
  intro m
  induction m with
  | zero =>
    intro l _ hl
    refine Tl.step (fun k => spec_l1Cur_template.l0.eq_2 l _ s a d k) (Tl.neg (by omega) (Tl.now ⟨by show l.length ≤ 100; omega, Int.le_refl _, by show a ≤ a + 2; omega⟩))
  | succ m ih =>
    intro l hm hl
    refine Tl.step (fun k => spec_l1Cur_template.l0.eq_2 l _ s a d k) (Tl.pos (by omega) (Tl.pos (by omega) ?_))
    rw [show wrap64 (((m + 1 : Nat) : Int) - 1) = (m : Int) by rw [w64 (by omega) (by omega)]; omega]
    exact ih _ (by omega) (by rw [List.length_append]; simp; omega)
theorem tdraw_tl {s : List Int} (hs : Bytes s) (a d : Int) (ha : At a 288230376151711744) : Tl (fun k => spec_l1Cur_template.f k s a d) (fun r => r.1.length ≤ 100 ∧ a ≤ r.2.1 ∧ r.2.1 ≤ a + 50) := by
  unfold spec_l1Cur_template.f
  refine Tl.bind (pick_tl hs a d 4 (by omega) (by omega)) (fun r1 p1 => ?_)
  have e1 : wrap64 (1 + r1.1) = 1 + r1.1 := w64 (by omega) (by omega)
  have hk : 1 ≤ wrap64 (1 + r1.1) ∧ wrap64 (1 + r1.1) ≤ 4 := by omega
  refine Tl.bind (Tl.ev (P := fun t => tmplOk t = true) (OwnTemplateOf.slStandard_ev _ hk) (std_turn hk).1) (fun t ht => ?_)
  have hts := tmpl_size ht
  refine Tl.bind (pick_tl hs _ _ 10 (by omega) (by omega)) (fun r2 p2 => ?_)
  refine Tl.ite (fun c => ?_) (fun c => ?_)
  · refine Tl.bind (pick_tl hs _ _ 5 (by omega) (by omega)) (fun r3 p3 => ?_)
    exact Tl.pos (by omega) (Tl.now ⟨by simp; omega, by show a ≤ r3.2.1; omega, by show r3.2.1 ≤ a + 50; omega⟩)
  refine Tl.ite (fun c => ?_) (fun c => ?_)
  · refine Tl.bind (pick_tl hs _ _ t.length (by omega) (by omega)) (fun r3 p3 => ?_)
    exact Tl.pos (by omega) (Tl.pos (by omega) (Tl.now ⟨by simp; omega, by show a ≤ r3.2.1; omega, by show r3.2.1 ≤ a + 50; omega⟩))
  refine Tl.ite (fun c => ?_) (fun c => ?_)
  · refine Tl.bind (one_tl hs _ _ 3 (by omega)) (fun r3 p3 => Tl.ite (fun c => ?_) (fun c => ?_))
    · refine Tl.bind (pick_tl hs _ _ t.length (by omega) (by omega)) (fun r4 p4 => Tl.bind (among_tl hs _ _ _ (by simp) (by omega)) (fun r5 p5 => ?_))
      exact Tl.pos (by omega) (Tl.pos (by omega) (Tl.now ⟨by simp; omega, by show a ≤ r5.2.1; omega, by show r5.2.1 ≤ a + 50; omega⟩))
    · exact Tl.now ⟨by show t.length ≤ 100; omega, by show a ≤ r3.2.1; omega, by show r3.2.1 ≤ a + 50; omega⟩
  refine Tl.ite (fun c => ?_) (fun c => ?_)
  · refine Tl.bind (one_tl hs _ _ 3 (by omega)) (fun r3 p3 => Tl.ite (fun c => ?_) (fun c => ?_))
    · refine Tl.bind (pick_tl hs _ _ t.length (by omega) (by omega)) (fun r4 p4 => Tl.bind (among_tl hs _ _ _ (by simp) (by omega)) (fun r5 p5 => ?_))
      exact Tl.pos (by omega) (Tl.pos (by omega) (Tl.now ⟨by simp; omega, by show a ≤ r5.2.1; omega, by show r5.2.1 ≤ a + 50; omega⟩))
    · exact Tl.now ⟨by show t.length ≤ 100; omega, by show a ≤ r3.2.1; omega, by show r3.2.1 ≤ a + 50; omega⟩
  refine Tl.ite (fun c => ?_) (fun c => ?_)
  · refine Tl.bind (one_tl hs _ _ 3 (by omega)) (fun r3 p3 => Tl.ite (fun c => ?_) (fun c => ?_))
    · refine Tl.bind (pick_tl hs _ _ 2 (by omega) (by omega)) (fun r4 p4 => ?_)
      obtain ⟨m, em⟩ := Int.eq_ofNat_of_zero_le (show 0 ≤ wrap64 (12 + r4.1) by rw [w64 (by omega) (by omega)]; omega)
      have hm : (m : Int) ≤ 13 := by rw [← em, w64 (by omega) (by omega)]; omega
      rw [em]
      refine (tdraw_l0 r4.2.1 r4.2.2 m [] (by omega) (by simp; omega)).mono (fun r h => ⟨h.1, by omega, by omega⟩)
    · exact Tl.now ⟨by show t.length ≤ 100; omega, by show a ≤ r3.2.1; omega, by show r3.2.1 ≤ a + 50; omega⟩
  refine Tl.ite (fun c => ?_) (fun c => ?_)
  · refine Tl.bind (one_tl hs _ _ 3 (by omega)) (fun r3 p3 => Tl.ite (fun c => ?_) (fun c => ?_))
    · exact Tl.now ⟨by simp, by show a ≤ r3.2.1; omega, by show r3.2.1 ≤ a + 50; omega⟩
    · exact Tl.now ⟨by show t.length ≤ 100; omega, by show a ≤ r3.2.1; omega, by show r3.2.1 ≤ a + 50; omega⟩
  · exact Tl.now ⟨by show t.length ≤ 100; omega, by show a ≤ r2.2.1; omega, by show r2.2.1 ≤ a + 50; omega⟩
end Go.Proofs.Ytpndghkfbojokaa.TplMath
