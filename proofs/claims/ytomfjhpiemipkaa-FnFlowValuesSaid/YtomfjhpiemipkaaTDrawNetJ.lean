/- Texts of this claim put together in one file. -/
import Derived.Test.YtomfjhpiemipkaaTBaseJ
import Derived.Test.YtomfjhpiemipkaaTWTab
import Derived.Test.YtomfjhpiemipkaaTWKept
import Derived.Test.YtomfjhpiemipkaaTMFnFlowValuesx1
import Derived.Test.YtomfjhpiemipkaaTOwnValue
import Derived.Test.YtomfjhpiemipkaaTMFnFlowValuesx0
section
/- What the drawing functions tell of networks: bounded numbers of nodes and edges; spec.DrawMendsFlow and spec.DrawCutValue, walked by hand. -/
namespace Go.Proofs.Ytomfjhpiemipkaa.DrawNet
open Go.RowKit Go.Proofs.Ytomfjhpiemipkaa.PFnFlowValues Go.Proofs.YtomfjhpiemipkaaW.PrintWords Go.Proofs.YtomfjhpiemipkaaW.PrintLast Go.Proofs.YtomfjhpiemipkaaW.PrintMore Go.Proofs.Ytomfjhpiemipkaa.B
set_option linter.unusedVariables false
set_option linter.unusedSimpArgs false
/-- From some number of rounds on f tells a result with the property P. -/
def Tl {β : Type} (f : Nat → Option β) (P : β → Prop) : Prop := ∃ r, Ev f r ∧ P r
theorem Tl.bind {α β : Type} {f : Nat → Option α} {g : Nat → α → Option β} {P : α → Prop} {Q : β → Prop} (h : Tl f P) (hg : ∀ r, P r → Tl (fun k => g k r) Q) : Tl (fun k => (f k).bind (g k)) Q := by
  obtain ⟨r, e, p⟩ := h
  obtain ⟨s, e2, q⟩ := hg r p
  exact ⟨s, Ev.bind e e2, q⟩
theorem Tl.now {β : Type} {r : β} {P : β → Prop} (h : P r) : Tl (fun _ => some r) P := ⟨r, Ev.now r, h⟩
theorem Tl.const {β : Type} {o : Option β} {P : β → Prop} (h : ∃ r, o = some r ∧ P r) : Tl (fun _ => o) P := by
  obtain ⟨r, e, p⟩ := h
  exact ⟨r, ev_const e, p⟩
theorem Tl.pos {α : Type} {c : Prop} [Decidable c] {a b : Nat → Option α} {P : α → Prop} (h : c) (k : Tl a P) : Tl (fun n => if c then a n else b n) P := by
  simp only [if_pos h]; exact k
theorem Tl.neg {α : Type} {c : Prop} [Decidable c] {a b : Nat → Option α} {P : α → Prop} (h : ¬ c) (k : Tl b P) : Tl (fun n => if c then a n else b n) P := by
  simp only [if_neg h]; exact k
theorem Tl.ite {α : Type} {c : Prop} [Decidable c] {a b : Nat → Option α} {P : α → Prop} (h : c → Tl a P) (k : ¬ c → Tl b P) : Tl (fun n => if c then a n else b n) P := by
  by_cases hc : c
  · exact Tl.pos hc (h hc)
  · exact Tl.neg hc (k hc)
theorem Tl.step {α : Type} {g f : Nat → Option α} {P : α → Prop} (h : ∀ k, g (k + 1) = f k) (k : Tl f P) : Tl g P := by
  obtain ⟨r, e, p⟩ := k
  exact ⟨r, Ev.step h e, p⟩
theorem Tl.mono {α : Type} {f : Nat → Option α} {P Q : α → Prop} (h : Tl f P) (hq : ∀ r, P r → Q r) : Tl f Q := by
  obtain ⟨r, e, p⟩ := h
  exact ⟨r, e, hq r p⟩
/-- The bytes that a drawing goes by. -/
def Bytes (s : List Int) : Prop := (∀ x ∈ s, 0 ≤ x ∧ x < 256) ∧ s.length ≤ 1048576
/-- Where the drawing stands. -/
abbrev At (a : Int) (n : Int) : Prop := 0 ≤ a ∧ a ≤ n
theorem u64_mod (n : Int) : IntKind.u64.wrap n = n % 18446744073709551616 := by simp [IntKind.wrap, IntKind.bits, IntKind.signed]
theorem low_byte (x : Int) (h0 : 0 ≤ x) (h1 : x < 16777216) : 0 ≤ Go.bits .and .u64 x 255 ∧ Go.bits .and .u64 x 255 < 256 := by
  have h := bits_mask .u64 24 (by decide) (fun n a b => by rw [u64_mod]; have : n < 16777216 := b; omega) 8 (by decide) x h0 h1
  rw [show ((2 : Int) ^ 8 - 1) = 255 from rfl] at h
  rw [h]
  have : (2 : Int) ^ 8 = 256 := rfl
  omega
theorem next_tl {s : List Int} (hs : Bytes s) (a d : Int) (ha : At a 1152921504606846976) : ∃ r, spec_l1Cur_next.f s a d = some r ∧ 0 ≤ r.1 ∧ r.1 < 256 ∧ r.2.1 = a + 1 := by
  have hw : wrap64 (a + 1) = a + 1 := w64 (by omega) (by omega)
  have hl := hs.2
  have hb : ∀ z : Int, 0 ≤ wrap64 (Go.bits .and .u64 (IntKind.u64.wrap z / 1099511627776) 255) ∧ wrap64 (Go.bits .and .u64 (IntKind.u64.wrap z / 1099511627776) 255) < 256 := by
    intro z
    rw [u64_mod]
    have h := low_byte (z % 18446744073709551616 / 1099511627776) (by omega) (by omega)
    rw [w64 (by omega) (by omega)]
    exact h
  unfold spec_l1Cur_next.f
  rw [hw]
  by_cases h : a < (s.length : Int)
  · have hr : 0 ≤ rd s a ∧ rd s a < 256 := hs.1 _ (by unfold rd; exact getD_mem (by omega))
    rw [if_pos h, if_pos ha.1]
    by_cases h2 : a + 1 ≤ (s.length : Int)
    · rw [if_pos h2]
      exact ⟨_, rfl, by show 0 ≤ wrap64 (rd s a); rw [w64 (by omega) (by omega)]; exact hr.1, by show wrap64 (rd s a) < 256; rw [w64 (by omega) (by omega)]; exact hr.2, rfl⟩
    · rw [if_neg h2]
      exact ⟨_, rfl, (hb _).1, (hb _).2, rfl⟩
  · rw [if_neg h]
    by_cases h2 : a + 1 ≤ (s.length : Int)
    · omega
    · rw [if_neg h2]
      exact ⟨_, rfl, (hb _).1, (hb _).2, rfl⟩
theorem pick_some {s : List Int} (hs : Bytes s) (a d n : Int) (ha : At a 576460752303423488) : ∃ r, spec_l1Cur_pick.f s a d n = some r ∧ 0 ≤ r.1 ∧ (r.1 < n ∨ r.1 = 0) ∧ a ≤ r.2.1 ∧ r.2.1 ≤ a + 2 := by
  unfold spec_l1Cur_pick.f
  by_cases h : n ≤ 1
  · rw [if_pos h]; exact ⟨_, rfl, Int.le_refl _, Or.inr rfl, Int.le_refl _, by show a ≤ a + 2; omega⟩
  · rw [if_neg h]
    obtain ⟨x, ex, x0, x1, xa⟩ := next_tl hs a d (by omega)
    rw [ex, Option.bind_some]
    by_cases h2 : n > 200
    · rw [if_pos h2]
      obtain ⟨y, ey, y0, y1, ya⟩ := next_tl hs x.2.1 x.2.2 (by omega)
      rw [ey, Option.bind_some, if_neg (by omega)]
      have e1 : wrap64 (x.1 * 256) = x.1 * 256 := w64 (by omega) (by omega)
      have e2 : wrap64 (x.1 * 256 + y.1) = x.1 * 256 + y.1 := w64 (by omega) (by omega)
      refine ⟨_, rfl, ?_, Or.inl ?_, ?_, ?_⟩
      · show 0 ≤ Int.tmod (wrap64 (wrap64 (x.1 * 256) + y.1)) n
        rw [e1, e2, Int.tmod_eq_emod_of_nonneg (by omega)]; exact Int.emod_nonneg _ (by omega)
      · show Int.tmod (wrap64 (wrap64 (x.1 * 256) + y.1)) n < n
        rw [e1, e2, Int.tmod_eq_emod_of_nonneg (by omega)]; exact Int.emod_lt_of_pos _ (by omega)
      · show a ≤ y.2.1; omega
      · show y.2.1 ≤ a + 2; omega
    · rw [if_neg h2, if_neg (by omega)]
      refine ⟨_, rfl, ?_, Or.inl ?_, ?_, ?_⟩
      · show 0 ≤ Int.tmod x.1 n
        rw [Int.tmod_eq_emod_of_nonneg (by omega)]; exact Int.emod_nonneg _ (by omega)
      · show Int.tmod x.1 n < n
        rw [Int.tmod_eq_emod_of_nonneg (by omega)]; exact Int.emod_lt_of_pos _ (by omega)
      · show a ≤ x.2.1; omega
      · show x.2.1 ≤ a + 2; omega
/-- pick(n) for n from 1 on -/
theorem pick_tl {s : List Int} (hs : Bytes s) (a d n : Int) (hn : 1 ≤ n) (ha : At a 576460752303423488) : Tl (fun _ => spec_l1Cur_pick.f s a d n) (fun r => (0 ≤ r.1 ∧ r.1 < n) ∧ a ≤ r.2.1 ∧ r.2.1 ≤ a + 2) := by
  obtain ⟨r, e, h0, h1, h2, h3⟩ := pick_some hs a d n ha
  exact Tl.const ⟨r, e, ⟨h0, by omega⟩, h2, h3⟩
theorem one_tl {s : List Int} (hs : Bytes s) (a d n : Int) (ha : At a 576460752303423488) : Tl (fun _ => spec_l1Cur_one.f s a d n) (fun r => a ≤ r.2.1 ∧ r.2.1 ≤ a + 2) := by
  unfold spec_l1Cur_one.f
  obtain ⟨r, e, h0, h1, h2, h3⟩ := pick_some hs a d n ha
  rw [e]
  exact Tl.const ⟨_, rfl, h2, h3⟩
theorem among_tl {s : List Int} (hs : Bytes s) (a d : Int) (l : List Int) (hl : 1 ≤ l.length) (ha : At a 576460752303423488) : Tl (fun _ => spec_l1Cur_among.f s a d l) (fun r => r.1 ∈ l ∧ a ≤ r.2.1 ∧ r.2.1 ≤ a + 2) := by
  unfold spec_l1Cur_among.f
  obtain ⟨r, e, h0, h1, h2, h3⟩ := pick_some hs a d (l.length : Int) ha
  rw [e]
  refine Tl.const ?_
  rw [Option.bind_some, if_pos h0, if_pos (by omega)]
  exact ⟨_, rfl, by show rd l r.1 ∈ l; unfold rd; exact getD_mem (by omega), h2, h3⟩
def NetP (a n : Int) (r : Int × List S99 × Int × Int) : Prop := (-1 ≤ r.1 ∧ r.1 ≤ 200) ∧ r.2.1.length ≤ 2100 ∧ a ≤ r.2.2.1 ∧ r.2.2.1 ≤ a + n
theorem NetP.up {a n b m : Int} {r : Int × List S99 × Int × Int} (h : NetP b m r) (h1 : a ≤ b) (h2 : b + m ≤ a + n) : NetP a n r := by
  unfold NetP at *
  omega
theorem net_l2 (s : List Int) (n x8 : Int) (h8 : x8 ≤ 2002) (a d : Int) (hn : -1 ≤ n ∧ n ≤ 200) : ∀ (q : Nat) (l : List S99), x8 ≤ l.length + q → l.length ≤ 2050 → Tl (fun k => spec_l1Cur_network.l2 k n l x8 s a d) (NetP a 0) := by
  intro q
  induction q with
  | zero =>
    intro l h1 h2
    exact Tl.step (fun k => spec_l1Cur_network.l2.eq_2 n l x8 s a d k) (Tl.neg (by omega) (Tl.now ⟨hn, by show l.length ≤ 2100; omega, Int.le_refl _, by show a ≤ a + 0; omega⟩))
  | succ q ih =>
    intro l h1 h2
    refine Tl.step (fun k => spec_l1Cur_network.l2.eq_2 n l x8 s a d k) (Tl.ite (fun c => ?_) (fun c => ?_))
    · refine Tl.pos (by omega) (ih _ (by rw [List.length_append]; simp only [List.length_singleton]; omega) (by rw [List.length_append]; simp only [List.length_singleton]; omega))
    · exact Tl.now ⟨hn, by show l.length ≤ 2100; omega, Int.le_refl _, by show a ≤ a + 0; omega⟩
theorem net_j2 {s : List Int} (hs : Bytes s) (n : Int) (hn : 2 ≤ n ∧ n ≤ 8) (l : List S99) (hl : l.length ≤ 100) (a d : Int) (ha : At a 288230376151711744) : Tl (fun k => spec_l1Cur_network.j2 k n l s a d) (NetP a 20) := by
  have w1 : wrap64 (n - 1) = n - 1 := w64 (by omega) (by omega)
  refine Tl.step (fun k => spec_l1Cur_network.j2.eq_2 n l s a d k) (Tl.bind (pick_tl hs _ _ 30 (by omega) (by omega)) (fun r p => ?_))
  have app : ∀ e : S99, (l ++ [e]).length ≤ 2100 := fun e => by rw [List.length_append]; simp only [List.length_singleton]; omega
  refine Tl.ite (fun c => ?_) (fun c => ?_)
  · refine Tl.bind (among_tl hs _ _ _ (by simp) (by omega)) (fun q h => Tl.now ⟨?_, by show l.length ≤ 2100; omega, by show a ≤ q.2.1; omega, by show q.2.1 ≤ a + 20; omega⟩)
    have hm := h.1
    simp only [List.mem_cons, List.not_mem_nil, or_false, w1] at hm
    show -1 ≤ q.1 ∧ q.1 ≤ 200
    omega
  refine Tl.ite (fun c => ?_) (fun c => ?_)
  · refine Tl.bind (among_tl hs _ _ _ (by simp) (by omega)) (fun q h => Tl.bind (among_tl hs _ _ _ (by simp) (by omega)) (fun u g => Tl.pos (by omega) (Tl.now ⟨?_, app _, by show a ≤ u.2.1; omega, by show u.2.1 ≤ a + 20; omega⟩)))
    show -1 ≤ n ∧ n ≤ 200
    omega
  refine Tl.ite (fun c => ?_) (fun c => ?_)
  · refine Tl.bind (among_tl hs _ _ _ (by simp) (by omega)) (fun u g => Tl.pos (by omega) (Tl.now ⟨?_, app _, by show a ≤ u.2.1; omega, by show u.2.1 ≤ a + 20; omega⟩))
    show -1 ≤ n ∧ n ≤ 200
    omega
  refine Tl.ite (fun c => ?_) (fun c => ?_)
  · refine Tl.bind (pick_tl hs _ _ 2 (by omega) (by omega)) (fun u g => Tl.pos (by omega) (Tl.now ⟨?_, app _, by show a ≤ u.2.1; omega, by show u.2.1 ≤ a + 20; omega⟩))
    show -1 ≤ wrap64 (130 + u.1) ∧ wrap64 (130 + u.1) ≤ 200
    rw [w64 (by omega) (by omega)]
    omega
  refine Tl.ite (fun c => ?_) (fun c => ?_)
  · refine Tl.bind (pick_tl hs _ _ 2 (by omega) (by omega)) (fun u g => ?_)
    have w2 : wrap64 (2000 + u.1) = 2000 + u.1 := w64 (by omega) (by omega)
    rw [w2]
    exact (net_l2 s n (2000 + u.1) (by omega) _ _ (by omega) 2002 l (by omega) (by omega)).mono (fun r h => h.up (by omega) (by omega))
  · exact Tl.now ⟨by show -1 ≤ n ∧ n ≤ 200; omega, by show l.length ≤ 2100; omega, by show a ≤ r.2.1; omega, by show r.2.1 ≤ a + 20; omega⟩
theorem net_l1 {s : List Int} (hs : Bytes s) (n : Int) (hn : 2 ≤ n ∧ n ≤ 8) : ∀ (q : Nat) (l : List S99) (x a d : Int), x + q = n → 1 ≤ x → l.length + q ≤ 100 → At a (288230376151711000 - 2 * (q : Int)) → Tl (fun k => spec_l1Cur_network.l1 k n l x s a d) (NetP a (20 + 2 * q)) := by
  intro q
  induction q with
  | zero =>
    intro l x a d h1 h2 h3 ha
    exact Tl.step (fun k => spec_l1Cur_network.l1.eq_2 n l x s a d k) (Tl.neg (by omega) ((net_j2 hs n hn l (by omega) a d (by omega)).mono (fun r h => h.up (by omega) (by omega))))
  | succ q ih =>
    intro l x a d h1 h2 h3 ha
    refine Tl.step (fun k => spec_l1Cur_network.l1.eq_2 n l x s a d k) (Tl.pos (by omega) (Tl.bind (pick_tl hs _ _ 9 (by omega) (by omega)) (fun r p => Tl.pos (by omega) ?_)))
    rw [show wrap64 (x + 1) = x + 1 from w64 (by omega) (by omega)]
    exact (ih _ (x + 1) r.2.1 r.2.2 (by omega) (by omega) (by rw [List.length_append]; simp only [List.length_singleton]; omega) (by omega)).mono (fun r2 h => h.up (by omega) (by omega))
theorem net_l0 {s : List Int} (hs : Bytes s) (n : Int) (hn : 2 ≤ n ∧ n ≤ 8) : ∀ (q : Nat) (l : List S99) (a d : Int), q ≤ 16 → l.length + q ≤ 50 → At a (288230376151710000 - 8 * (q : Int)) → Tl (fun k => spec_l1Cur_network.l0 k n l (q : Int) s a d) (NetP a (60 + 8 * q)) := by
  intro q
  induction q with
  | zero =>
    intro l a d h1 h3 ha
    refine Tl.step (fun k => spec_l1Cur_network.l0.eq_2 n l _ s a d k) (Tl.neg (by omega) (Tl.bind (one_tl hs _ _ 2 (by omega)) (fun r p => Tl.ite (fun c => ?_) (fun c => ?_))))
    · exact (net_l1 hs n hn (n - 1).toNat l 1 r.2.1 r.2.2 (by omega) (by omega) (by omega) (by omega)).mono (fun r2 h => h.up (by omega) (by omega))
    · exact (net_j2 hs n hn l (by omega) r.2.1 r.2.2 (by omega)).mono (fun r2 h => h.up (by omega) (by omega))
  | succ q ih =>
    intro l a d h1 h3 ha
    refine Tl.step (fun k => spec_l1Cur_network.l0.eq_2 n l _ s a d k) (Tl.pos (by omega) (Tl.bind (pick_tl hs _ _ n (by omega) (by omega)) (fun r1 p1 => Tl.bind (pick_tl hs _ _ n (by omega) (by omega)) (fun r2 p2 => Tl.bind (pick_tl hs _ _ 40 (by omega) (by omega)) (fun r3 p3 => Tl.bind (among_tl hs _ _ _ (by simp) (by omega)) (fun r4 p4 => Tl.pos (by omega) ?_))))))
    rw [show wrap64 (((q + 1 : Nat) : Int) - 1) = (q : Int) by rw [w64 (by omega) (by omega)]; omega]
    exact (ih _ r4.2.1 r4.2.2 (by omega) (by rw [List.length_append]; simp only [List.length_singleton]; omega) (by omega)).mono (fun r2 h => h.up (by omega) (by omega))
theorem network_tl {s : List Int} (hs : Bytes s) (a d : Int) (ha : At a 288230376151700000) : Tl (fun k => spec_l1Cur_network.f k s a d) (NetP a 300) := by
  unfold spec_l1Cur_network.f
  refine Tl.bind (pick_tl hs _ _ 7 (by omega) (by omega)) (fun r p => Tl.bind (pick_tl hs _ _ 16 (by omega) (by omega)) (fun r2 p2 => ?_))
  rw [show wrap64 (2 + r.1) = 2 + r.1 from w64 (by omega) (by omega)]
  obtain ⟨q, eq⟩ := Int.eq_ofNat_of_zero_le p2.1.1
  rw [eq]
  exact (net_l0 hs (2 + r.1) (by omega) q [] r2.2.1 r2.2.2 (by omega) (by simp only [List.length_nil]; omega) (by omega)).mono (fun r2 h => h.up (by omega) (by omega))
theorem inf3 : (Try.prog.info? 3).map (fun i => (i.zero, i.size, i.bytes)) = some (some (.int .i64 0), 1, 8) := by kernel_rfl
end Go.Proofs.Ytomfjhpiemipkaa.DrawNet
end
section
/- What the drawing functions of the law FnFlowValues tell: a network, and a list of flows of any kind; walked by hand. -/
namespace Go.Proofs.Ytomfjhpiemipkaa.DrawFlow
open Go.RowKit Go.Proofs.Ytomfjhpiemipkaa.PFnFlowValues Go.Proofs.YtomfjhpiemipkaaW.PrintWords Go.Proofs.YtomfjhpiemipkaaW.PrintLast Go.Proofs.YtomfjhpiemipkaaW.PrintMore Go.Proofs.Ytomfjhpiemipkaa.B Go.Proofs.Ytomfjhpiemipkaa.Flow Go.Proofs.Ytomfjhpiemipkaa.OwnPush Go.Proofs.Ytomfjhpiemipkaa.OwnLevels Go.Proofs.Ytomfjhpiemipkaa.OwnRun Go.Proofs.Ytomfjhpiemipkaa.OwnRows Go.Proofs.Ytomfjhpiemipkaa.OwnNet Go.Proofs.Ytomfjhpiemipkaa.OwnStart Go.Proofs.Ytomfjhpiemipkaa.OwnValue Go.Proofs.Ytomfjhpiemipkaa.DrawNet
set_option linter.unusedVariables false
set_option linter.unusedSimpArgs false
def okE (n : Int) (e : S99) : Bool := decide (0 ≤ e.f0 ∧ e.f0 < n ∧ 0 ≤ e.f1 ∧ e.f1 < n ∧ 0 ≤ e.f2 ∧ e.f2 ≤ 1000000000)
def netOk (n : Int) (l : List S99) : Bool := decide (2 ≤ n ∧ n ≤ 130 ∧ l.length ≤ 2000) && allR (fun j => okE n (l.getD j z99)) 0 l.length
theorem rdE (l : List S99) (i : Nat) : rd_T99 l (i : Int) = l.getD i z99 := by unfold rd_T99; rw [toNat_nat]
theorem netOk_iff {n : Int} {l : List S99} : netOk n l = true ↔ 2 ≤ n ∧ n ≤ 130 ∧ l.length ≤ 2000 ∧ ∀ j, j < l.length → okE n (l.getD j z99) = true := by
  unfold netOk
  rw [Bool.and_eq_true, decide_eq_true_eq, allR_iff]
  exact ⟨fun h => ⟨h.1.1, h.1.2.1, h.1.2.2, fun j hj => h.2 j (Nat.zero_le _) hj⟩, fun h => ⟨⟨h.1, h.2.1, h.2.2.1⟩, fun j _ hj => h.2.2.2 j hj⟩⟩
theorem okE_iff {n : Int} {e : S99} : okE n e = true ↔ 0 ≤ e.f0 ∧ e.f0 < n ∧ 0 ≤ e.f1 ∧ e.f1 < n ∧ 0 ≤ e.f2 ∧ e.f2 ≤ 1000000000 := by
  unfold okE; rw [decide_eq_true_eq]
def cutTerm (m : List Bool) (e : S99) : Int := if at_ m e.f0 = true then (if at_ m e.f1 = true then 0 else e.f2) else 0
def cutAt (m : List Bool) (l : List S99) (s : Int) (j : Nat) : Int := s + cutTerm m (l.getD j z99)
def cutSum (m : List Bool) (l : List S99) : Int := foldR (cutAt m l) 0 l.length 0
theorem cutTerm_bd {n : Int} {m : List Bool} {e : S99} (h : okE n e = true) : 0 ≤ cutTerm m e ∧ cutTerm m e ≤ 1000000000 := by
  rw [okE_iff] at h
  unfold cutTerm
  split
  · split <;> omega
  · omega
theorem cutAt_bd {n : Int} {m : List Bool} {l : List S99} (h : ∀ j, j < l.length → okE n (l.getD j z99) = true) (i : Nat) (hi : i ≤ l.length) : 0 ≤ foldR (cutAt m l) 0 i 0 ∧ foldR (cutAt m l) 0 i 0 ≤ 1000000000 * (i : Int) := by
  induction i with
  | zero => rw [foldR_end (Nat.le_refl _)]; omega
  | succ i ih =>
    have ih := ih (by omega)
    rw [foldR_last (Nat.zero_le _)]
    have := cutTerm_bd (m := m) (h i (by omega))
    unfold cutAt at *
    omega
def cutOk (n : Nat) (l : List Int) : Bool := asc l n && (at_ (mk n l) 0 && !(at_ (mk n l) ((n : Int) - 1)))
theorem l1In_eq (a b c : Int) : spec_l1In.f a b c = some (decide (b ≤ a ∧ a ≤ c)) := by
  unfold spec_l1In.f
  by_cases h : a ≥ b
  · rw [if_pos h]; simp [show b ≤ a from h]
  · rw [if_neg h]; simp [show ¬ b ≤ a from h]
theorem mfGood_l0 (n : Int) (hn : -9223372036854775808 ≤ n ∧ n ≤ 9223372036854775807) (l : List S99) (hl : l.length ≤ maxLen) : ∀ (d i : Nat), i + d = l.length →
    Ev (fun k => spec_mfGood.l0 k n l l (l.length : Int) (i : Int)) (decide (2 ≤ n ∧ n ≤ 130 ∧ l.length ≤ 2000) && allR (fun j => okE n (l.getD j z99)) i l.length) := by
  have hl := maxLen_le hl
  intro d
  induction d with
  | zero =>
    intro i hi
    refine Ev.step (fun k => spec_mfGood.l0.eq_2 n l l l.length i k) (ev_neg (by omega) (ev_bindc (l1In_eq _ _ _) (ev_ite (fun h => ev_some ?_) (fun h => ev_some ?_))))
    · rw [allR_end (by omega), Bool.and_true, decide_eq_decide]; simp only [decide_eq_true_eq] at h; omega
    · simp only [decide_eq_true_eq] at h; rw [decide_eq_false (by omega), Bool.false_and]
  | succ d ih =>
    intro i hi
    refine Ev.step (fun k => spec_mfGood.l0.eq_2 n l l l.length i k) ?_
    have hx : rd_T99 l (i : Int) = l.getD i z99 := by unfold rd_T99; rw [toNat_nat]
    rw [allR_step (by omega), w_succ (n := l.length) (by omega) (by omega), hx]
    generalize l.getD i z99 = e
    have no : (¬ (2 ≤ n ∧ n ≤ 130) ∨ okE n e = false) → false = (decide (2 ≤ n ∧ n ≤ 130 ∧ l.length ≤ 2000) && (okE n e && allR (fun j => okE n (l.getD j z99)) (i + 1) l.length)) := by
      rintro (h | h)
      · rw [decide_eq_false (by omega), Bool.false_and]
      · rw [h, Bool.false_and, Bool.and_false]
    by_cases hn0 : n = -9223372036854775808
    · subst hn0
      have hw : wrap64 (-9223372036854775808 - 1) = 9223372036854775807 := by unfold wrap64; omega
      have fin : Ev (fun k => spec_mfGood.l0 k (-9223372036854775808) l l (l.length : Int) ((i + 1 : Nat) : Int)) false := by
        have := ih (i + 1) (by omega)
        rwa [decide_eq_false (by omega), Bool.false_and] at this
      rw [hw]
      refine ev_pos (by omega) (ev_pos (by omega) (ev_pos (by omega) (ev_bindc (l1In_eq _ _ _) (ev_eq (no (.inl (by omega))) ?_))))
      refine ev_ite (fun h => ?_) (fun _ => ev_some rfl)
      refine ev_bindc (l1In_eq _ _ _) (ev_ite (fun h => ?_) (fun _ => ev_some rfl))
      exact ev_bindc (l1In_eq _ _ _) (ev_ite (fun h => fin) (fun _ => ev_some rfl))
    · rw [w64 (x := n - 1) (by omega) (by omega)]
      refine ev_pos (by omega) (ev_pos (by omega) (ev_pos (by omega) (ev_bindc (l1In_eq _ _ _) ?_)))
      refine ev_ite (fun h => ?_) (fun h => ev_some (no (.inr (by unfold okE; simp only [decide_eq_true_eq] at h; simp only [decide_eq_false_iff_not]; omega))))
      refine ev_bindc (l1In_eq _ _ _) (ev_ite (fun h1 => ?_) (fun h1 => ev_some (no (.inr (by unfold okE; simp only [decide_eq_true_eq] at h1; simp only [decide_eq_false_iff_not]; omega)))))
      refine ev_bindc (l1In_eq _ _ _) (ev_ite (fun h2 => ?_) (fun h2 => ev_some (no (.inr (by unfold okE; simp only [decide_eq_true_eq] at h2; simp only [decide_eq_false_iff_not]; omega)))))
      simp only [decide_eq_true_eq] at h h1 h2
      have : okE n e = true := by unfold okE; simp only [decide_eq_true_eq]; omega
      rw [this, Bool.true_and]; exact ih (i + 1) (by omega)
theorem mfGood_ev (n : Int) (hn : -9223372036854775808 ≤ n ∧ n ≤ 9223372036854775807) (l : List S99) (hl : l.length ≤ maxLen) : Ev (fun k => spec_mfGood.f k n l) (netOk n l) := by
  unfold spec_mfGood.f netOk
  exact mfGood_l0 n hn l hl l.length 0 (by omega)
theorem edges_ok {n : Nat} {l : List S99} (h : netOk (n : Int) l = true) : (2 ≤ n ∧ n ≤ 130) ∧ l.length ≤ 8000 ∧ ∀ j, j < l.length → edgeOk n (l.getD j z99) := by
  have hN := netOk_iff.1 h
  exact ⟨by omega, (by have := hN.2.2.1; omega), fun j hj => okE_iff.1 (hN.2.2.2 j hj)⟩
/-- spec.DrawIsNetwork -/
theorem drawNet (s : List Int) (hs : Bytes s) : ∃ (n : Int) (l : List S99), ((-1 ≤ n ∧ n ≤ 200) ∧ l.length ≤ 2100) ∧ ∀ (A0 : Option Addr) (c0 : Nat) (w : World), Kd.C (Kd.int .u8) w A0 s.length s → s.length ≤ c0 →
    Calls Try.prog 152 #[.slice A0 s.length c0] w fun e w' => ∃ A c, e = .returned (.tuple #[.int .i64 n, .slice A l.length c]) ∧ Kd.C k99 w' A l.length l ∧ l.length ≤ c ∧ Below w.heap.size w w' := by
  obtain ⟨⟨n, l, a1, d1⟩, hev, hn, hl, ha⟩ := network_tl hs 0 0 (by omega)
  simp only at hn hl
  obtain ⟨k1, hk1⟩ := hev.rounds
  refine ⟨n, l, ⟨hn, hl⟩, fun A0 c0 w h0 e0 => ?_⟩
  have HK1 := Aside0.mk hk1
  have H0 := Aside0.mk h0
  have hu := Try.underlying146
  clear hk1 h0 hn hl ha hev
  go_enter Try.func152, Try.ntmps152
  go_wp2_with (first | ((with_reducible refine gate_dst (N := 7) rfl ?_); refine box_event ?hg (N := 7) ?hd (cs := #[.slice A0 s.length c0, .int .i64 0, .int .u64 0]) (t := 146) ?hr ?_; (case hd => rfl); (case hg => rfl); (case hr => first | (go_simp; done) | (go_simp; rfl)); intro g1 hg w6 hbox hb; have HI : Aside0 (IsS146 w w6 g1 s 0 0) := ⟨⟨A0, c0, hbox, by rw [hg]; exact Nat.le_refl _, H0.out⟩⟩; have HB := Aside0.mk hb; clear hg hbox hb))
  refine (spec_l1Cur_network.calls k1 g1 s 0 0 n l a1 d1 w w6 HI.out HB.out HK1.out).mono ?_
  rintro e w7 ⟨v, rfl, ho, hi, hb, _⟩
  obtain ⟨A, c, rfl⟩ := Kd.R_slice ho
  have HO := Aside0.mk ho
  have HB2 := Aside0.mk hb
  clear ho hb hi HI HB
  go_wp2_with fail
  go_ret2
  exact ⟨A, c, rfl, (Kd.R_reads' HO.out).2.2, (Kd.R_reads' HO.out).2.1, HB2.out⟩
/-- spec.DrawGreatestFlow -/
theorem drawGF (s : List Int) (hs : Bytes s) : ∃ (n : Int) (l : List S99), ((-1 ≤ n ∧ n ≤ 200) ∧ l.length ≤ 2100) ∧ ∀ (A0 : Option Addr) (c0 : Nat) (w : World), Kd.C (Kd.int .u8) w A0 s.length s → s.length ≤ c0 →
    Calls Try.prog 72 #[.slice A0 s.length c0] w fun e w' => ∃ A c, e = .returned (.tuple #[.int .i64 n, .slice A l.length c]) ∧ Kd.C k99 w' A l.length l ∧ l.length ≤ c ∧ Below w.heap.size w w' := by
  obtain ⟨n, l, h1, h⟩ := drawNet s hs
  refine ⟨n, l, h1, fun A0 c0 w h0 e0 => ?_⟩
  have HH := Aside0.mk (h A0 c0 w h0 e0)
  clear h h0 e0 h1
  go_enter Try.func72, Try.ntmps72
  go_wp2_with fail
  refine HH.out.mono ?_
  rintro e w7 ⟨A, c, rfl, h1, h2, h3⟩
  have HQ := Aside0.mk h1
  have HC := Aside0.mk h2
  have HB2 := Aside0.mk h3
  clear h1 h2 h3 HH
  go_wp2_with fail
  go_ret2
  exact ⟨A, c, rfl, HQ.out, HC.out, HB2.out⟩
def spec_l1Cur_flowsOf_T14 : Bool × List (List Nat × List Nat) := (true, [([], []), ([], []), ([], []), ([2], [2]), ([1, 3], [1, 3]), ([0, 4], [0, 4]), ([5], [5]), ([], []), ([7, 4], [7]), ([8], [8]), ([6, 9], [6, 9]), ([0, 4, 0, 1, 2, 3, 4, 5, 6, 7, 8, 9, 10], [0, 4]), ([11, 10, 8, 0, 1, 2, 3, 4, 5, 6, 7, 8, 9, 10], [10, 11])])
def spec_l1Cur_flowsOf_B14 : List Nat := [0, 0, 0, 4, 14, 31, 63, 0, 158, 414, 1023, 2047, 4095]
theorem spec_l1Cur_flowsOf_tab14 : rtab .any (opsOf Try.f154 14) = spec_l1Cur_flowsOf_T14 := by kernel_rfl
theorem spec_l1Cur_flowsOf_bits14 : waitsOk spec_l1Cur_flowsOf_T14.2 spec_l1Cur_flowsOf_B14 = true := by kernel_rfl
set_option maxHeartbeats 8000000 in
set_option maxRecDepth 100000 in
/-- flowsOf: some list; nothing that was there before is written but the cursor's own block -/
theorem flowsOf_calls (s : List Int) (hs : Bytes s) (n : Int) (l : List S99) (hn : -1 ≤ n ∧ n ≤ 200) (hl : l.length ≤ 2100) (g : Nat) (po sd : Int) (hp : At po 100000) (A : Option Addr) (c : Nat) (w0 w : World) (hI : IsS146 w0 w g s po sd) (hB : Below w0.heap.size w0 w) (h1 : Kd.C k99 w A l.length l) (e1 : l.length ≤ c) :
    Calls Try.prog 154 #[.pointer (some ⟨g, 0, none⟩), .int .i64 n, .slice A l.length c] w fun e w' => ∃ (fs : List Int), ∃ Af cf, e = .returned (.slice Af fs.length cf) ∧ fs.length ≤ 3000 ∧ Kd.C (Kd.int .i64) w' Af fs.length fs ∧ fs.length ≤ cf ∧ Below w0.heap.size w0 w' ∧ KeepBut w w' g none := by
  obtain ⟨kg, hkg⟩ := (mfGood_ev n (by omega) l (maxLen_val (by omega))).rounds
  have hgl := IsS146.lt hI
  have HI := Aside0.mk hI
  have HB := Aside0.mk hB
  have H1 := Aside0.mk h1
  have E1 := Aside0.mk e1
  have HS := Aside0.mk hs
  have HLL := Aside0.mk hl
  have HPO := Aside0.mk hp
  have HGL := Aside0.mk hgl
  clear hI hB h1 e1 hs hgl hp
  cases hN : netOk n l with
  | false =>
    rw [hN] at hkg
    have HKG := Aside0.mk hkg
    clear hkg hN hl
    go_enter Try.func154, Try.ntmps154
    go_wp2_with fail
    refine (spec_mfGood.calls kg n A c l false w H1.out E1.out HKG.out).mono ?_
    rintro e w1 ⟨rfl, hd⟩
    have hb := hd
    have HB1 := Aside0.mk (below_step HB.out hb)
    have HK1 := Aside0.mk (KeepBut.of_below hb g none)
    clear hd hb
    go_wp2_with (first | ((with_reducible refine gate_dst (N := 16) rfl ?_); refine Kd.R_make (Kd.int .i64) _ 3 rfl (N := 16) rfl 24 _ _ rfl (l.length : Int) rfl rfl Try.underlying24 (.int .i64 0) 8 DrawNet.inf3 rfl (by decide) (by omega) 0 (ok := fun _ => True) (okp := fun _ => True) rfl (fun _ hk => hk) trivial (by omega) (by have := HLL.out; omega) (Below.refl _ _) (Nat.le_refl _) ?_; intro vb w7 ho8 hb hg_ hnew_; clear hg_ hnew_; rw [Int.toNat_natCast] at ho8; have HO := Aside0.mk ho8; have HB2 := Aside0.mk (below_step HB1.out hb); have HK2 := Aside0.mk (KeepBut.trans HK1.out (KeepBut.of_below hb g none) (.inl rfl)); clear hb ho8))
    go_ret
    obtain ⟨Af, cf, ef⟩ := Kd.R_slice HO.out
    subst ef
    exact ⟨List.replicate l.length 0, Af, cf, rfl, by rw [List.length_replicate]; have := HLL.out; omega, (Kd.R_reads' HO.out).2.2, (Kd.R_reads' HO.out).2.1, HB2.out, HK2.out⟩
  | true =>
    rw [hN] at hkg
    have HKG := Aside0.mk hkg
    obtain ⟨p, rfl⟩ : ∃ p : Nat, n = (p : Int) := ⟨n.toNat, by have := netOk_iff.1 hN; omega⟩
    have hE := edges_ok hN
    obtain ⟨x, hx⟩ := ran_ends p l hE.1.1 hE.2.2
    obtain ⟨kr, hkr⟩ := hx
    have N := net_of p l hE.1.1 hE.2.2
    have hT := run_told N (by omega) (by omega) kr 0 (leftL l) x hkr (flows_of p l hE.2.2)
    have HE := Aside0.mk hE
    have HKR := Aside0.mk hkr
    have HXL := Aside0.mk hT.1.good.1
    clear hkg hN hE hkr N hT
    go_enter Try.func154, Try.ntmps154
    go_wp2_with fail
    refine (spec_mfGood.calls kg p A c l true w H1.out E1.out HKG.out).mono ?_
    rintro e w1 ⟨rfl, hd⟩
    have hb := hd
    have HB1 := Aside0.mk (below_step HB.out hb)
    have HW1 := Aside0.mk hb
    have HI1 := Aside0.mk (IsS146.below HI.out hb)
    clear hd hb
    go_wp2_with fail
    refine (start_calls p A c l w1 (Kd.C_below H1.out HW1.out) E1.out HE.out.1 HE.out.2.1 (fun j hj => HE.out.2.2 j hj)).mono ?_
    rintro e ws ⟨pp, gf, cf, vT, vL, rfl, hpw, hb, hT, hL, hS, hBs⟩
    obtain ⟨At_, Al, ct, cl, rfl, rfl, hO, hR⟩ := obj_of hb hT hL hS
    have hbl : ∀ k, (Value.slice Al (2 * l.length) cl).ownBlock = some k → w1.heap.size ≤ k := Kd.R_base hL
    have HO := Aside0.mk hO
    have HR := Aside0.mk hR
    have HBS := Aside0.mk hBs
    have HBL := Aside0.mk hbl
    clear hb hT hL hS hBs hO hR hbl hpw
    go_wp2_with fail
    refine (run_calls (net_of p l HE.out.1.1 HE.out.2.2) HE.out.1.2 HE.out.2.1 rfl HO.out HR.out (flows_of p l HE.out.2.2) kr x HKR.out).mono ?_
    rintro e w2 ⟨rfl, hk2, hl2⟩
    have hW2 := Kp.whole HBS.out hk2 (fun k hk => HBL.out k hk.symm)
    have KP := Aside0.mk (HO.out.blk w2 hk2)
    have HLF := Aside0.mk (Kd.R_reads' hl2).2.2
    have HB2 := Aside0.mk (below_step HB1.out hW2)
    have HI2 := Aside0.mk (IsS146.below HI1.out hW2)
    have HK2 := Aside0.mk (KeepBut.trans (KeepBut.of_below HW1.out g none) (KeepBut.of_below hW2 g none) (.inl rfl))
    have HGW : Aside0 (g < w2.heap.size) := ⟨IsS146.lt HI2.out⟩
    clear hk2 hl2 hW2 HI1 HB1
    have HO8 : Aside0 (Kd.R (Kd.int .i64) 3 w2 w2.heap.size (fun k => w2.heap.size ≤ k) (.slice none 0 0) ([] : List Int)) := ⟨Kd.R_nil _ _ _ _ _⟩
    have HW2 := Aside0.mk (Below.refl w2.heap.size w2)
    go_wp2_with fail
    go_loopg [8, 24] l.length (fun q v8 v24 wr => ∃ (outs : List Int) (i : Int), v24 = .int .i64 i ∧ Aside0 ((0 ≤ i ∧ i + q = l.length) ∧ (outs.length : Int) = i) ∧ Aside0 (Kd.R (Kd.int .i64) 3 wr w2.heap.size (fun k => w2.heap.size ≤ k) v8 outs) ∧ Aside0 (Below w2.heap.size w2 wr))
    case atStart => exact ⟨[], 0, rfl, ⟨by omega, rfl⟩, HO8, HW2⟩
    case round =>
      clear HO8 HW2
      obtain ⟨outs, i, rfl, HX, HR8, HW⟩ := hrel
      cases gk with
      | succ q =>
        have hx := HX.out
        have t1 : decide (i < (l.length : Int)) = true := decide_eq_true (by omega)
        obtain ⟨j, ej⟩ : ∃ j : Int, j = 2 * i + 1 := ⟨_, rfl⟩
        have hw1 : wrap64 (2 * i) = 2 * i := w64 (by omega) (by omega)
        have hw2 : wrap64 (2 * i + 1) = j := by rw [ej]; exact w64 (by omega) (by omega)
        have hw3 : wrap64 (i + 1) = i + 1 := w64 (by omega) (by omega)
        have hc2 : wr.cell? ⟨pp, 2, none⟩ = some (.slice Al (2 * l.length) cl) := (blk_cell (blk_below KP.out HW.out) 2).trans rfl
        obtain ⟨L2, eL⟩ : ∃ L2, L2 = 2 * l.length := ⟨_, rfl⟩
        have hlf := Kd.C_below HLF.out HW.out
        rw [HXL.out, ← eL] at hlf
        rw [← eL] at hc2
        obtain ⟨ad, eA, hcell⟩ := Kd.at_int hlf j (by omega) (by omega)
        subst eA
        have q0 := eq_true (show (0 : Int) ≤ j by omega)
        have q1 := eq_true (show j < (L2 : Int) by omega)
        obtain ⟨y, ey⟩ : ∃ y, y = rd x.2.1 j := ⟨_, rfl⟩
        rw [← ey] at hcell
        clear hlf ey hx ej eL
        go_wp2_with (first | ((with_reducible refine gate_builtin (b := .append) (xs := #[.tmp 27, .tmp 37]) rfl ?_); at_builtin; refine Kd.R_append (Kd.int .i64) (w0 := w2) w2.heap.size rfl (.tmp 27) (.tmp 37) 24 3 (.int .i64 0) 8 rfl Try.underlying24 DrawNet.inf3 rfl (by decide) (by omega) u8 outs y [.int .i64 y] (fun k => w2.heap.size ≤ k) (fun _ => False) rfl rfl ?aP (fun _ hk => hk.elim) ?aF ?aO ?aB ?aS ?aL ?_; (case aP => exact rfl); (case aB => exact HW.out); (case aF => exact (fun k hk => Nat.le_trans HW.out.size hk)); (case aO => exact HR8.out); (case aS => exact HW.out.size); (case aL => have h1_ := HX.out; have h2_ := HLL.out; omega); intro v1 w10 ho hb hg hat; have n0_ := Aside0.mk hb; have n1_ := Aside0.mk ho; clear HW HR8; clear ho hb hg hat))
        go_roundg q
        case measure => omega
        case rel => exact ⟨outs ++ [y], i + 1, by first | rfl | rw [hw3], ⟨by have := HX.out; omega, by rw [List.length_append, List.length_singleton]; have := HX.out; omega⟩, n1_, n0_⟩
      | zero =>
        have t1 : decide (i < (l.length : Int)) = false := decide_eq_false (by have := HX.out; omega)
        have HI3 := Aside0.mk (IsS146.below HI2.out HW.out)
        have HB3 := Aside0.mk (below_step HB2.out HW.out)
        have HK3 := Aside0.mk (KeepBut.trans HK2.out (KeepBut.of_below HW.out g none) (.inl rfl))
        have HZ3 : Aside0 (w2.heap.size ≤ wr.heap.size) := ⟨HW.out.size⟩
        obtain ⟨A8, c8, e8⟩ := Kd.R_slice HR8.out
        subst e8
        obtain ⟨m, em⟩ : ∃ m, m = outs.length := ⟨_, rfl⟩
        rw [← em] at HR8
        have EM := Aside0.mk em
        have HML : Aside0 (m ≤ 2100) := ⟨by have := HX.out; have := HLL.out; omega⟩
        rw [← em]
        by_cases hm : 0 < m
        · have t2 : decide ((0 : Int) < (m : Int)) = true := decide_eq_true (by omega)
          have t2' : decide (0 < m) = true := decide_eq_true hm
          obtain ⟨⟨r, a2, d2⟩, hev2, h1, h2⟩ := pick_tl HS.out po sd 8 (by omega) (by have := HPO.out; omega)
          simp only at h1 h2
          obtain ⟨_, hk2⟩ := hev2.rounds
          have HKP := Aside0.mk hk2
          have HA2 := Aside0.mk (And.intro h1 h2)
          clear hk2 hev2 h1 h2 em HW
          go_wp2_with fail
          refine (spec_l1Cur_pick.calls g s po sd 8 r a2 d2 w0 wr HI3.out HB3.out HKP.out).mono ?_
          rintro e w4 ⟨rfl, hi, hb, hkp⟩
          have HR4 := Aside0.mk (Kd.R_keep HR8.out hkp (fun k hk => by have := HGW.out; omega))
          have HI4 := Aside0.mk hi
          have HB4 := Aside0.mk hb
          have HK4 := Aside0.mk (KeepBut.trans HK3.out hkp (.inl rfl))
          have HZ4 : Aside0 (w2.heap.size ≤ w4.heap.size) := ⟨Nat.le_trans HZ3.out (keep_size hkp)⟩
          clear hi hb hkp HI3 HB3 HK3 HR8 HZ3
          clear t1
          by_cases r0 : r = 0
          · subst r0
            obtain ⟨⟨j, a3, d3⟩, hev3, hj, h3⟩ := pick_tl HS.out a2 d2 (m : Int) (by omega) (by have := HPO.out; have := HA2.out; omega)
            simp only at hj h3
            obtain ⟨⟨x3, a4, d4⟩, hev4, hx4, _⟩ := pick_tl HS.out a3 d3 3 (by omega) (by have := HPO.out; have := HA2.out; omega)
            simp only at hx4
            obtain ⟨_, hk3⟩ := hev3.rounds
            obtain ⟨_, hk4⟩ := hev4.rounds
            have HK3_ := Aside0.mk hk3
            have HK4_ := Aside0.mk hk4
            obtain ⟨gr, cr, er, hgb, _, _⟩ := Kd.R_form HR4.out (by rw [← EM.out]; exact hm)
            injection er with er1 er2 er3
            subst er1
            have HGR : Aside0 (w2.heap.size ≤ gr) := ⟨HR4.out.1 gr rfl⟩
            have q0 := eq_true hj.1
            have q1 := eq_true hj.2
            have q2 : decide (j < (m : Int)) = true := decide_eq_true hj.2
            clear hev3 hev4 hj h3 hx4 hk3 hk4 er2 er3 hgb
            go_wp2_with fail
            have HI4 := Aside0.mk (IsS146.drew HI4.out)
            have HR4 := Aside0.mk (Kd.R_drew HR4.out)
            have HB4 := Aside0.mk (below_drew1 HB4.out)
            have HK4 := Aside0.mk (keep_drew HK4.out)
            obtain ⟨e0, f0⟩ := Kd.R_celln 0 HR4.out j (of_eq_true q0) (of_eq_true q1)
            obtain ⟨u, eu⟩ : ∃ u, u = rdOf 0 outs j := ⟨_, rfl⟩
            rw [← eu] at e0
            clear eu
            refine start_ (n := 13) (S := fun w' => w'.cell? ⟨gr, j.toNat, none⟩ = some (.int .i64 u)) (ds := [12]) (fl 13 0) (by kernel_rfl) rfl rfl (e0) (fun hHeld => ?_)
            refine with_tabW spec_l1Cur_flowsOf_tab14 spec_l1Cur_flowsOf_bits14 (fun HT_ HW_ => ?_)
            generalize w4.drew = wa at HI4 HR4 HB4 HK4 e0 f0 hHeld ⊢
            refine wp_in [(0, 47, 1, 0), (1, 48, 3, 0), (2, 49, 7, 0), (3, 50, 15, 0), (7, 54, 143, 0)] 13 ?_
            iterate 5 ((refine pn_ (oi := ?_) (v := ?_) (a' := ?_) HT_.out ?_ ?_ ?_ ?_ ?_ ?_ ?_ ?_; rotate_left 3; rfl; rfl; kernel_rfl; exact fun _ _ _ h => h; rfl; intro w'; go_simp; with_reducible rfl; simp only [Act.put, List.setIfInBounds_toArray, List.set_cons_zero, List.set_cons_succ, i64_w, i32_w]; rfl))
            refine wp_out ?_
            refine one_ (i := 4) (N := some 51) (fl 13 159) rfl rfl (one_of HT_.out (by kernel_rfl)) (by decide) (fun K hK => ?_)
            refine goes_ Try.func135 (by kernel_rfl) rfl #[.pointer (some ⟨g, 0, none⟩), .int .i64 m] (by rfl) rfl rfl (by (try simp only [List.map_toArray, List.map_cons, List.map_nil]); first | done | rfl | (simp only [List.length_drop, List.length_take]; rfl)) ?_
            refine (spec_l1Cur_pick.calls g s a2 d2 m j a3 d3 w0 wa HI4.out HB4.out HK3_.out).mono ?_
            rintro e wb ⟨rfl, hi, hb, hkp⟩
            refine ⟨_, rfl, ?_⟩
            have n0_ := Aside0.mk (Kd.R_keep HR4.out hkp (fun k hk => by have := HGW.out; omega))
            have n1_ := Aside0.mk hi
            have n2_ := Aside0.mk hb
            have n3_ := Aside0.mk (KeepBut.trans HK4.out hkp (.inl rfl))
            replace e0 := keep_cell hkp e0 (by have := HGW.out; have := HGR.out; show gr ≠ g; omega)
            clear HI4 HR4 HB4 HK4 hi hb hkp f0
            have HR4 := n0_
            have HI4 := n1_
            have HB4 := n2_
            have HK4 := n3_
            clear n0_ n1_ n2_ n3_
            refine hK.out _ _ e0 (fun hHeld => ?_)
            clear hK K
            refine wp_in [(5, 52, 191, 0), (6, 53, 255, 1)] 13 ?_
            iterate 2 (first | (refine pn_ (oi := ?_) (v := ?_) (a' := ?_) HT_.out ?_ ?_ ?_ ?_ ?_ ?_ ?_ ?_; rotate_left 3; rfl; rfl; kernel_rfl; exact fun _ _ _ h => h; rfl; intro w'; go_simp; with_reducible rfl; simp only [Act.put, List.setIfInBounds_toArray, List.set_cons_zero, List.set_cons_succ, i64_w, i32_w]; rfl) | (refine tn_ (oi := ?_) (v := ?_) (a' := ?_) HT_.out HW_.out hHeld ?_ ?_ ?_ ?_ ?_ ?_ ?_ ?_; rotate_left 3; rfl; rfl; kernel_rfl; exact fun _ _ _ h => h; rfl; intro w' s0; go_simp; with_reducible rfl; simp only [Act.put, List.setIfInBounds_toArray, List.set_cons_zero, List.set_cons_succ, i64_w, i32_w]; rfl))
            refine wp_out ?_
            refine one_ (i := 8) (N := some 55) (fl 13 511) rfl rfl (one_of HT_.out (by kernel_rfl)) (by decide) (fun K hK => ?_)
            refine goes_ Try.func135 (by kernel_rfl) rfl #[.pointer (some ⟨g, 0, none⟩), .int .i64 3] (by rfl) rfl rfl (by (try simp only [List.map_toArray, List.map_cons, List.map_nil]); first | done | rfl | (simp only [List.length_drop, List.length_take]; rfl)) ?_
            refine (spec_l1Cur_pick.calls g s a3 d3 3 x3 a4 d4 w0 wb HI4.out HB4.out HK4_.out).mono ?_
            rintro e wc ⟨rfl, hi, hb, hkp⟩
            refine ⟨_, rfl, ?_⟩
            have n0_ := Aside0.mk (Kd.R_keep HR4.out hkp (fun k hk => by have := HGW.out; omega))
            have n2_ := Aside0.mk hb
            have n3_ := Aside0.mk (KeepBut.trans HK4.out hkp (.inl rfl))
            replace e0 := keep_cell hkp e0 (by have := HGW.out; have := HGR.out; show gr ≠ g; omega)
            clear HI4 HR4 HB4 HK4 hi hb hkp
            have HR4 := n0_
            have HB4 := n2_
            have HK4 := n3_
            clear n0_ n2_ n3_
            have f0 := (Kd.R_celln 0 HR4.out j (of_eq_true q0) (of_eq_true q1)).2
            refine hK.out _ _ e0 (fun hHeld => ?_)
            clear hK K
            refine wp_in [(9, 56, 1023, 0), (10, 57, 2047, 0), (11, 58, 4095, 0)] 13 ?_
            iterate 3 ((refine pn_ (oi := ?_) (v := ?_) (a' := ?_) HT_.out ?_ ?_ ?_ ?_ ?_ ?_ ?_ ?_; rotate_left 3; rfl; rfl; kernel_rfl; exact fun _ _ _ h => h; rfl; intro w'; go_simp; with_reducible rfl; simp only [Act.put, List.setIfInBounds_toArray, List.set_cons_zero, List.set_cons_succ, i64_w, i32_w]; rfl))
            refine wp_out ?_
            refine last_ (i := 12) (N := none) (fl 13 8191) rfl rfl (one_of HT_.out (by kernel_rfl)) (by decide) (fun K hK => ?_)
            refine skip_ (w1 := ?_) (by rfl) rfl ?_ ?_
            rotate_left
            · go_simp
              rfl
            refine hK.out _ _ ?_
            clear hK K
            refine done_ (done_of HT_.out (by kernel_rfl)) ?_
            go_wp2
            go_ret
            obtain ⟨hR, hG⟩ := Kd.R_putg HR4.out j (wrap64 (u + wrap64 (x3 - 1)))
            exact ⟨outs.set j.toNat (wrap64 (u + wrap64 (x3 - 1))), some ⟨gr, 0, none⟩, c8, by rw [List.length_set, ← EM.out]; rfl, by rw [List.length_set]; have := HML.out; have := EM.out; omega, (Kd.R_reads' hR).2.2, by rw [List.length_set, ← EM.out]; exact (Kd.R_reads' hR).2.1, below_set HB4.out (Nat.le_trans (below_size HB2.out) HGR.out), KeepBut.trans HK4.out (KeepBut.of_grown hG g) (.inr ⟨gr, rfl, Nat.le_trans HK2.out.1 HGR.out⟩)⟩
          · have q0 : (r == 0) = false := beq_eq_false_iff_ne.mpr r0
            by_cases r1 : r = 1
            · subst r1
              obtain ⟨⟨b, a3, d3⟩, hev3, h1, h2⟩ := one_tl HS.out a2 d2 3 (by have := HPO.out; have := HA2.out; omega)
              obtain ⟨_, hk3⟩ := hev3.rounds
              have HK3_ := Aside0.mk hk3
              clear hk3 hev3 h1 h2 q0 r0
              go_wp2_with fail
              refine (spec_l1Cur_one.calls g s a2 d2 3 b a3 d3 w0 w4 HI4.out HB4.out HK3_.out).mono ?_
              rintro e w5 ⟨rfl, hi, hb, hkp⟩
              have HR5 := Aside0.mk (Kd.R_keep HR4.out hkp (fun k hk => by have := HGW.out; omega))
              have HB5 := Aside0.mk hb
              have HK5 := Aside0.mk (KeepBut.trans HK4.out hkp (.inl rfl))
              have HZ5 : Aside0 (w2.heap.size ≤ w5.heap.size) := ⟨Nat.le_trans HZ4.out (keep_size hkp)⟩
              clear hi hb hkp HI4 HB4 HK4 HR4
              cases b with
              | false =>
                go_wp2_with fail
                go_ret
                exact ⟨outs, A8, c8, by rw [← EM.out]; rfl, by have := HML.out; have := EM.out; omega, by have h := (Kd.R_reads' HR5.out).2.2; exact h, by have := (Kd.R_reads' HR5.out).2.1; have := EM.out; omega, HB5.out, HK5.out⟩
              | true =>
                go_wp2_with (first | ((with_reducible refine gate_builtin (b := .append) (xs := #[.tmp 63, .tmp 64]) rfl ?_); at_builtin; refine Kd.R_append (Kd.int .i64) (w0 := w0) w0.heap.size rfl (.tmp 63) (.tmp 64) 24 3 (.int .i64 0) 8 rfl Try.underlying24 DrawNet.inf3 rfl (by decide) (by omega) (.slice A8 m c8) outs 0 [.int .i64 0] (fun k => w2.heap.size ≤ k) (fun _ => False) rfl rfl ?aP (fun _ hk => hk.elim) ?aF ?aO ?aB ?aS ?aL ?_; (case aP => exact rfl); (case aB => exact HB5.out); (case aF => exact (fun k hk => Nat.le_trans HZ5.out hk)); (case aO => exact Kd.R_lower HR5.out (below_size HB2.out)); (case aS => exact below_size HB5.out); (case aL => have h1_ := HML.out; have h2_ := EM.out; omega); intro v1 w10 ho hb hg hat; have n0_ := Aside0.mk hb; have n1_ := Aside0.mk ho; have n2_ := Aside0.mk (KeepBut.trans HK5.out (KeepBut.of_grown hg g) ((Kd.R_base2 HR5.out).imp (fun h => h) (fun ⟨b, q1, q2⟩ => ⟨b, q1, Nat.le_trans HK2.out.1 q2⟩))); clear HB5 HR5 HK5 HZ5; clear ho hb hg hat))
                go_ret
                obtain ⟨Af, cf, ef⟩ := Kd.R_slice n1_.out
                subst ef
                exact ⟨outs ++ [0], Af, cf, rfl, by rw [List.length_append, List.length_singleton]; have := HML.out; have := EM.out; omega, (Kd.R_reads' n1_.out).2.2, (Kd.R_reads' n1_.out).2.1, n0_.out, n2_.out⟩
            · have q1 : (r == 1) = false := beq_eq_false_iff_ne.mpr r1
              clear r0 r1
              go_wp2_with fail
              go_ret
              exact ⟨outs, A8, c8, by rw [← EM.out]; rfl, by have := HML.out; have := EM.out; omega, (Kd.R_reads' HR4.out).2.2, by have := (Kd.R_reads' HR4.out).2.1; have := EM.out; omega, HB4.out, HK4.out⟩
        · have t2 : decide ((0 : Int) < (m : Int)) = false := decide_eq_false (by omega)
          have t2' : decide (0 < m) = false := decide_eq_false hm
          clear em
          go_wp2_with fail
          go_ret
          exact ⟨outs, A8, c8, by rw [← EM.out]; rfl, by have := HML.out; have := EM.out; omega, (Kd.R_reads' HR8.out).2.2, by have := (Kd.R_reads' HR8.out).2.1; have := EM.out; omega, HB3.out, HK3.out⟩
set_option maxHeartbeats 4000000 in
set_option maxRecDepth 100000 in
/-- spec.DrawIsFlow -/
theorem drawIF (s : List Int) (hs : Bytes s) : ∃ (n : Int) (l : List S99), ((-1 ≤ n ∧ n ≤ 200) ∧ l.length ≤ 2100) ∧ ∀ (A0 : Option Addr) (c0 : Nat) (w : World), Kd.C (Kd.int .u8) w A0 s.length s → s.length ≤ c0 →
    Calls Try.prog 76 #[.slice A0 s.length c0] w fun e w' => ∃ (fs : List Int), ∃ A c A' c', e = .returned (.tuple #[.int .i64 n, .slice A l.length c, .slice A' fs.length c']) ∧ fs.length ≤ 3000 ∧ (Kd.C k99 w' A l.length l ∧ l.length ≤ c) ∧ (Kd.C (Kd.int .i64) w' A' fs.length fs ∧ fs.length ≤ c') ∧ Below w.heap.size w w' := by
  obtain ⟨⟨n, l, a1, d1⟩, hev, hn, hl, ha⟩ := network_tl hs 0 0 (by omega)
  simp only at hn hl ha
  obtain ⟨k1, hk1⟩ := hev.rounds
  refine ⟨n, l, ⟨hn, hl⟩, fun A0 c0 w h0 e0 => ?_⟩
  have HK1 := Aside0.mk hk1
  have H0 := Aside0.mk h0
  have HS := Aside0.mk hs
  have HN := Aside0.mk (And.intro hn (And.intro hl ha))
  have hu := Try.underlying146
  clear hk1 h0 hn hl ha hev
  go_enter Try.func76, Try.ntmps76
  go_wp2_with (first | ((with_reducible refine gate_dst (N := 10) rfl ?_); refine box_event ?hg (N := 10) ?hd (cs := #[.slice A0 s.length c0, .int .i64 0, .int .u64 0]) (t := 146) ?hr ?_; (case hd => rfl); (case hg => rfl); (case hr => first | (go_simp; done) | (go_simp; rfl)); intro g1 hg w6 hbox hb; have HI : Aside0 (IsS146 w w6 g1 s 0 0) := ⟨⟨A0, c0, hbox, by rw [hg]; exact Nat.le_refl _, H0.out⟩⟩; have HB := Aside0.mk hb; clear hg hbox hb))
  refine (spec_l1Cur_network.calls k1 g1 s 0 0 n l a1 d1 w w6 HI.out HB.out HK1.out).mono ?_
  rintro e w7 ⟨v, rfl, ho, hi, hb, _⟩
  have HO := Aside0.mk (IsS146.apart hi ho (by decide))
  obtain ⟨A, c, rfl⟩ := Kd.R_slice ho
  have HB2 := Aside0.mk hb
  have HI2 := Aside0.mk hi
  clear ho hb hi HI HB
  go_wp2_with fail
  refine (flowsOf_calls s HS.out n l HN.out.1 HN.out.2.1 g1 a1 d1 (by have := HN.out.2.2; omega) A c w w7 HI2.out HB2.out (Kd.R_reads' HO.out).2.2 (Kd.R_reads' HO.out).2.1).mono ?_
  rintro e w8 ⟨fs, Af, cf, rfl, hfl, hfc, hfe, hb, hkp⟩
  have HO2 := Aside0.mk (Kd.R_keep HO.out hkp (fun _ h => h.2))
  have HF := Aside0.mk (And.intro hfl (And.intro hfc hfe))
  have HB3 := Aside0.mk hb
  clear hfl hfc hfe hb hkp HI2 HB2 HO
  go_wp2_with fail
  go_ret3
  exact ⟨fs, A, c, Af, cf, rfl, HF.out.1, ⟨(Kd.R_reads' HO2.out).2.2, (Kd.R_reads' HO2.out).2.1⟩, ⟨HF.out.2.1, HF.out.2.2⟩, HB3.out⟩
end Go.Proofs.Ytomfjhpiemipkaa.DrawFlow
end
