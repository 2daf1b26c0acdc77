/- What the drawing functions tell of networks: bounded numbers of nodes and edges; spec.DrawMendsFlow and spec.DrawCutValue, walked by hand. -/
import Derived.Test.YtomfjhpiemipkaaTBase
import Derived.Test.YtomfjhpiemipkaaTMarks
import Derived.Test.YtomfjhpiemipkaaTFold
import Derived.Test.YtomfjhpiemipkaaTWTab
import Derived.Test.YtomfjhpiemipkaaTWKept
import Derived.Test.YtomfjhpiemipkaaTMFnEdgesx1
namespace Go.Proofs.Ytomfjhpiemipkaa.DrawNet
open Go.RowKit Go.Proofs.Ytomfjhpiemipkaa.PFnEdges Go.Proofs.YtomfjhpiemipkaaW.PrintWords Go.Proofs.YtomfjhpiemipkaaW.PrintLast Go.Proofs.YtomfjhpiemipkaaW.PrintMore Go.Proofs.Ytomfjhpiemipkaa.B
set_option linter.unusedVariables false
set_option linter.unusedSimpArgs false
/-- From some number of rounds on f tells a result with the property P. -/
def Tl {β : Type} (f : Nat → Option β) (P : β → Prop) : Prop := ∃ r, Ev f r ∧ P r
theorem Tl.bind {α β : Type} {f : Nat → Option α} {g : Nat → α → Option β} {P : α → Prop} {Q : β → Prop} (h : Tl f P) (hg : ∀ r, P r → Tl (fun k => g k r) Q) : Tl (fun k => (f k).bind (g k)) Q := by
  obtain ⟨r, e, p⟩ := h
  obtain ⟨s, e2, q⟩ := hg r p
  exact ⟨s, Ev.bind e e2, q⟩
theorem Tl.now {β : Type} {r : β} {P : β → Prop} (h : P r) : Tl (fun _ => some r) P := ⟨r, Ev.now r, h⟩
theorem Tl.const {β : Type} {o : Option β} {P : β → Prop} (h : ∃ r, o = some r ∧ P r) : Tl (fun _ => o) P := by
  obtain ⟨r, e, p⟩ := h
  exact ⟨r, ev_const e, p⟩
theorem Tl.pos {α : Type} {c : Prop} [Decidable c] {a b : Nat → Option α} {P : α → Prop} (h : c) (k : Tl a P) : Tl (fun n => if c then a n else b n) P := by
  simp only [if_pos h]; exact k
theorem Tl.neg {α : Type} {c : Prop} [Decidable c] {a b : Nat → Option α} {P : α → Prop} (h : ¬ c) (k : Tl b P) : Tl (fun n => if c then a n else b n) P := by
  simp only [if_neg h]; exact k
theorem Tl.ite {α : Type} {c : Prop} [Decidable c] {a b : Nat → Option α} {P : α → Prop} (h : c → Tl a P) (k : ¬ c → Tl b P) : Tl (fun n => if c then a n else b n) P := by
  by_cases hc : c
  · exact Tl.pos hc (h hc)
  · exact Tl.neg hc (k hc)
theorem Tl.step {α : Type} {g f : Nat → Option α} {P : α → Prop} (h : ∀ k, g (k + 1) = f k) (k : Tl f P) : Tl g P := by
  obtain ⟨r, e, p⟩ := k
  exact ⟨r, Ev.step h e, p⟩
theorem Tl.mono {α : Type} {f : Nat → Option α} {P Q : α → Prop} (h : Tl f P) (hq : ∀ r, P r → Q r) : Tl f Q := by
  obtain ⟨r, e, p⟩ := h
  exact ⟨r, e, hq r p⟩
/-- The bytes that a drawing goes by. -/
def Bytes (s : List Int) : Prop := (∀ x ∈ s, 0 ≤ x ∧ x < 256) ∧ s.length ≤ 1048576
/-- Where the drawing stands. -/
abbrev At (a : Int) (n : Int) : Prop := 0 ≤ a ∧ a ≤ n
theorem u64_mod (n : Int) : IntKind.u64.wrap n = n % 18446744073709551616 := by simp [IntKind.wrap, IntKind.bits, IntKind.signed]
theorem low_byte (x : Int) (h0 : 0 ≤ x) (h1 : x < 16777216) : 0 ≤ Go.bits .and .u64 x 255 ∧ Go.bits .and .u64 x 255 < 256 := by
  have h := bits_mask .u64 24 (by decide) (fun n a b => by rw [u64_mod]; have : n < 16777216 := b; omega) 8 (by decide) x h0 h1
  rw [show ((2 : Int) ^ 8 - 1) = 255 from rfl] at h
  rw [h]
  have : (2 : Int) ^ 8 = 256 := rfl
  omega
theorem next_tl {s : List Int} (hs : Bytes s) (a d : Int) (ha : At a 1152921504606846976) : ∃ r, spec_l1Cur_next.f s a d = some r ∧ 0 ≤ r.1 ∧ r.1 < 256 ∧ r.2.1 = a + 1 := by
  have hw : wrap64 (a + 1) = a + 1 := w64 (by omega) (by omega)
  have hl := hs.2
  have hb : ∀ z : Int, 0 ≤ wrap64 (Go.bits .and .u64 (IntKind.u64.wrap z / 1099511627776) 255) ∧ wrap64 (Go.bits .and .u64 (IntKind.u64.wrap z / 1099511627776) 255) < 256 := by
    intro z
    rw [u64_mod]
    have h := low_byte (z % 18446744073709551616 / 1099511627776) (by omega) (by omega)
    rw [w64 (by omega) (by omega)]
    exact h
  unfold spec_l1Cur_next.f
  rw [hw]
  by_cases h : a < (s.length : Int)
  · have hr : 0 ≤ rd s a ∧ rd s a < 256 := hs.1 _ (by unfold rd; exact getD_mem (by omega))
    rw [if_pos h, if_pos ha.1]
    by_cases h2 : a + 1 ≤ (s.length : Int)
    · rw [if_pos h2]
      exact ⟨_, rfl, by show 0 ≤ wrap64 (rd s a); rw [w64 (by omega) (by omega)]; exact hr.1, by show wrap64 (rd s a) < 256; rw [w64 (by omega) (by omega)]; exact hr.2, rfl⟩
    · rw [if_neg h2]
      exact ⟨_, rfl, (hb _).1, (hb _).2, rfl⟩
  · rw [if_neg h]
    by_cases h2 : a + 1 ≤ (s.length : Int)
    · omega
    · rw [if_neg h2]
      exact ⟨_, rfl, (hb _).1, (hb _).2, rfl⟩
theorem pick_some {s : List Int} (hs : Bytes s) (a d n : Int) (ha : At a 576460752303423488) : ∃ r, spec_l1Cur_pick.f s a d n = some r ∧ 0 ≤ r.1 ∧ (r.1 < n ∨ r.1 = 0) ∧ a ≤ r.2.1 ∧ r.2.1 ≤ a + 2 := by
  unfold spec_l1Cur_pick.f
  by_cases h : n ≤ 1
  · rw [if_pos h]; exact ⟨_, rfl, Int.le_refl _, Or.inr rfl, Int.le_refl _, by show a ≤ a + 2; omega⟩
  · rw [if_neg h]
    obtain ⟨x, ex, x0, x1, xa⟩ := next_tl hs a d (by omega)
    rw [ex, Option.bind_some]
    by_cases h2 : n > 200
    · rw [if_pos h2]
      obtain ⟨y, ey, y0, y1, ya⟩ := next_tl hs x.2.1 x.2.2 (by omega)
      rw [ey, Option.bind_some, if_neg (by omega)]
      have e1 : wrap64 (x.1 * 256) = x.1 * 256 := w64 (by omega) (by omega)
      have e2 : wrap64 (x.1 * 256 + y.1) = x.1 * 256 + y.1 := w64 (by omega) (by omega)
      refine ⟨_, rfl, ?_, Or.inl ?_, ?_, ?_⟩
      · show 0 ≤ Int.tmod (wrap64 (wrap64 (x.1 * 256) + y.1)) n
        rw [e1, e2, Int.tmod_eq_emod_of_nonneg (by omega)]; exact Int.emod_nonneg _ (by omega)
      · show Int.tmod (wrap64 (wrap64 (x.1 * 256) + y.1)) n < n
        rw [e1, e2, Int.tmod_eq_emod_of_nonneg (by omega)]; exact Int.emod_lt_of_pos _ (by omega)
      · show a ≤ y.2.1; omega
      · show y.2.1 ≤ a + 2; omega
    · rw [if_neg h2, if_neg (by omega)]
      refine ⟨_, rfl, ?_, Or.inl ?_, ?_, ?_⟩
      · show 0 ≤ Int.tmod x.1 n
        rw [Int.tmod_eq_emod_of_nonneg (by omega)]; exact Int.emod_nonneg _ (by omega)
      · show Int.tmod x.1 n < n
        rw [Int.tmod_eq_emod_of_nonneg (by omega)]; exact Int.emod_lt_of_pos _ (by omega)
      · show a ≤ x.2.1; omega
      · show x.2.1 ≤ a + 2; omega
/-- pick(n) for n from 1 on -/
theorem pick_tl {s : List Int} (hs : Bytes s) (a d n : Int) (hn : 1 ≤ n) (ha : At a 576460752303423488) : Tl (fun _ => spec_l1Cur_pick.f s a d n) (fun r => (0 ≤ r.1 ∧ r.1 < n) ∧ a ≤ r.2.1 ∧ r.2.1 ≤ a + 2) := by
  obtain ⟨r, e, h0, h1, h2, h3⟩ := pick_some hs a d n ha
  exact Tl.const ⟨r, e, ⟨h0, by omega⟩, h2, h3⟩
theorem one_tl {s : List Int} (hs : Bytes s) (a d n : Int) (ha : At a 576460752303423488) : Tl (fun _ => spec_l1Cur_one.f s a d n) (fun r => a ≤ r.2.1 ∧ r.2.1 ≤ a + 2) := by
  unfold spec_l1Cur_one.f
  obtain ⟨r, e, h0, h1, h2, h3⟩ := pick_some hs a d n ha
  rw [e]
  exact Tl.const ⟨_, rfl, h2, h3⟩
theorem among_tl {s : List Int} (hs : Bytes s) (a d : Int) (l : List Int) (hl : 1 ≤ l.length) (ha : At a 576460752303423488) : Tl (fun _ => spec_l1Cur_among.f s a d l) (fun r => r.1 ∈ l ∧ a ≤ r.2.1 ∧ r.2.1 ≤ a + 2) := by
  unfold spec_l1Cur_among.f
  obtain ⟨r, e, h0, h1, h2, h3⟩ := pick_some hs a d (l.length : Int) ha
  rw [e]
  refine Tl.const ?_
  rw [Option.bind_some, if_pos h0, if_pos (by omega)]
  exact ⟨_, rfl, by show rd l r.1 ∈ l; unfold rd; exact getD_mem (by omega), h2, h3⟩
def NetP (a n : Int) (r : Int × List S99 × Int × Int) : Prop := (-1 ≤ r.1 ∧ r.1 ≤ 200) ∧ r.2.1.length ≤ 2100 ∧ a ≤ r.2.2.1 ∧ r.2.2.1 ≤ a + n
theorem NetP.up {a n b m : Int} {r : Int × List S99 × Int × Int} (h : NetP b m r) (h1 : a ≤ b) (h2 : b + m ≤ a + n) : NetP a n r := by
  unfold NetP at *
  omega
theorem net_l2 (s : List Int) (n x8 : Int) (h8 : x8 ≤ 2002) (a d : Int) (hn : -1 ≤ n ∧ n ≤ 200) : ∀ (q : Nat) (l : List S99), x8 ≤ l.length + q → l.length ≤ 2050 → Tl (fun k => spec_l1Cur_network.l2 k n l x8 s a d) (NetP a 0) := by
  intro q
  induction q with
  | zero =>
    intro l h1 h2
    exact Tl.step (fun k => spec_l1Cur_network.l2.eq_2 n l x8 s a d k) (Tl.neg (by omega) (Tl.now ⟨hn, by show l.length ≤ 2100; omega, Int.le_refl _, by show a ≤ a + 0; omega⟩))
  | succ q ih =>
    intro l h1 h2
    refine Tl.step (fun k => spec_l1Cur_network.l2.eq_2 n l x8 s a d k) (Tl.ite (fun c => ?_) (fun c => ?_))
    · refine Tl.pos (by omega) (ih _ (by rw [List.length_append]; simp only [List.length_singleton]; omega) (by rw [List.length_append]; simp only [List.length_singleton]; omega))
    · exact Tl.now ⟨hn, by show l.length ≤ 2100; omega, Int.le_refl _, by show a ≤ a + 0; omega⟩
theorem net_j2 {s : List Int} (hs : Bytes s) (n : Int) (hn : 2 ≤ n ∧ n ≤ 8) (l : List S99) (hl : l.length ≤ 100) (a d : Int) (ha : At a 288230376151711744) : Tl (fun k => spec_l1Cur_network.j2 k n l s a d) (NetP a 20) := by
  have w1 : wrap64 (n - 1) = n - 1 := w64 (by omega) (by omega)
  refine Tl.step (fun k => spec_l1Cur_network.j2.eq_2 n l s a d k) (Tl.bind (pick_tl hs _ _ 30 (by omega) (by omega)) (fun r p => ?_))
  have app : ∀ e : S99, (l ++ [e]).length ≤ 2100 := fun e => by rw [List.length_append]; simp only [List.length_singleton]; omega
  refine Tl.ite (fun c => ?_) (fun c => ?_)
  · refine Tl.bind (among_tl hs _ _ _ (by simp) (by omega)) (fun q h => Tl.now ⟨?_, by show l.length ≤ 2100; omega, by show a ≤ q.2.1; omega, by show q.2.1 ≤ a + 20; omega⟩)
    have hm := h.1
    simp only [List.mem_cons, List.not_mem_nil, or_false, w1] at hm
    show -1 ≤ q.1 ∧ q.1 ≤ 200
    omega
  refine Tl.ite (fun c => ?_) (fun c => ?_)
  · refine Tl.bind (among_tl hs _ _ _ (by simp) (by omega)) (fun q h => Tl.bind (among_tl hs _ _ _ (by simp) (by omega)) (fun u g => Tl.pos (by omega) (Tl.now ⟨?_, app _, by show a ≤ u.2.1; omega, by show u.2.1 ≤ a + 20; omega⟩)))
    show -1 ≤ n ∧ n ≤ 200
    omega
  refine Tl.ite (fun c => ?_) (fun c => ?_)
  · refine Tl.bind (among_tl hs _ _ _ (by simp) (by omega)) (fun u g => Tl.pos (by omega) (Tl.now ⟨?_, app _, by show a ≤ u.2.1; omega, by show u.2.1 ≤ a + 20; omega⟩))
    show -1 ≤ n ∧ n ≤ 200
    omega
  refine Tl.ite (fun c => ?_) (fun c => ?_)
  · refine Tl.bind (pick_tl hs _ _ 2 (by omega) (by omega)) (fun u g => Tl.pos (by omega) (Tl.now ⟨?_, app _, by show a ≤ u.2.1; omega, by show u.2.1 ≤ a + 20; omega⟩))
    show -1 ≤ wrap64 (130 + u.1) ∧ wrap64 (130 + u.1) ≤ 200
    rw [w64 (by omega) (by omega)]
    omega
  refine Tl.ite (fun c => ?_) (fun c => ?_)
  · refine Tl.bind (pick_tl hs _ _ 2 (by omega) (by omega)) (fun u g => ?_)
    have w2 : wrap64 (2000 + u.1) = 2000 + u.1 := w64 (by omega) (by omega)
    rw [w2]
    exact (net_l2 s n (2000 + u.1) (by omega) _ _ (by omega) 2002 l (by omega) (by omega)).mono (fun r h => h.up (by omega) (by omega))
  · exact Tl.now ⟨by show -1 ≤ n ∧ n ≤ 200; omega, by show l.length ≤ 2100; omega, by show a ≤ r.2.1; omega, by show r.2.1 ≤ a + 20; omega⟩
theorem net_l1 {s : List Int} (hs : Bytes s) (n : Int) (hn : 2 ≤ n ∧ n ≤ 8) : ∀ (q : Nat) (l : List S99) (x a d : Int), x + q = n → 1 ≤ x → l.length + q ≤ 100 → At a (288230376151711000 - 2 * (q : Int)) → Tl (fun k => spec_l1Cur_network.l1 k n l x s a d) (NetP a (20 + 2 * q)) := by
  intro q
  induction q with
  | zero =>
    intro l x a d h1 h2 h3 ha
    exact Tl.step (fun k => spec_l1Cur_network.l1.eq_2 n l x s a d k) (Tl.neg (by omega) ((net_j2 hs n hn l (by omega) a d (by omega)).mono (fun r h => h.up (by omega) (by omega))))
  | succ q ih =>
    intro l x a d h1 h2 h3 ha
    refine Tl.step (fun k => spec_l1Cur_network.l1.eq_2 n l x s a d k) (Tl.pos (by omega) (Tl.bind (pick_tl hs _ _ 9 (by omega) (by omega)) (fun r p => Tl.pos (by omega) ?_)))
    rw [show wrap64 (x + 1) = x + 1 from w64 (by omega) (by omega)]
    exact (ih _ (x + 1) r.2.1 r.2.2 (by omega) (by omega) (by rw [List.length_append]; simp only [List.length_singleton]; omega) (by omega)).mono (fun r2 h => h.up (by omega) (by omega))
theorem net_l0 {s : List Int} (hs : Bytes s) (n : Int) (hn : 2 ≤ n ∧ n ≤ 8) : ∀ (q : Nat) (l : List S99) (a d : Int), q ≤ 16 → l.length + q ≤ 50 → At a (288230376151710000 - 8 * (q : Int)) → Tl (fun k => spec_l1Cur_network.l0 k n l (q : Int) s a d) (NetP a (60 + 8 * q)) := by
  intro q
  induction q with
  | zero =>
    intro l a d h1 h3 ha
    refine Tl.step (fun k => spec_l1Cur_network.l0.eq_2 n l _ s a d k) (Tl.neg (by omega) (Tl.bind (one_tl hs _ _ 2 (by omega)) (fun r p => Tl.ite (fun c => ?_) (fun c => ?_))))
    · exact (net_l1 hs n hn (n - 1).toNat l 1 r.2.1 r.2.2 (by omega) (by omega) (by omega) (by omega)).mono (fun r2 h => h.up (by omega) (by omega))
    · exact (net_j2 hs n hn l (by omega) r.2.1 r.2.2 (by omega)).mono (fun r2 h => h.up (by omega) (by omega))
  | succ q ih =>
    intro l a d h1 h3 ha
    refine Tl.step (fun k => spec_l1Cur_network.l0.eq_2 n l _ s a d k) (Tl.pos (by omega) (Tl.bind (pick_tl hs _ _ n (by omega) (by omega)) (fun r1 p1 => Tl.bind (pick_tl hs _ _ n (by omega) (by omega)) (fun r2 p2 => Tl.bind (pick_tl hs _ _ 40 (by omega) (by omega)) (fun r3 p3 => Tl.bind (among_tl hs _ _ _ (by simp) (by omega)) (fun r4 p4 => Tl.pos (by omega) ?_))))))
    rw [show wrap64 (((q + 1 : Nat) : Int) - 1) = (q : Int) by rw [w64 (by omega) (by omega)]; omega]
    exact (ih _ r4.2.1 r4.2.2 (by omega) (by rw [List.length_append]; simp only [List.length_singleton]; omega) (by omega)).mono (fun r2 h => h.up (by omega) (by omega))
theorem network_tl {s : List Int} (hs : Bytes s) (a d : Int) (ha : At a 288230376151700000) : Tl (fun k => spec_l1Cur_network.f k s a d) (NetP a 300) := by
  unfold spec_l1Cur_network.f
  refine Tl.bind (pick_tl hs _ _ 7 (by omega) (by omega)) (fun r p => Tl.bind (pick_tl hs _ _ 16 (by omega) (by omega)) (fun r2 p2 => ?_))
  rw [show wrap64 (2 + r.1) = 2 + r.1 from w64 (by omega) (by omega)]
  obtain ⟨q, eq⟩ := Int.eq_ofNat_of_zero_le p2.1.1
  rw [eq]
  exact (net_l0 hs (2 + r.1) (by omega) q [] r2.2.1 r2.2.2 (by omega) (by simp only [List.length_nil]; omega) (by omega)).mono (fun r2 h => h.up (by omega) (by omega))
theorem inf3 : (Try.prog.info? 3).map (fun i => (i.zero, i.size, i.bytes)) = some (some (.int .i64 0), 1, 8) := by kernel_rfl
/-- spec.DrawMendsFlow -/
theorem drawMends (s : List Int) (hs : Bytes s) : ∃ (n : Int) (l : List S99) (k : Int), ((-1 ≤ n ∧ n ≤ 200) ∧ l.length ≤ 2100 ∧ -3000 ≤ k ∧ k ≤ 3000) ∧ ∀ (A0 : Option Addr) (c0 : Nat) (w : World), Kd.C (Kd.int .u8) w A0 s.length s → s.length ≤ c0 →
    Calls Try.prog 59 #[.slice A0 s.length c0] w fun e w' => ∃ A c, e = .returned (.tuple #[.int .i64 n, .slice A l.length c, .int .i64 k]) ∧ Kd.C k99 w' A l.length l ∧ l.length ≤ c ∧ Below w.heap.size w w' := by
  obtain ⟨⟨n, l, a1, d1⟩, hev, hn, hl, ha⟩ := network_tl hs 0 0 (by omega)
  simp only at hn hl ha
  obtain ⟨⟨x, a2, d2⟩, hev2, hx, ha2⟩ := pick_tl hs a1 d1 ((l.length : Int) + 1) (by omega) (by omega)
  simp only at hx ha2
  obtain ⟨⟨y, a3, d3⟩, hev3, hy, _⟩ := pick_tl hs a2 d2 20 (by omega) (by omega)
  simp only at hy
  obtain ⟨k1, hk1⟩ := hev.rounds
  obtain ⟨_, hk2⟩ := hev2.rounds
  obtain ⟨_, hk3⟩ := hev3.rounds
  have ht : 0 ≤ Int.tdiv y 19 ∧ Int.tdiv y 19 ≤ 1 := by
    rw [Int.tdiv_eq_ediv_of_nonneg hy.1]
    omega
  have hw1 : wrap64 ((l.length : Int) + 1) = (l.length : Int) + 1 := w64 (by omega) (by omega)
  obtain ⟨q, eq⟩ : ∃ q, q = Int.tdiv y 19 := ⟨_, rfl⟩
  rw [← eq] at ht
  have hw2 : wrap64 q = q := w64 (by omega) (by omega)
  have hw3 : wrap64 (x - q) = x - q := w64 (by omega) (by omega)
  refine ⟨n, l, x - q, ⟨hn, hl, by omega, by omega⟩, fun A0 c0 w h0 e0 => ?_⟩
  have HK1 := Aside0.mk hk1
  have HK2 := Aside0.mk hk2
  have HK3 := Aside0.mk hk3
  have H0 := Aside0.mk h0
  have EQ := Aside0.mk eq
  have HW := Aside0.mk (And.intro hw2 hw3)
  have HLL := Aside0.mk hl
  have hu := Try.underlying146
  clear hk1 hk2 hk3 h0 eq hw2 hw3 hx hy ht hn hl ha ha2 hev hev2 hev3
  go_enter Try.func59, Try.ntmps59
  go_wp2_with (first
    | ((with_reducible refine gate_dst (N := 10) rfl ?_); refine box_event ?hg (N := 10) ?hd (cs := #[.slice A0 s.length c0, .int .i64 0, .int .u64 0]) (t := 146) ?hr ?_; (case hd => rfl); (case hg => rfl); (case hr => first | (go_simp; done) | (go_simp; rfl)); intro g1 hg w6 hbox hb; have HI : Aside0 (IsS146 w w6 g1 s 0 0) := ⟨⟨A0, c0, hbox, by rw [hg]; exact Nat.le_refl _, H0.out⟩⟩; have HB := Aside0.mk hb; clear hg hbox hb))
  refine (spec_l1Cur_network.calls k1 g1 s 0 0 n l a1 d1 w w6 HI.out HB.out HK1.out).mono ?_
  rintro e w7 ⟨v, rfl, ho, hi, hb, _⟩
  have HO := Aside0.mk (IsS146.apart hi ho (by decide))
  obtain ⟨A, c, rfl⟩ := Kd.R_slice ho
  have HB2 := Aside0.mk hb
  have HI2 := Aside0.mk hi
  clear ho hb hi HI HB
  go_wp2_with fail
  refine (spec_l1Cur_pick.calls g1 s a1 d1 ((l.length : Int) + 1) x a2 d2 w w7 HI2.out HB2.out HK2.out).mono ?_
  rintro e w8 ⟨rfl, hi, hb, hkp⟩
  have HO2 := Aside0.mk (Kd.R_keep HO.out hkp (fun _ h => h.2))
  have HB3 := Aside0.mk hb
  have HI3 := Aside0.mk hi
  clear hb hi hkp HI2 HB2 HO
  go_wp2_with fail
  refine (spec_l1Cur_pick.calls g1 s a2 d2 20 y a3 d3 w w8 HI3.out HB3.out HK3.out).mono ?_
  rintro e w9 ⟨rfl, hi, hb, hkp⟩
  have HO3 := Aside0.mk (Kd.R_keep HO2.out hkp (fun _ h => h.2))
  have HB4 := Aside0.mk hb
  clear hb hi hkp HI3 HB3 HO2
  go_wp2_with fail
  go_ret3
  refine ⟨A, c, ?_, (Kd.R_reads' HO3.out).2.2, (Kd.R_reads' HO3.out).2.1, HB4.out⟩
  show Ending.returned (.tuple #[.int .i64 n, .slice A l.length c, .int .i64 (wrap64 (x - wrap64 (y.tdiv 19)))]) = _
  rw [← EQ.out, HW.out.1, HW.out.2]
set_option maxRecDepth 100000 in
/-- spec.DrawCutValue -/
theorem drawCut (s : List Int) (hs : Bytes s) : ∃ (n : Int) (l : List S99), ((-1 ≤ n ∧ n ≤ 200) ∧ l.length ≤ 2100) ∧ ∀ (A0 : Option Addr) (c0 : Nat) (w : World), Kd.C (Kd.int .u8) w A0 s.length s → s.length ≤ c0 →
    Calls Try.prog 64 #[.slice A0 s.length c0] w fun e w' => ∃ (ns : List Int), ∃ A c A' c', e = .returned (.tuple #[.int .i64 n, .slice A l.length c, .slice A' ns.length c']) ∧ ns.length ≤ 300 ∧ (Kd.C k99 w' A l.length l ∧ l.length ≤ c) ∧ (Kd.C (Kd.int .i64) w' A' ns.length ns ∧ ns.length ≤ c') ∧ Below w.heap.size w w' := by
  obtain ⟨⟨n, l, a1, d1⟩, hev, hn, hl, ha⟩ := network_tl hs 0 0 (by omega)
  simp only at hn hl ha
  obtain ⟨k1, hk1⟩ := hev.rounds
  have hw1 : wrap64 (n - 1) = n - 1 := w64 (by omega) (by omega)
  refine ⟨n, l, ⟨hn, hl⟩, fun A0 c0 w h0 e0 => ?_⟩
  have HK1 := Aside0.mk hk1
  have H0 := Aside0.mk h0
  have HS := Aside0.mk hs
  have HN := Aside0.mk hn
  have HA := Aside0.mk ha
  have hu := Try.underlying146
  clear hk1 h0 hn hl ha hev
  go_enter Try.func64, Try.ntmps64
  go_wp2_with (first
    | ((with_reducible refine gate_dst (N := 12) rfl ?_); refine box_event ?hg (N := 12) ?hd (cs := #[.slice A0 s.length c0, .int .i64 0, .int .u64 0]) (t := 146) ?hr ?_; (case hd => rfl); (case hg => rfl); (case hr => first | (go_simp; done) | (go_simp; rfl)); intro g1 hg w6 hbox hb; have HI : Aside0 (IsS146 w w6 g1 s 0 0) := ⟨⟨A0, c0, hbox, by rw [hg]; exact Nat.le_refl _, H0.out⟩⟩; have HB := Aside0.mk hb; clear hg hbox hb))
  refine (spec_l1Cur_network.calls k1 g1 s 0 0 n l a1 d1 w w6 HI.out HB.out HK1.out).mono ?_
  rintro e w7 ⟨v, rfl, ho, hi, hb, _⟩
  have HL7 : Aside0 (Kd.R k99 99 w7 w.heap.size (fun k => k ≠ g1 ∧ k < w7.heap.size) v l) := ⟨Kd.R_mono (Kd.R_bound (Kd.R_lower (IsS146.apart hi ho (by decide)) (below_size HB.out))) (fun k hk => ⟨hk.1.2, hk.2.2.1⟩)⟩
  obtain ⟨A, c, rfl⟩ := Kd.R_slice ho
  have HB7 := Aside0.mk hb
  have HI7 := Aside0.mk hi
  clear ho hb hi HI HB
  go_wp2_with (first
    | ((with_reducible refine gate_dst (N := 18) rfl ?_); refine Kd.R_lit (Kd.int .i64) _ 3 ?hg (N := 18) ?hd (xs := [(0 : Int)]) (inner := [.int .i64 0]) (ok := fun k => k ≠ g1 ∧ w7.heap.size ≤ k) (okp := fun _ => False) ?hr ?hp (fun _ hk => hk.elim) ?hf (Below.refl _ _) (Nat.le_refl _) (by simp) ?_; (case hd => rfl); (case hg => rfl); (case hr => first | (go_simp; done) | (go_simp; rfl)); (case hp => exact Kd.reps_scalar [(0 : Int)]); (case hf => exact ⟨by have := IsS146.lt HI7.out; omega, Nat.le_refl _⟩); intro v18 w8 ho hb hg_ hnew_; have n0_ := Aside0.mk (Kd.R_lower ho (below_size HB7.out)); have n1_ := Aside0.mk (IsS146.below HI7.out hb); have n2_ := Aside0.mk (Kd.R_below HL7.out hb); have n3_ := Aside0.mk (below_step HB7.out hb); have n4_ : Aside0 (w7.heap.size ≤ w8.heap.size) := ⟨hb.size⟩; clear HI7 HL7 HB7 ho hb hg_ hnew_))
  go_loopg [8, 9] 200 (fun q v8 v9 wr => ∃ (ns : List Int) (x po sd : Int), v9 = .int .i64 x ∧ Aside0 ((1 ≤ x ∧ x + q = 201) ∧ (1 ≤ ns.length ∧ (ns.length : Int) ≤ x) ∧ At po (300 + 2 * x) ∧ w7.heap.size ≤ wr.heap.size) ∧ Aside0 (Kd.R (Kd.int .i64) 3 wr w.heap.size (fun k => k ≠ g1 ∧ w7.heap.size ≤ k) v8 ns) ∧ Aside0 (IsS146 w wr g1 s po sd) ∧ Aside0 (Kd.R k99 99 wr w.heap.size (fun k => k ≠ g1 ∧ k < w7.heap.size) (.slice A l.length c) l) ∧ Aside0 (Below w.heap.size w wr))
  case atStart => exact ⟨[0], 1, a1, d1, rfl, ⟨by omega, by simp, by have := HA.out; omega, n4_.out⟩, n0_, n1_, n2_, n3_⟩
  case round =>
    clear n0_ n1_ n2_ n3_ n4_
    obtain ⟨ns, x, po, sd, rfl, HX, HR, HI, HL, HB⟩ := hrel
    by_cases hc : x < n - 1
    · cases gk with
      | zero => have := HX.out.1; have := HN.out; omega
      | succ q =>
        have t1 : decide (x < n - 1) = true := decide_eq_true hc
        obtain ⟨⟨b, a2, d2⟩, hev2, h1, h2⟩ := one_tl HS.out po sd 2 (by have := HX.out; have := HN.out; omega)
        simp only at h1 h2
        obtain ⟨_, hk2⟩ := hev2.rounds
        have HK2 := Aside0.mk hk2
        have HA2 := Aside0.mk (And.intro h1 h2)
        have hw2 : wrap64 (x + 1) = x + 1 := w64 (by have := HX.out; omega) (by have := HX.out; omega)
        clear hk2 hev2 h1 h2 hc
        go_wp2_with fail
        refine (spec_l1Cur_one.calls g1 s po sd 2 b a2 d2 w wr HI.out HB.out HK2.out).mono ?_
        rintro e w10 ⟨rfl, hi, hb, hkp⟩
        have HR2 := Aside0.mk (Kd.R_keep HR.out hkp (fun _ h => h.1))
        have HL2 := Aside0.mk (Kd.R_keep HL.out hkp (fun _ h => h.1))
        have HI2 := Aside0.mk hi
        have HB2 := Aside0.mk hb
        have HS2 : Aside0 (w7.heap.size ≤ w10.heap.size) := ⟨Nat.le_trans HX.out.2.2.2 (keep_size hkp)⟩
        clear HR HL HI HB hi hb hkp
        cases b with
        | false =>
          go_wp2_with fail
          go_roundg q
          case measure => omega
          case rel => exact ⟨ns, x + 1, a2, d2, by first | rfl | rw [hw2], ⟨by have := HX.out; omega, by have := HX.out; omega, by have := HX.out; have := HA2.out; omega, HS2.out⟩, HR2, HI2, HL2, HB2⟩
        | true =>
          go_wp2_with (first | ((with_reducible refine gate_builtin (b := .append) (xs := #[.tmp 27, .tmp 29]) rfl ?_); at_builtin; refine Kd.R_append (Kd.int .i64) (w0 := w) w.heap.size rfl (.tmp 27) (.tmp 29) 24 3 (.int .i64 0) 8 rfl Try.underlying24 inf3 rfl (by decide) (by omega) u8 ns x [.int .i64 x] (fun k => k ≠ g1 ∧ w7.heap.size ≤ k) (fun _ => False) rfl rfl ?aP (fun _ hk => hk.elim) ?aF ?aO ?aB ?aS ?aL ?_; (case aP => exact rfl); (case aB => exact HB2.out); (case aF => exact (fun k hk => ⟨by have h1_ := IsS146.lt HI2.out; omega, by have h2_ := HS2.out; omega⟩)); (case aO => exact HR2.out); (case aS => exact (below_size HB2.out)); (case aL => have h1_ := HX.out; have h2_ := HN.out; omega); intro v1 w11 ho hb hg hat; have n0_ := Aside0.mk hb; have n1_ := Aside0.mk ho; have n2_ := Aside0.mk (IsS146.grown HI2.out hg (fun he => (HR2.out.1 g1 he.symm).1 rfl)); have n3_ := Aside0.mk (Kd.R_grown HL2.out hg (fun k hk he => by have h1_ := (HR2.out.1 k he.symm).2; have h2_ := hk.2; omega)); have n4_ : Aside0 (w7.heap.size ≤ w11.heap.size) := ⟨Nat.le_trans HS2.out hg.size⟩; clear HB2 HI2 HS2 HR2 HL2; clear ho hb hg hat))
          go_roundg q
          case measure => omega
          case rel => exact ⟨ns ++ [x], x + 1, a2, d2, by first | rfl | rw [hw2], ⟨by have := HX.out; omega, by rw [List.length_append, List.length_singleton]; have := HX.out; omega, by have := HX.out; have := HA2.out; omega, n4_.out⟩, n1_, n2_, n3_, n0_⟩
    · have t1 : decide (x < n - 1) = false := decide_eq_false hc
      obtain ⟨⟨r, a2, d2⟩, hev2, h1, h2⟩ := pick_tl HS.out po sd 24 (by omega) (by have := HX.out; have := HN.out; omega)
      simp only at h1 h2
      obtain ⟨_, hk2⟩ := hev2.rounds
      have HK2 := Aside0.mk hk2
      have HA2 := Aside0.mk (And.intro h1 h2)
      clear hk2 hev2 h1 h2 hc
      go_wp2_with fail
      refine (spec_l1Cur_pick.calls g1 s po sd 24 r a2 d2 w wr HI.out HB.out HK2.out).mono ?_
      rintro e w10 ⟨rfl, hi, hb, hkp⟩
      have HR2 := Aside0.mk (Kd.R_keep HR.out hkp (fun _ h => h.1))
      have HL2 := Aside0.mk (Kd.R_keep HL.out hkp (fun _ h => h.1))
      have HI2 := Aside0.mk hi
      have HB2 := Aside0.mk hb
      have HS2 : Aside0 (w7.heap.size ≤ w10.heap.size) := ⟨Nat.le_trans HX.out.2.2.2 (keep_size hkp)⟩
      clear HR HL HI HB hi hb hkp t1
      by_cases r0 : r = 0
      · subst r0
        go_wp2_with (first | ((with_reducible refine gate_dst (N := 40) rfl ?_); refine Kd.R_lit (Kd.int .i64) _ 3 ?hg (N := 40) ?hd (xs := [n - 1, n, 0]) (inner := [.int .i64 (n - 1), .int .i64 n, .int .i64 0]) (ok := fun k => k ≠ g1) (okp := fun _ => False) ?hr ?hp (fun _ hk => hk.elim) ?hf (Below.refl _ _) (Nat.le_refl _) (by simp) ?_; (case hd => rfl); (case hg => rfl); (case hr => first | (go_simp; done) | (go_simp; rfl)); (case hp => exact Kd.reps_scalar [n - 1, n, 0]); (case hf => have := IsS146.lt HI2.out; omega); intro v40 w11 ho hb hg_ hnew_; have m0_ := Aside0.mk ho; have m1_ := Aside0.mk (IsS146.below HI2.out hb); have m2_ := Aside0.mk (Kd.R_below HL2.out hb); have m3_ := Aside0.mk (below_step HB2.out hb); have m4_ := Aside0.mk (Kd.R_below HR2.out hb); have m5_ : Aside0 (w7.heap.size ≤ w11.heap.size) := ⟨Nat.le_trans HS2.out hb.size⟩; clear HI2 HL2 HB2 HR2 HS2 ho hb hg_ hnew_))
        obtain ⟨⟨y, a3, d3⟩, hev3, hy, _⟩ := among_tl HS.out a2 d2 [n - 1, n, 0] (by simp) (by have := HX.out; have := HA2.out; have := HN.out; omega)
        obtain ⟨_, hk3⟩ := hev3.rounds
        obtain ⟨A40, c40, rfl⟩ := Kd.R_slice m0_.out
        refine (spec_l1Cur_among.calls g1 s a2 d2 A40 c40 [n - 1, n, 0] y a3 d3 w w11 m1_.out m3_.out (Kd.R_reads' m0_.out).2.2 (Kd.R_reads' m0_.out).2.1 (fun ad he _ => by subst he; exact m0_.out.1 ad.block rfl) hk3).mono ?_
        rintro e w12 ⟨rfl, hi, hb, hkp⟩
        have HR3 := Aside0.mk (Kd.R_keep m4_.out hkp (fun _ h => h.1))
        have HL3 := Aside0.mk (Kd.R_keep m2_.out hkp (fun _ h => h.1))
        have HI3 := Aside0.mk hi
        have HB3 := Aside0.mk hb
        have HS3 : Aside0 (w7.heap.size ≤ w12.heap.size) := ⟨Nat.le_trans m5_.out (keep_size hkp)⟩
        clear m0_ m1_ m2_ m3_ m4_ m5_ hi hb hkp hev3 hk3 hy
        go_wp2_with (first | ((with_reducible refine gate_builtin (b := .append) (xs := #[.tmp 35, .tmp 42]) rfl ?_); at_builtin; refine Kd.R_append (Kd.int .i64) (w0 := w) w.heap.size rfl (.tmp 35) (.tmp 42) 24 3 (.int .i64 0) 8 rfl Try.underlying24 inf3 rfl (by decide) (by omega) u8 ns y [.int .i64 y] (fun k => k ≠ g1 ∧ w7.heap.size ≤ k) (fun _ => False) rfl rfl ?aP (fun _ hk => hk.elim) ?aF ?aO ?aB ?aS ?aL ?_; (case aP => exact rfl); (case aB => exact HB3.out); (case aF => exact (fun k hk => ⟨by have h1_ := IsS146.lt HI3.out; omega, by have h2_ := HS3.out; omega⟩)); (case aO => exact HR3.out); (case aS => exact (below_size HB3.out)); (case aL => have h1_ := HX.out; have h2_ := HN.out; omega); intro v1 w13 ho hb hg hat; have n0_ := Aside0.mk hb; have n1_ := Aside0.mk ho; have n2_ := Aside0.mk (IsS146.grown HI3.out hg (fun he => (HR3.out.1 g1 he.symm).1 rfl)); have n3_ := Aside0.mk (Kd.R_grown HL3.out hg (fun k hk he => by have h1_ := (HR3.out.1 k he.symm).2; have h2_ := hk.2; omega)); have n4_ : Aside0 (w7.heap.size ≤ w13.heap.size) := ⟨Nat.le_trans HS3.out hg.size⟩; clear HB3 HI3 HS3 HR3 HL3; clear ho hb hg hat))
        go_ret3
        obtain ⟨A', c', e'⟩ := Kd.R_slice n1_.out
        subst e'
        exact ⟨_, A, c, A', c', rfl, by rw [List.length_append, List.length_singleton]; have := HX.out; omega, ⟨(Kd.R_reads' n3_.out).2.2, (Kd.R_reads' n3_.out).2.1⟩, ⟨(Kd.R_reads' n1_.out).2.2, (Kd.R_reads' n1_.out).2.1⟩, n0_.out⟩
      · have q0 : (r == 0) = false := beq_eq_false_iff_ne.mpr r0
        obtain ⟨A', c', e'⟩ := Kd.R_slice HR2.out
        subst e'
        by_cases r1 : r = 1
        · subst r1
          clear q0 r0
          have hC := (Kd.R_reads' HR2.out).2.2
          have hcc := (Kd.R_reads' HR2.out).2.1
          have hnl := HX.out.2.1
          obtain ⟨m, em⟩ : ∃ m, m = ns.length := ⟨_, rfl⟩
          rw [← em] at hcc hnl ⊢
          obtain ⟨ti, hti, hti2⟩ := Option.map_eq_some_iff.1 inf3
          have htis : ti.size = 1 := by injection hti2 with _ h2; injection h2
          obtain ⟨A5, eA5⟩ : ∃ q, q = if c' = 1 then A' else A'.map (·.add (1 * 1)) := ⟨_, rfl⟩
          obtain ⟨m5, em5⟩ : ∃ q, q = m - 1 := ⟨_, rfl⟩
          obtain ⟨c5, ec5⟩ : ∃ q, q = c' - 1 := ⟨_, rfl⟩
          have hs2 : ∀ W : World, (Instr.slice 24 (.slice A' m c') (some (.int .i64 1)) none none).run Try.prog W = .ok (.slice A5 m5 c5) W := by rw [eA5, em5, ec5]; exact cut_from 24 3 .i64 Try.underlying24 hti 1 htis A' m c' 1 (by omega) (by omega)
          have HC2 : Aside0 (Kd.C (Kd.int .i64) w10 A5 m5 (ns.drop 1)) := ⟨by have h := Kd.C_drop (c := c') (m := 1) hC (by omega) (by omega); rw [show (ns.drop 1).length = m5 by rw [List.length_drop]; omega] at h; rw [eA5]; exact h⟩
          have HM5 : Aside0 ((ns.drop 1).length = m5 ∧ m5 ≤ c5 ∧ m5 ≤ 300) := ⟨by rw [List.length_drop]; omega, by omega, by have := HX.out; omega⟩
          clear hC hcc hnl em hti hti2 htis eA5 em5 ec5
          go_wp2_with fail
          go_ret3
          exact ⟨ns.drop 1, A, c, A5, c5, by show Ending.returned (.tuple #[.int .i64 n, .slice A l.length c, .slice A5 m5 c5]) = _; rw [HM5.out.1], by rw [HM5.out.1]; exact HM5.out.2.2, ⟨(Kd.R_reads' HL2.out).2.2, (Kd.R_reads' HL2.out).2.1⟩, ⟨by rw [HM5.out.1]; exact HC2.out, by rw [HM5.out.1]; exact HM5.out.2.1⟩, HB2.out⟩
        · have q1 : (r == 1) = false := beq_eq_false_iff_ne.mpr r1
          clear r0 r1
          go_wp2_with fail
          go_ret3
          exact ⟨ns, A, c, A', c', rfl, by have := HX.out; omega, ⟨(Kd.R_reads' HL2.out).2.2, (Kd.R_reads' HL2.out).2.1⟩, ⟨(Kd.R_reads' HR2.out).2.2, (Kd.R_reads' HR2.out).2.1⟩, HB2.out⟩
end Go.Proofs.Ytomfjhpiemipkaa.DrawNet
