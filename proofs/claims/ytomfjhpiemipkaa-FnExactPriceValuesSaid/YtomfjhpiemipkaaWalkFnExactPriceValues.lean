/- The law FnExactPriceValues, walked by hand over its callees' contracts: for every input it returns true. -/
import Derived.Test.YtomfjhpiemipkaaComI
import Derived.Test.YtomfjhpiemipkaaMFnExactPriceValuesx0
import Derived.Test.YtomfjhpiemipkaaMFnExactPriceValuesx1
import Derived.Test.YtomfjhpiemipkaaMFnExactPriceValuesx2
namespace Go.Proofs.Ytomfjhpiemipkaa.WalkFnExactPriceValues
open Go.RowKit Go.Proofs.Ytomfjhpiemipkaa.PFnExactPriceValues Go.Proofs.YtomfjhpiemipkaaW.PrintWords Go.Proofs.YtomfjhpiemipkaaW.PrintLast Go.Proofs.YtomfjhpiemipkaaW.PrintMore Go.Proofs.Ytomfjhpiemipkaa.B Go.Proofs.Ytomfjhpiemipkaa.Com
set_option linter.unusedVariables false
set_option linter.unusedSimpArgs false
def Zn (W W' : World) (u : Value) (k : Nat) : Prop := Btw W W' k ∧ some k = u.ownBlock
/- zones -/
def ne3 (u v z : Value) : Prop := (∀ k : Nat, some k = u.ownBlock → some k ≠ v.ownBlock) ∧ (∀ k : Nat, some k = u.ownBlock → some k ≠ z.ownBlock) ∧ (∀ k : Nat, some k = v.ownBlock → some k ≠ z.ownBlock)
theorem znR {α : Type} {d : Kd α} {e : Nat} {w W W' : World} {v : Value} {xs : List α} {ok : Nat → Prop} (hE : d.E = []) (h : Kd.R d e W' W.heap.size ok v xs) (hw : w.heap.size ≤ W.heap.size) : Kd.R d e W' w.heap.size (Zn W W' v) v xs :=
  Kd.R_lower (Kd.R_mono (Kd.R_bound (Kd.R_tight2 hE h)) (fun k hk => ⟨⟨hk.2.1, hk.2.2.1⟩, hk.1.1⟩)) hw

/- laws_toIntS -/
theorem toIntS_l0 (l : List Int) (hl : l.length ≤ 35184372088832) : ∀ (d i : Nat) (m : List Int), i + d = l.length → m.length = l.length → (∀ j, j < i → m.getD j 0 = l.getD j 0) → Ev (fun k => laws_toIntS.l0 k l m (i : Int)) l := by
  intro d
  induction d with
  | zero =>
    intro i m hi hm he
    refine Ev.step (fun k => laws_toIntS.l0.eq_2 l m i k) ?_
    refine ev_neg (by omega) (ev_some ?_)
    refine List.ext_getElem hm (fun j h1 h2 => ?_)
    have := he j (by omega)
    simpa [List.getD_eq_getElem?_getD, h1, h2] using this
  | succ d ih =>
    intro i m hi hm he
    refine Ev.step (fun k => laws_toIntS.l0.eq_2 l m i k) ?_
    refine ev_pos (by omega) (ev_pos (by omega) (ev_pos (by omega) ?_))
    rw [w_succ (n := l.length) (by omega) (by omega), toNat_nat, rd_nat]
    refine ih (i + 1) _ (by omega) (by simpa using hm) (fun j hj => ?_)
    by_cases hji : j = i
    · subst hji
      simp [List.getD_eq_getElem?_getD, show j < m.length by omega]
    · rw [← he j (by omega)]
      simp [List.getD_eq_getElem?_getD, List.getElem?_set_ne (Ne.symm hji)]
theorem toIntS_ev (l : List Int) (hl : l.length ≤ 35184372088832) : Ev (fun k => laws_toIntS.f k l) l := by
  unfold laws_toIntS.f
  refine ev_pos (by omega) (ev_pos (by omega) ?_)
  exact toIntS_l0 l hl l.length 0 _ (by omega) (by simp) (fun j hj => by omega)

/- com.toModel -/
theorem toModel_ev (x y z : Int) (t g r : List Int) (ht : t.length ≤ 1048576) (hg : g.length ≤ 1048576) (hr : r.length ≤ 1048576) : Ev (fun k => laws_toModel.f k x y z t g r) (x, y, z, t, g, r) := by
  unfold laws_toModel.f
  exact ev_bindc (a := (x, y, z)) rfl (Ev.bind (toIntS_ev t (by omega)) (Ev.bind (toIntS_ev g (by omega)) (Ev.bind (toIntS_ev r (by omega)) (ev_some rfl))))
theorem toModel_calls (x y z : Int) (t : List Int) (ht : t.length ≤ 1048576) (g : List Int) (hg : g.length ≤ 1048576) (r : List Int) (hr : r.length ≤ 1048576) (A3 : Option Addr) (c3 : Nat) (A4 : Option Addr) (c4 : Nat) (A5 : Option Addr) (c5 : Nat) (w : World)
    (h1 : Kd.C (Kd.int .i64) w A3 t.length t) (h2 : t.length ≤ c3) (h3 : Kd.C (Kd.int .i64) w A4 g.length g) (h4 : g.length ≤ c4) (h5 : Kd.C (Kd.int .i64) w A5 r.length r) (h6 : r.length ≤ c5) :
    Calls Try.prog 16 #[.agg #[.int .i64 x, .int .i64 y, .int .i64 z, .slice A3 t.length c3, .slice A4 g.length c4, .slice A5 r.length c5]] w fun e w' => ∃ v3 v4 v5 : Value, e = .returned (.agg #[.int .i64 x, .int .i64 y, .int .i64 z, v3, v4, v5]) ∧
      Kd.R (Kd.int .i64) 3 w' w.heap.size (fun _ => True) v3 t ∧ Kd.R (Kd.int .i64) 3 w' w.heap.size (fun _ => True) v4 g ∧ Kd.R (Kd.int .i64) 3 w' w.heap.size (fun _ => True) v5 r ∧ ne3 v3 v4 v5 ∧ Below w.heap.size w w' := by
  obtain ⟨k, hk⟩ := (toModel_ev x y z t g r ht hg hr).rounds
  refine (laws_toModel.calls k x y z A3 c3 t A4 c4 g A5 c5 r x y z t g r w h1 h2 h3 h4 h5 h6 hk).mono ?_
  rintro e w' ⟨v3, v4, v5, he, q3, q4, q5, hb⟩
  exact ⟨v3, v4, v5, he, Kd.R_mono q3 (fun _ _ => trivial), Kd.R_mono q4 (fun _ _ => trivial), Kd.R_mono q5 (fun _ _ => trivial), ⟨fun k hk => (q3.1 k hk.symm).1, fun k hk => (q3.1 k hk.symm).2, fun k hk => (q4.1 k hk.symm).2⟩, hb⟩

/- com.toPrices -/
theorem toPrices_calls (a b c d : Int) (w : World) : Calls Try.prog 17 #[.agg #[.int .i64 a, .int .i64 b, .int .i64 c, .int .i64 d]] w fun e w' => e = .returned (.agg #[.int .i64 a, .int .i64 b, .int .i64 c, .int .i64 d]) ∧ Below w.heap.size w w' :=
  laws_toPrices.calls a b c d a b c d w rfl

/- laws_eqIntS -/
theorem eqIntS_l0 (l : List Int) (hl : l.length ≤ maxLen) : ∀ (d i : Nat), i + d = l.length → Ev (fun k => laws_eqIntS.l0 k l l (i : Int)) true := by
  have hl := maxLen_le hl
  intro d
  induction d with
  | zero =>
    intro i hi
    exact Ev.step (fun k => laws_eqIntS.l0.eq_2 l l i k) (ev_neg (by omega) (ev_some rfl))
  | succ d ih =>
    intro i hi
    refine Ev.step (fun k => laws_eqIntS.l0.eq_2 l l i k) ?_
    rw [w_succ (n := l.length) (by omega) (by omega)]
    exact ev_pos (by omega) (ev_pos (by omega) (ev_pos (by omega) (ev_pos rfl (ih (i + 1) (by omega)))))
theorem eqIntS_ev (l : List Int) (hl : l.length ≤ maxLen) : Ev (fun k => laws_eqIntS.f k l l) true := by
  unfold laws_eqIntS.f
  exact ev_pos rfl (eqIntS_l0 l hl l.length 0 (by omega))

/- com.eqModel -/
theorem eqModel_calls (x y z : Int) (t g r : List Int) (ht : t.length ≤ maxLen) (hg : g.length ≤ maxLen) (hr : r.length ≤ maxLen) (A3 : Option Addr) (c3 : Nat) (A4 : Option Addr) (c4 : Nat) (A5 : Option Addr) (c5 : Nat) (B3 : Option Addr) (d3 : Nat) (B4 : Option Addr) (d4 : Nat) (B5 : Option Addr) (d5 : Nat) (w : World)
    (h1 : Kd.C (Kd.int .i64) w A3 t.length t) (h2 : t.length ≤ c3) (h3 : Kd.C (Kd.int .i64) w A4 g.length g) (h4 : g.length ≤ c4) (h5 : Kd.C (Kd.int .i64) w A5 r.length r) (h6 : r.length ≤ c5) (k1 : Kd.C (Kd.int .i64) w B3 t.length t) (k2 : t.length ≤ d3) (k3 : Kd.C (Kd.int .i64) w B4 g.length g) (k4 : g.length ≤ d4) (k5 : Kd.C (Kd.int .i64) w B5 r.length r) (k6 : r.length ≤ d5) :
    Calls Try.prog 19 #[.agg #[.int .i64 x, .int .i64 y, .int .i64 z, .slice A3 t.length c3, .slice A4 g.length c4, .slice A5 r.length c5], .agg #[.int .i64 x, .int .i64 y, .int .i64 z, .slice B3 t.length d3, .slice B4 g.length d4, .slice B5 r.length d5]] w fun e w' => e = .returned (.bool true) ∧ Below w.heap.size w w' := by
  have : Ev (fun k => laws_eqModel.f k x y z t g r x y z t g r) true := by
    unfold laws_eqModel.f
    refine ev_bindc (a := true) (by unfold laws_eqGrid.f; simp) (ev_pos rfl ?_)
    exact Ev.bind (eqIntS_ev t ht) (ev_pos rfl (Ev.bind (eqIntS_ev g hg) (ev_pos rfl (Ev.bind (eqIntS_ev r hr) (ev_pos rfl (ev_some rfl))))))
  obtain ⟨k, hk⟩ := this.rounds
  exact laws_eqModel.calls k x y z A3 c3 t A4 c4 g A5 c5 r x y z B3 d3 t B4 d4 g B5 d5 r true w h1 h2 h3 h4 h5 h6 k1 k2 k3 k4 k5 k6 hk

/- markI0 -/
theorem markIntS_l0 (l : List Int) (hl : l.length ≤ 1048576) (a : Int) (ha : 0 ≤ a ∧ a ≤ 4398046511104) : ∀ (d i : Nat) (m : List Int), i + d = l.length → m.length = l.length → (∀ j, j < i → m.getD j 0 = a + j) →
    ∃ r, Ev (fun k => laws_markIntS.l0 k m (a + i) (i : Int)) (a + l.length, r) ∧ r.length = l.length ∧ ∀ j, j < l.length → r.getD j 0 = a + j := by
  intro d
  induction d with
  | zero =>
    intro i m hi hm he
    obtain rfl : i = l.length := by omega
    exact ⟨m, Ev.step (fun k => laws_markIntS.l0.eq_2 m (a + l.length) l.length k) (ev_neg (by omega) (ev_some rfl)), hm, he⟩
  | succ d ih =>
    intro i m hi hm he
    obtain ⟨r, hr, hz⟩ := ih (i + 1) (m.set i (a + i)) (by omega) (by simpa using hm) (fun j hj => by
      by_cases hji : j = i
      · subst hji; simp [List.getD_eq_getElem?_getD, show j < m.length by omega]
      · rw [← he j (by omega)]; simp [List.getD_eq_getElem?_getD, List.getElem?_set_ne (Ne.symm hji)])
    refine ⟨r, Ev.step (fun k => laws_markIntS.l0.eq_2 m (a + i) i k) ?_, hz⟩
    rw [w_succ (n := l.length) (by omega) (by omega), toNat_nat, w64 (x := a + i + 1) (by omega) (by omega), show a + (i : Int) + 1 = a + ((i + 1 : Nat) : Int) by omega]
    exact ev_pos (by omega) (ev_pos (by omega) hr)

/- markRowI -/
def markRow (a : Int) (n : Nat) : List Int := (List.range n).map (fun (j : Nat) => a + (j : Int))
theorem markRow_len (a : Int) (n : Nat) : (markRow a n).length = n := by unfold markRow; simp
theorem markRow_at (a : Int) (n j : Nat) (h : j < n) : (markRow a n).getD j 0 = a + j := by
  unfold markRow; simp [List.getD_eq_getElem?_getD, h]
theorem markIntS_row (l : List Int) (hl : l.length ≤ 1048576) (a : Int) (ha : 0 ≤ a ∧ a ≤ 4398046511104) : Ev (fun k => laws_markIntS.f k l a) (a + l.length, markRow a l.length) := by
  obtain ⟨r, h1, h2, h3⟩ := markIntS_l0 l hl a ha l.length 0 l (by omega) rfl (fun j hj => by omega)
  rw [show a + ((0 : Nat) : Int) = a by omega] at h1
  have e : r = markRow a l.length := getD_ext 0 (by rw [h2, markRow_len]) (fun j hj => by rw [markRow_at _ _ _ (by omega)]; exact h3 j (by omega))
  rw [← e]; exact h1

/- com.markModel -/
theorem markModel_calls (x y z : Int) (t g r : List Int) (ht : t.length ≤ 1048576) (hg : g.length ≤ 1048576) (hr : r.length ≤ 1048576) (a : Int) (ha : 0 ≤ a ∧ a ≤ 4000000000000) (W W' : World) (u3 u4 u5 : Value) (hne : ne3 u3 u4 u5) (w0 w : World) (hB : Below w0.heap.size w0 w)
    (h3 : Kd.R (Kd.int .i64) 3 w w0.heap.size (Zn W W' u3) u3 t) (h4 : Kd.R (Kd.int .i64) 3 w w0.heap.size (Zn W W' u4) u4 g) (h5 : Kd.R (Kd.int .i64) 3 w w0.heap.size (Zn W W' u5) u5 r) :
    Calls Try.prog 26 #[.agg #[.int .i64 x, .int .i64 y, .int .i64 z, u3, u4, u5], .int .i64 a] w fun e w' => e = .returned (.int .i64 (a + t.length + g.length + r.length)) ∧ Below w0.heap.size w0 w' ∧ Kept w w' (fun k => Zn W W' u3 k ∨ Zn W W' u4 k ∨ Zn W W' u5 k) := by
  have : Ev (fun k => laws_markModel.f k x y z t g r a) (a + t.length + g.length + r.length, markRow a t.length, markRow (a + t.length) g.length, markRow (a + t.length + g.length) r.length) := by
    unfold laws_markModel.f
    exact Ev.bind (markIntS_row t ht a (by omega)) (Ev.bind (markIntS_row g hg _ (by simp only; omega)) (Ev.bind (markIntS_row r hr _ (by simp only; omega)) (ev_some rfl)))
  obtain ⟨k, hk⟩ := this.rounds
  refine (laws_markModel.calls k x y z (Zn W W' u3) u3 t (Zn W W' u4) u4 g (Zn W W' u5) u5 r a _ _ _ _ w0 w hB h3 (fun k h h' => hne.1 k h.2 h'.2) (fun k h h' => hne.2.1 k h.2 h'.2) h4 (fun k h h' => hne.1 k h'.2 h.2) (fun k h h' => hne.2.2 k h.2 h'.2) h5 (fun k h h' => hne.2.1 k h'.2 h.2) (fun k h h' => hne.2.2 k h'.2 h.2) hk).mono ?_
  rintro e w' ⟨he, _, _, _, hb, hk⟩
  exact ⟨he, hb, hk⟩

/- laws_szIntS -/
theorem szIntS_tells (l : List Int) (a : Int) (hl : l.length ≤ maxLen) (ha : 0 ≤ a ∧ a ≤ 1048576) : ∃ r, laws_szIntS.f l a = some r ∧ (0 ≤ r → r = a - l.length) ∧ (r < 0 → r = -1) := by
  have hl := maxLen_le hl
  unfold laws_szIntS.f
  rw [w64 (by omega) (by omega)]
  by_cases h : a - (l.length : Int) < 0
  · exact ⟨-1, by rw [if_pos h], by omega, by omega⟩
  · exact ⟨_, by rw [if_neg h], by omega, by omega⟩

/- com.szModel -/
theorem szModel_tells (x y z : Int) (t g r : List Int) (ht : t.length ≤ maxLen) (hg : g.length ≤ maxLen) (hr : r.length ≤ maxLen) (a : Int) (ha : 0 ≤ a ∧ a ≤ 1048576) : ∃ q, laws_szModel.f x y z t g r a = some q ∧ (0 ≤ q → (0 ≤ q ∧ q ≤ 1048576) ∧ t.length ≤ 1048576 ∧ g.length ≤ 1048576 ∧ r.length ≤ 1048576) := by
  unfold laws_szModel.f
  obtain ⟨q1, e1, p1, n1⟩ := szIntS_tells t a ht ha
  rw [e1, Option.bind_some]
  split
  · exact ⟨-1, rfl, fun h => by omega⟩
  · rename_i h1
    obtain ⟨q2, e2, p2, n2⟩ := szIntS_tells g q1 hg (by omega)
    rw [e2, Option.bind_some]
    split
    · exact ⟨-1, rfl, fun h => by omega⟩
    · rename_i h2
      obtain ⟨q3, e3, p3, n3⟩ := szIntS_tells r q2 hr (by omega)
      rw [e3, Option.bind_some]
      split
      · exact ⟨-1, rfl, fun h => by omega⟩
      · rename_i h3
        exact ⟨q3, rfl, fun h => by omega⟩
theorem szModel_calls (x y z : Int) (t g r : List Int) (ht : t.length ≤ maxLen) (hg : g.length ≤ maxLen) (hr : r.length ≤ maxLen) (a : Int) (ha : 0 ≤ a ∧ a ≤ 1048576) : ∃ q : Int, (0 ≤ q → (0 ≤ q ∧ q ≤ 1048576) ∧ t.length ≤ 1048576 ∧ g.length ≤ 1048576 ∧ r.length ≤ 1048576) ∧
    ∀ (A3 : Option Addr) (c3 : Nat) (A4 : Option Addr) (c4 : Nat) (A5 : Option Addr) (c5 : Nat) (w : World), Kd.C (Kd.int .i64) w A3 t.length t → t.length ≤ c3 → Kd.C (Kd.int .i64) w A4 g.length g → g.length ≤ c4 → Kd.C (Kd.int .i64) w A5 r.length r → r.length ≤ c5 →
      Calls Try.prog 14 #[.agg #[.int .i64 x, .int .i64 y, .int .i64 z, .slice A3 t.length c3, .slice A4 g.length c4, .slice A5 r.length c5], .int .i64 a] w fun e w' => e = .returned (.int .i64 q) ∧ Below w.heap.size w w' := by
  obtain ⟨q, e, hq⟩ := szModel_tells x y z t g r ht hg hr a ha
  exact ⟨q, hq, fun A3 c3 A4 c4 A5 c5 w h1 h2 h3 h4 h5 h6 => laws_szModel.calls x y z A3 c3 t A4 c4 g A5 c5 r a q w h1 h2 h3 h4 h5 h6 e⟩

/- model -/
def gridOk (x y z : Int) : Bool := decide (1 ≤ x ∧ x ≤ 8 ∧ 1 ≤ y ∧ y ≤ 6 ∧ 1 ≤ z ∧ z ≤ 5 ∧ x * y * z ≤ 120)
theorem grid_w {x y z : Int} (h : 1 ≤ x ∧ x ≤ 8 ∧ 1 ≤ y ∧ y ≤ 6 ∧ 1 ≤ z ∧ z ≤ 5) : wrap64 (wrap64 (x * y) * z) = x * y * z ∧ 1 ≤ x * y * z ∧ x * y * z ≤ 240 := by
  obtain ⟨h1, h2, h3, h4, h5, h6⟩ := h
  have a1 : x * y ≤ 8 * 6 := Int.mul_le_mul h2 h4 (by omega) (by omega)
  have a2 : 1 * 1 ≤ x * y := Int.mul_le_mul h1 h3 (by omega) (by omega)
  have a3 : x * y * z ≤ (8 * 6) * 5 := Int.mul_le_mul a1 h6 (by omega) (by omega)
  have a4 : (1 * 1) * 1 ≤ x * y * z := Int.mul_le_mul a2 h5 (by omega) (by omega)
  rw [w64 (x := x * y) (by omega) (by omega), w64 (by omega) (by omega)]
  exact ⟨rfl, by omega, by omega⟩
theorem grid_ok {x y z : Int} (h : gridOk x y z = true) : wrap64 (wrap64 (x * y) * z) = x * y * z ∧ 1 ≤ x * y * z ∧ x * y * z ≤ 120 := by
  unfold gridOk at h
  rw [decide_eq_true_eq] at h
  have := grid_w (x := x) (y := y) (z := z) (by omega)
  exact ⟨this.1, this.2.1, by omega⟩
def inL (lo hi : Int) (l : List Int) (j : Nat) : Bool := decide (lo ≤ l.getD j 0 ∧ l.getD j 0 ≤ hi)
def blockAt (t g r : List Int) (j : Nat) : Bool := inL 0 10000 t j && (inL 0 1000 g j && inL 0 4 r j)
def modelOk (x y z : Int) (t g r : List Int) : Bool := gridOk x y z && (decide ((t.length : Int) = x * y * z ∧ (g.length : Int) = x * y * z ∧ (r.length : Int) = x * y * z) && allR (blockAt t g r) 0 t.length)
theorem inL_iff {lo hi : Int} {l : List Int} {j : Nat} : inL lo hi l j = true ↔ lo ≤ l.getD j 0 ∧ l.getD j 0 ≤ hi := by unfold inL; rw [decide_eq_true_eq]
theorem blockAt_iff {t g r : List Int} {j : Nat} : blockAt t g r j = true ↔ (0 ≤ t.getD j 0 ∧ t.getD j 0 ≤ 10000) ∧ (0 ≤ g.getD j 0 ∧ g.getD j 0 ≤ 1000) ∧ 0 ≤ r.getD j 0 ∧ r.getD j 0 ≤ 4 := by
  unfold blockAt; rw [Bool.and_eq_true, Bool.and_eq_true, inL_iff, inL_iff, inL_iff]
theorem modelOk_iff {x y z : Int} {t g r : List Int} : modelOk x y z t g r = true ↔ gridOk x y z = true ∧ ((t.length : Int) = x * y * z ∧ (g.length : Int) = x * y * z ∧ (r.length : Int) = x * y * z) ∧ ∀ j, j < t.length → (0 ≤ t.getD j 0 ∧ t.getD j 0 ≤ 10000) ∧ (0 ≤ g.getD j 0 ∧ g.getD j 0 ≤ 1000) ∧ 0 ≤ r.getD j 0 ∧ r.getD j 0 ≤ 4 := by
  unfold modelOk
  rw [Bool.and_eq_true, Bool.and_eq_true, decide_eq_true_eq, allR_iff]
  exact ⟨fun h => ⟨h.1, h.2.1, fun j hj => blockAt_iff.1 (h.2.2 j (Nat.zero_le _) hj)⟩, fun h => ⟨h.1, h.2.1, fun j _ hj => blockAt_iff.2 (h.2.2 j hj)⟩⟩
theorem model_bd {x y z : Int} {t g r : List Int} (h : modelOk x y z t g r = true) : 1 ≤ t.length ∧ t.length ≤ 120 ∧ g.length = t.length ∧ r.length = t.length ∧ (t.length : Int) = x * y * z ∧ wrap64 (wrap64 (x * y) * z) = x * y * z := by
  rw [modelOk_iff] at h
  have := grid_ok h.1
  obtain ⟨_, ⟨h1, h2, h3⟩, _⟩ := h
  exact ⟨by omega, by omega, by omega, by omega, h1, this.1⟩

/- spec_l1In -/
theorem l1In_eq (a b c : Int) : spec_l1In.f a b c = some (decide (b ≤ a ∧ a ≤ c)) := by
  unfold spec_l1In.f
  by_cases h : a ≥ b
  · rw [if_pos h]; simp [show b ≤ a from h]
  · rw [if_neg h]; simp [show ¬ b ≤ a from h]

/- spec_l1All -/
theorem l1All_l0 (l : List Int) (hl : l.length ≤ maxLen) (lo hi : Int) : ∀ (d i : Nat), i + d = l.length → Ev (fun k => spec_l1All.l0 k lo hi l (l.length : Int) (i : Int)) (allR (fun j => decide (lo ≤ l.getD j 0 ∧ l.getD j 0 ≤ hi)) i l.length) := by
  have hl := maxLen_le hl
  intro d
  induction d with
  | zero =>
    intro i hi'
    exact Ev.step (fun k => spec_l1All.l0.eq_2 lo hi l l.length i k) (ev_neg (by omega) (ev_some (allR_end (by omega)).symm))
  | succ d ih =>
    intro i hi'
    refine Ev.step (fun k => spec_l1All.l0.eq_2 lo hi l l.length i k) ?_
    rw [allR_step (by omega), w_succ (n := l.length) (by omega) (by omega), rd_nat]
    refine ev_pos (by omega) (ev_pos (by omega) (ev_pos (by omega) (ev_bindc (l1In_eq _ _ _) ?_)))
    refine ev_ite (fun h => ?_) (fun h => ?_)
    · rw [h, Bool.true_and]; exact ih (i + 1) (by omega)
    · rw [Bool.not_eq_true] at h; rw [h, Bool.false_and]; exact ev_some rfl
theorem l1All_ev (l : List Int) (hl : l.length ≤ maxLen) (lo hi : Int) : Ev (fun k => spec_l1All.f k l lo hi) (allR (fun j => decide (lo ≤ l.getD j 0 ∧ l.getD j 0 ≤ hi)) 0 l.length) := by
  unfold spec_l1All.f
  exact l1All_l0 l hl lo hi l.length 0 (by omega)

/- spec_moGood -/
theorem grGood_eq (x y z : Int) : spec_grGood.f x y z = some (gridOk x y z) := by
  unfold spec_grGood.f gridOk
  simp only [l1In_eq, Option.bind_some, decide_eq_true_eq]
  by_cases h1 : 1 ≤ x ∧ x ≤ 8
  · rw [if_pos h1]
    by_cases h2 : 1 ≤ y ∧ y ≤ 6
    · rw [if_pos h2]
      by_cases h3 : 1 ≤ z ∧ z ≤ 5
      · rw [if_pos h3]
        have := grid_w (x := x) (y := y) (z := z) (by omega)
        rw [this.1]
        congr 1
        rw [Bool.eq_iff_iff, decide_eq_true_eq, decide_eq_true_eq]
        omega
      · rw [if_neg h3, decide_eq_false (by omega)]
    · rw [if_neg h2, decide_eq_false (by omega)]
  · rw [if_neg h1, decide_eq_false (by omega)]
theorem moGood_ev (x y z : Int) (t g r : List Int) (ht : t.length ≤ maxLen) (hg : g.length ≤ maxLen) (hr : r.length ≤ maxLen) : Ev (fun k => spec_moGood.f k x y z t g r) (modelOk x y z t g r) := by
  unfold spec_moGood.f
  refine ev_bindc (grGood_eq x y z) (ev_ite (fun h => ?_) (fun h => ev_some ?_))
  · have hw := grid_ok h
    refine ev_bindc (a := x * y * z) (by unfold spec_grCount.f; rw [hw.1]) ?_
    have no : ¬ ((t.length : Int) = x * y * z ∧ (g.length : Int) = x * y * z ∧ (r.length : Int) = x * y * z) → false = modelOk x y z t g r := by
      intro hn; unfold modelOk; rw [decide_eq_false hn, Bool.false_and, Bool.and_false]
    refine ev_ite (fun h1 => ev_ite (fun h2 => ev_ite (fun h3 => ?_) (fun h3 => ev_some (no (by omega)))) (fun h2 => ev_some (no (by omega)))) (fun h1 => ev_some (no (by omega)))
    have e : modelOk x y z t g r = (allR (inL 0 10000 t) 0 t.length && (allR (inL 0 1000 g) 0 g.length && allR (inL 0 4 r) 0 r.length)) := by
      rw [Bool.eq_iff_iff, modelOk_iff, Bool.and_eq_true, Bool.and_eq_true, allR_iff, allR_iff, allR_iff]
      constructor
      · rintro ⟨_, _, hb⟩
        exact ⟨fun j _ hj => inL_iff.2 (hb j hj).1, fun j _ hj => inL_iff.2 (hb j (by omega)).2.1, fun j _ hj => inL_iff.2 (hb j (by omega)).2.2⟩
      · rintro ⟨b1, b2, b3⟩
        exact ⟨h, ⟨h1, h2, h3⟩, fun j hj => ⟨inL_iff.1 (b1 j (Nat.zero_le _) hj), inL_iff.1 (b2 j (Nat.zero_le _) (by omega)), inL_iff.1 (b3 j (Nat.zero_le _) (by omega))⟩⟩
    rw [e]
    refine Ev.bind (l1All_ev t ht 0 10000) (ev_ite (fun q1 => ?_) (fun q1 => ev_some ?_))
    · rw [show allR (inL 0 10000 t) 0 t.length = true from q1, Bool.true_and]
      refine Ev.bind (l1All_ev g hg 0 1000) (ev_ite (fun q2 => ?_) (fun q2 => ev_some ?_))
      · rw [show allR (inL 0 1000 g) 0 g.length = true from q2, Bool.true_and]
        exact ev_id (l1All_ev r hr 0 4)
      · rw [Bool.not_eq_true] at q2; rw [show allR (inL 0 1000 g) 0 g.length = false from q2, Bool.false_and]
    · rw [Bool.not_eq_true] at q1; rw [show allR (inL 0 10000 t) 0 t.length = false from q1, Bool.false_and]
  · rw [Bool.not_eq_true] at h; unfold modelOk; rw [h, Bool.false_and]

/- impl_IsModel -/
theorem IsGrid_eq (x y z : Int) : impl_IsGrid.f x y z = some (gridOk x y z) := by
  unfold impl_IsGrid.f gridOk
  by_cases h : 1 ≤ x ∧ x ≤ 8 ∧ 1 ≤ y ∧ y ≤ 6 ∧ 1 ≤ z ∧ z ≤ 5
  · rw [if_pos (by omega), if_pos (by omega), if_pos (by omega), if_pos (by omega), if_pos (by omega), if_pos (by omega), (grid_w h).1]
    congr 1
    rw [Bool.eq_iff_iff, decide_eq_true_eq, decide_eq_true_eq]
    omega
  · rw [show decide (1 ≤ x ∧ x ≤ 8 ∧ 1 ≤ y ∧ y ≤ 6 ∧ 1 ≤ z ∧ z ≤ 5 ∧ x * y * z ≤ 120) = false from decide_eq_false (by omega)]
    repeat' split
    all_goals first | rfl | (exfalso; omega)
theorem IsModel_l0 (x y z : Int) (t g r : List Int) (hl : t.length ≤ maxLen) (h1 : g.length = t.length) (h2 : r.length = t.length) : ∀ (d i : Nat), i + d = t.length → Ev (fun k => impl_IsModel.l0 k (t.length : Int) (i : Int) x y z t g r) (allR (blockAt t g r) i t.length) := by
  have hl := maxLen_le hl
  intro d
  induction d with
  | zero =>
    intro i hi
    exact Ev.step (fun k => impl_IsModel.l0.eq_2 t.length i x y z t g r k) (ev_neg (by omega) (ev_some (allR_end (by omega)).symm))
  | succ d ih =>
    intro i hi
    refine Ev.step (fun k => impl_IsModel.l0.eq_2 t.length i x y z t g r k) ?_
    rw [allR_step (by omega), w_succ (n := t.length) (by omega) (by omega), rd_nat, rd_nat, rd_nat]
    have no : ¬ ((0 ≤ t.getD i 0 ∧ t.getD i 0 ≤ 10000) ∧ (0 ≤ g.getD i 0 ∧ g.getD i 0 ≤ 1000) ∧ 0 ≤ r.getD i 0 ∧ r.getD i 0 ≤ 4) → false = (blockAt t g r i && allR (blockAt t g r) (i + 1) t.length) := by
      intro h
      have : blockAt t g r i = false := by rw [← Bool.not_eq_true, blockAt_iff]; exact h
      rw [this, Bool.false_and]
    refine ev_pos (by omega) (ev_pos (by omega) (ev_pos (by omega) (ev_ite (fun q => ev_some (no (by omega))) (fun q1 => ev_ite (fun q => ev_some (no (by omega))) (fun q2 => ev_pos (by omega) (ev_ite (fun q => ev_some (no (by omega))) (fun q3 => ev_ite (fun q => ev_some (no (by omega))) (fun q4 => ev_pos (by omega) (ev_ite (fun q => ev_some (no (by omega))) (fun q5 => ev_ite (fun q => ev_some (no (by omega))) (fun q6 => ?_)))))))))))
    rw [blockAt_iff.2 (by omega), Bool.true_and]
    exact ih (i + 1) (by omega)
theorem IsModel_ev (x y z : Int) (t g r : List Int) (ht : t.length ≤ maxLen) : Ev (fun k => impl_IsModel.f k x y z t g r) (modelOk x y z t g r) := by
  unfold impl_IsModel.f
  refine ev_bindc (IsGrid_eq x y z) (ev_ite (fun h => ?_) (fun h => ev_some ?_))
  · have hw := grid_ok h
    refine ev_bindc (a := x * y * z) (by unfold impl_blocksOf.f; rw [hw.1]) ?_
    have no : ¬ ((t.length : Int) = x * y * z ∧ (g.length : Int) = x * y * z ∧ (r.length : Int) = x * y * z) → false = modelOk x y z t g r := by
      intro hn; unfold modelOk; rw [decide_eq_false hn, Bool.false_and, Bool.and_false]
    have bad : ∀ b : Bool, b = true → ¬ ((t.length : Int) = x * y * z ∧ (g.length : Int) = x * y * z ∧ (r.length : Int) = x * y * z) → Ev (fun k => impl_IsModel.j0 k (x * y * z) b x y z t g r) (modelOk x y z t g r) := by
      intro b hb hn
      exact Ev.step (fun k => impl_IsModel.j0.eq_2 _ b x y z t g r k) (ev_pos hb (ev_some (no hn)))
    refine ev_ite (fun h1 => ev_ite (fun h2 => ?_) (fun h2 => bad _ rfl (by omega))) (fun h1 => bad _ rfl (by omega))
    by_cases h3 : (r.length : Int) = x * y * z
    · refine Ev.step (fun k => impl_IsModel.j0.eq_2 _ _ x y z t g r k) (ev_neg (by simp [h3]) ?_)
      have := IsModel_l0 x y z t g r ht (by omega) (by omega) t.length 0 (by omega)
      unfold modelOk
      rw [h, decide_eq_true ⟨h1, h2, h3⟩, Bool.true_and, Bool.true_and, ← h1]
      exact this
    · exact bad _ (by simp [h3]) (by omega)
  · rw [Bool.not_eq_true] at h; unfold modelOk; rw [h, Bool.false_and]

/- priceP -/
def priceX (t g : List Int) (p0 p1 p2 p3 i : Int) : Int := wrap64 ((mx 0 (wrap64 ((wrap64 (Int.tdiv (wrap64 ((wrap64 ((wrap64 ((rd t i) * (rd g i))) * p1)) * p0)) 1000)) - (wrap64 ((rd t i) * p2))))) - (wrap64 ((rd t i) * p3)))
def downP (x : Int) : Int := if Int.tmod x 10000 < 0 then wrap64 (wrap64 (Int.tdiv x 10000) - 1) else wrap64 (Int.tdiv x 10000)
theorem tmod_pos {x y : Int} (h : 0 ≤ x) : 0 ≤ Int.tmod x y := by
  rw [Int.tmod_eq_emod_of_nonneg h]
  by_cases hy : y = 0
  · subst hy; simpa using h
  · exact Int.emod_nonneg x hy
theorem tmod_neg {x y : Int} (h : x ≤ 0) : Int.tmod x y ≤ 0 := by
  have : Int.tmod (-(-x)) y = -Int.tmod (-x) y := Int.neg_tmod _ _
  rw [Int.neg_neg] at this
  have := tmod_pos (x := -x) (y := y) (by omega)
  omega
theorem ruDown_eq (x : Int) : spec_ruDown.f x 10000 = some (downP x) := by
  unfold spec_ruDown.f downP
  rw [if_neg (by omega)]
  by_cases h : Int.tmod x 10000 = 0
  · rw [if_pos h, if_neg (by omega)]
  · rw [if_neg h]
    by_cases hx : x < 0
    · have := tmod_neg (x := x) (y := 10000) (by omega)
      rw [if_pos (show Int.tmod x 10000 < 0 by omega), if_pos (by simp [hx])]
    · have := tmod_pos (x := x) (y := 10000) (by omega)
      rw [if_neg (show ¬ Int.tmod x 10000 < 0 by omega), if_neg (by simp [hx])]
theorem floorDiv_eq (x : Int) : impl_floorDiv.f x 10000 = some (downP x) := by
  unfold impl_floorDiv.f downP
  rw [if_neg (by omega)]
  split <;> rfl
theorem most_eq (x : Int) : spec_l1Most.f 0 x = some (mx 0 x) := by
  unfold spec_l1Most.f mx
  by_cases h : 0 > x
  · rw [if_pos h, if_neg (by omega)]
  · rw [if_neg h]
    by_cases h1 : 0 < x
    · rw [if_pos h1]
    · rw [if_neg h1, show x = 0 by omega]
theorem vaPrice_eq (x y z : Int) (t g r : List Int) (p0 p1 p2 p3 i : Int) (h0 : 0 ≤ i) (h1 : i < t.length) (h2 : g.length = t.length) : spec_vaPrice.f x y z t g r p0 p1 p2 p3 i = some (downP (priceX t g p0 p1 p2 p3 i)) := by
  unfold spec_vaPrice.f spec_moMetal.f
  rw [if_pos h0, if_pos h1, if_pos (by omega), Option.bind_some, if_pos h0, if_pos h1, most_eq, Option.bind_some, ruDown_eq]
  rfl
theorem priceValue_eq (x y z : Int) (t g r : List Int) (p0 p1 p2 p3 i : Int) (h0 : 0 ≤ i) (h1 : i < t.length) (h2 : g.length = t.length) : impl_priceValue.f x y z t g r p0 p1 p2 p3 i = some (downP (priceX t g p0 p1 p2 p3 i)) := by
  unfold impl_priceValue.f
  rw [if_pos h0, if_pos h1, if_pos (by omega), floorDiv_eq]
  rfl
def pricesOk (p0 p1 p2 p3 : Int) : Bool := allR (inL 0 1000 [p0, p1, p2, p3]) 0 4
theorem vaPrices_ev (p0 p1 p2 p3 : Int) : Ev (fun k => spec_vaPrices.f k p0 p1 p2 p3) (pricesOk p0 p1 p2 p3) := by
  unfold spec_vaPrices.f
  exact ev_id (l1All_ev [p0, p1, p2, p3] (maxLen_val (by simp)) 0 1000)
theorem ArePrices_l0 (l : List Int) (hl : l.length ≤ maxLen) : ∀ (d i : Nat), i + d = l.length → Ev (fun k => impl_ArePrices.l0 k l (l.length : Int) (i : Int)) (allR (inL 0 1000 l) i l.length) := by
  have hl := maxLen_le hl
  intro d
  induction d with
  | zero =>
    intro i hi
    exact Ev.step (fun k => impl_ArePrices.l0.eq_2 l l.length i k) (ev_neg (by omega) (ev_some (allR_end (by omega)).symm))
  | succ d ih =>
    intro i hi
    refine Ev.step (fun k => impl_ArePrices.l0.eq_2 l l.length i k) ?_
    rw [allR_step (by omega), w_succ (n := l.length) (by omega) (by omega), rd_nat]
    have no : ¬ (0 ≤ l.getD i 0 ∧ l.getD i 0 ≤ 1000) → false = (inL 0 1000 l i && allR (inL 0 1000 l) (i + 1) l.length) := by
      intro h; rw [show inL 0 1000 l i = false from decide_eq_false h, Bool.false_and]
    refine ev_pos (by omega) (ev_pos (by omega) (ev_pos (by omega) ?_))
    refine ev_ite (fun h => ev_some (no (by omega))) (fun h => ?_)
    refine ev_ite (fun h1 => ev_some (no (by omega))) (fun h1 => ?_)
    rw [show inL 0 1000 l i = true from decide_eq_true (by omega), Bool.true_and]; exact ih (i + 1) (by omega)
theorem ArePrices_ev (p0 p1 p2 p3 : Int) : Ev (fun k => impl_ArePrices.f k p0 p1 p2 p3) (pricesOk p0 p1 p2 p3) := by
  unfold impl_ArePrices.f
  refine ev_bindc (a := [p0, p1, p2, p3]) rfl ?_
  exact ArePrices_l0 [p0, p1, p2, p3] (maxLen_val (by simp)) 4 0 (by simp)

/- hand.FnExactPriceValues -/
def allP (t g : List Int) (p0 p1 p2 p3 : Int) (o : List Int) (i : Nat) : List Int := o ++ [downP (priceX t g p0 p1 p2 p3 i)]
theorem allP_len (t g : List Int) (p0 p1 p2 p3 : Int) (m : Nat) : (foldR (allP t g p0 p1 p2 p3) 0 m []).length = m := by
  induction m with
  | zero => rw [foldR_end (Nat.le_refl _)]; rfl
  | succ m ih => rw [foldR_last (Nat.zero_le _)]; unfold allP at *; rw [List.length_append, ih]; rfl
theorem vaAll_l0 (x y z : Int) (t g r : List Int) (p0 p1 p2 p3 : Int) (ht : t.length ≤ 120) (hg : g.length = t.length) : ∀ (d i : Nat), i + d = t.length → Ev (fun k => spec_vaAll.l0 k (foldR (allP t g p0 p1 p2 p3) 0 i []) (t.length : Int) (i : Int) x y z t g r p0 p1 p2 p3) (foldR (allP t g p0 p1 p2 p3) 0 t.length []) := by
  intro d
  induction d with
  | zero =>
    intro i hi
    obtain rfl : i = t.length := by omega
    exact Ev.step (fun k => spec_vaAll.l0.eq_2 _ t.length t.length x y z t g r p0 p1 p2 p3 k) (ev_neg (by omega) (ev_some rfl))
  | succ d ih =>
    intro i hi
    have ih := ih (i + 1) (by omega)
    have hl := allP_len t g p0 p1 p2 p3 i
    rw [foldR_last (Nat.zero_le _)] at ih
    refine Ev.step (fun k => spec_vaAll.l0.eq_2 _ t.length i x y z t g r p0 p1 p2 p3 k) ?_
    rw [w_succ (n := t.length) (by omega) (by omega)]
    exact ev_pos (by omega) (ev_bindc (vaPrice_eq x y z t g r p0 p1 p2 p3 i (by omega) (by omega) hg) (ev_pos (by omega) ih))
theorem iAll_l0 (x y z : Int) (t g r : List Int) (p0 p1 p2 p3 : Int) (ht : t.length ≤ 120) (hg : g.length = t.length) : ∀ (d i : Nat), i + d = t.length → Ev (fun k => impl_PriceValues.l0 k (foldR (allP t g p0 p1 p2 p3) 0 i []) (t.length : Int) (i : Int) x y z t g r p0 p1 p2 p3) (foldR (allP t g p0 p1 p2 p3) 0 t.length [], true) := by
  intro d
  induction d with
  | zero =>
    intro i hi
    obtain rfl : i = t.length := by omega
    exact Ev.step (fun k => impl_PriceValues.l0.eq_2 _ t.length t.length x y z t g r p0 p1 p2 p3 k) (ev_neg (by omega) (ev_some rfl))
  | succ d ih =>
    intro i hi
    have ih := ih (i + 1) (by omega)
    have hl := allP_len t g p0 p1 p2 p3 i
    rw [foldR_last (Nat.zero_le _)] at ih
    refine Ev.step (fun k => impl_PriceValues.l0.eq_2 _ t.length i x y z t g r p0 p1 p2 p3 k) ?_
    rw [w_succ (n := t.length) (by omega) (by omega)]
    exact ev_pos (by omega) (ev_bindc (priceValue_eq x y z t g r p0 p1 p2 p3 i (by omega) (by omega) hg) (ev_pos (by omega) ih))
theorem both (x y z : Int) (t g r : List Int) (p0 p1 p2 p3 : Int) (_ : -9223372036854775808 ≤ x ∧ x ≤ 9223372036854775807) (_ : -9223372036854775808 ≤ y ∧ y ≤ 9223372036854775807) (_ : -9223372036854775808 ≤ z ∧ z ≤ 9223372036854775807) (ht : t.length ≤ 1048576) (hg : g.length ≤ 1048576) (hr : r.length ≤ 1048576)
    (_ : -9223372036854775808 ≤ p0 ∧ p0 ≤ 9223372036854775807) (_ : -9223372036854775808 ≤ p1 ∧ p1 ≤ 9223372036854775807) (_ : -9223372036854775808 ≤ p2 ∧ p2 ≤ 9223372036854775807) (_ : -9223372036854775808 ≤ p3 ∧ p3 ≤ 9223372036854775807) :
    ∃ q : List Int × Bool, Ev (fun k => spec_PriceValues.f k x y z t g r p0 p1 p2 p3) q ∧ Ev (fun k => impl_PriceValues.f k x y z t g r p0 p1 p2 p3) q ∧ q.1.length ≤ 1048576 := by
  have hm := moGood_ev x y z t g r (maxLen_val (by omega)) (maxLen_val (by omega)) (maxLen_val (by omega))
  have hi := IsModel_ev x y z t g r (maxLen_val (by omega))
  have hs := vaPrices_ev p0 p1 p2 p3
  have hp := ArePrices_ev p0 p1 p2 p3
  by_cases c1 : modelOk x y z t g r = true
  · have hb := model_bd c1
    by_cases c2 : pricesOk p0 p1 p2 p3 = true
    · refine ⟨(foldR (allP t g p0 p1 p2 p3) 0 t.length [], true), ?_, ?_, by rw [allP_len]; omega⟩
      · unfold spec_PriceValues.f spec_vaAll.f
        have := vaAll_l0 x y z t g r p0 p1 p2 p3 hb.2.1 hb.2.2.1 t.length 0 (by omega)
        rw [foldR_end (Nat.le_refl _)] at this
        exact Ev.bind hm (ev_pos c1 (Ev.bind hs (ev_pos c2 (Ev.bind this (ev_some rfl)))))
      · unfold impl_PriceValues.f
        have := iAll_l0 x y z t g r p0 p1 p2 p3 hb.2.1 hb.2.2.1 t.length 0 (by omega)
        rw [foldR_end (Nat.le_refl _)] at this
        exact Ev.bind hi (ev_pos c1 (Ev.bind hp (Ev.step (fun k => impl_PriceValues.j0.eq_2 _ x y z t g r p0 p1 p2 p3 k) (ev_neg (by simp [c2]) this))))
    · refine ⟨([], false), ?_, ?_, by simp⟩
      · unfold spec_PriceValues.f
        exact Ev.bind hm (ev_pos c1 (Ev.bind hs (ev_neg c2 (ev_some rfl))))
      · unfold impl_PriceValues.f
        exact Ev.bind hi (ev_pos c1 (Ev.bind hp (Ev.step (fun k => impl_PriceValues.j0.eq_2 _ x y z t g r p0 p1 p2 p3 k) (ev_pos (by simpa using c2) (ev_some rfl)))))
  · refine ⟨([], false), ?_, ?_, by simp⟩
    · unfold spec_PriceValues.f
      exact Ev.bind hm (ev_neg c1 (ev_some rfl))
    · unfold impl_PriceValues.f
      exact Ev.bind hi (ev_neg c1 (Ev.step (fun k => impl_PriceValues.j0.eq_2 _ x y z t g r p0 p1 p2 p3 k) (ev_pos rfl (ev_some rfl))))

def laws_FnExactPriceValues_T5 : Bool × List (List Nat × List Nat) := (true, [([], []), ([0], [0]), ([], []), ([2, 1], [2]), ([1, 3, 3], [1, 3]), ([4], [4]), ([5], [5]), ([5], [5]), ([6, 4, 0, 1, 2, 3, 4, 5, 6], [6]), ([7, 8, 0, 1, 2, 3, 4, 5, 6, 7, 8], [7])])
def laws_FnExactPriceValues_B5 : List Nat := [0, 1, 0, 7, 15, 31, 63, 63, 127, 511]
theorem laws_FnExactPriceValues_tab5 : rtab .any (opsOf Try.f5 5) = laws_FnExactPriceValues_T5 := by kernel_rfl
theorem laws_FnExactPriceValues_bits5 : waitsOk laws_FnExactPriceValues_T5.2 laws_FnExactPriceValues_B5 = true := by kernel_rfl
def laws_FnExactPriceValues_T7 : Bool × List (List Nat × List Nat) := (true, [([], []), ([], []), ([1], [1]), ([0, 2, 2], [0, 2]), ([3], [3]), ([4], [4]), ([4], [4]), ([5, 3, 0, 1, 2, 3, 4, 5], [5]), ([6, 7, 0, 1, 2, 3, 4, 5, 6, 7], [6])])
def laws_FnExactPriceValues_B7 : List Nat := [0, 0, 2, 7, 15, 31, 31, 63, 255]
theorem laws_FnExactPriceValues_tab7 : rtab .any (opsOf Try.f5 7) = laws_FnExactPriceValues_T7 := by kernel_rfl
theorem laws_FnExactPriceValues_bits7 : waitsOk laws_FnExactPriceValues_T7.2 laws_FnExactPriceValues_B7 = true := by kernel_rfl
def laws_FnExactPriceValues_T10 : Bool × List (List Nat × List Nat) := (true, [([], []), ([], []), ([1], [1]), ([0, 2, 2], [0, 2]), ([3], [3])])
def laws_FnExactPriceValues_B10 : List Nat := [0, 0, 2, 7, 15]
theorem laws_FnExactPriceValues_tab10 : rtab .any (opsOf Try.f5 10) = laws_FnExactPriceValues_T10 := by kernel_rfl
theorem laws_FnExactPriceValues_bits10 : waitsOk laws_FnExactPriceValues_T10.2 laws_FnExactPriceValues_B10 = true := by kernel_rfl
def laws_FnExactPriceValues_T24 : Bool × List (List Nat × List Nat) := (true, [([], []), ([0], [0]), ([], []), ([2, 1], [2]), ([1, 3, 3], [1, 3]), ([4], [4]), ([5], [5]), ([5], [5]), ([6, 4, 0, 1, 2, 3, 4, 5, 6], [6]), ([7, 8, 0, 1, 2, 3, 4, 5, 6, 7, 8], [7])])
def laws_FnExactPriceValues_B24 : List Nat := [0, 1, 0, 7, 15, 31, 63, 63, 127, 511]
theorem laws_FnExactPriceValues_tab24 : rtab .any (opsOf Try.f5 24) = laws_FnExactPriceValues_T24 := by kernel_rfl
theorem laws_FnExactPriceValues_bits24 : waitsOk laws_FnExactPriceValues_T24.2 laws_FnExactPriceValues_B24 = true := by kernel_rfl
set_option maxHeartbeats 4000000 in
set_option maxRecDepth 100000 in
theorem walk (a0_0 : Int) (a0_1 : Int) (a0_2 : Int) (a0_3 : List Int) (a0_4 : List Int) (a0_5 : List Int) (a1_0 : Int) (a1_1 : Int) (a1_2 : Int) (a1_3 : Int) (Aa0_3 : Option Addr) (ca0_3 : Nat) (Aa0_4 : Option Addr) (ca0_4 : Nat) (Aa0_5 : Option Addr) (ca0_5 : Nat) (w : World) (hra0_3 : Kd.C (Kd.int .i64) w Aa0_3 a0_3.length a0_3) (hca0_3 : a0_3.length ≤ ca0_3) (hra0_4 : Kd.C (Kd.int .i64) w Aa0_4 a0_4.length a0_4) (hca0_4 : a0_4.length ≤ ca0_4) (hra0_5 : Kd.C (Kd.int .i64) w Aa0_5 a0_5.length a0_5) (hca0_5 : a0_5.length ≤ ca0_5) (r0 : Int) (hsz0 : ∀ (Aa0_3 : Option Addr) (ca0_3 : Nat) (Aa0_4 : Option Addr) (ca0_4 : Nat) (Aa0_5 : Option Addr) (ca0_5 : Nat) (w : World), Kd.C (Kd.int .i64) w Aa0_3 a0_3.length a0_3 → a0_3.length ≤ ca0_3 → Kd.C (Kd.int .i64) w Aa0_4 a0_4.length a0_4 → a0_4.length ≤ ca0_4 → Kd.C (Kd.int .i64) w Aa0_5 a0_5.length a0_5 → a0_5.length ≤ ca0_5 → Calls Try.prog 14 #[.agg #[.int .i64 a0_0, .int .i64 a0_1, .int .i64 a0_2, .slice Aa0_3 a0_3.length ca0_3, .slice Aa0_4 a0_4.length ca0_4, .slice Aa0_5 a0_5.length ca0_5], .int .i64 1048576] w fun e w' => e = .returned (.int .i64 r0) ∧ Below w.heap.size w w') (hlt0 : ¬ r0 < 0)  (g0 : List Int) (g1 : Bool) (hla0_3 : a0_3.length ≤ 1048576) (hla0_4 : a0_4.length ≤ 1048576) (hla0_5 : a0_5.length ≤ 1048576) (hlg0 : g0.length ≤ 1048576) (hs : ∃ k, spec_PriceValues.f k a0_0 a0_1 a0_2 a0_3 a0_4 a0_5 a1_0 a1_1 a1_2 a1_3 = some (g0, g1)) (hi : ∃ k, impl_PriceValues.f k a0_0 a0_1 a0_2 a0_3 a0_4 a0_5 a1_0 a1_1 a1_2 a1_3 = some (g0, g1)) :
    Calls Try.prog 5 #[.agg #[.int .i64 a0_0, .int .i64 a0_1, .int .i64 a0_2, .slice Aa0_3 a0_3.length ca0_3, .slice Aa0_4 a0_4.length ca0_4, .slice Aa0_5 a0_5.length ca0_5], .agg #[.int .i64 a1_0, .int .i64 a1_1, .int .i64 a1_2, .int .i64 a1_3]] w fun e w' => e = .returned (.bool true) ∧ Below w.heap.size w w' := by
  obtain ⟨ks, hs⟩ := hs
  have Hs := Aside0.mk hs
  obtain ⟨ki, hi⟩ := hi
  have Hi := Aside0.mk hi
  have HRa0_3 := Aside0.mk hra0_3
  have HCa0_3 := Aside0.mk hca0_3
  have HLa0_3 := Aside0.mk hla0_3
  have HRa0_4 := Aside0.mk hra0_4
  have HCa0_4 := Aside0.mk hca0_4
  have HLa0_4 := Aside0.mk hla0_4
  have HRa0_5 := Aside0.mk hra0_5
  have HCa0_5 := Aside0.mk hca0_5
  have HLa0_5 := Aside0.mk hla0_5
  have HLg0 := Aside0.mk hlg0
  have HSZ0 := Aside0.mk hsz0
  have d0 : decide (r0 < 0) = false := decide_eq_false hlt0
  clear hs hi hra0_3 hca0_3 hla0_3 hra0_4 hca0_4 hla0_4 hra0_5 hca0_5 hla0_5 hlg0 hsz0 hlt0
  go_enter Try.func5, Try.ntmps5
  go_wp2_with fail
  obtain ⟨wb, hwb⟩ : ∃ z : World, z = ((w.alloc (.cells #[.int .i64 a0_0, .int .i64 a0_1, .int .i64 a0_2, .slice Aa0_3 a0_3.length ca0_3, .slice Aa0_4 a0_4.length ca0_4, .slice Aa0_5 a0_5.length ca0_5] 26)).alloc (.cells #[.int .i64 a1_0, .int .i64 a1_1, .int .i64 a1_2, .int .i64 a1_3] 28)) := ⟨_, rfl⟩
  rw [← hwb]
  have K0_0 : Aside0 (wb.heap[w.heap.size]? = some (.cells #[.int .i64 a0_0, .int .i64 a0_1, .int .i64 a0_2, .slice Aa0_3 a0_3.length ca0_3, .slice Aa0_4 a0_4.length ca0_4, .slice Aa0_5 a0_5.length ca0_5] 26 (0, 0))) := ⟨by rw [hwb]; exact blk_alloc (blk_new w _) _⟩
  have K1_0 : Aside0 (wb.heap[w.heap.size + 1]? = some (.cells #[.int .i64 a1_0, .int .i64 a1_1, .int .i64 a1_2, .int .i64 a1_3] 28 (0, 0))) := ⟨by rw [hwb, show w.heap.size + 1 = (w.alloc (.cells #[.int .i64 a0_0, .int .i64 a0_1, .int .i64 a0_2, .slice Aa0_3 a0_3.length ca0_3, .slice Aa0_4 a0_4.length ca0_4, .slice Aa0_5 a0_5.length ca0_5] 26)).heap.size from (Array.size_push ..).symm]; exact blk_new (w.alloc (.cells #[.int .i64 a0_0, .int .i64 a0_1, .int .i64 a0_2, .slice Aa0_3 a0_3.length ca0_3, .slice Aa0_4 a0_4.length ca0_4, .slice Aa0_5 a0_5.length ca0_5] 26)) _⟩
  have B0 : Aside0 (Below w.heap.size w wb) := ⟨by rw [hwb]; exact below_alloc (below_alloc (Below.refl _ _) _) _⟩
  have z0 := B0.out.size
  have zb := blk_lt K1_0.out
  clear hwb
  refine (HSZ0.out Aa0_3 ca0_3 Aa0_4 ca0_4 Aa0_5 ca0_5 wb (Kd.C_below HRa0_3.out B0.out) HCa0_3.out (Kd.C_below HRa0_4.out B0.out) HCa0_4.out (Kd.C_below HRa0_5.out B0.out) HCa0_5.out).mono ?_
  rintro e w1 ⟨rfl, hb⟩
  have B1 := Aside0.mk (below_step B0.out hb)
  have z1 := hb.size
  have K0_1 := Aside0.mk (blk_below K0_0.out hb)
  clear K0_0
  have K1_1 := Aside0.mk (blk_below K1_0.out hb)
  clear K1_0
  clear hb
  have hcz0_0 : w1.cell? ⟨w.heap.size, 0, none⟩ = some (.int .i64 a0_0) := (blk_cell K0_1.out 0).trans rfl
  have hfz0_0 := blk_frozen K0_1.out 0
  have hcz0_1 : w1.cell? ⟨w.heap.size, 1, none⟩ = some (.int .i64 a0_1) := (blk_cell K0_1.out 1).trans rfl
  have hfz0_1 := blk_frozen K0_1.out 1
  have hcz0_2 : w1.cell? ⟨w.heap.size, 2, none⟩ = some (.int .i64 a0_2) := (blk_cell K0_1.out 2).trans rfl
  have hfz0_2 := blk_frozen K0_1.out 2
  have hcz0_3 : w1.cell? ⟨w.heap.size, 3, none⟩ = some (.slice Aa0_3 a0_3.length ca0_3) := (blk_cell K0_1.out 3).trans rfl
  have hfz0_3 := blk_frozen K0_1.out 3
  have hcz0_4 : w1.cell? ⟨w.heap.size, 4, none⟩ = some (.slice Aa0_4 a0_4.length ca0_4) := (blk_cell K0_1.out 4).trans rfl
  have hfz0_4 := blk_frozen K0_1.out 4
  have hcz0_5 : w1.cell? ⟨w.heap.size, 5, none⟩ = some (.slice Aa0_5 a0_5.length ca0_5) := (blk_cell K0_1.out 5).trans rfl
  have hfz0_5 := blk_frozen K0_1.out 5
  have hcz1_0 : w1.cell? ⟨w.heap.size + 1, 0, none⟩ = some (.int .i64 a1_0) := (blk_cell K1_1.out 0).trans rfl
  have hfz1_0 := blk_frozen K1_1.out 0
  have hcz1_1 : w1.cell? ⟨w.heap.size + 1, 1, none⟩ = some (.int .i64 a1_1) := (blk_cell K1_1.out 1).trans rfl
  have hfz1_1 := blk_frozen K1_1.out 1
  have hcz1_2 : w1.cell? ⟨w.heap.size + 1, 2, none⟩ = some (.int .i64 a1_2) := (blk_cell K1_1.out 2).trans rfl
  have hfz1_2 := blk_frozen K1_1.out 2
  have hcz1_3 : w1.cell? ⟨w.heap.size + 1, 3, none⟩ = some (.int .i64 a1_3) := (blk_cell K1_1.out 3).trans rfl
  have hfz1_3 := blk_frozen K1_1.out 3
  go_wp2_with fail
  clear hcz0_0 hfz0_0 hcz0_1 hfz0_1 hcz0_2 hfz0_2 hcz0_3 hfz0_3 hcz0_4 hfz0_4 hcz0_5 hfz0_5 hcz1_0 hfz1_0 hcz1_1 hfz1_1 hcz1_2 hfz1_2 hcz1_3 hfz1_3
  have K0_1d := Aside0.mk (blk_drew K0_1.out)
  clear K0_1
  have K1_1d := Aside0.mk (blk_drew K1_1.out)
  clear K1_1
  have B2 := Aside0.mk (below_drew1 B1.out)
  have z2 : w1.heap.size ≤ (w1.drew).heap.size := Nat.le_refl _
  refine start_ (n := 10) (S := fun w' => w'.cell? ⟨w.heap.size, 0, none⟩ = some (.int .i64 a0_0) ∧ w'.cell? ⟨w.heap.size, 1, none⟩ = some (.int .i64 a0_1) ∧ w'.cell? ⟨w.heap.size, 2, none⟩ = some (.int .i64 a0_2) ∧ w'.cell? ⟨w.heap.size, 3, none⟩ = some (.slice Aa0_3 a0_3.length ca0_3) ∧ w'.cell? ⟨w.heap.size, 4, none⟩ = some (.slice Aa0_4 a0_4.length ca0_4) ∧ w'.cell? ⟨w.heap.size, 5, none⟩ = some (.slice Aa0_5 a0_5.length ca0_5) ∧ w'.cell? ⟨w.heap.size + 1, 0, none⟩ = some (.int .i64 a1_0) ∧ w'.cell? ⟨w.heap.size + 1, 1, none⟩ = some (.int .i64 a1_1) ∧ w'.cell? ⟨w.heap.size + 1, 2, none⟩ = some (.int .i64 a1_2) ∧ w'.cell? ⟨w.heap.size + 1, 3, none⟩ = some (.int .i64 a1_3)) (ds := []) #[false, false, false, false, false, false, false, false, false, false] (by kernel_rfl) rfl rfl ⟨(blk_cell K0_1d.out 0).trans rfl, (blk_cell K0_1d.out 1).trans rfl, (blk_cell K0_1d.out 2).trans rfl, (blk_cell K0_1d.out 3).trans rfl, (blk_cell K0_1d.out 4).trans rfl, (blk_cell K0_1d.out 5).trans rfl, (blk_cell K1_1d.out 0).trans rfl, (blk_cell K1_1d.out 1).trans rfl, (blk_cell K1_1d.out 2).trans rfl, (blk_cell K1_1d.out 3).trans rfl⟩ (fun hHeld => ?_)
  refine with_tabW laws_FnExactPriceValues_tab5 laws_FnExactPriceValues_bits5 (fun HT_ HW_ => ?_)
  generalize w1.drew = w2 at K0_1d K1_1d B2 z2 hHeld ⊢
  refine take_ (i := 0) (N := some 22) (v := ?_) (a' := ?_) #[true, false, false, false, false, false, false, false, false, false] rfl rfl (take_ofW HT_.out HW_.out (by kernel_rfl)) (fun _ _ _ h => h) (Or.inl ⟨by rfl, ?_⟩) hHeld ?_ ?_
  rotate_left
  · rintro w' ⟨s0, s1, s2, s3, s4, s5, s6, s7, s8, s9⟩
    go_simp
    with_reducible rfl
  rotate_left
  · simp only [Act.put, List.setIfInBounds_toArray, List.set_cons_zero, List.set_cons_succ, i64_w, i32_w]
    rfl
  refine take_ (i := 2) (N := some 24) (v := ?_) (a' := ?_) #[true, false, true, false, false, false, false, false, false, false] rfl rfl (take_ofW HT_.out HW_.out (by kernel_rfl)) (fun _ _ _ h => h) (Or.inl ⟨by rfl, ?_⟩) hHeld ?_ ?_
  rotate_left
  · rintro w' ⟨s0, s1, s2, s3, s4, s5, s6, s7, s8, s9⟩
    go_simp
    with_reducible rfl
  rotate_left
  · simp only [Act.put, List.setIfInBounds_toArray, List.set_cons_zero, List.set_cons_succ, i64_w, i32_w]
    rfl
  refine one_ (i := 1) (N := some 23) #[true, true, true, false, false, false, false, false, false, false] rfl rfl (one_of HT_.out (by kernel_rfl)) (by decide) (fun K hK => ?_)
  refine goes_ Try.func16 (by kernel_rfl) rfl #[.agg #[.int .i64 a0_0, .int .i64 a0_1, .int .i64 a0_2, .slice Aa0_3 a0_3.length ca0_3, .slice Aa0_4 a0_4.length ca0_4, .slice Aa0_5 a0_5.length ca0_5]] (by rfl) rfl rfl (by (try simp only [List.map_toArray, List.map_cons, List.map_nil]); first | done | rfl | (simp only [List.length_drop, List.length_take]; rfl)) ?_
  refine (toModel_calls a0_0 a0_1 a0_2 a0_3 HLa0_3.out a0_4 HLa0_4.out a0_5 HLa0_5.out Aa0_3 ca0_3 Aa0_4 ca0_4 Aa0_5 ca0_5 w2 (Kd.C_below HRa0_3.out B2.out) HCa0_3.out (Kd.C_below HRa0_4.out B2.out) HCa0_4.out (Kd.C_below HRa0_5.out B2.out) HCa0_5.out).mono ?_
  rintro e w3 ⟨v0, v1, v2, rfl, ho0, ho1, ho2, hne, hb⟩
  refine ⟨_, rfl, ?_⟩
  have B3 := Aside0.mk (below_step B2.out hb)
  have z3 := hb.size
  obtain ⟨At0_3_3, ct0_3_3, rfl⟩ := Kd.R_slice ho0
  have Ft0_3_3 := Aside0.mk (znR (w := w) rfl ho0 (by omega))
  clear ho0
  obtain ⟨At0_4_3, ct0_4_3, rfl⟩ := Kd.R_slice ho1
  have Ft0_4_3 := Aside0.mk (znR (w := w) rfl ho1 (by omega))
  clear ho1
  obtain ⟨At0_5_3, ct0_5_3, rfl⟩ := Kd.R_slice ho2
  have Ft0_5_3 := Aside0.mk (znR (w := w) rfl ho2 (by omega))
  clear ho2
  have Dt0 := Aside0.mk hne
  clear hne
  have K0_3 := Aside0.mk (blk_below K0_1d.out hb)
  clear K0_1d
  have K1_3 := Aside0.mk (blk_below K1_1d.out hb)
  clear K1_1d
  clear hb
  refine hK.out _ _ ⟨(blk_cell K0_3.out 0).trans rfl, (blk_cell K0_3.out 1).trans rfl, (blk_cell K0_3.out 2).trans rfl, (blk_cell K0_3.out 3).trans rfl, (blk_cell K0_3.out 4).trans rfl, (blk_cell K0_3.out 5).trans rfl, (blk_cell K1_3.out 0).trans rfl, (blk_cell K1_3.out 1).trans rfl, (blk_cell K1_3.out 2).trans rfl, (blk_cell K1_3.out 3).trans rfl⟩ (fun hHeld => ?_)
  clear hK K
  refine norm_ (a' := ?_) ?_ ?_
  rotate_left
  · show Act.put _ (some 23) _ = _
    simp only [Act.put, List.setIfInBounds_toArray, List.set_cons_zero, List.set_cons_succ, i64_w, i32_w]
    rfl
  refine one_ (i := 3) (N := some 25) #[true, true, true, true, false, false, false, false, false, false] rfl rfl (one_of HT_.out (by kernel_rfl)) (by decide) (fun K hK => ?_)
  refine goes_ Try.func17 (by kernel_rfl) rfl #[.agg #[.int .i64 a1_0, .int .i64 a1_1, .int .i64 a1_2, .int .i64 a1_3]] (by rfl) rfl rfl (by (try simp only [List.map_toArray, List.map_cons, List.map_nil]); first | done | rfl | (simp only [List.length_drop, List.length_take]; rfl)) ?_
  refine (toPrices_calls a1_0 a1_1 a1_2 a1_3  w3 ).mono ?_
  rintro e w4 ⟨rfl, hb⟩
  refine ⟨_, rfl, ?_⟩
  have B4 := Aside0.mk (below_step B3.out hb)
  have z4 := hb.size
  have K0_4 := Aside0.mk (blk_below K0_3.out hb)
  clear K0_3
  have K1_4 := Aside0.mk (blk_below K1_3.out hb)
  clear K1_3
  have Ft0_3_4 := Aside0.mk (Kd.R_below Ft0_3_3.out hb)
  clear Ft0_3_3
  have Ft0_4_4 := Aside0.mk (Kd.R_below Ft0_4_3.out hb)
  clear Ft0_4_3
  have Ft0_5_4 := Aside0.mk (Kd.R_below Ft0_5_3.out hb)
  clear Ft0_5_3
  clear hb
  refine hK.out _ _ ⟨(blk_cell K0_4.out 0).trans rfl, (blk_cell K0_4.out 1).trans rfl, (blk_cell K0_4.out 2).trans rfl, (blk_cell K0_4.out 3).trans rfl, (blk_cell K0_4.out 4).trans rfl, (blk_cell K0_4.out 5).trans rfl, (blk_cell K1_4.out 0).trans rfl, (blk_cell K1_4.out 1).trans rfl, (blk_cell K1_4.out 2).trans rfl, (blk_cell K1_4.out 3).trans rfl⟩ (fun hHeld => ?_)
  clear hK K
  refine norm_ (a' := ?_) ?_ ?_
  rotate_left
  · show Act.put _ (some 25) _ = _
    simp only [Act.put, List.setIfInBounds_toArray, List.set_cons_zero, List.set_cons_succ, i64_w, i32_w]
    rfl
  refine one_ (i := 4) (N := some 26) #[true, true, true, true, true, false, false, false, false, false] rfl rfl (one_of HT_.out (by kernel_rfl)) (by decide) (fun K hK => ?_)
  refine goes_ Try.func24 (by kernel_rfl) rfl #[.agg #[.int .i64 a0_0, .int .i64 a0_1, .int .i64 a0_2, .slice At0_3_3 a0_3.length ct0_3_3, .slice At0_4_3 a0_4.length ct0_4_3, .slice At0_5_3 a0_5.length ct0_5_3], .agg #[.int .i64 a1_0, .int .i64 a1_1, .int .i64 a1_2, .int .i64 a1_3]] (by rfl) rfl rfl (by (try simp only [List.map_toArray, List.map_cons, List.map_nil]); first | done | rfl | (simp only [List.length_drop, List.length_take]; rfl)) ?_
  refine (spec_PriceValues.calls ks a0_0 a0_1 a0_2 At0_3_3 ct0_3_3 a0_3 At0_4_3 ct0_4_3 a0_4 At0_5_3 ct0_5_3 a0_5 a1_0 a1_1 a1_2 a1_3 g0 g1 w4 (readsR Ft0_3_4.out).2.2 (readsR Ft0_3_4.out).2.1 (readsR Ft0_4_4.out).2.2 (readsR Ft0_4_4.out).2.1 (readsR Ft0_5_4.out).2.2 (readsR Ft0_5_4.out).2.1 Hs.out).mono ?_
  rintro e w5 ⟨v, rfl, ho, hb⟩
  refine ⟨_, rfl, ?_⟩
  have ho := Kd.R_mono ho (ok' := fun _ => True) (fun _ _ => trivial)
  have B5 := Aside0.mk (below_step B4.out hb)
  have z5 := hb.size
  obtain ⟨Aw0_0_5, cw0_0_5, rfl⟩ := Kd.R_slice ho
  have Fw0_0_5 := Aside0.mk (ivR (w := w) ho (by omega))
  clear ho
  have K0_5 := Aside0.mk (blk_below K0_4.out hb)
  clear K0_4
  have K1_5 := Aside0.mk (blk_below K1_4.out hb)
  clear K1_4
  have Ft0_3_5 := Aside0.mk (Kd.R_below Ft0_3_4.out hb)
  clear Ft0_3_4
  have Ft0_4_5 := Aside0.mk (Kd.R_below Ft0_4_4.out hb)
  clear Ft0_4_4
  have Ft0_5_5 := Aside0.mk (Kd.R_below Ft0_5_4.out hb)
  clear Ft0_5_4
  clear hb
  refine hK.out _ _ ⟨(blk_cell K0_5.out 0).trans rfl, (blk_cell K0_5.out 1).trans rfl, (blk_cell K0_5.out 2).trans rfl, (blk_cell K0_5.out 3).trans rfl, (blk_cell K0_5.out 4).trans rfl, (blk_cell K0_5.out 5).trans rfl, (blk_cell K1_5.out 0).trans rfl, (blk_cell K1_5.out 1).trans rfl, (blk_cell K1_5.out 2).trans rfl, (blk_cell K1_5.out 3).trans rfl⟩ (fun hHeld => ?_)
  clear hK K
  refine norm_ (a' := ?_) ?_ ?_
  rotate_left
  · show Act.put _ (some 26) _ = _
    simp only [Act.put, List.setIfInBounds_toArray, List.set_cons_zero, List.set_cons_succ, i64_w, i32_w]
    rfl
  refine pure_ (i := 5) (N := some 21) (v := ?_) (a' := ?_) #[true, true, true, true, true, true, false, false, false, false] rfl rfl (any_of HT_.out (by kernel_rfl)) (fun _ _ _ h => h) (Or.inl ⟨by rfl, ?_⟩) ?_ ?_
  rotate_left
  · intro w'
    go_simp
    with_reducible rfl
  rotate_left
  · simp only [Act.put, List.setIfInBounds_toArray, List.set_cons_zero, List.set_cons_succ, i64_w, i32_w]
    rfl
  refine pure_ (i := 6) (N := some 27) (v := ?_) (a' := ?_) #[true, true, true, true, true, true, true, false, false, false] rfl rfl (any_of HT_.out (by kernel_rfl)) (fun _ _ _ h => h) (Or.inl ⟨by rfl, ?_⟩) ?_ ?_
  rotate_left
  · intro w'
    go_simp
    with_reducible rfl
  rotate_left
  · simp only [Act.put, List.setIfInBounds_toArray, List.set_cons_zero, List.set_cons_succ, i64_w, i32_w]
    rfl
  refine pure_ (i := 7) (N := some 28) (v := ?_) (a' := ?_) #[true, true, true, true, true, true, true, true, false, false] rfl rfl (any_of HT_.out (by kernel_rfl)) (fun _ _ _ h => h) (Or.inl ⟨by rfl, ?_⟩) ?_ ?_
  rotate_left
  · intro w'
    go_simp
    with_reducible rfl
  rotate_left
  · simp only [Act.put, List.setIfInBounds_toArray, List.set_cons_zero, List.set_cons_succ, i64_w, i32_w]
    rfl
  refine pure_ (i := 8) (N := some 6) (v := ?_) (a' := ?_) #[true, true, true, true, true, true, true, true, true, false] rfl rfl (any_of HT_.out (by kernel_rfl)) (fun _ _ _ h => h) (Or.inl ⟨by rfl, ?_⟩) ?_ ?_
  rotate_left
  · intro w'
    go_simp
    with_reducible rfl
  rotate_left
  · simp only [Act.put, List.setIfInBounds_toArray, List.set_cons_zero, List.set_cons_succ, i64_w, i32_w]
    rfl
  refine pure_ (i := 9) (N := some 7) (v := ?_) (a' := ?_) #[true, true, true, true, true, true, true, true, true, true] rfl rfl (any_of HT_.out (by kernel_rfl)) (fun _ _ _ h => h) (Or.inl ⟨by rfl, ?_⟩) ?_ ?_
  rotate_left
  · intro w'
    go_simp
    with_reducible rfl
  rotate_left
  · simp only [Act.put, List.setIfInBounds_toArray, List.set_cons_zero, List.set_cons_succ, i64_w, i32_w]
    rfl
  refine done_ (done_of HT_.out (by kernel_rfl)) ?_
  clear HT_ HW_
  have hcz0_0 : w5.cell? ⟨w.heap.size, 0, none⟩ = some (.int .i64 a0_0) := (blk_cell K0_5.out 0).trans rfl
  have hfz0_0 := blk_frozen K0_5.out 0
  have hcz0_1 : w5.cell? ⟨w.heap.size, 1, none⟩ = some (.int .i64 a0_1) := (blk_cell K0_5.out 1).trans rfl
  have hfz0_1 := blk_frozen K0_5.out 1
  have hcz0_2 : w5.cell? ⟨w.heap.size, 2, none⟩ = some (.int .i64 a0_2) := (blk_cell K0_5.out 2).trans rfl
  have hfz0_2 := blk_frozen K0_5.out 2
  have hcz0_3 : w5.cell? ⟨w.heap.size, 3, none⟩ = some (.slice Aa0_3 a0_3.length ca0_3) := (blk_cell K0_5.out 3).trans rfl
  have hfz0_3 := blk_frozen K0_5.out 3
  have hcz0_4 : w5.cell? ⟨w.heap.size, 4, none⟩ = some (.slice Aa0_4 a0_4.length ca0_4) := (blk_cell K0_5.out 4).trans rfl
  have hfz0_4 := blk_frozen K0_5.out 4
  have hcz0_5 : w5.cell? ⟨w.heap.size, 5, none⟩ = some (.slice Aa0_5 a0_5.length ca0_5) := (blk_cell K0_5.out 5).trans rfl
  have hfz0_5 := blk_frozen K0_5.out 5
  have hcz1_0 : w5.cell? ⟨w.heap.size + 1, 0, none⟩ = some (.int .i64 a1_0) := (blk_cell K1_5.out 0).trans rfl
  have hfz1_0 := blk_frozen K1_5.out 0
  have hcz1_1 : w5.cell? ⟨w.heap.size + 1, 1, none⟩ = some (.int .i64 a1_1) := (blk_cell K1_5.out 1).trans rfl
  have hfz1_1 := blk_frozen K1_5.out 1
  have hcz1_2 : w5.cell? ⟨w.heap.size + 1, 2, none⟩ = some (.int .i64 a1_2) := (blk_cell K1_5.out 2).trans rfl
  have hfz1_2 := blk_frozen K1_5.out 2
  have hcz1_3 : w5.cell? ⟨w.heap.size + 1, 3, none⟩ = some (.int .i64 a1_3) := (blk_cell K1_5.out 3).trans rfl
  have hfz1_3 := blk_frozen K1_5.out 3
  go_wp2_with fail
  clear hcz0_0 hfz0_0 hcz0_1 hfz0_1 hcz0_2 hfz0_2 hcz0_3 hfz0_3 hcz0_4 hfz0_4 hcz0_5 hfz0_5 hcz1_0 hfz1_0 hcz1_1 hfz1_1 hcz1_2 hfz1_2 hcz1_3 hfz1_3
  refine (toModel_calls a0_0 a0_1 a0_2 a0_3 HLa0_3.out a0_4 HLa0_4.out a0_5 HLa0_5.out Aa0_3 ca0_3 Aa0_4 ca0_4 Aa0_5 ca0_5 w5 (Kd.C_below HRa0_3.out B5.out) HCa0_3.out (Kd.C_below HRa0_4.out B5.out) HCa0_4.out (Kd.C_below HRa0_5.out B5.out) HCa0_5.out).mono ?_
  rintro e w6 ⟨v0, v1, v2, rfl, ho0, ho1, ho2, hne, hb⟩
  have B6 := Aside0.mk (below_step B5.out hb)
  have z6 := hb.size
  obtain ⟨Ax0_3_6, cx0_3_6, rfl⟩ := Kd.R_slice ho0
  have Fx0_3_6 := Aside0.mk (znR (w := w) rfl ho0 (by omega))
  clear ho0
  obtain ⟨Ax0_4_6, cx0_4_6, rfl⟩ := Kd.R_slice ho1
  have Fx0_4_6 := Aside0.mk (znR (w := w) rfl ho1 (by omega))
  clear ho1
  obtain ⟨Ax0_5_6, cx0_5_6, rfl⟩ := Kd.R_slice ho2
  have Fx0_5_6 := Aside0.mk (znR (w := w) rfl ho2 (by omega))
  clear ho2
  have Dx0 := Aside0.mk hne
  clear hne
  have K0_6 := Aside0.mk (blk_below K0_5.out hb)
  clear K0_5
  have K1_6 := Aside0.mk (blk_below K1_5.out hb)
  clear K1_5
  have Fw0_0_6 := Aside0.mk (Kd.R_below Fw0_0_5.out hb)
  clear Fw0_0_5
  clear hb
  have hcz0_0 : w6.cell? ⟨w.heap.size, 0, none⟩ = some (.int .i64 a0_0) := (blk_cell K0_6.out 0).trans rfl
  have hfz0_0 := blk_frozen K0_6.out 0
  have hcz0_1 : w6.cell? ⟨w.heap.size, 1, none⟩ = some (.int .i64 a0_1) := (blk_cell K0_6.out 1).trans rfl
  have hfz0_1 := blk_frozen K0_6.out 1
  have hcz0_2 : w6.cell? ⟨w.heap.size, 2, none⟩ = some (.int .i64 a0_2) := (blk_cell K0_6.out 2).trans rfl
  have hfz0_2 := blk_frozen K0_6.out 2
  have hcz0_3 : w6.cell? ⟨w.heap.size, 3, none⟩ = some (.slice Aa0_3 a0_3.length ca0_3) := (blk_cell K0_6.out 3).trans rfl
  have hfz0_3 := blk_frozen K0_6.out 3
  have hcz0_4 : w6.cell? ⟨w.heap.size, 4, none⟩ = some (.slice Aa0_4 a0_4.length ca0_4) := (blk_cell K0_6.out 4).trans rfl
  have hfz0_4 := blk_frozen K0_6.out 4
  have hcz0_5 : w6.cell? ⟨w.heap.size, 5, none⟩ = some (.slice Aa0_5 a0_5.length ca0_5) := (blk_cell K0_6.out 5).trans rfl
  have hfz0_5 := blk_frozen K0_6.out 5
  have hcz1_0 : w6.cell? ⟨w.heap.size + 1, 0, none⟩ = some (.int .i64 a1_0) := (blk_cell K1_6.out 0).trans rfl
  have hfz1_0 := blk_frozen K1_6.out 0
  have hcz1_1 : w6.cell? ⟨w.heap.size + 1, 1, none⟩ = some (.int .i64 a1_1) := (blk_cell K1_6.out 1).trans rfl
  have hfz1_1 := blk_frozen K1_6.out 1
  have hcz1_2 : w6.cell? ⟨w.heap.size + 1, 2, none⟩ = some (.int .i64 a1_2) := (blk_cell K1_6.out 2).trans rfl
  have hfz1_2 := blk_frozen K1_6.out 2
  have hcz1_3 : w6.cell? ⟨w.heap.size + 1, 3, none⟩ = some (.int .i64 a1_3) := (blk_cell K1_6.out 3).trans rfl
  have hfz1_3 := blk_frozen K1_6.out 3
  go_wp2_with fail
  clear hcz0_0 hfz0_0 hcz0_1 hfz0_1 hcz0_2 hfz0_2 hcz0_3 hfz0_3 hcz0_4 hfz0_4 hcz0_5 hfz0_5 hcz1_0 hfz1_0 hcz1_1 hfz1_1 hcz1_2 hfz1_2 hcz1_3 hfz1_3
  have Fw0_0_6b := Aside0.mk (Kd.R_below Fw0_0_6.out (below_alloc (Below.refl _ _) (.cells #[.int .i64 a0_0, .int .i64 a0_1, .int .i64 a0_2, .slice Ax0_3_6 a0_3.length cx0_3_6, .slice Ax0_4_6 a0_4.length cx0_4_6, .slice Ax0_5_6 a0_5.length cx0_5_6] 34)))
  clear Fw0_0_6
  have Fx0_3_6b := Aside0.mk (Kd.R_below Fx0_3_6.out (below_alloc (Below.refl _ _) (.cells #[.int .i64 a0_0, .int .i64 a0_1, .int .i64 a0_2, .slice Ax0_3_6 a0_3.length cx0_3_6, .slice Ax0_4_6 a0_4.length cx0_4_6, .slice Ax0_5_6 a0_5.length cx0_5_6] 34)))
  clear Fx0_3_6
  have Fx0_4_6b := Aside0.mk (Kd.R_below Fx0_4_6.out (below_alloc (Below.refl _ _) (.cells #[.int .i64 a0_0, .int .i64 a0_1, .int .i64 a0_2, .slice Ax0_3_6 a0_3.length cx0_3_6, .slice Ax0_4_6 a0_4.length cx0_4_6, .slice Ax0_5_6 a0_5.length cx0_5_6] 34)))
  clear Fx0_4_6
  have Fx0_5_6b := Aside0.mk (Kd.R_below Fx0_5_6.out (below_alloc (Below.refl _ _) (.cells #[.int .i64 a0_0, .int .i64 a0_1, .int .i64 a0_2, .slice Ax0_3_6 a0_3.length cx0_3_6, .slice Ax0_4_6 a0_4.length cx0_4_6, .slice Ax0_5_6 a0_5.length cx0_5_6] 34)))
  clear Fx0_5_6
  have K0_6b := Aside0.mk (blk_alloc K0_6.out (.cells #[.int .i64 a0_0, .int .i64 a0_1, .int .i64 a0_2, .slice Ax0_3_6 a0_3.length cx0_3_6, .slice Ax0_4_6 a0_4.length cx0_4_6, .slice Ax0_5_6 a0_5.length cx0_5_6] 34))
  clear K0_6
  have K1_6b := Aside0.mk (blk_alloc K1_6.out (.cells #[.int .i64 a0_0, .int .i64 a0_1, .int .i64 a0_2, .slice Ax0_3_6 a0_3.length cx0_3_6, .slice Ax0_4_6 a0_4.length cx0_4_6, .slice Ax0_5_6 a0_5.length cx0_5_6] 34))
  clear K1_6
  have B7 := Aside0.mk (below_alloc B6.out (.cells #[.int .i64 a0_0, .int .i64 a0_1, .int .i64 a0_2, .slice Ax0_3_6 a0_3.length cx0_3_6, .slice Ax0_4_6 a0_4.length cx0_4_6, .slice Ax0_5_6 a0_5.length cx0_5_6] 34))
  have z7 : w6.heap.size < (w6.alloc (.cells #[.int .i64 a0_0, .int .i64 a0_1, .int .i64 a0_2, .slice Ax0_3_6 a0_3.length cx0_3_6, .slice Ax0_4_6 a0_4.length cx0_4_6, .slice Ax0_5_6 a0_5.length cx0_5_6] 34)).heap.size := Nat.lt_of_lt_of_eq (Nat.lt_succ_self _) (Array.size_push ..).symm
  have Kx0_7 := Aside0.mk (blk_new w6 (.cells #[.int .i64 a0_0, .int .i64 a0_1, .int .i64 a0_2, .slice Ax0_3_6 a0_3.length cx0_3_6, .slice Ax0_4_6 a0_4.length cx0_4_6, .slice Ax0_5_6 a0_5.length cx0_5_6] 34))
  generalize w6.alloc (.cells #[.int .i64 a0_0, .int .i64 a0_1, .int .i64 a0_2, .slice Ax0_3_6 a0_3.length cx0_3_6, .slice Ax0_4_6 a0_4.length cx0_4_6, .slice Ax0_5_6 a0_5.length cx0_5_6] 34) = w7 at Fw0_0_6b Fx0_3_6b Fx0_4_6b Fx0_5_6b K0_6b K1_6b Kx0_7 B7 z7 ⊢
  have Fw0_0_6bd := Aside0.mk (Kd.R_drew Fw0_0_6b.out)
  clear Fw0_0_6b
  have Fx0_3_6bd := Aside0.mk (Kd.R_drew Fx0_3_6b.out)
  clear Fx0_3_6b
  have Fx0_4_6bd := Aside0.mk (Kd.R_drew Fx0_4_6b.out)
  clear Fx0_4_6b
  have Fx0_5_6bd := Aside0.mk (Kd.R_drew Fx0_5_6b.out)
  clear Fx0_5_6b
  have K0_6bd := Aside0.mk (blk_drew K0_6b.out)
  clear K0_6b
  have K1_6bd := Aside0.mk (blk_drew K1_6b.out)
  clear K1_6b
  have Kx0_7d := Aside0.mk (blk_drew Kx0_7.out)
  clear Kx0_7
  have B8 := Aside0.mk (below_drew1 B7.out)
  have z8 : w7.heap.size ≤ (w7.drew).heap.size := Nat.le_refl _
  refine start_ (n := 9) (S := fun w' => w'.cell? ⟨w.heap.size, 0, none⟩ = some (.int .i64 a0_0) ∧ w'.cell? ⟨w.heap.size, 1, none⟩ = some (.int .i64 a0_1) ∧ w'.cell? ⟨w.heap.size, 2, none⟩ = some (.int .i64 a0_2) ∧ w'.cell? ⟨w.heap.size, 3, none⟩ = some (.slice Aa0_3 a0_3.length ca0_3) ∧ w'.cell? ⟨w.heap.size, 4, none⟩ = some (.slice Aa0_4 a0_4.length ca0_4) ∧ w'.cell? ⟨w.heap.size, 5, none⟩ = some (.slice Aa0_5 a0_5.length ca0_5) ∧ w'.cell? ⟨w.heap.size + 1, 0, none⟩ = some (.int .i64 a1_0) ∧ w'.cell? ⟨w.heap.size + 1, 1, none⟩ = some (.int .i64 a1_1) ∧ w'.cell? ⟨w.heap.size + 1, 2, none⟩ = some (.int .i64 a1_2) ∧ w'.cell? ⟨w.heap.size + 1, 3, none⟩ = some (.int .i64 a1_3) ∧ w'.cell? ⟨w6.heap.size, 0, none⟩ = some (.int .i64 a0_0) ∧ w'.cell? ⟨w6.heap.size, 1, none⟩ = some (.int .i64 a0_1) ∧ w'.cell? ⟨w6.heap.size, 2, none⟩ = some (.int .i64 a0_2) ∧ w'.cell? ⟨w6.heap.size, 3, none⟩ = some (.slice Ax0_3_6 a0_3.length cx0_3_6) ∧ w'.cell? ⟨w6.heap.size, 4, none⟩ = some (.slice Ax0_4_6 a0_4.length cx0_4_6) ∧ w'.cell? ⟨w6.heap.size, 5, none⟩ = some (.slice Ax0_5_6 a0_5.length cx0_5_6)) (ds := []) #[false, false, false, false, false, false, false, false, false] (by kernel_rfl) rfl rfl ⟨(blk_cell K0_6bd.out 0).trans rfl, (blk_cell K0_6bd.out 1).trans rfl, (blk_cell K0_6bd.out 2).trans rfl, (blk_cell K0_6bd.out 3).trans rfl, (blk_cell K0_6bd.out 4).trans rfl, (blk_cell K0_6bd.out 5).trans rfl, (blk_cell K1_6bd.out 0).trans rfl, (blk_cell K1_6bd.out 1).trans rfl, (blk_cell K1_6bd.out 2).trans rfl, (blk_cell K1_6bd.out 3).trans rfl, (blk_cell Kx0_7d.out 0).trans rfl, (blk_cell Kx0_7d.out 1).trans rfl, (blk_cell Kx0_7d.out 2).trans rfl, (blk_cell Kx0_7d.out 3).trans rfl, (blk_cell Kx0_7d.out 4).trans rfl, (blk_cell Kx0_7d.out 5).trans rfl⟩ (fun hHeld => ?_)
  refine with_tabW laws_FnExactPriceValues_tab7 laws_FnExactPriceValues_bits7 (fun HT_ HW_ => ?_)
  generalize w7.drew = w8 at Fw0_0_6bd Fx0_3_6bd Fx0_4_6bd Fx0_5_6bd K0_6bd K1_6bd Kx0_7d B8 z8 hHeld ⊢
  refine take_ (i := 0) (N := some 32) (v := ?_) (a' := ?_) #[true, false, false, false, false, false, false, false, false] rfl rfl (take_ofW HT_.out HW_.out (by kernel_rfl)) (fun _ _ _ h => h) (Or.inl ⟨by rfl, ?_⟩) hHeld ?_ ?_
  rotate_left
  · rintro w' ⟨s0, s1, s2, s3, s4, s5, s6, s7, s8, s9, s10, s11, s12, s13, s14, s15⟩
    go_simp
    with_reducible rfl
  rotate_left
  · simp only [Act.put, List.setIfInBounds_toArray, List.set_cons_zero, List.set_cons_succ, i64_w, i32_w]
    rfl
  refine take_ (i := 1) (N := some 33) (v := ?_) (a' := ?_) #[true, true, false, false, false, false, false, false, false] rfl rfl (take_ofW HT_.out HW_.out (by kernel_rfl)) (fun _ _ _ h => h) (Or.inl ⟨by rfl, ?_⟩) hHeld ?_ ?_
  rotate_left
  · rintro w' ⟨s0, s1, s2, s3, s4, s5, s6, s7, s8, s9, s10, s11, s12, s13, s14, s15⟩
    go_simp
    with_reducible rfl
  rotate_left
  · simp only [Act.put, List.setIfInBounds_toArray, List.set_cons_zero, List.set_cons_succ, i64_w, i32_w]
    rfl
  refine one_ (i := 2) (N := some 34) #[true, true, true, false, false, false, false, false, false] rfl rfl (one_of HT_.out (by kernel_rfl)) (by decide) (fun K hK => ?_)
  refine goes_ Try.func17 (by kernel_rfl) rfl #[.agg #[.int .i64 a1_0, .int .i64 a1_1, .int .i64 a1_2, .int .i64 a1_3]] (by rfl) rfl rfl (by (try simp only [List.map_toArray, List.map_cons, List.map_nil]); first | done | rfl | (simp only [List.length_drop, List.length_take]; rfl)) ?_
  refine (toPrices_calls a1_0 a1_1 a1_2 a1_3  w8 ).mono ?_
  rintro e w9 ⟨rfl, hb⟩
  refine ⟨_, rfl, ?_⟩
  have B9 := Aside0.mk (below_step B8.out hb)
  have z9 := hb.size
  have K0_9 := Aside0.mk (blk_below K0_6bd.out hb)
  clear K0_6bd
  have K1_9 := Aside0.mk (blk_below K1_6bd.out hb)
  clear K1_6bd
  have K2_9 := Aside0.mk (blk_below Kx0_7d.out hb)
  clear Kx0_7d
  have Fw0_0_9 := Aside0.mk (Kd.R_below Fw0_0_6bd.out hb)
  clear Fw0_0_6bd
  have Fx0_3_9 := Aside0.mk (Kd.R_below Fx0_3_6bd.out hb)
  clear Fx0_3_6bd
  have Fx0_4_9 := Aside0.mk (Kd.R_below Fx0_4_6bd.out hb)
  clear Fx0_4_6bd
  have Fx0_5_9 := Aside0.mk (Kd.R_below Fx0_5_6bd.out hb)
  clear Fx0_5_6bd
  clear hb
  refine hK.out _ _ ⟨(blk_cell K0_9.out 0).trans rfl, (blk_cell K0_9.out 1).trans rfl, (blk_cell K0_9.out 2).trans rfl, (blk_cell K0_9.out 3).trans rfl, (blk_cell K0_9.out 4).trans rfl, (blk_cell K0_9.out 5).trans rfl, (blk_cell K1_9.out 0).trans rfl, (blk_cell K1_9.out 1).trans rfl, (blk_cell K1_9.out 2).trans rfl, (blk_cell K1_9.out 3).trans rfl, (blk_cell K2_9.out 0).trans rfl, (blk_cell K2_9.out 1).trans rfl, (blk_cell K2_9.out 2).trans rfl, (blk_cell K2_9.out 3).trans rfl, (blk_cell K2_9.out 4).trans rfl, (blk_cell K2_9.out 5).trans rfl⟩ (fun hHeld => ?_)
  clear hK K
  refine norm_ (a' := ?_) ?_ ?_
  rotate_left
  · show Act.put _ (some 34) _ = _
    simp only [Act.put, List.setIfInBounds_toArray, List.set_cons_zero, List.set_cons_succ, i64_w, i32_w]
    rfl
  refine one_ (i := 3) (N := some 35) #[true, true, true, true, false, false, false, false, false] rfl rfl (one_of HT_.out (by kernel_rfl)) (by decide) (fun K hK => ?_)
  refine goes_ Try.func25 (by kernel_rfl) rfl #[.agg #[.int .i64 a0_0, .int .i64 a0_1, .int .i64 a0_2, .slice Ax0_3_6 a0_3.length cx0_3_6, .slice Ax0_4_6 a0_4.length cx0_4_6, .slice Ax0_5_6 a0_5.length cx0_5_6], .agg #[.int .i64 a1_0, .int .i64 a1_1, .int .i64 a1_2, .int .i64 a1_3]] (by rfl) rfl rfl (by (try simp only [List.map_toArray, List.map_cons, List.map_nil]); first | done | rfl | (simp only [List.length_drop, List.length_take]; rfl)) ?_
  refine (impl_PriceValues.calls ki a0_0 a0_1 a0_2 Ax0_3_6 cx0_3_6 a0_3 Ax0_4_6 cx0_4_6 a0_4 Ax0_5_6 cx0_5_6 a0_5 a1_0 a1_1 a1_2 a1_3 g0 g1 w9 (readsR Fx0_3_9.out).2.2 (readsR Fx0_3_9.out).2.1 (readsR Fx0_4_9.out).2.2 (readsR Fx0_4_9.out).2.1 (readsR Fx0_5_9.out).2.2 (readsR Fx0_5_9.out).2.1 Hi.out).mono ?_
  rintro e w10 ⟨v, rfl, ho, hb⟩
  refine ⟨_, rfl, ?_⟩
  have ho := Kd.R_mono ho (ok' := fun _ => True) (fun _ _ => trivial)
  have B10 := Aside0.mk (below_step B9.out hb)
  have z10 := hb.size
  obtain ⟨Ag0_0_10, cg0_0_10, rfl⟩ := Kd.R_slice ho
  have Fg0_0_10 := Aside0.mk (ivR (w := w) ho (by omega))
  clear ho
  have K0_10 := Aside0.mk (blk_below K0_9.out hb)
  clear K0_9
  have K1_10 := Aside0.mk (blk_below K1_9.out hb)
  clear K1_9
  have K2_10 := Aside0.mk (blk_below K2_9.out hb)
  clear K2_9
  have Fw0_0_10 := Aside0.mk (Kd.R_below Fw0_0_9.out hb)
  clear Fw0_0_9
  have Fx0_3_10 := Aside0.mk (Kd.R_below Fx0_3_9.out hb)
  clear Fx0_3_9
  have Fx0_4_10 := Aside0.mk (Kd.R_below Fx0_4_9.out hb)
  clear Fx0_4_9
  have Fx0_5_10 := Aside0.mk (Kd.R_below Fx0_5_9.out hb)
  clear Fx0_5_9
  clear hb
  refine hK.out _ _ ⟨(blk_cell K0_10.out 0).trans rfl, (blk_cell K0_10.out 1).trans rfl, (blk_cell K0_10.out 2).trans rfl, (blk_cell K0_10.out 3).trans rfl, (blk_cell K0_10.out 4).trans rfl, (blk_cell K0_10.out 5).trans rfl, (blk_cell K1_10.out 0).trans rfl, (blk_cell K1_10.out 1).trans rfl, (blk_cell K1_10.out 2).trans rfl, (blk_cell K1_10.out 3).trans rfl, (blk_cell K2_10.out 0).trans rfl, (blk_cell K2_10.out 1).trans rfl, (blk_cell K2_10.out 2).trans rfl, (blk_cell K2_10.out 3).trans rfl, (blk_cell K2_10.out 4).trans rfl, (blk_cell K2_10.out 5).trans rfl⟩ (fun hHeld => ?_)
  clear hK K
  refine norm_ (a' := ?_) ?_ ?_
  rotate_left
  · show Act.put _ (some 35) _ = _
    simp only [Act.put, List.setIfInBounds_toArray, List.set_cons_zero, List.set_cons_succ, i64_w, i32_w]
    rfl
  refine pure_ (i := 4) (N := some 31) (v := ?_) (a' := ?_) #[true, true, true, true, true, false, false, false, false] rfl rfl (any_of HT_.out (by kernel_rfl)) (fun _ _ _ h => h) (Or.inl ⟨by rfl, ?_⟩) ?_ ?_
  rotate_left
  · intro w'
    go_simp
    with_reducible rfl
  rotate_left
  · simp only [Act.put, List.setIfInBounds_toArray, List.set_cons_zero, List.set_cons_succ, i64_w, i32_w]
    rfl
  refine pure_ (i := 5) (N := some 36) (v := ?_) (a' := ?_) #[true, true, true, true, true, true, false, false, false] rfl rfl (any_of HT_.out (by kernel_rfl)) (fun _ _ _ h => h) (Or.inl ⟨by rfl, ?_⟩) ?_ ?_
  rotate_left
  · intro w'
    go_simp
    with_reducible rfl
  rotate_left
  · simp only [Act.put, List.setIfInBounds_toArray, List.set_cons_zero, List.set_cons_succ, i64_w, i32_w]
    rfl
  refine pure_ (i := 6) (N := some 37) (v := ?_) (a' := ?_) #[true, true, true, true, true, true, true, false, false] rfl rfl (any_of HT_.out (by kernel_rfl)) (fun _ _ _ h => h) (Or.inl ⟨by rfl, ?_⟩) ?_ ?_
  rotate_left
  · intro w'
    go_simp
    with_reducible rfl
  rotate_left
  · simp only [Act.put, List.setIfInBounds_toArray, List.set_cons_zero, List.set_cons_succ, i64_w, i32_w]
    rfl
  refine pure_ (i := 7) (N := some 9) (v := ?_) (a' := ?_) #[true, true, true, true, true, true, true, true, false] rfl rfl (any_of HT_.out (by kernel_rfl)) (fun _ _ _ h => h) (Or.inl ⟨by rfl, ?_⟩) ?_ ?_
  rotate_left
  · intro w'
    go_simp
    with_reducible rfl
  rotate_left
  · simp only [Act.put, List.setIfInBounds_toArray, List.set_cons_zero, List.set_cons_succ, i64_w, i32_w]
    rfl
  refine pure_ (i := 8) (N := some 10) (v := ?_) (a' := ?_) #[true, true, true, true, true, true, true, true, true] rfl rfl (any_of HT_.out (by kernel_rfl)) (fun _ _ _ h => h) (Or.inl ⟨by rfl, ?_⟩) ?_ ?_
  rotate_left
  · intro w'
    go_simp
    with_reducible rfl
  rotate_left
  · simp only [Act.put, List.setIfInBounds_toArray, List.set_cons_zero, List.set_cons_succ, i64_w, i32_w]
    rfl
  refine done_ (done_of HT_.out (by kernel_rfl)) ?_
  clear HT_ HW_
  have hcz0_0 : w10.cell? ⟨w.heap.size, 0, none⟩ = some (.int .i64 a0_0) := (blk_cell K0_10.out 0).trans rfl
  have hfz0_0 := blk_frozen K0_10.out 0
  have hcz0_1 : w10.cell? ⟨w.heap.size, 1, none⟩ = some (.int .i64 a0_1) := (blk_cell K0_10.out 1).trans rfl
  have hfz0_1 := blk_frozen K0_10.out 1
  have hcz0_2 : w10.cell? ⟨w.heap.size, 2, none⟩ = some (.int .i64 a0_2) := (blk_cell K0_10.out 2).trans rfl
  have hfz0_2 := blk_frozen K0_10.out 2
  have hcz0_3 : w10.cell? ⟨w.heap.size, 3, none⟩ = some (.slice Aa0_3 a0_3.length ca0_3) := (blk_cell K0_10.out 3).trans rfl
  have hfz0_3 := blk_frozen K0_10.out 3
  have hcz0_4 : w10.cell? ⟨w.heap.size, 4, none⟩ = some (.slice Aa0_4 a0_4.length ca0_4) := (blk_cell K0_10.out 4).trans rfl
  have hfz0_4 := blk_frozen K0_10.out 4
  have hcz0_5 : w10.cell? ⟨w.heap.size, 5, none⟩ = some (.slice Aa0_5 a0_5.length ca0_5) := (blk_cell K0_10.out 5).trans rfl
  have hfz0_5 := blk_frozen K0_10.out 5
  have hcz1_0 : w10.cell? ⟨w.heap.size + 1, 0, none⟩ = some (.int .i64 a1_0) := (blk_cell K1_10.out 0).trans rfl
  have hfz1_0 := blk_frozen K1_10.out 0
  have hcz1_1 : w10.cell? ⟨w.heap.size + 1, 1, none⟩ = some (.int .i64 a1_1) := (blk_cell K1_10.out 1).trans rfl
  have hfz1_1 := blk_frozen K1_10.out 1
  have hcz1_2 : w10.cell? ⟨w.heap.size + 1, 2, none⟩ = some (.int .i64 a1_2) := (blk_cell K1_10.out 2).trans rfl
  have hfz1_2 := blk_frozen K1_10.out 2
  have hcz1_3 : w10.cell? ⟨w.heap.size + 1, 3, none⟩ = some (.int .i64 a1_3) := (blk_cell K1_10.out 3).trans rfl
  have hfz1_3 := blk_frozen K1_10.out 3
  have hcz2_0 : w10.cell? ⟨w6.heap.size, 0, none⟩ = some (.int .i64 a0_0) := (blk_cell K2_10.out 0).trans rfl
  have hfz2_0 := blk_frozen K2_10.out 0
  have hcz2_1 : w10.cell? ⟨w6.heap.size, 1, none⟩ = some (.int .i64 a0_1) := (blk_cell K2_10.out 1).trans rfl
  have hfz2_1 := blk_frozen K2_10.out 1
  have hcz2_2 : w10.cell? ⟨w6.heap.size, 2, none⟩ = some (.int .i64 a0_2) := (blk_cell K2_10.out 2).trans rfl
  have hfz2_2 := blk_frozen K2_10.out 2
  have hcz2_3 : w10.cell? ⟨w6.heap.size, 3, none⟩ = some (.slice Ax0_3_6 a0_3.length cx0_3_6) := (blk_cell K2_10.out 3).trans rfl
  have hfz2_3 := blk_frozen K2_10.out 3
  have hcz2_4 : w10.cell? ⟨w6.heap.size, 4, none⟩ = some (.slice Ax0_4_6 a0_4.length cx0_4_6) := (blk_cell K2_10.out 4).trans rfl
  have hfz2_4 := blk_frozen K2_10.out 4
  have hcz2_5 : w10.cell? ⟨w6.heap.size, 5, none⟩ = some (.slice Ax0_5_6 a0_5.length cx0_5_6) := (blk_cell K2_10.out 5).trans rfl
  have hfz2_5 := blk_frozen K2_10.out 5
  go_wp2_with fail
  clear hcz0_0 hfz0_0 hcz0_1 hfz0_1 hcz0_2 hfz0_2 hcz0_3 hfz0_3 hcz0_4 hfz0_4 hcz0_5 hfz0_5 hcz1_0 hfz1_0 hcz1_1 hfz1_1 hcz1_2 hfz1_2 hcz1_3 hfz1_3 hcz2_0 hfz2_0 hcz2_1 hfz2_1 hcz2_2 hfz2_2 hcz2_3 hfz2_3 hcz2_4 hfz2_4 hcz2_5 hfz2_5
  refine (eqIntS_calls g0 (maxLen_val (by have := HLg0.out; omega)) Ag0_0_10 Aw0_0_5 cg0_0_10 cw0_0_5 w10 (readsR Fg0_0_10.out).2.2 (readsR Fg0_0_10.out).2.1 (readsR Fw0_0_10.out).2.2 (readsR Fw0_0_10.out).2.1).mono ?_
  rintro e w11 ⟨rfl, hb⟩
  have B11 := Aside0.mk (below_step B10.out hb)
  have z11 := hb.size
  have K0_11 := Aside0.mk (blk_below K0_10.out hb)
  clear K0_10
  have K1_11 := Aside0.mk (blk_below K1_10.out hb)
  clear K1_10
  have K2_11 := Aside0.mk (blk_below K2_10.out hb)
  clear K2_10
  have Fw0_0_11 := Aside0.mk (Kd.R_below Fw0_0_10.out hb)
  clear Fw0_0_10
  have Fx0_3_11 := Aside0.mk (Kd.R_below Fx0_3_10.out hb)
  clear Fx0_3_10
  have Fx0_4_11 := Aside0.mk (Kd.R_below Fx0_4_10.out hb)
  clear Fx0_4_10
  have Fx0_5_11 := Aside0.mk (Kd.R_below Fx0_5_10.out hb)
  clear Fx0_5_10
  have Fg0_0_11 := Aside0.mk (Kd.R_below Fg0_0_10.out hb)
  clear Fg0_0_10
  clear hb
  have hcz0_0 : w11.cell? ⟨w.heap.size, 0, none⟩ = some (.int .i64 a0_0) := (blk_cell K0_11.out 0).trans rfl
  have hfz0_0 := blk_frozen K0_11.out 0
  have hcz0_1 : w11.cell? ⟨w.heap.size, 1, none⟩ = some (.int .i64 a0_1) := (blk_cell K0_11.out 1).trans rfl
  have hfz0_1 := blk_frozen K0_11.out 1
  have hcz0_2 : w11.cell? ⟨w.heap.size, 2, none⟩ = some (.int .i64 a0_2) := (blk_cell K0_11.out 2).trans rfl
  have hfz0_2 := blk_frozen K0_11.out 2
  have hcz0_3 : w11.cell? ⟨w.heap.size, 3, none⟩ = some (.slice Aa0_3 a0_3.length ca0_3) := (blk_cell K0_11.out 3).trans rfl
  have hfz0_3 := blk_frozen K0_11.out 3
  have hcz0_4 : w11.cell? ⟨w.heap.size, 4, none⟩ = some (.slice Aa0_4 a0_4.length ca0_4) := (blk_cell K0_11.out 4).trans rfl
  have hfz0_4 := blk_frozen K0_11.out 4
  have hcz0_5 : w11.cell? ⟨w.heap.size, 5, none⟩ = some (.slice Aa0_5 a0_5.length ca0_5) := (blk_cell K0_11.out 5).trans rfl
  have hfz0_5 := blk_frozen K0_11.out 5
  have hcz1_0 : w11.cell? ⟨w.heap.size + 1, 0, none⟩ = some (.int .i64 a1_0) := (blk_cell K1_11.out 0).trans rfl
  have hfz1_0 := blk_frozen K1_11.out 0
  have hcz1_1 : w11.cell? ⟨w.heap.size + 1, 1, none⟩ = some (.int .i64 a1_1) := (blk_cell K1_11.out 1).trans rfl
  have hfz1_1 := blk_frozen K1_11.out 1
  have hcz1_2 : w11.cell? ⟨w.heap.size + 1, 2, none⟩ = some (.int .i64 a1_2) := (blk_cell K1_11.out 2).trans rfl
  have hfz1_2 := blk_frozen K1_11.out 2
  have hcz1_3 : w11.cell? ⟨w.heap.size + 1, 3, none⟩ = some (.int .i64 a1_3) := (blk_cell K1_11.out 3).trans rfl
  have hfz1_3 := blk_frozen K1_11.out 3
  have hcz2_0 : w11.cell? ⟨w6.heap.size, 0, none⟩ = some (.int .i64 a0_0) := (blk_cell K2_11.out 0).trans rfl
  have hfz2_0 := blk_frozen K2_11.out 0
  have hcz2_1 : w11.cell? ⟨w6.heap.size, 1, none⟩ = some (.int .i64 a0_1) := (blk_cell K2_11.out 1).trans rfl
  have hfz2_1 := blk_frozen K2_11.out 1
  have hcz2_2 : w11.cell? ⟨w6.heap.size, 2, none⟩ = some (.int .i64 a0_2) := (blk_cell K2_11.out 2).trans rfl
  have hfz2_2 := blk_frozen K2_11.out 2
  have hcz2_3 : w11.cell? ⟨w6.heap.size, 3, none⟩ = some (.slice Ax0_3_6 a0_3.length cx0_3_6) := (blk_cell K2_11.out 3).trans rfl
  have hfz2_3 := blk_frozen K2_11.out 3
  have hcz2_4 : w11.cell? ⟨w6.heap.size, 4, none⟩ = some (.slice Ax0_4_6 a0_4.length cx0_4_6) := (blk_cell K2_11.out 4).trans rfl
  have hfz2_4 := blk_frozen K2_11.out 4
  have hcz2_5 : w11.cell? ⟨w6.heap.size, 5, none⟩ = some (.slice Ax0_5_6 a0_5.length cx0_5_6) := (blk_cell K2_11.out 5).trans rfl
  have hfz2_5 := blk_frozen K2_11.out 5
  go_wp2_with fail
  clear hcz0_0 hfz0_0 hcz0_1 hfz0_1 hcz0_2 hfz0_2 hcz0_3 hfz0_3 hcz0_4 hfz0_4 hcz0_5 hfz0_5 hcz1_0 hfz1_0 hcz1_1 hfz1_1 hcz1_2 hfz1_2 hcz1_3 hfz1_3 hcz2_0 hfz2_0 hcz2_1 hfz2_1 hcz2_2 hfz2_2 hcz2_3 hfz2_3 hcz2_4 hfz2_4 hcz2_5 hfz2_5
  have Fw0_0_11d := Aside0.mk (Kd.R_drew Fw0_0_11.out)
  clear Fw0_0_11
  have Fx0_3_11d := Aside0.mk (Kd.R_drew Fx0_3_11.out)
  clear Fx0_3_11
  have Fx0_4_11d := Aside0.mk (Kd.R_drew Fx0_4_11.out)
  clear Fx0_4_11
  have Fx0_5_11d := Aside0.mk (Kd.R_drew Fx0_5_11.out)
  clear Fx0_5_11
  have Fg0_0_11d := Aside0.mk (Kd.R_drew Fg0_0_11.out)
  clear Fg0_0_11
  have K0_11d := Aside0.mk (blk_drew K0_11.out)
  clear K0_11
  have K1_11d := Aside0.mk (blk_drew K1_11.out)
  clear K1_11
  have K2_11d := Aside0.mk (blk_drew K2_11.out)
  clear K2_11
  have B12 := Aside0.mk (below_drew1 B11.out)
  have z12 : w11.heap.size ≤ (w11.drew).heap.size := Nat.le_refl _
  refine start_ (n := 5) (S := fun w' => w'.cell? ⟨w.heap.size, 0, none⟩ = some (.int .i64 a0_0) ∧ w'.cell? ⟨w.heap.size, 1, none⟩ = some (.int .i64 a0_1) ∧ w'.cell? ⟨w.heap.size, 2, none⟩ = some (.int .i64 a0_2) ∧ w'.cell? ⟨w.heap.size, 3, none⟩ = some (.slice Aa0_3 a0_3.length ca0_3) ∧ w'.cell? ⟨w.heap.size, 4, none⟩ = some (.slice Aa0_4 a0_4.length ca0_4) ∧ w'.cell? ⟨w.heap.size, 5, none⟩ = some (.slice Aa0_5 a0_5.length ca0_5) ∧ w'.cell? ⟨w.heap.size + 1, 0, none⟩ = some (.int .i64 a1_0) ∧ w'.cell? ⟨w.heap.size + 1, 1, none⟩ = some (.int .i64 a1_1) ∧ w'.cell? ⟨w.heap.size + 1, 2, none⟩ = some (.int .i64 a1_2) ∧ w'.cell? ⟨w.heap.size + 1, 3, none⟩ = some (.int .i64 a1_3) ∧ w'.cell? ⟨w6.heap.size, 0, none⟩ = some (.int .i64 a0_0) ∧ w'.cell? ⟨w6.heap.size, 1, none⟩ = some (.int .i64 a0_1) ∧ w'.cell? ⟨w6.heap.size, 2, none⟩ = some (.int .i64 a0_2) ∧ w'.cell? ⟨w6.heap.size, 3, none⟩ = some (.slice Ax0_3_6 a0_3.length cx0_3_6) ∧ w'.cell? ⟨w6.heap.size, 4, none⟩ = some (.slice Ax0_4_6 a0_4.length cx0_4_6) ∧ w'.cell? ⟨w6.heap.size, 5, none⟩ = some (.slice Ax0_5_6 a0_5.length cx0_5_6)) (ds := []) #[false, false, false, false, false] (by kernel_rfl) rfl rfl ⟨(blk_cell K0_11d.out 0).trans rfl, (blk_cell K0_11d.out 1).trans rfl, (blk_cell K0_11d.out 2).trans rfl, (blk_cell K0_11d.out 3).trans rfl, (blk_cell K0_11d.out 4).trans rfl, (blk_cell K0_11d.out 5).trans rfl, (blk_cell K1_11d.out 0).trans rfl, (blk_cell K1_11d.out 1).trans rfl, (blk_cell K1_11d.out 2).trans rfl, (blk_cell K1_11d.out 3).trans rfl, (blk_cell K2_11d.out 0).trans rfl, (blk_cell K2_11d.out 1).trans rfl, (blk_cell K2_11d.out 2).trans rfl, (blk_cell K2_11d.out 3).trans rfl, (blk_cell K2_11d.out 4).trans rfl, (blk_cell K2_11d.out 5).trans rfl⟩ (fun hHeld => ?_)
  refine with_tabW laws_FnExactPriceValues_tab10 laws_FnExactPriceValues_bits10 (fun HT_ HW_ => ?_)
  generalize w11.drew = w12 at Fw0_0_11d Fx0_3_11d Fx0_4_11d Fx0_5_11d Fg0_0_11d K0_11d K1_11d K2_11d B12 z12 hHeld ⊢
  refine take_ (i := 0) (N := some 47) (v := ?_) (a' := ?_) #[true, false, false, false, false] rfl rfl (take_ofW HT_.out HW_.out (by kernel_rfl)) (fun _ _ _ h => h) (Or.inl ⟨by rfl, ?_⟩) hHeld ?_ ?_
  rotate_left
  · rintro w' ⟨s0, s1, s2, s3, s4, s5, s6, s7, s8, s9, s10, s11, s12, s13, s14, s15⟩
    go_simp
    with_reducible rfl
  rotate_left
  · simp only [Act.put, List.setIfInBounds_toArray, List.set_cons_zero, List.set_cons_succ, i64_w, i32_w]
    rfl
  refine take_ (i := 1) (N := some 48) (v := ?_) (a' := ?_) #[true, true, false, false, false] rfl rfl (take_ofW HT_.out HW_.out (by kernel_rfl)) (fun _ _ _ h => h) (Or.inl ⟨by rfl, ?_⟩) hHeld ?_ ?_
  rotate_left
  · rintro w' ⟨s0, s1, s2, s3, s4, s5, s6, s7, s8, s9, s10, s11, s12, s13, s14, s15⟩
    go_simp
    with_reducible rfl
  rotate_left
  · simp only [Act.put, List.setIfInBounds_toArray, List.set_cons_zero, List.set_cons_succ, i64_w, i32_w]
    rfl
  refine one_ (i := 2) (N := some 49) #[true, true, true, false, false] rfl rfl (one_of HT_.out (by kernel_rfl)) (by decide) (fun K hK => ?_)
  refine goes_ Try.func16 (by kernel_rfl) rfl #[.agg #[.int .i64 a0_0, .int .i64 a0_1, .int .i64 a0_2, .slice Aa0_3 a0_3.length ca0_3, .slice Aa0_4 a0_4.length ca0_4, .slice Aa0_5 a0_5.length ca0_5]] (by rfl) rfl rfl (by (try simp only [List.map_toArray, List.map_cons, List.map_nil]); first | done | rfl | (simp only [List.length_drop, List.length_take]; rfl)) ?_
  refine (toModel_calls a0_0 a0_1 a0_2 a0_3 HLa0_3.out a0_4 HLa0_4.out a0_5 HLa0_5.out Aa0_3 ca0_3 Aa0_4 ca0_4 Aa0_5 ca0_5 w12 (Kd.C_below HRa0_3.out B12.out) HCa0_3.out (Kd.C_below HRa0_4.out B12.out) HCa0_4.out (Kd.C_below HRa0_5.out B12.out) HCa0_5.out).mono ?_
  rintro e w13 ⟨v0, v1, v2, rfl, ho0, ho1, ho2, hne, hb⟩
  refine ⟨_, rfl, ?_⟩
  have B13 := Aside0.mk (below_step B12.out hb)
  have z13 := hb.size
  obtain ⟨Au_3_13, cu_3_13, rfl⟩ := Kd.R_slice ho0
  have Fu_3_13 := Aside0.mk (znR (w := w) rfl ho0 (by omega))
  clear ho0
  obtain ⟨Au_4_13, cu_4_13, rfl⟩ := Kd.R_slice ho1
  have Fu_4_13 := Aside0.mk (znR (w := w) rfl ho1 (by omega))
  clear ho1
  obtain ⟨Au_5_13, cu_5_13, rfl⟩ := Kd.R_slice ho2
  have Fu_5_13 := Aside0.mk (znR (w := w) rfl ho2 (by omega))
  clear ho2
  have Du := Aside0.mk hne
  clear hne
  have K0_13 := Aside0.mk (blk_below K0_11d.out hb)
  clear K0_11d
  have K1_13 := Aside0.mk (blk_below K1_11d.out hb)
  clear K1_11d
  have K2_13 := Aside0.mk (blk_below K2_11d.out hb)
  clear K2_11d
  have Fw0_0_13 := Aside0.mk (Kd.R_below Fw0_0_11d.out hb)
  clear Fw0_0_11d
  have Fx0_3_13 := Aside0.mk (Kd.R_below Fx0_3_11d.out hb)
  clear Fx0_3_11d
  have Fx0_4_13 := Aside0.mk (Kd.R_below Fx0_4_11d.out hb)
  clear Fx0_4_11d
  have Fx0_5_13 := Aside0.mk (Kd.R_below Fx0_5_11d.out hb)
  clear Fx0_5_11d
  have Fg0_0_13 := Aside0.mk (Kd.R_below Fg0_0_11d.out hb)
  clear Fg0_0_11d
  clear hb
  refine hK.out _ _ ⟨(blk_cell K0_13.out 0).trans rfl, (blk_cell K0_13.out 1).trans rfl, (blk_cell K0_13.out 2).trans rfl, (blk_cell K0_13.out 3).trans rfl, (blk_cell K0_13.out 4).trans rfl, (blk_cell K0_13.out 5).trans rfl, (blk_cell K1_13.out 0).trans rfl, (blk_cell K1_13.out 1).trans rfl, (blk_cell K1_13.out 2).trans rfl, (blk_cell K1_13.out 3).trans rfl, (blk_cell K2_13.out 0).trans rfl, (blk_cell K2_13.out 1).trans rfl, (blk_cell K2_13.out 2).trans rfl, (blk_cell K2_13.out 3).trans rfl, (blk_cell K2_13.out 4).trans rfl, (blk_cell K2_13.out 5).trans rfl⟩ (fun hHeld => ?_)
  clear hK K
  refine norm_ (a' := ?_) ?_ ?_
  rotate_left
  · show Act.put _ (some 49) _ = _
    simp only [Act.put, List.setIfInBounds_toArray, List.set_cons_zero, List.set_cons_succ, i64_w, i32_w]
    rfl
  refine one_ (i := 3) (N := some 50) #[true, true, true, true, false] rfl rfl (one_of HT_.out (by kernel_rfl)) (by decide) (fun K hK => ?_)
  refine goes_ Try.func19 (by kernel_rfl) rfl #[.agg #[.int .i64 a0_0, .int .i64 a0_1, .int .i64 a0_2, .slice Ax0_3_6 a0_3.length cx0_3_6, .slice Ax0_4_6 a0_4.length cx0_4_6, .slice Ax0_5_6 a0_5.length cx0_5_6], .agg #[.int .i64 a0_0, .int .i64 a0_1, .int .i64 a0_2, .slice Au_3_13 a0_3.length cu_3_13, .slice Au_4_13 a0_4.length cu_4_13, .slice Au_5_13 a0_5.length cu_5_13]] (by rfl) rfl rfl (by (try simp only [List.map_toArray, List.map_cons, List.map_nil]); first | done | rfl | (simp only [List.length_drop, List.length_take]; rfl)) ?_
  refine (eqModel_calls a0_0 a0_1 a0_2 a0_3 a0_4 a0_5 (maxLen_val (by have := HLa0_3.out; omega)) (maxLen_val (by have := HLa0_4.out; omega)) (maxLen_val (by have := HLa0_5.out; omega)) Ax0_3_6 cx0_3_6 Ax0_4_6 cx0_4_6 Ax0_5_6 cx0_5_6 Au_3_13 cu_3_13 Au_4_13 cu_4_13 Au_5_13 cu_5_13 w13 (readsR Fx0_3_13.out).2.2 (readsR Fx0_3_13.out).2.1 (readsR Fx0_4_13.out).2.2 (readsR Fx0_4_13.out).2.1 (readsR Fx0_5_13.out).2.2 (readsR Fx0_5_13.out).2.1 (readsR Fu_3_13.out).2.2 (readsR Fu_3_13.out).2.1 (readsR Fu_4_13.out).2.2 (readsR Fu_4_13.out).2.1 (readsR Fu_5_13.out).2.2 (readsR Fu_5_13.out).2.1).mono ?_
  rintro e w14 ⟨rfl, hb⟩
  refine ⟨_, rfl, ?_⟩
  have B14 := Aside0.mk (below_step B13.out hb)
  have z14 := hb.size
  have K0_14 := Aside0.mk (blk_below K0_13.out hb)
  clear K0_13
  have K1_14 := Aside0.mk (blk_below K1_13.out hb)
  clear K1_13
  have K2_14 := Aside0.mk (blk_below K2_13.out hb)
  clear K2_13
  have Fw0_0_14 := Aside0.mk (Kd.R_below Fw0_0_13.out hb)
  clear Fw0_0_13
  have Fx0_3_14 := Aside0.mk (Kd.R_below Fx0_3_13.out hb)
  clear Fx0_3_13
  have Fx0_4_14 := Aside0.mk (Kd.R_below Fx0_4_13.out hb)
  clear Fx0_4_13
  have Fx0_5_14 := Aside0.mk (Kd.R_below Fx0_5_13.out hb)
  clear Fx0_5_13
  have Fg0_0_14 := Aside0.mk (Kd.R_below Fg0_0_13.out hb)
  clear Fg0_0_13
  have Fu_3_14 := Aside0.mk (Kd.R_below Fu_3_13.out hb)
  clear Fu_3_13
  have Fu_4_14 := Aside0.mk (Kd.R_below Fu_4_13.out hb)
  clear Fu_4_13
  have Fu_5_14 := Aside0.mk (Kd.R_below Fu_5_13.out hb)
  clear Fu_5_13
  clear hb
  refine hK.out _ _ ⟨(blk_cell K0_14.out 0).trans rfl, (blk_cell K0_14.out 1).trans rfl, (blk_cell K0_14.out 2).trans rfl, (blk_cell K0_14.out 3).trans rfl, (blk_cell K0_14.out 4).trans rfl, (blk_cell K0_14.out 5).trans rfl, (blk_cell K1_14.out 0).trans rfl, (blk_cell K1_14.out 1).trans rfl, (blk_cell K1_14.out 2).trans rfl, (blk_cell K1_14.out 3).trans rfl, (blk_cell K2_14.out 0).trans rfl, (blk_cell K2_14.out 1).trans rfl, (blk_cell K2_14.out 2).trans rfl, (blk_cell K2_14.out 3).trans rfl, (blk_cell K2_14.out 4).trans rfl, (blk_cell K2_14.out 5).trans rfl⟩ (fun hHeld => ?_)
  clear hK K
  refine norm_ (a' := ?_) ?_ ?_
  rotate_left
  · show Act.put _ (some 50) _ = _
    simp only [Act.put, List.setIfInBounds_toArray, List.set_cons_zero, List.set_cons_succ, i64_w, i32_w]
    rfl
  refine pure_ (i := 4) (N := some 51) (v := ?_) (a' := ?_) #[true, true, true, true, true] rfl rfl (any_of HT_.out (by kernel_rfl)) (fun _ _ _ h => h) (Or.inl ⟨by rfl, ?_⟩) ?_ ?_
  rotate_left
  · intro w'
    go_simp
    with_reducible rfl
  rotate_left
  · simp only [Act.put, List.setIfInBounds_toArray, List.set_cons_zero, List.set_cons_succ, i64_w, i32_w]
    rfl
  refine done_ (done_of HT_.out (by kernel_rfl)) ?_
  clear HT_ HW_
  have hcz0_0 : w14.cell? ⟨w.heap.size, 0, none⟩ = some (.int .i64 a0_0) := (blk_cell K0_14.out 0).trans rfl
  have hfz0_0 := blk_frozen K0_14.out 0
  have hcz0_1 : w14.cell? ⟨w.heap.size, 1, none⟩ = some (.int .i64 a0_1) := (blk_cell K0_14.out 1).trans rfl
  have hfz0_1 := blk_frozen K0_14.out 1
  have hcz0_2 : w14.cell? ⟨w.heap.size, 2, none⟩ = some (.int .i64 a0_2) := (blk_cell K0_14.out 2).trans rfl
  have hfz0_2 := blk_frozen K0_14.out 2
  have hcz0_3 : w14.cell? ⟨w.heap.size, 3, none⟩ = some (.slice Aa0_3 a0_3.length ca0_3) := (blk_cell K0_14.out 3).trans rfl
  have hfz0_3 := blk_frozen K0_14.out 3
  have hcz0_4 : w14.cell? ⟨w.heap.size, 4, none⟩ = some (.slice Aa0_4 a0_4.length ca0_4) := (blk_cell K0_14.out 4).trans rfl
  have hfz0_4 := blk_frozen K0_14.out 4
  have hcz0_5 : w14.cell? ⟨w.heap.size, 5, none⟩ = some (.slice Aa0_5 a0_5.length ca0_5) := (blk_cell K0_14.out 5).trans rfl
  have hfz0_5 := blk_frozen K0_14.out 5
  have hcz1_0 : w14.cell? ⟨w.heap.size + 1, 0, none⟩ = some (.int .i64 a1_0) := (blk_cell K1_14.out 0).trans rfl
  have hfz1_0 := blk_frozen K1_14.out 0
  have hcz1_1 : w14.cell? ⟨w.heap.size + 1, 1, none⟩ = some (.int .i64 a1_1) := (blk_cell K1_14.out 1).trans rfl
  have hfz1_1 := blk_frozen K1_14.out 1
  have hcz1_2 : w14.cell? ⟨w.heap.size + 1, 2, none⟩ = some (.int .i64 a1_2) := (blk_cell K1_14.out 2).trans rfl
  have hfz1_2 := blk_frozen K1_14.out 2
  have hcz1_3 : w14.cell? ⟨w.heap.size + 1, 3, none⟩ = some (.int .i64 a1_3) := (blk_cell K1_14.out 3).trans rfl
  have hfz1_3 := blk_frozen K1_14.out 3
  have hcz2_0 : w14.cell? ⟨w6.heap.size, 0, none⟩ = some (.int .i64 a0_0) := (blk_cell K2_14.out 0).trans rfl
  have hfz2_0 := blk_frozen K2_14.out 0
  have hcz2_1 : w14.cell? ⟨w6.heap.size, 1, none⟩ = some (.int .i64 a0_1) := (blk_cell K2_14.out 1).trans rfl
  have hfz2_1 := blk_frozen K2_14.out 1
  have hcz2_2 : w14.cell? ⟨w6.heap.size, 2, none⟩ = some (.int .i64 a0_2) := (blk_cell K2_14.out 2).trans rfl
  have hfz2_2 := blk_frozen K2_14.out 2
  have hcz2_3 : w14.cell? ⟨w6.heap.size, 3, none⟩ = some (.slice Ax0_3_6 a0_3.length cx0_3_6) := (blk_cell K2_14.out 3).trans rfl
  have hfz2_3 := blk_frozen K2_14.out 3
  have hcz2_4 : w14.cell? ⟨w6.heap.size, 4, none⟩ = some (.slice Ax0_4_6 a0_4.length cx0_4_6) := (blk_cell K2_14.out 4).trans rfl
  have hfz2_4 := blk_frozen K2_14.out 4
  have hcz2_5 : w14.cell? ⟨w6.heap.size, 5, none⟩ = some (.slice Ax0_5_6 a0_5.length cx0_5_6) := (blk_cell K2_14.out 5).trans rfl
  have hfz2_5 := blk_frozen K2_14.out 5
  go_wp2_with fail
  clear hcz0_0 hfz0_0 hcz0_1 hfz0_1 hcz0_2 hfz0_2 hcz0_3 hfz0_3 hcz0_4 hfz0_4 hcz0_5 hfz0_5 hcz1_0 hfz1_0 hcz1_1 hfz1_1 hcz1_2 hfz1_2 hcz1_3 hfz1_3 hcz2_0 hfz2_0 hcz2_1 hfz2_1 hcz2_2 hfz2_2 hcz2_3 hfz2_3 hcz2_4 hfz2_4 hcz2_5 hfz2_5
  refine (markModel_calls a0_0 a0_1 a0_2 a0_3 a0_4 a0_5 HLa0_3.out HLa0_4.out HLa0_5.out 1 (by omega) w5 w6 (.slice Ax0_3_6 a0_3.length cx0_3_6) (.slice Ax0_4_6 a0_4.length cx0_4_6) (.slice Ax0_5_6 a0_5.length cx0_5_6) Dx0.out w w14 B14.out Fx0_3_14.out Fx0_4_14.out Fx0_5_14.out).mono ?_
  rintro e w15 ⟨rfl, hb, hk⟩
  have z15 := hk.1
  have B15 := Aside0.mk hb
  have K0_15m := Aside0.mk (blk_kept K0_14.out hk (fun h => by rcases h with h | h | h <;> (have h1 := h.1; unfold Btw at h1; omega)))
  clear K0_14
  have K1_15m := Aside0.mk (blk_kept K1_14.out hk (fun h => by rcases h with h | h | h <;> (have h1 := h.1; unfold Btw at h1; omega)))
  clear K1_14
  have K2_15m := Aside0.mk (blk_kept K2_14.out hk (fun h => by rcases h with h | h | h <;> (have h1 := h.1; unfold Btw at h1; omega)))
  clear K2_14
  have Fw0_0_15 := Aside0.mk (Kd.R_kept Fw0_0_14.out hk (fun k h1 h2 => (h2.elim (fun h2 => apart (by omega) k h1 h2.1) (fun h2 => (h2.elim (fun h2 => apart (by omega) k h1 h2.1) (fun h2 => (apart (by omega) k h1 h2.1)))))))
  clear Fw0_0_14
  have Fg0_0_15 := Aside0.mk (Kd.R_kept Fg0_0_14.out hk (fun k h1 h2 => (h2.elim (fun h2 => apart (by omega) k h1 h2.1) (fun h2 => (h2.elim (fun h2 => apart (by omega) k h1 h2.1) (fun h2 => (apart (by omega) k h1 h2.1)))))))
  clear Fg0_0_14
  have hll0 := HLa0_3.out
  have hll1 := HLa0_4.out
  have hll2 := HLa0_5.out
  obtain ⟨m15, em15⟩ : ∃ z : Int, z = 1 + (a0_3.length : Int) + (a0_4.length : Int) + (a0_5.length : Int) := ⟨_, rfl⟩
  rw [← em15]
  have lm15 : 0 ≤ m15 ∧ m15 ≤ 25165825 := by omega
  have dm15 : decide (m15 < 0) = false := decide_eq_false (by omega)
  have Em15 := Aside0.mk em15
  have Lm15 := Aside0.mk lm15
  clear Fx0_3_14
  clear Fx0_4_14
  clear Fx0_5_14
  clear hb hk  hll0 hll1 hll2 em15 lm15
  have hcz0_0 : w15.cell? ⟨w.heap.size, 0, none⟩ = some (.int .i64 a0_0) := (blk_cell K0_15m.out 0).trans rfl
  have hfz0_0 := blk_frozen K0_15m.out 0
  have hcz0_1 : w15.cell? ⟨w.heap.size, 1, none⟩ = some (.int .i64 a0_1) := (blk_cell K0_15m.out 1).trans rfl
  have hfz0_1 := blk_frozen K0_15m.out 1
  have hcz0_2 : w15.cell? ⟨w.heap.size, 2, none⟩ = some (.int .i64 a0_2) := (blk_cell K0_15m.out 2).trans rfl
  have hfz0_2 := blk_frozen K0_15m.out 2
  have hcz0_3 : w15.cell? ⟨w.heap.size, 3, none⟩ = some (.slice Aa0_3 a0_3.length ca0_3) := (blk_cell K0_15m.out 3).trans rfl
  have hfz0_3 := blk_frozen K0_15m.out 3
  have hcz0_4 : w15.cell? ⟨w.heap.size, 4, none⟩ = some (.slice Aa0_4 a0_4.length ca0_4) := (blk_cell K0_15m.out 4).trans rfl
  have hfz0_4 := blk_frozen K0_15m.out 4
  have hcz0_5 : w15.cell? ⟨w.heap.size, 5, none⟩ = some (.slice Aa0_5 a0_5.length ca0_5) := (blk_cell K0_15m.out 5).trans rfl
  have hfz0_5 := blk_frozen K0_15m.out 5
  have hcz1_0 : w15.cell? ⟨w.heap.size + 1, 0, none⟩ = some (.int .i64 a1_0) := (blk_cell K1_15m.out 0).trans rfl
  have hfz1_0 := blk_frozen K1_15m.out 0
  have hcz1_1 : w15.cell? ⟨w.heap.size + 1, 1, none⟩ = some (.int .i64 a1_1) := (blk_cell K1_15m.out 1).trans rfl
  have hfz1_1 := blk_frozen K1_15m.out 1
  have hcz1_2 : w15.cell? ⟨w.heap.size + 1, 2, none⟩ = some (.int .i64 a1_2) := (blk_cell K1_15m.out 2).trans rfl
  have hfz1_2 := blk_frozen K1_15m.out 2
  have hcz1_3 : w15.cell? ⟨w.heap.size + 1, 3, none⟩ = some (.int .i64 a1_3) := (blk_cell K1_15m.out 3).trans rfl
  have hfz1_3 := blk_frozen K1_15m.out 3
  have hcz2_0 : w15.cell? ⟨w6.heap.size, 0, none⟩ = some (.int .i64 a0_0) := (blk_cell K2_15m.out 0).trans rfl
  have hfz2_0 := blk_frozen K2_15m.out 0
  have hcz2_1 : w15.cell? ⟨w6.heap.size, 1, none⟩ = some (.int .i64 a0_1) := (blk_cell K2_15m.out 1).trans rfl
  have hfz2_1 := blk_frozen K2_15m.out 1
  have hcz2_2 : w15.cell? ⟨w6.heap.size, 2, none⟩ = some (.int .i64 a0_2) := (blk_cell K2_15m.out 2).trans rfl
  have hfz2_2 := blk_frozen K2_15m.out 2
  have hcz2_3 : w15.cell? ⟨w6.heap.size, 3, none⟩ = some (.slice Ax0_3_6 a0_3.length cx0_3_6) := (blk_cell K2_15m.out 3).trans rfl
  have hfz2_3 := blk_frozen K2_15m.out 3
  have hcz2_4 : w15.cell? ⟨w6.heap.size, 4, none⟩ = some (.slice Ax0_4_6 a0_4.length cx0_4_6) := (blk_cell K2_15m.out 4).trans rfl
  have hfz2_4 := blk_frozen K2_15m.out 4
  have hcz2_5 : w15.cell? ⟨w6.heap.size, 5, none⟩ = some (.slice Ax0_5_6 a0_5.length cx0_5_6) := (blk_cell K2_15m.out 5).trans rfl
  have hfz2_5 := blk_frozen K2_15m.out 5
  go_wp2_with fail
  clear hcz0_0 hfz0_0 hcz0_1 hfz0_1 hcz0_2 hfz0_2 hcz0_3 hfz0_3 hcz0_4 hfz0_4 hcz0_5 hfz0_5 hcz1_0 hfz1_0 hcz1_1 hfz1_1 hcz1_2 hfz1_2 hcz1_3 hfz1_3 hcz2_0 hfz2_0 hcz2_1 hfz2_1 hcz2_2 hfz2_2 hcz2_3 hfz2_3 hcz2_4 hfz2_4 hcz2_5 hfz2_5
  refine (eqIntS_calls g0 (maxLen_val (by have := HLg0.out; omega)) Ag0_0_10 Aw0_0_5 cg0_0_10 cw0_0_5 w15 (readsR Fg0_0_15.out).2.2 (readsR Fg0_0_15.out).2.1 (readsR Fw0_0_15.out).2.2 (readsR Fw0_0_15.out).2.1).mono ?_
  rintro e w16 ⟨rfl, hb⟩
  have B16 := Aside0.mk (below_step B15.out hb)
  have z16 := hb.size
  have K0_16 := Aside0.mk (blk_below K0_15m.out hb)
  clear K0_15m
  have K1_16 := Aside0.mk (blk_below K1_15m.out hb)
  clear K1_15m
  have K2_16 := Aside0.mk (blk_below K2_15m.out hb)
  clear K2_15m
  have Fw0_0_16 := Aside0.mk (Kd.R_below Fw0_0_15.out hb)
  clear Fw0_0_15
  have Fg0_0_16 := Aside0.mk (Kd.R_below Fg0_0_15.out hb)
  clear Fg0_0_15
  clear hb
  have hcz0_0 : w16.cell? ⟨w.heap.size, 0, none⟩ = some (.int .i64 a0_0) := (blk_cell K0_16.out 0).trans rfl
  have hfz0_0 := blk_frozen K0_16.out 0
  have hcz0_1 : w16.cell? ⟨w.heap.size, 1, none⟩ = some (.int .i64 a0_1) := (blk_cell K0_16.out 1).trans rfl
  have hfz0_1 := blk_frozen K0_16.out 1
  have hcz0_2 : w16.cell? ⟨w.heap.size, 2, none⟩ = some (.int .i64 a0_2) := (blk_cell K0_16.out 2).trans rfl
  have hfz0_2 := blk_frozen K0_16.out 2
  have hcz0_3 : w16.cell? ⟨w.heap.size, 3, none⟩ = some (.slice Aa0_3 a0_3.length ca0_3) := (blk_cell K0_16.out 3).trans rfl
  have hfz0_3 := blk_frozen K0_16.out 3
  have hcz0_4 : w16.cell? ⟨w.heap.size, 4, none⟩ = some (.slice Aa0_4 a0_4.length ca0_4) := (blk_cell K0_16.out 4).trans rfl
  have hfz0_4 := blk_frozen K0_16.out 4
  have hcz0_5 : w16.cell? ⟨w.heap.size, 5, none⟩ = some (.slice Aa0_5 a0_5.length ca0_5) := (blk_cell K0_16.out 5).trans rfl
  have hfz0_5 := blk_frozen K0_16.out 5
  have hcz1_0 : w16.cell? ⟨w.heap.size + 1, 0, none⟩ = some (.int .i64 a1_0) := (blk_cell K1_16.out 0).trans rfl
  have hfz1_0 := blk_frozen K1_16.out 0
  have hcz1_1 : w16.cell? ⟨w.heap.size + 1, 1, none⟩ = some (.int .i64 a1_1) := (blk_cell K1_16.out 1).trans rfl
  have hfz1_1 := blk_frozen K1_16.out 1
  have hcz1_2 : w16.cell? ⟨w.heap.size + 1, 2, none⟩ = some (.int .i64 a1_2) := (blk_cell K1_16.out 2).trans rfl
  have hfz1_2 := blk_frozen K1_16.out 2
  have hcz1_3 : w16.cell? ⟨w.heap.size + 1, 3, none⟩ = some (.int .i64 a1_3) := (blk_cell K1_16.out 3).trans rfl
  have hfz1_3 := blk_frozen K1_16.out 3
  have hcz2_0 : w16.cell? ⟨w6.heap.size, 0, none⟩ = some (.int .i64 a0_0) := (blk_cell K2_16.out 0).trans rfl
  have hfz2_0 := blk_frozen K2_16.out 0
  have hcz2_1 : w16.cell? ⟨w6.heap.size, 1, none⟩ = some (.int .i64 a0_1) := (blk_cell K2_16.out 1).trans rfl
  have hfz2_1 := blk_frozen K2_16.out 1
  have hcz2_2 : w16.cell? ⟨w6.heap.size, 2, none⟩ = some (.int .i64 a0_2) := (blk_cell K2_16.out 2).trans rfl
  have hfz2_2 := blk_frozen K2_16.out 2
  have hcz2_3 : w16.cell? ⟨w6.heap.size, 3, none⟩ = some (.slice Ax0_3_6 a0_3.length cx0_3_6) := (blk_cell K2_16.out 3).trans rfl
  have hfz2_3 := blk_frozen K2_16.out 3
  have hcz2_4 : w16.cell? ⟨w6.heap.size, 4, none⟩ = some (.slice Ax0_4_6 a0_4.length cx0_4_6) := (blk_cell K2_16.out 4).trans rfl
  have hfz2_4 := blk_frozen K2_16.out 4
  have hcz2_5 : w16.cell? ⟨w6.heap.size, 5, none⟩ = some (.slice Ax0_5_6 a0_5.length cx0_5_6) := (blk_cell K2_16.out 5).trans rfl
  have hfz2_5 := blk_frozen K2_16.out 5
  go_wp2_with fail
  clear hcz0_0 hfz0_0 hcz0_1 hfz0_1 hcz0_2 hfz0_2 hcz0_3 hfz0_3 hcz0_4 hfz0_4 hcz0_5 hfz0_5 hcz1_0 hfz1_0 hcz1_1 hfz1_1 hcz1_2 hfz1_2 hcz1_3 hfz1_3 hcz2_0 hfz2_0 hcz2_1 hfz2_1 hcz2_2 hfz2_2 hcz2_3 hfz2_3 hcz2_4 hfz2_4 hcz2_5 hfz2_5
  refine (markIntS_calls g0 (by have := HLg0.out; omega) 1 (by omega) (Btw w9 w10) (.slice Ag0_0_10 g0.length cg0_0_10) w w16 B16.out Fg0_0_16.out).mono ?_
  rintro e w17 ⟨rfl, ho, hb, hk⟩
  have z17 := hk.1
  have B17 := Aside0.mk hb
  have K0_17m := Aside0.mk (blk_kept K0_16.out hk (fun h => by unfold Btw at h; omega))
  clear K0_16
  have K1_17m := Aside0.mk (blk_kept K1_16.out hk (fun h => by unfold Btw at h; omega))
  clear K1_16
  have K2_17m := Aside0.mk (blk_kept K2_16.out hk (fun h => by unfold Btw at h; omega))
  clear K2_16
  have Fw0_0_17 := Aside0.mk (Kd.R_kept Fw0_0_16.out hk (apart (by omega)))
  clear Fw0_0_16
  have hll := HLg0.out
  obtain ⟨m17, em17⟩ : ∃ z : Int, z = 1 + (g0.length : Int) := ⟨_, rfl⟩
  rw [← em17]
  have lm17 : 0 ≤ m17 ∧ m17 ≤ 8388609 := by omega
  have dm17 : decide (m17 < 0) = false := decide_eq_false (by omega)
  have Em17 := Aside0.mk em17
  have Lm17 := Aside0.mk lm17
  have Fg0_0_17 := Aside0.mk ho
  clear Fg0_0_16
  clear hb hk ho hll em17 lm17
  have hcz0_0 : w17.cell? ⟨w.heap.size, 0, none⟩ = some (.int .i64 a0_0) := (blk_cell K0_17m.out 0).trans rfl
  have hfz0_0 := blk_frozen K0_17m.out 0
  have hcz0_1 : w17.cell? ⟨w.heap.size, 1, none⟩ = some (.int .i64 a0_1) := (blk_cell K0_17m.out 1).trans rfl
  have hfz0_1 := blk_frozen K0_17m.out 1
  have hcz0_2 : w17.cell? ⟨w.heap.size, 2, none⟩ = some (.int .i64 a0_2) := (blk_cell K0_17m.out 2).trans rfl
  have hfz0_2 := blk_frozen K0_17m.out 2
  have hcz0_3 : w17.cell? ⟨w.heap.size, 3, none⟩ = some (.slice Aa0_3 a0_3.length ca0_3) := (blk_cell K0_17m.out 3).trans rfl
  have hfz0_3 := blk_frozen K0_17m.out 3
  have hcz0_4 : w17.cell? ⟨w.heap.size, 4, none⟩ = some (.slice Aa0_4 a0_4.length ca0_4) := (blk_cell K0_17m.out 4).trans rfl
  have hfz0_4 := blk_frozen K0_17m.out 4
  have hcz0_5 : w17.cell? ⟨w.heap.size, 5, none⟩ = some (.slice Aa0_5 a0_5.length ca0_5) := (blk_cell K0_17m.out 5).trans rfl
  have hfz0_5 := blk_frozen K0_17m.out 5
  have hcz1_0 : w17.cell? ⟨w.heap.size + 1, 0, none⟩ = some (.int .i64 a1_0) := (blk_cell K1_17m.out 0).trans rfl
  have hfz1_0 := blk_frozen K1_17m.out 0
  have hcz1_1 : w17.cell? ⟨w.heap.size + 1, 1, none⟩ = some (.int .i64 a1_1) := (blk_cell K1_17m.out 1).trans rfl
  have hfz1_1 := blk_frozen K1_17m.out 1
  have hcz1_2 : w17.cell? ⟨w.heap.size + 1, 2, none⟩ = some (.int .i64 a1_2) := (blk_cell K1_17m.out 2).trans rfl
  have hfz1_2 := blk_frozen K1_17m.out 2
  have hcz1_3 : w17.cell? ⟨w.heap.size + 1, 3, none⟩ = some (.int .i64 a1_3) := (blk_cell K1_17m.out 3).trans rfl
  have hfz1_3 := blk_frozen K1_17m.out 3
  have hcz2_0 : w17.cell? ⟨w6.heap.size, 0, none⟩ = some (.int .i64 a0_0) := (blk_cell K2_17m.out 0).trans rfl
  have hfz2_0 := blk_frozen K2_17m.out 0
  have hcz2_1 : w17.cell? ⟨w6.heap.size, 1, none⟩ = some (.int .i64 a0_1) := (blk_cell K2_17m.out 1).trans rfl
  have hfz2_1 := blk_frozen K2_17m.out 1
  have hcz2_2 : w17.cell? ⟨w6.heap.size, 2, none⟩ = some (.int .i64 a0_2) := (blk_cell K2_17m.out 2).trans rfl
  have hfz2_2 := blk_frozen K2_17m.out 2
  have hcz2_3 : w17.cell? ⟨w6.heap.size, 3, none⟩ = some (.slice Ax0_3_6 a0_3.length cx0_3_6) := (blk_cell K2_17m.out 3).trans rfl
  have hfz2_3 := blk_frozen K2_17m.out 3
  have hcz2_4 : w17.cell? ⟨w6.heap.size, 4, none⟩ = some (.slice Ax0_4_6 a0_4.length cx0_4_6) := (blk_cell K2_17m.out 4).trans rfl
  have hfz2_4 := blk_frozen K2_17m.out 4
  have hcz2_5 : w17.cell? ⟨w6.heap.size, 5, none⟩ = some (.slice Ax0_5_6 a0_5.length cx0_5_6) := (blk_cell K2_17m.out 5).trans rfl
  have hfz2_5 := blk_frozen K2_17m.out 5
  go_wp2_with fail
  clear hcz0_0 hfz0_0 hcz0_1 hfz0_1 hcz0_2 hfz0_2 hcz0_3 hfz0_3 hcz0_4 hfz0_4 hcz0_5 hfz0_5 hcz1_0 hfz1_0 hcz1_1 hfz1_1 hcz1_2 hfz1_2 hcz1_3 hfz1_3 hcz2_0 hfz2_0 hcz2_1 hfz2_1 hcz2_2 hfz2_2 hcz2_3 hfz2_3 hcz2_4 hfz2_4 hcz2_5 hfz2_5
  refine (heldIntS_calls g0.length (by have := HLg0.out; omega) 1 (by omega) Ag0_0_10 cg0_0_10 w17 (by have h := (readsR Fg0_0_17.out).2.2; rwa [Com.markRow_len] at h) (by have h := (readsR Fg0_0_17.out).2.1; rwa [Com.markRow_len] at h)).mono ?_
  rintro e w18 ⟨rfl, hb⟩
  have B18 := Aside0.mk (below_step B17.out hb)
  have z18 := hb.size
  have K0_18 := Aside0.mk (blk_below K0_17m.out hb)
  clear K0_17m
  have K1_18 := Aside0.mk (blk_below K1_17m.out hb)
  clear K1_17m
  have K2_18 := Aside0.mk (blk_below K2_17m.out hb)
  clear K2_17m
  have Fw0_0_18 := Aside0.mk (Kd.R_below Fw0_0_17.out hb)
  clear Fw0_0_17
  have Fg0_0_18 := Aside0.mk (Kd.R_below Fg0_0_17.out hb)
  clear Fg0_0_17
  rw [← Em17.out]
  clear hb
  have hcz0_0 : w18.cell? ⟨w.heap.size, 0, none⟩ = some (.int .i64 a0_0) := (blk_cell K0_18.out 0).trans rfl
  have hfz0_0 := blk_frozen K0_18.out 0
  have hcz0_1 : w18.cell? ⟨w.heap.size, 1, none⟩ = some (.int .i64 a0_1) := (blk_cell K0_18.out 1).trans rfl
  have hfz0_1 := blk_frozen K0_18.out 1
  have hcz0_2 : w18.cell? ⟨w.heap.size, 2, none⟩ = some (.int .i64 a0_2) := (blk_cell K0_18.out 2).trans rfl
  have hfz0_2 := blk_frozen K0_18.out 2
  have hcz0_3 : w18.cell? ⟨w.heap.size, 3, none⟩ = some (.slice Aa0_3 a0_3.length ca0_3) := (blk_cell K0_18.out 3).trans rfl
  have hfz0_3 := blk_frozen K0_18.out 3
  have hcz0_4 : w18.cell? ⟨w.heap.size, 4, none⟩ = some (.slice Aa0_4 a0_4.length ca0_4) := (blk_cell K0_18.out 4).trans rfl
  have hfz0_4 := blk_frozen K0_18.out 4
  have hcz0_5 : w18.cell? ⟨w.heap.size, 5, none⟩ = some (.slice Aa0_5 a0_5.length ca0_5) := (blk_cell K0_18.out 5).trans rfl
  have hfz0_5 := blk_frozen K0_18.out 5
  have hcz1_0 : w18.cell? ⟨w.heap.size + 1, 0, none⟩ = some (.int .i64 a1_0) := (blk_cell K1_18.out 0).trans rfl
  have hfz1_0 := blk_frozen K1_18.out 0
  have hcz1_1 : w18.cell? ⟨w.heap.size + 1, 1, none⟩ = some (.int .i64 a1_1) := (blk_cell K1_18.out 1).trans rfl
  have hfz1_1 := blk_frozen K1_18.out 1
  have hcz1_2 : w18.cell? ⟨w.heap.size + 1, 2, none⟩ = some (.int .i64 a1_2) := (blk_cell K1_18.out 2).trans rfl
  have hfz1_2 := blk_frozen K1_18.out 2
  have hcz1_3 : w18.cell? ⟨w.heap.size + 1, 3, none⟩ = some (.int .i64 a1_3) := (blk_cell K1_18.out 3).trans rfl
  have hfz1_3 := blk_frozen K1_18.out 3
  have hcz2_0 : w18.cell? ⟨w6.heap.size, 0, none⟩ = some (.int .i64 a0_0) := (blk_cell K2_18.out 0).trans rfl
  have hfz2_0 := blk_frozen K2_18.out 0
  have hcz2_1 : w18.cell? ⟨w6.heap.size, 1, none⟩ = some (.int .i64 a0_1) := (blk_cell K2_18.out 1).trans rfl
  have hfz2_1 := blk_frozen K2_18.out 1
  have hcz2_2 : w18.cell? ⟨w6.heap.size, 2, none⟩ = some (.int .i64 a0_2) := (blk_cell K2_18.out 2).trans rfl
  have hfz2_2 := blk_frozen K2_18.out 2
  have hcz2_3 : w18.cell? ⟨w6.heap.size, 3, none⟩ = some (.slice Ax0_3_6 a0_3.length cx0_3_6) := (blk_cell K2_18.out 3).trans rfl
  have hfz2_3 := blk_frozen K2_18.out 3
  have hcz2_4 : w18.cell? ⟨w6.heap.size, 4, none⟩ = some (.slice Ax0_4_6 a0_4.length cx0_4_6) := (blk_cell K2_18.out 4).trans rfl
  have hfz2_4 := blk_frozen K2_18.out 4
  have hcz2_5 : w18.cell? ⟨w6.heap.size, 5, none⟩ = some (.slice Ax0_5_6 a0_5.length cx0_5_6) := (blk_cell K2_18.out 5).trans rfl
  have hfz2_5 := blk_frozen K2_18.out 5
  go_wp2_with fail
  clear hcz0_0 hfz0_0 hcz0_1 hfz0_1 hcz0_2 hfz0_2 hcz0_3 hfz0_3 hcz0_4 hfz0_4 hcz0_5 hfz0_5 hcz1_0 hfz1_0 hcz1_1 hfz1_1 hcz1_2 hfz1_2 hcz1_3 hfz1_3 hcz2_0 hfz2_0 hcz2_1 hfz2_1 hcz2_2 hfz2_2 hcz2_3 hfz2_3 hcz2_4 hfz2_4 hcz2_5 hfz2_5
  have Fw0_0_18d := Aside0.mk (Kd.R_drew Fw0_0_18.out)
  clear Fw0_0_18
  have Fg0_0_18d := Aside0.mk (Kd.R_drew Fg0_0_18.out)
  clear Fg0_0_18
  have K0_18d := Aside0.mk (blk_drew K0_18.out)
  clear K0_18
  have K1_18d := Aside0.mk (blk_drew K1_18.out)
  clear K1_18
  have K2_18d := Aside0.mk (blk_drew K2_18.out)
  clear K2_18
  have B19 := Aside0.mk (below_drew1 B18.out)
  have z19 : w18.heap.size ≤ (w18.drew).heap.size := Nat.le_refl _
  refine start_ (n := 10) (S := fun w' => w'.cell? ⟨w.heap.size, 0, none⟩ = some (.int .i64 a0_0) ∧ w'.cell? ⟨w.heap.size, 1, none⟩ = some (.int .i64 a0_1) ∧ w'.cell? ⟨w.heap.size, 2, none⟩ = some (.int .i64 a0_2) ∧ w'.cell? ⟨w.heap.size, 3, none⟩ = some (.slice Aa0_3 a0_3.length ca0_3) ∧ w'.cell? ⟨w.heap.size, 4, none⟩ = some (.slice Aa0_4 a0_4.length ca0_4) ∧ w'.cell? ⟨w.heap.size, 5, none⟩ = some (.slice Aa0_5 a0_5.length ca0_5) ∧ w'.cell? ⟨w.heap.size + 1, 0, none⟩ = some (.int .i64 a1_0) ∧ w'.cell? ⟨w.heap.size + 1, 1, none⟩ = some (.int .i64 a1_1) ∧ w'.cell? ⟨w.heap.size + 1, 2, none⟩ = some (.int .i64 a1_2) ∧ w'.cell? ⟨w.heap.size + 1, 3, none⟩ = some (.int .i64 a1_3) ∧ w'.cell? ⟨w6.heap.size, 0, none⟩ = some (.int .i64 a0_0) ∧ w'.cell? ⟨w6.heap.size, 1, none⟩ = some (.int .i64 a0_1) ∧ w'.cell? ⟨w6.heap.size, 2, none⟩ = some (.int .i64 a0_2) ∧ w'.cell? ⟨w6.heap.size, 3, none⟩ = some (.slice Ax0_3_6 a0_3.length cx0_3_6) ∧ w'.cell? ⟨w6.heap.size, 4, none⟩ = some (.slice Ax0_4_6 a0_4.length cx0_4_6) ∧ w'.cell? ⟨w6.heap.size, 5, none⟩ = some (.slice Ax0_5_6 a0_5.length cx0_5_6)) (ds := []) #[false, false, false, false, false, false, false, false, false, false] (by kernel_rfl) rfl rfl ⟨(blk_cell K0_18d.out 0).trans rfl, (blk_cell K0_18d.out 1).trans rfl, (blk_cell K0_18d.out 2).trans rfl, (blk_cell K0_18d.out 3).trans rfl, (blk_cell K0_18d.out 4).trans rfl, (blk_cell K0_18d.out 5).trans rfl, (blk_cell K1_18d.out 0).trans rfl, (blk_cell K1_18d.out 1).trans rfl, (blk_cell K1_18d.out 2).trans rfl, (blk_cell K1_18d.out 3).trans rfl, (blk_cell K2_18d.out 0).trans rfl, (blk_cell K2_18d.out 1).trans rfl, (blk_cell K2_18d.out 2).trans rfl, (blk_cell K2_18d.out 3).trans rfl, (blk_cell K2_18d.out 4).trans rfl, (blk_cell K2_18d.out 5).trans rfl⟩ (fun hHeld => ?_)
  refine with_tabW laws_FnExactPriceValues_tab24 laws_FnExactPriceValues_bits24 (fun HT_ HW_ => ?_)
  generalize w18.drew = w19 at Fw0_0_18d Fg0_0_18d K0_18d K1_18d K2_18d B19 z19 hHeld ⊢
  refine take_ (i := 0) (N := some 80) (v := ?_) (a' := ?_) #[true, false, false, false, false, false, false, false, false, false] rfl rfl (take_ofW HT_.out HW_.out (by kernel_rfl)) (fun _ _ _ h => h) (Or.inl ⟨by rfl, ?_⟩) hHeld ?_ ?_
  rotate_left
  · rintro w' ⟨s0, s1, s2, s3, s4, s5, s6, s7, s8, s9, s10, s11, s12, s13, s14, s15⟩
    go_simp
    with_reducible rfl
  rotate_left
  · simp only [Act.put, List.setIfInBounds_toArray, List.set_cons_zero, List.set_cons_succ, i64_w, i32_w]
    rfl
  refine take_ (i := 2) (N := some 82) (v := ?_) (a' := ?_) #[true, false, true, false, false, false, false, false, false, false] rfl rfl (take_ofW HT_.out HW_.out (by kernel_rfl)) (fun _ _ _ h => h) (Or.inl ⟨by rfl, ?_⟩) hHeld ?_ ?_
  rotate_left
  · rintro w' ⟨s0, s1, s2, s3, s4, s5, s6, s7, s8, s9, s10, s11, s12, s13, s14, s15⟩
    go_simp
    with_reducible rfl
  rotate_left
  · simp only [Act.put, List.setIfInBounds_toArray, List.set_cons_zero, List.set_cons_succ, i64_w, i32_w]
    rfl
  refine one_ (i := 1) (N := some 81) #[true, true, true, false, false, false, false, false, false, false] rfl rfl (one_of HT_.out (by kernel_rfl)) (by decide) (fun K hK => ?_)
  refine goes_ Try.func16 (by kernel_rfl) rfl #[.agg #[.int .i64 a0_0, .int .i64 a0_1, .int .i64 a0_2, .slice Aa0_3 a0_3.length ca0_3, .slice Aa0_4 a0_4.length ca0_4, .slice Aa0_5 a0_5.length ca0_5]] (by rfl) rfl rfl (by (try simp only [List.map_toArray, List.map_cons, List.map_nil]); first | done | rfl | (simp only [List.length_drop, List.length_take]; rfl)) ?_
  refine (toModel_calls a0_0 a0_1 a0_2 a0_3 HLa0_3.out a0_4 HLa0_4.out a0_5 HLa0_5.out Aa0_3 ca0_3 Aa0_4 ca0_4 Aa0_5 ca0_5 w19 (Kd.C_below HRa0_3.out B19.out) HCa0_3.out (Kd.C_below HRa0_4.out B19.out) HCa0_4.out (Kd.C_below HRa0_5.out B19.out) HCa0_5.out).mono ?_
  rintro e w20 ⟨v0, v1, v2, rfl, ho0, ho1, ho2, hne, hb⟩
  refine ⟨_, rfl, ?_⟩
  have B20 := Aside0.mk (below_step B19.out hb)
  have z20 := hb.size
  obtain ⟨At0_3_20, ct0_3_20, rfl⟩ := Kd.R_slice ho0
  have Ft0_3_20 := Aside0.mk (znR (w := w) rfl ho0 (by omega))
  clear ho0
  obtain ⟨At0_4_20, ct0_4_20, rfl⟩ := Kd.R_slice ho1
  have Ft0_4_20 := Aside0.mk (znR (w := w) rfl ho1 (by omega))
  clear ho1
  obtain ⟨At0_5_20, ct0_5_20, rfl⟩ := Kd.R_slice ho2
  have Ft0_5_20 := Aside0.mk (znR (w := w) rfl ho2 (by omega))
  clear ho2
  have Dt0 := Aside0.mk hne
  clear hne
  have K0_20 := Aside0.mk (blk_below K0_18d.out hb)
  clear K0_18d
  have K1_20 := Aside0.mk (blk_below K1_18d.out hb)
  clear K1_18d
  have K2_20 := Aside0.mk (blk_below K2_18d.out hb)
  clear K2_18d
  have Fw0_0_20 := Aside0.mk (Kd.R_below Fw0_0_18d.out hb)
  clear Fw0_0_18d
  have Fg0_0_20 := Aside0.mk (Kd.R_below Fg0_0_18d.out hb)
  clear Fg0_0_18d
  clear hb
  refine hK.out _ _ ⟨(blk_cell K0_20.out 0).trans rfl, (blk_cell K0_20.out 1).trans rfl, (blk_cell K0_20.out 2).trans rfl, (blk_cell K0_20.out 3).trans rfl, (blk_cell K0_20.out 4).trans rfl, (blk_cell K0_20.out 5).trans rfl, (blk_cell K1_20.out 0).trans rfl, (blk_cell K1_20.out 1).trans rfl, (blk_cell K1_20.out 2).trans rfl, (blk_cell K1_20.out 3).trans rfl, (blk_cell K2_20.out 0).trans rfl, (blk_cell K2_20.out 1).trans rfl, (blk_cell K2_20.out 2).trans rfl, (blk_cell K2_20.out 3).trans rfl, (blk_cell K2_20.out 4).trans rfl, (blk_cell K2_20.out 5).trans rfl⟩ (fun hHeld => ?_)
  clear hK K
  refine norm_ (a' := ?_) ?_ ?_
  rotate_left
  · show Act.put _ (some 81) _ = _
    simp only [Act.put, List.setIfInBounds_toArray, List.set_cons_zero, List.set_cons_succ, i64_w, i32_w]
    rfl
  refine one_ (i := 3) (N := some 83) #[true, true, true, true, false, false, false, false, false, false] rfl rfl (one_of HT_.out (by kernel_rfl)) (by decide) (fun K hK => ?_)
  refine goes_ Try.func17 (by kernel_rfl) rfl #[.agg #[.int .i64 a1_0, .int .i64 a1_1, .int .i64 a1_2, .int .i64 a1_3]] (by rfl) rfl rfl (by (try simp only [List.map_toArray, List.map_cons, List.map_nil]); first | done | rfl | (simp only [List.length_drop, List.length_take]; rfl)) ?_
  refine (toPrices_calls a1_0 a1_1 a1_2 a1_3  w20 ).mono ?_
  rintro e w21 ⟨rfl, hb⟩
  refine ⟨_, rfl, ?_⟩
  have B21 := Aside0.mk (below_step B20.out hb)
  have z21 := hb.size
  have K0_21 := Aside0.mk (blk_below K0_20.out hb)
  clear K0_20
  have K1_21 := Aside0.mk (blk_below K1_20.out hb)
  clear K1_20
  have K2_21 := Aside0.mk (blk_below K2_20.out hb)
  clear K2_20
  have Fw0_0_21 := Aside0.mk (Kd.R_below Fw0_0_20.out hb)
  clear Fw0_0_20
  have Fg0_0_21 := Aside0.mk (Kd.R_below Fg0_0_20.out hb)
  clear Fg0_0_20
  have Ft0_3_21 := Aside0.mk (Kd.R_below Ft0_3_20.out hb)
  clear Ft0_3_20
  have Ft0_4_21 := Aside0.mk (Kd.R_below Ft0_4_20.out hb)
  clear Ft0_4_20
  have Ft0_5_21 := Aside0.mk (Kd.R_below Ft0_5_20.out hb)
  clear Ft0_5_20
  clear hb
  refine hK.out _ _ ⟨(blk_cell K0_21.out 0).trans rfl, (blk_cell K0_21.out 1).trans rfl, (blk_cell K0_21.out 2).trans rfl, (blk_cell K0_21.out 3).trans rfl, (blk_cell K0_21.out 4).trans rfl, (blk_cell K0_21.out 5).trans rfl, (blk_cell K1_21.out 0).trans rfl, (blk_cell K1_21.out 1).trans rfl, (blk_cell K1_21.out 2).trans rfl, (blk_cell K1_21.out 3).trans rfl, (blk_cell K2_21.out 0).trans rfl, (blk_cell K2_21.out 1).trans rfl, (blk_cell K2_21.out 2).trans rfl, (blk_cell K2_21.out 3).trans rfl, (blk_cell K2_21.out 4).trans rfl, (blk_cell K2_21.out 5).trans rfl⟩ (fun hHeld => ?_)
  clear hK K
  refine norm_ (a' := ?_) ?_ ?_
  rotate_left
  · show Act.put _ (some 83) _ = _
    simp only [Act.put, List.setIfInBounds_toArray, List.set_cons_zero, List.set_cons_succ, i64_w, i32_w]
    rfl
  refine one_ (i := 4) (N := some 84) #[true, true, true, true, true, false, false, false, false, false] rfl rfl (one_of HT_.out (by kernel_rfl)) (by decide) (fun K hK => ?_)
  refine goes_ Try.func25 (by kernel_rfl) rfl #[.agg #[.int .i64 a0_0, .int .i64 a0_1, .int .i64 a0_2, .slice At0_3_20 a0_3.length ct0_3_20, .slice At0_4_20 a0_4.length ct0_4_20, .slice At0_5_20 a0_5.length ct0_5_20], .agg #[.int .i64 a1_0, .int .i64 a1_1, .int .i64 a1_2, .int .i64 a1_3]] (by rfl) rfl rfl (by (try simp only [List.map_toArray, List.map_cons, List.map_nil]); first | done | rfl | (simp only [List.length_drop, List.length_take]; rfl)) ?_
  refine (impl_PriceValues.calls ki a0_0 a0_1 a0_2 At0_3_20 ct0_3_20 a0_3 At0_4_20 ct0_4_20 a0_4 At0_5_20 ct0_5_20 a0_5 a1_0 a1_1 a1_2 a1_3 g0 g1 w21 (readsR Ft0_3_21.out).2.2 (readsR Ft0_3_21.out).2.1 (readsR Ft0_4_21.out).2.2 (readsR Ft0_4_21.out).2.1 (readsR Ft0_5_21.out).2.2 (readsR Ft0_5_21.out).2.1 Hi.out).mono ?_
  rintro e w22 ⟨v, rfl, ho, hb⟩
  refine ⟨_, rfl, ?_⟩
  have ho := Kd.R_mono ho (ok' := fun _ => True) (fun _ _ => trivial)
  have B22 := Aside0.mk (below_step B21.out hb)
  have z22 := hb.size
  obtain ⟨Ah0_0_22, ch0_0_22, rfl⟩ := Kd.R_slice ho
  have Fh0_0_22 := Aside0.mk (ivR (w := w) ho (by omega))
  clear ho
  have K0_22 := Aside0.mk (blk_below K0_21.out hb)
  clear K0_21
  have K1_22 := Aside0.mk (blk_below K1_21.out hb)
  clear K1_21
  have K2_22 := Aside0.mk (blk_below K2_21.out hb)
  clear K2_21
  have Fw0_0_22 := Aside0.mk (Kd.R_below Fw0_0_21.out hb)
  clear Fw0_0_21
  have Fg0_0_22 := Aside0.mk (Kd.R_below Fg0_0_21.out hb)
  clear Fg0_0_21
  have Ft0_3_22 := Aside0.mk (Kd.R_below Ft0_3_21.out hb)
  clear Ft0_3_21
  have Ft0_4_22 := Aside0.mk (Kd.R_below Ft0_4_21.out hb)
  clear Ft0_4_21
  have Ft0_5_22 := Aside0.mk (Kd.R_below Ft0_5_21.out hb)
  clear Ft0_5_21
  clear hb
  refine hK.out _ _ ⟨(blk_cell K0_22.out 0).trans rfl, (blk_cell K0_22.out 1).trans rfl, (blk_cell K0_22.out 2).trans rfl, (blk_cell K0_22.out 3).trans rfl, (blk_cell K0_22.out 4).trans rfl, (blk_cell K0_22.out 5).trans rfl, (blk_cell K1_22.out 0).trans rfl, (blk_cell K1_22.out 1).trans rfl, (blk_cell K1_22.out 2).trans rfl, (blk_cell K1_22.out 3).trans rfl, (blk_cell K2_22.out 0).trans rfl, (blk_cell K2_22.out 1).trans rfl, (blk_cell K2_22.out 2).trans rfl, (blk_cell K2_22.out 3).trans rfl, (blk_cell K2_22.out 4).trans rfl, (blk_cell K2_22.out 5).trans rfl⟩ (fun hHeld => ?_)
  clear hK K
  refine norm_ (a' := ?_) ?_ ?_
  rotate_left
  · show Act.put _ (some 84) _ = _
    simp only [Act.put, List.setIfInBounds_toArray, List.set_cons_zero, List.set_cons_succ, i64_w, i32_w]
    rfl
  refine pure_ (i := 5) (N := some 79) (v := ?_) (a' := ?_) #[true, true, true, true, true, true, false, false, false, false] rfl rfl (any_of HT_.out (by kernel_rfl)) (fun _ _ _ h => h) (Or.inl ⟨by rfl, ?_⟩) ?_ ?_
  rotate_left
  · intro w'
    go_simp
    with_reducible rfl
  rotate_left
  · simp only [Act.put, List.setIfInBounds_toArray, List.set_cons_zero, List.set_cons_succ, i64_w, i32_w]
    rfl
  refine pure_ (i := 6) (N := some 85) (v := ?_) (a' := ?_) #[true, true, true, true, true, true, true, false, false, false] rfl rfl (any_of HT_.out (by kernel_rfl)) (fun _ _ _ h => h) (Or.inl ⟨by rfl, ?_⟩) ?_ ?_
  rotate_left
  · intro w'
    go_simp
    with_reducible rfl
  rotate_left
  · simp only [Act.put, List.setIfInBounds_toArray, List.set_cons_zero, List.set_cons_succ, i64_w, i32_w]
    rfl
  refine pure_ (i := 7) (N := some 86) (v := ?_) (a' := ?_) #[true, true, true, true, true, true, true, true, false, false] rfl rfl (any_of HT_.out (by kernel_rfl)) (fun _ _ _ h => h) (Or.inl ⟨by rfl, ?_⟩) ?_ ?_
  rotate_left
  · intro w'
    go_simp
    with_reducible rfl
  rotate_left
  · simp only [Act.put, List.setIfInBounds_toArray, List.set_cons_zero, List.set_cons_succ, i64_w, i32_w]
    rfl
  refine pure_ (i := 8) (N := some 14) (v := ?_) (a' := ?_) #[true, true, true, true, true, true, true, true, true, false] rfl rfl (any_of HT_.out (by kernel_rfl)) (fun _ _ _ h => h) (Or.inl ⟨by rfl, ?_⟩) ?_ ?_
  rotate_left
  · intro w'
    go_simp
    with_reducible rfl
  rotate_left
  · simp only [Act.put, List.setIfInBounds_toArray, List.set_cons_zero, List.set_cons_succ, i64_w, i32_w]
    rfl
  refine pure_ (i := 9) (N := some 15) (v := ?_) (a' := ?_) #[true, true, true, true, true, true, true, true, true, true] rfl rfl (any_of HT_.out (by kernel_rfl)) (fun _ _ _ h => h) (Or.inl ⟨by rfl, ?_⟩) ?_ ?_
  rotate_left
  · intro w'
    go_simp
    with_reducible rfl
  rotate_left
  · simp only [Act.put, List.setIfInBounds_toArray, List.set_cons_zero, List.set_cons_succ, i64_w, i32_w]
    rfl
  refine done_ (done_of HT_.out (by kernel_rfl)) ?_
  clear HT_ HW_
  have hcz0_0 : w22.cell? ⟨w.heap.size, 0, none⟩ = some (.int .i64 a0_0) := (blk_cell K0_22.out 0).trans rfl
  have hfz0_0 := blk_frozen K0_22.out 0
  have hcz0_1 : w22.cell? ⟨w.heap.size, 1, none⟩ = some (.int .i64 a0_1) := (blk_cell K0_22.out 1).trans rfl
  have hfz0_1 := blk_frozen K0_22.out 1
  have hcz0_2 : w22.cell? ⟨w.heap.size, 2, none⟩ = some (.int .i64 a0_2) := (blk_cell K0_22.out 2).trans rfl
  have hfz0_2 := blk_frozen K0_22.out 2
  have hcz0_3 : w22.cell? ⟨w.heap.size, 3, none⟩ = some (.slice Aa0_3 a0_3.length ca0_3) := (blk_cell K0_22.out 3).trans rfl
  have hfz0_3 := blk_frozen K0_22.out 3
  have hcz0_4 : w22.cell? ⟨w.heap.size, 4, none⟩ = some (.slice Aa0_4 a0_4.length ca0_4) := (blk_cell K0_22.out 4).trans rfl
  have hfz0_4 := blk_frozen K0_22.out 4
  have hcz0_5 : w22.cell? ⟨w.heap.size, 5, none⟩ = some (.slice Aa0_5 a0_5.length ca0_5) := (blk_cell K0_22.out 5).trans rfl
  have hfz0_5 := blk_frozen K0_22.out 5
  have hcz1_0 : w22.cell? ⟨w.heap.size + 1, 0, none⟩ = some (.int .i64 a1_0) := (blk_cell K1_22.out 0).trans rfl
  have hfz1_0 := blk_frozen K1_22.out 0
  have hcz1_1 : w22.cell? ⟨w.heap.size + 1, 1, none⟩ = some (.int .i64 a1_1) := (blk_cell K1_22.out 1).trans rfl
  have hfz1_1 := blk_frozen K1_22.out 1
  have hcz1_2 : w22.cell? ⟨w.heap.size + 1, 2, none⟩ = some (.int .i64 a1_2) := (blk_cell K1_22.out 2).trans rfl
  have hfz1_2 := blk_frozen K1_22.out 2
  have hcz1_3 : w22.cell? ⟨w.heap.size + 1, 3, none⟩ = some (.int .i64 a1_3) := (blk_cell K1_22.out 3).trans rfl
  have hfz1_3 := blk_frozen K1_22.out 3
  have hcz2_0 : w22.cell? ⟨w6.heap.size, 0, none⟩ = some (.int .i64 a0_0) := (blk_cell K2_22.out 0).trans rfl
  have hfz2_0 := blk_frozen K2_22.out 0
  have hcz2_1 : w22.cell? ⟨w6.heap.size, 1, none⟩ = some (.int .i64 a0_1) := (blk_cell K2_22.out 1).trans rfl
  have hfz2_1 := blk_frozen K2_22.out 1
  have hcz2_2 : w22.cell? ⟨w6.heap.size, 2, none⟩ = some (.int .i64 a0_2) := (blk_cell K2_22.out 2).trans rfl
  have hfz2_2 := blk_frozen K2_22.out 2
  have hcz2_3 : w22.cell? ⟨w6.heap.size, 3, none⟩ = some (.slice Ax0_3_6 a0_3.length cx0_3_6) := (blk_cell K2_22.out 3).trans rfl
  have hfz2_3 := blk_frozen K2_22.out 3
  have hcz2_4 : w22.cell? ⟨w6.heap.size, 4, none⟩ = some (.slice Ax0_4_6 a0_4.length cx0_4_6) := (blk_cell K2_22.out 4).trans rfl
  have hfz2_4 := blk_frozen K2_22.out 4
  have hcz2_5 : w22.cell? ⟨w6.heap.size, 5, none⟩ = some (.slice Ax0_5_6 a0_5.length cx0_5_6) := (blk_cell K2_22.out 5).trans rfl
  have hfz2_5 := blk_frozen K2_22.out 5
  go_wp2_with fail
  clear hcz0_0 hfz0_0 hcz0_1 hfz0_1 hcz0_2 hfz0_2 hcz0_3 hfz0_3 hcz0_4 hfz0_4 hcz0_5 hfz0_5 hcz1_0 hfz1_0 hcz1_1 hfz1_1 hcz1_2 hfz1_2 hcz1_3 hfz1_3 hcz2_0 hfz2_0 hcz2_1 hfz2_1 hcz2_2 hfz2_2 hcz2_3 hfz2_3 hcz2_4 hfz2_4 hcz2_5 hfz2_5
  refine (eqIntS_calls g0 (maxLen_val (by have := HLg0.out; omega)) Ah0_0_22 Aw0_0_5 ch0_0_22 cw0_0_5 w22 (readsR Fh0_0_22.out).2.2 (readsR Fh0_0_22.out).2.1 (readsR Fw0_0_22.out).2.2 (readsR Fw0_0_22.out).2.1).mono ?_
  rintro e w23 ⟨rfl, hb⟩
  have B23 := Aside0.mk (below_step B22.out hb)
  have z23 := hb.size
  have K0_23 := Aside0.mk (blk_below K0_22.out hb)
  clear K0_22
  have K1_23 := Aside0.mk (blk_below K1_22.out hb)
  clear K1_22
  have K2_23 := Aside0.mk (blk_below K2_22.out hb)
  clear K2_22
  have Fw0_0_23 := Aside0.mk (Kd.R_below Fw0_0_22.out hb)
  clear Fw0_0_22
  have Fg0_0_23 := Aside0.mk (Kd.R_below Fg0_0_22.out hb)
  clear Fg0_0_22
  have Fh0_0_23 := Aside0.mk (Kd.R_below Fh0_0_22.out hb)
  clear Fh0_0_22
  clear hb
  have hcz0_0 : w23.cell? ⟨w.heap.size, 0, none⟩ = some (.int .i64 a0_0) := (blk_cell K0_23.out 0).trans rfl
  have hfz0_0 := blk_frozen K0_23.out 0
  have hcz0_1 : w23.cell? ⟨w.heap.size, 1, none⟩ = some (.int .i64 a0_1) := (blk_cell K0_23.out 1).trans rfl
  have hfz0_1 := blk_frozen K0_23.out 1
  have hcz0_2 : w23.cell? ⟨w.heap.size, 2, none⟩ = some (.int .i64 a0_2) := (blk_cell K0_23.out 2).trans rfl
  have hfz0_2 := blk_frozen K0_23.out 2
  have hcz0_3 : w23.cell? ⟨w.heap.size, 3, none⟩ = some (.slice Aa0_3 a0_3.length ca0_3) := (blk_cell K0_23.out 3).trans rfl
  have hfz0_3 := blk_frozen K0_23.out 3
  have hcz0_4 : w23.cell? ⟨w.heap.size, 4, none⟩ = some (.slice Aa0_4 a0_4.length ca0_4) := (blk_cell K0_23.out 4).trans rfl
  have hfz0_4 := blk_frozen K0_23.out 4
  have hcz0_5 : w23.cell? ⟨w.heap.size, 5, none⟩ = some (.slice Aa0_5 a0_5.length ca0_5) := (blk_cell K0_23.out 5).trans rfl
  have hfz0_5 := blk_frozen K0_23.out 5
  have hcz1_0 : w23.cell? ⟨w.heap.size + 1, 0, none⟩ = some (.int .i64 a1_0) := (blk_cell K1_23.out 0).trans rfl
  have hfz1_0 := blk_frozen K1_23.out 0
  have hcz1_1 : w23.cell? ⟨w.heap.size + 1, 1, none⟩ = some (.int .i64 a1_1) := (blk_cell K1_23.out 1).trans rfl
  have hfz1_1 := blk_frozen K1_23.out 1
  have hcz1_2 : w23.cell? ⟨w.heap.size + 1, 2, none⟩ = some (.int .i64 a1_2) := (blk_cell K1_23.out 2).trans rfl
  have hfz1_2 := blk_frozen K1_23.out 2
  have hcz1_3 : w23.cell? ⟨w.heap.size + 1, 3, none⟩ = some (.int .i64 a1_3) := (blk_cell K1_23.out 3).trans rfl
  have hfz1_3 := blk_frozen K1_23.out 3
  have hcz2_0 : w23.cell? ⟨w6.heap.size, 0, none⟩ = some (.int .i64 a0_0) := (blk_cell K2_23.out 0).trans rfl
  have hfz2_0 := blk_frozen K2_23.out 0
  have hcz2_1 : w23.cell? ⟨w6.heap.size, 1, none⟩ = some (.int .i64 a0_1) := (blk_cell K2_23.out 1).trans rfl
  have hfz2_1 := blk_frozen K2_23.out 1
  have hcz2_2 : w23.cell? ⟨w6.heap.size, 2, none⟩ = some (.int .i64 a0_2) := (blk_cell K2_23.out 2).trans rfl
  have hfz2_2 := blk_frozen K2_23.out 2
  have hcz2_3 : w23.cell? ⟨w6.heap.size, 3, none⟩ = some (.slice Ax0_3_6 a0_3.length cx0_3_6) := (blk_cell K2_23.out 3).trans rfl
  have hfz2_3 := blk_frozen K2_23.out 3
  have hcz2_4 : w23.cell? ⟨w6.heap.size, 4, none⟩ = some (.slice Ax0_4_6 a0_4.length cx0_4_6) := (blk_cell K2_23.out 4).trans rfl
  have hfz2_4 := blk_frozen K2_23.out 4
  have hcz2_5 : w23.cell? ⟨w6.heap.size, 5, none⟩ = some (.slice Ax0_5_6 a0_5.length cx0_5_6) := (blk_cell K2_23.out 5).trans rfl
  have hfz2_5 := blk_frozen K2_23.out 5
  go_wp2_with fail
  clear hcz0_0 hfz0_0 hcz0_1 hfz0_1 hcz0_2 hfz0_2 hcz0_3 hfz0_3 hcz0_4 hfz0_4 hcz0_5 hfz0_5 hcz1_0 hfz1_0 hcz1_1 hfz1_1 hcz1_2 hfz1_2 hcz1_3 hfz1_3 hcz2_0 hfz2_0 hcz2_1 hfz2_1 hcz2_2 hfz2_2 hcz2_3 hfz2_3 hcz2_4 hfz2_4 hcz2_5 hfz2_5
  refine (heldIntS_calls g0.length (by have := HLg0.out; omega) 1 (by omega) Ag0_0_10 cg0_0_10 w23 (by have h := (readsR Fg0_0_23.out).2.2; rwa [Com.markRow_len] at h) (by have h := (readsR Fg0_0_23.out).2.1; rwa [Com.markRow_len] at h)).mono ?_
  rintro e w24 ⟨rfl, hb⟩
  have B24 := Aside0.mk (below_step B23.out hb)
  have z24 := hb.size
  have K0_24 := Aside0.mk (blk_below K0_23.out hb)
  clear K0_23
  have K1_24 := Aside0.mk (blk_below K1_23.out hb)
  clear K1_23
  have K2_24 := Aside0.mk (blk_below K2_23.out hb)
  clear K2_23
  have Fw0_0_24 := Aside0.mk (Kd.R_below Fw0_0_23.out hb)
  clear Fw0_0_23
  have Fg0_0_24 := Aside0.mk (Kd.R_below Fg0_0_23.out hb)
  clear Fg0_0_23
  have Fh0_0_24 := Aside0.mk (Kd.R_below Fh0_0_23.out hb)
  clear Fh0_0_23
  rw [← Em17.out]
  clear hb
  have hcz0_0 : w24.cell? ⟨w.heap.size, 0, none⟩ = some (.int .i64 a0_0) := (blk_cell K0_24.out 0).trans rfl
  have hfz0_0 := blk_frozen K0_24.out 0
  have hcz0_1 : w24.cell? ⟨w.heap.size, 1, none⟩ = some (.int .i64 a0_1) := (blk_cell K0_24.out 1).trans rfl
  have hfz0_1 := blk_frozen K0_24.out 1
  have hcz0_2 : w24.cell? ⟨w.heap.size, 2, none⟩ = some (.int .i64 a0_2) := (blk_cell K0_24.out 2).trans rfl
  have hfz0_2 := blk_frozen K0_24.out 2
  have hcz0_3 : w24.cell? ⟨w.heap.size, 3, none⟩ = some (.slice Aa0_3 a0_3.length ca0_3) := (blk_cell K0_24.out 3).trans rfl
  have hfz0_3 := blk_frozen K0_24.out 3
  have hcz0_4 : w24.cell? ⟨w.heap.size, 4, none⟩ = some (.slice Aa0_4 a0_4.length ca0_4) := (blk_cell K0_24.out 4).trans rfl
  have hfz0_4 := blk_frozen K0_24.out 4
  have hcz0_5 : w24.cell? ⟨w.heap.size, 5, none⟩ = some (.slice Aa0_5 a0_5.length ca0_5) := (blk_cell K0_24.out 5).trans rfl
  have hfz0_5 := blk_frozen K0_24.out 5
  have hcz1_0 : w24.cell? ⟨w.heap.size + 1, 0, none⟩ = some (.int .i64 a1_0) := (blk_cell K1_24.out 0).trans rfl
  have hfz1_0 := blk_frozen K1_24.out 0
  have hcz1_1 : w24.cell? ⟨w.heap.size + 1, 1, none⟩ = some (.int .i64 a1_1) := (blk_cell K1_24.out 1).trans rfl
  have hfz1_1 := blk_frozen K1_24.out 1
  have hcz1_2 : w24.cell? ⟨w.heap.size + 1, 2, none⟩ = some (.int .i64 a1_2) := (blk_cell K1_24.out 2).trans rfl
  have hfz1_2 := blk_frozen K1_24.out 2
  have hcz1_3 : w24.cell? ⟨w.heap.size + 1, 3, none⟩ = some (.int .i64 a1_3) := (blk_cell K1_24.out 3).trans rfl
  have hfz1_3 := blk_frozen K1_24.out 3
  have hcz2_0 : w24.cell? ⟨w6.heap.size, 0, none⟩ = some (.int .i64 a0_0) := (blk_cell K2_24.out 0).trans rfl
  have hfz2_0 := blk_frozen K2_24.out 0
  have hcz2_1 : w24.cell? ⟨w6.heap.size, 1, none⟩ = some (.int .i64 a0_1) := (blk_cell K2_24.out 1).trans rfl
  have hfz2_1 := blk_frozen K2_24.out 1
  have hcz2_2 : w24.cell? ⟨w6.heap.size, 2, none⟩ = some (.int .i64 a0_2) := (blk_cell K2_24.out 2).trans rfl
  have hfz2_2 := blk_frozen K2_24.out 2
  have hcz2_3 : w24.cell? ⟨w6.heap.size, 3, none⟩ = some (.slice Ax0_3_6 a0_3.length cx0_3_6) := (blk_cell K2_24.out 3).trans rfl
  have hfz2_3 := blk_frozen K2_24.out 3
  have hcz2_4 : w24.cell? ⟨w6.heap.size, 4, none⟩ = some (.slice Ax0_4_6 a0_4.length cx0_4_6) := (blk_cell K2_24.out 4).trans rfl
  have hfz2_4 := blk_frozen K2_24.out 4
  have hcz2_5 : w24.cell? ⟨w6.heap.size, 5, none⟩ = some (.slice Ax0_5_6 a0_5.length cx0_5_6) := (blk_cell K2_24.out 5).trans rfl
  have hfz2_5 := blk_frozen K2_24.out 5
  go_wp2_with fail
  clear hcz0_0 hfz0_0 hcz0_1 hfz0_1 hcz0_2 hfz0_2 hcz0_3 hfz0_3 hcz0_4 hfz0_4 hcz0_5 hfz0_5 hcz1_0 hfz1_0 hcz1_1 hfz1_1 hcz1_2 hfz1_2 hcz1_3 hfz1_3 hcz2_0 hfz2_0 hcz2_1 hfz2_1 hcz2_2 hfz2_2 hcz2_3 hfz2_3 hcz2_4 hfz2_4 hcz2_5 hfz2_5
  go_ret
  exact ⟨rfl, B24.out⟩
set_option maxRecDepth 100000 in
theorem walk_neg0 (a0_0 : Int) (a0_1 : Int) (a0_2 : Int) (a0_3 : List Int) (a0_4 : List Int) (a0_5 : List Int) (a1_0 : Int) (a1_1 : Int) (a1_2 : Int) (a1_3 : Int) (Aa0_3 : Option Addr) (ca0_3 : Nat) (Aa0_4 : Option Addr) (ca0_4 : Nat) (Aa0_5 : Option Addr) (ca0_5 : Nat) (w : World) (hra0_3 : Kd.C (Kd.int .i64) w Aa0_3 a0_3.length a0_3) (hca0_3 : a0_3.length ≤ ca0_3) (hra0_4 : Kd.C (Kd.int .i64) w Aa0_4 a0_4.length a0_4) (hca0_4 : a0_4.length ≤ ca0_4) (hra0_5 : Kd.C (Kd.int .i64) w Aa0_5 a0_5.length a0_5) (hca0_5 : a0_5.length ≤ ca0_5)  (r0 : Int) (hsz0 : ∀ (Aa0_3 : Option Addr) (ca0_3 : Nat) (Aa0_4 : Option Addr) (ca0_4 : Nat) (Aa0_5 : Option Addr) (ca0_5 : Nat) (w : World), Kd.C (Kd.int .i64) w Aa0_3 a0_3.length a0_3 → a0_3.length ≤ ca0_3 → Kd.C (Kd.int .i64) w Aa0_4 a0_4.length a0_4 → a0_4.length ≤ ca0_4 → Kd.C (Kd.int .i64) w Aa0_5 a0_5.length a0_5 → a0_5.length ≤ ca0_5 → Calls Try.prog 14 #[.agg #[.int .i64 a0_0, .int .i64 a0_1, .int .i64 a0_2, .slice Aa0_3 a0_3.length ca0_3, .slice Aa0_4 a0_4.length ca0_4, .slice Aa0_5 a0_5.length ca0_5], .int .i64 1048576] w fun e w' => e = .returned (.int .i64 r0) ∧ Below w.heap.size w w') (hlt0 : r0 < 0) : Calls Try.prog 5 #[.agg #[.int .i64 a0_0, .int .i64 a0_1, .int .i64 a0_2, .slice Aa0_3 a0_3.length ca0_3, .slice Aa0_4 a0_4.length ca0_4, .slice Aa0_5 a0_5.length ca0_5], .agg #[.int .i64 a1_0, .int .i64 a1_1, .int .i64 a1_2, .int .i64 a1_3]] w fun e w' => e = .returned (.bool true) ∧ Below w.heap.size w w' := by
  have HRa0_3 := Aside0.mk hra0_3
  have HRa0_4 := Aside0.mk hra0_4
  have HRa0_5 := Aside0.mk hra0_5
  have HCa0_3 := Aside0.mk hca0_3
  have HCa0_4 := Aside0.mk hca0_4
  have HCa0_5 := Aside0.mk hca0_5
  have HSZ0 := Aside0.mk hsz0
  have d0 : decide (r0 < 0) = true := decide_eq_true hlt0
  clear hsz0 hlt0  hra0_3 hca0_3 hra0_4 hca0_4 hra0_5 hca0_5
  go_enter Try.func5, Try.ntmps5
  go_wp2_with fail
  obtain ⟨wb, hwb⟩ : ∃ z : World, z = ((w.alloc (.cells #[.int .i64 a0_0, .int .i64 a0_1, .int .i64 a0_2, .slice Aa0_3 a0_3.length ca0_3, .slice Aa0_4 a0_4.length ca0_4, .slice Aa0_5 a0_5.length ca0_5] 26)).alloc (.cells #[.int .i64 a1_0, .int .i64 a1_1, .int .i64 a1_2, .int .i64 a1_3] 28)) := ⟨_, rfl⟩
  rw [← hwb]
  have K0_0 : Aside0 (wb.heap[w.heap.size]? = some (.cells #[.int .i64 a0_0, .int .i64 a0_1, .int .i64 a0_2, .slice Aa0_3 a0_3.length ca0_3, .slice Aa0_4 a0_4.length ca0_4, .slice Aa0_5 a0_5.length ca0_5] 26 (0, 0))) := ⟨by rw [hwb]; exact blk_alloc (blk_new w _) _⟩
  have K1_0 : Aside0 (wb.heap[w.heap.size + 1]? = some (.cells #[.int .i64 a1_0, .int .i64 a1_1, .int .i64 a1_2, .int .i64 a1_3] 28 (0, 0))) := ⟨by rw [hwb, show w.heap.size + 1 = (w.alloc (.cells #[.int .i64 a0_0, .int .i64 a0_1, .int .i64 a0_2, .slice Aa0_3 a0_3.length ca0_3, .slice Aa0_4 a0_4.length ca0_4, .slice Aa0_5 a0_5.length ca0_5] 26)).heap.size from (Array.size_push ..).symm]; exact blk_new (w.alloc (.cells #[.int .i64 a0_0, .int .i64 a0_1, .int .i64 a0_2, .slice Aa0_3 a0_3.length ca0_3, .slice Aa0_4 a0_4.length ca0_4, .slice Aa0_5 a0_5.length ca0_5] 26)) _⟩
  have B0 : Aside0 (Below w.heap.size w wb) := ⟨by rw [hwb]; exact below_alloc (below_alloc (Below.refl _ _) _) _⟩
  have z0 := B0.out.size
  have zb := blk_lt K1_0.out
  clear hwb
  refine (HSZ0.out Aa0_3 ca0_3 Aa0_4 ca0_4 Aa0_5 ca0_5 wb (Kd.C_below HRa0_3.out B0.out) HCa0_3.out (Kd.C_below HRa0_4.out B0.out) HCa0_4.out (Kd.C_below HRa0_5.out B0.out) HCa0_5.out).mono ?_
  rintro e w1 ⟨rfl, hb⟩
  have B1 := Aside0.mk (below_step B0.out hb)
  have K0_0n := Aside0.mk (blk_below K0_0.out hb)
  have K1_0n := Aside0.mk (blk_below K1_0.out hb)
  clear hb
  have hcz0_0 : w1.cell? ⟨w.heap.size, 0, none⟩ = some (.int .i64 a0_0) := (blk_cell K0_0n.out 0).trans rfl
  have hfz0_0 := blk_frozen K0_0n.out 0
  have hcz0_1 : w1.cell? ⟨w.heap.size, 1, none⟩ = some (.int .i64 a0_1) := (blk_cell K0_0n.out 1).trans rfl
  have hfz0_1 := blk_frozen K0_0n.out 1
  have hcz0_2 : w1.cell? ⟨w.heap.size, 2, none⟩ = some (.int .i64 a0_2) := (blk_cell K0_0n.out 2).trans rfl
  have hfz0_2 := blk_frozen K0_0n.out 2
  have hcz0_3 : w1.cell? ⟨w.heap.size, 3, none⟩ = some (.slice Aa0_3 a0_3.length ca0_3) := (blk_cell K0_0n.out 3).trans rfl
  have hfz0_3 := blk_frozen K0_0n.out 3
  have hcz0_4 : w1.cell? ⟨w.heap.size, 4, none⟩ = some (.slice Aa0_4 a0_4.length ca0_4) := (blk_cell K0_0n.out 4).trans rfl
  have hfz0_4 := blk_frozen K0_0n.out 4
  have hcz0_5 : w1.cell? ⟨w.heap.size, 5, none⟩ = some (.slice Aa0_5 a0_5.length ca0_5) := (blk_cell K0_0n.out 5).trans rfl
  have hfz0_5 := blk_frozen K0_0n.out 5
  have hcz1_0 : w1.cell? ⟨w.heap.size + 1, 0, none⟩ = some (.int .i64 a1_0) := (blk_cell K1_0n.out 0).trans rfl
  have hfz1_0 := blk_frozen K1_0n.out 0
  have hcz1_1 : w1.cell? ⟨w.heap.size + 1, 1, none⟩ = some (.int .i64 a1_1) := (blk_cell K1_0n.out 1).trans rfl
  have hfz1_1 := blk_frozen K1_0n.out 1
  have hcz1_2 : w1.cell? ⟨w.heap.size + 1, 2, none⟩ = some (.int .i64 a1_2) := (blk_cell K1_0n.out 2).trans rfl
  have hfz1_2 := blk_frozen K1_0n.out 2
  have hcz1_3 : w1.cell? ⟨w.heap.size + 1, 3, none⟩ = some (.int .i64 a1_3) := (blk_cell K1_0n.out 3).trans rfl
  have hfz1_3 := blk_frozen K1_0n.out 3
  go_wp2_with fail
  go_ret
  exact ⟨rfl, B1.out⟩
theorem law (a0_0 : Int) (a0_1 : Int) (a0_2 : Int) (a0_3 : List Int) (a0_4 : List Int) (a0_5 : List Int) (a1_0 : Int) (a1_1 : Int) (a1_2 : Int) (a1_3 : Int) (ga0_0 : (Lit.int .i64 a0_0).wf = true) (ga0_1 : (Lit.int .i64 a0_1).wf = true) (ga0_2 : (Lit.int .i64 a0_2).wf = true) (ha0_3 : a0_3.length ≤ maxLen) (ga0_3 : ∀ x ∈ a0_3, (Lit.int .i64 x).wf = true) (ha0_4 : a0_4.length ≤ maxLen) (ga0_4 : ∀ x ∈ a0_4, (Lit.int .i64 x).wf = true) (ha0_5 : a0_5.length ≤ maxLen) (ga0_5 : ∀ x ∈ a0_5, (Lit.int .i64 x).wf = true) (ga1_0 : (Lit.int .i64 a1_0).wf = true) (ga1_1 : (Lit.int .i64 a1_1).wf = true) (ga1_2 : (Lit.int .i64 a1_2).wf = true) (ga1_3 : (Lit.int .i64 a1_3).wf = true) (Aa0_3 : Option Addr) (ca0_3 : Nat) (Aa0_4 : Option Addr) (ca0_4 : Nat) (Aa0_5 : Option Addr) (ca0_5 : Nat) (w : World) (hra0_3 : Kd.C (Kd.int .i64) w Aa0_3 a0_3.length a0_3) (hca0_3 : a0_3.length ≤ ca0_3) (hra0_4 : Kd.C (Kd.int .i64) w Aa0_4 a0_4.length a0_4) (hca0_4 : a0_4.length ≤ ca0_4) (hra0_5 : Kd.C (Kd.int .i64) w Aa0_5 a0_5.length a0_5) (hca0_5 : a0_5.length ≤ ca0_5) : Calls Try.prog 5 #[.agg #[.int .i64 a0_0, .int .i64 a0_1, .int .i64 a0_2, .slice Aa0_3 a0_3.length ca0_3, .slice Aa0_4 a0_4.length ca0_4, .slice Aa0_5 a0_5.length ca0_5], .agg #[.int .i64 a1_0, .int .i64 a1_1, .int .i64 a1_2, .int .i64 a1_3]] w fun e w' => e = .returned (.bool true) ∧ Below w.heap.size w w' := by
  obtain ⟨r0, hz0, hsz0⟩ := szModel_calls a0_0 a0_1 a0_2 a0_3 a0_4 a0_5 ha0_3 ha0_4 ha0_5 1048576 (by omega)
  by_cases hlt0 : r0 < 0
  · exact walk_neg0 a0_0 a0_1 a0_2 a0_3 a0_4 a0_5 a1_0 a1_1 a1_2 a1_3 Aa0_3 ca0_3 Aa0_4 ca0_4 Aa0_5 ca0_5 w hra0_3 hca0_3 hra0_4 hca0_4 hra0_5 hca0_5  r0 hsz0 hlt0
  obtain ⟨hq0, l1a0_3, l1a0_4, l1a0_5⟩ := hz0 (by omega)
  obtain ⟨⟨g0, g1⟩, hs, hi, ng0⟩ := both a0_0 a0_1 a0_2 a0_3 a0_4 a0_5 a1_0 a1_1 a1_2 a1_3 (wf64 ga0_0) (wf64 ga0_1) (wf64 ga0_2) l1a0_3 l1a0_4 l1a0_5 (wf64 ga1_0) (wf64 ga1_1) (wf64 ga1_2) (wf64 ga1_3)
  exact walk a0_0 a0_1 a0_2 a0_3 a0_4 a0_5 a1_0 a1_1 a1_2 a1_3 Aa0_3 ca0_3 Aa0_4 ca0_4 Aa0_5 ca0_5 w hra0_3 hca0_3 hra0_4 hca0_4 hra0_5 hca0_5 r0 hsz0 hlt0  g0 g1 l1a0_3 l1a0_4 l1a0_5 ng0 hs.rounds hi.rounds
end Go.Proofs.Ytomfjhpiemipkaa.WalkFnExactPriceValues
