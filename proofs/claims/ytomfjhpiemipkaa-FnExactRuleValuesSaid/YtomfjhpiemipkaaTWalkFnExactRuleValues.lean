/- The law FnExactRuleValues, walked by hand over its callees' contracts: for every input it returns true. -/
import Derived.Test.YtomfjhpiemipkaaTComI
import Derived.Test.YtomfjhpiemipkaaTMFnExactRuleValuesx2
import Derived.Test.YtomfjhpiemipkaaTMFnExactRuleValuesx3
import Derived.Test.YtomfjhpiemipkaaTMFnExactRuleValuesx0
import Derived.Test.YtomfjhpiemipkaaTMFnExactRuleValuesx5
import Derived.Test.YtomfjhpiemipkaaTMFnExactRuleValuesx4
import Derived.Test.YtomfjhpiemipkaaTOwnRuleValues
namespace Go.Proofs.Ytomfjhpiemipkaa.WalkFnExactRuleValues
open Go.RowKit Go.Proofs.Ytomfjhpiemipkaa.PFnExactRuleValues Go.Proofs.YtomfjhpiemipkaaW.PrintWords Go.Proofs.YtomfjhpiemipkaaW.PrintLast Go.Proofs.YtomfjhpiemipkaaW.PrintMore Go.Proofs.Ytomfjhpiemipkaa.B Go.Proofs.Ytomfjhpiemipkaa.Com Go.Proofs.Ytomfjhpiemipkaa.OwnRuleValues
set_option linter.unusedVariables false
set_option linter.unusedSimpArgs false
def Zn (W W' : World) (u : Value) (k : Nat) : Prop := Btw W W' k ∧ some k = u.ownBlock
/- zones -/
def ne3 (u v z : Value) : Prop := (∀ k : Nat, some k = u.ownBlock → some k ≠ v.ownBlock) ∧ (∀ k : Nat, some k = u.ownBlock → some k ≠ z.ownBlock) ∧ (∀ k : Nat, some k = v.ownBlock → some k ≠ z.ownBlock)
theorem znR {α : Type} {d : Kd α} {e : Nat} {w W W' : World} {v : Value} {xs : List α} {ok : Nat → Prop} (hE : d.E = []) (h : Kd.R d e W' W.heap.size ok v xs) (hw : w.heap.size ≤ W.heap.size) : Kd.R d e W' w.heap.size (Zn W W' v) v xs :=
 Kd.R_lower (Kd.R_mono (Kd.R_bound (Kd.R_tight2 hE h)) (fun k hk => ⟨⟨hk.2.1, hk.2.2.1⟩, hk.1.1⟩)) hw
/- laws_toIntS -/
theorem toIntS_l0 (l : List Int) (hl : l.length ≤ 35184372088832) : ∀ (d i : Nat) (m : List Int), i + d = l.length → m.length = l.length → (∀ j, j < i → m.getD j 0 = l.getD j 0) → Ev (fun k => laws_toIntS.l0 k l m (i : Int)) l := by
 intro d
 induction d with
 | zero =>
  intro i m hi hm he
  refine Ev.step (fun k => laws_toIntS.l0.eq_2 l m i k) ?_
  refine ev_neg (by omega) (ev_some ?_)
  refine List.ext_getElem hm (fun j h1 h2 => ?_)
  have := he j (by omega)
  simpa [List.getD_eq_getElem?_getD, h1, h2] using this
 | succ d ih =>
  intro i m hi hm he
  refine Ev.step (fun k => laws_toIntS.l0.eq_2 l m i k) ?_
  refine ev_pos (by omega) (ev_pos (by omega) (ev_pos (by omega) ?_))
  rw [w_succ (n := l.length) (by omega) (by omega), toNat_nat, rd_nat]
  refine ih (i + 1) _ (by omega) (by simpa using hm) (fun j hj => ?_)
  by_cases hji : j = i
  ·subst hji
   simp [List.getD_eq_getElem?_getD, show j < m.length by omega]
  ·rw [← he j (by omega)]
   simp [List.getD_eq_getElem?_getD, List.getElem?_set_ne (Ne.symm hji)]
theorem toIntS_ev (l : List Int) (hl : l.length ≤ 35184372088832) : Ev (fun k => laws_toIntS.f k l) l := by
 unfold laws_toIntS.f
 refine ev_pos (by omega) (ev_pos (by omega) ?_)
 exact toIntS_l0 l hl l.length 0 _ (by omega) (by simp) (fun j hj => by omega)
/- com.toModel -/
theorem toModel_ev (x y z : Int) (t g r : List Int) (ht : t.length ≤ 1048576) (hg : g.length ≤ 1048576) (hr : r.length ≤ 1048576) : Ev (fun k => laws_toModel.f k x y z t g r) (x, y, z, t, g, r) := by
 unfold laws_toModel.f
 exact ev_bindc (a := (x, y, z)) rfl (Ev.bind (toIntS_ev t (by omega)) (Ev.bind (toIntS_ev g (by omega)) (Ev.bind (toIntS_ev r (by omega)) (ev_some rfl))))
theorem toModel_calls (x y z : Int) (t : List Int) (ht : t.length ≤ 1048576) (g : List Int) (hg : g.length ≤ 1048576) (r : List Int) (hr : r.length ≤ 1048576) (A3 : Option Addr) (c3 : Nat) (A4 : Option Addr) (c4 : Nat) (A5 : Option Addr) (c5 : Nat) (w : World)
  (h1 : Kd.C (Kd.int .i64) w A3 t.length t) (h2 : t.length ≤ c3) (h3 : Kd.C (Kd.int .i64) w A4 g.length g) (h4 : g.length ≤ c4) (h5 : Kd.C (Kd.int .i64) w A5 r.length r) (h6 : r.length ≤ c5) :
  Calls Try.prog 16 #[.agg #[.int .i64 x, .int .i64 y, .int .i64 z, .slice A3 t.length c3, .slice A4 g.length c4, .slice A5 r.length c5]] w fun e w' => ∃ v3 v4 v5 : Value, e = .returned (.agg #[.int .i64 x, .int .i64 y, .int .i64 z, v3, v4, v5]) ∧
   Kd.R (Kd.int .i64) 3 w' w.heap.size (fun _ => True) v3 t ∧ Kd.R (Kd.int .i64) 3 w' w.heap.size (fun _ => True) v4 g ∧ Kd.R (Kd.int .i64) 3 w' w.heap.size (fun _ => True) v5 r ∧ ne3 v3 v4 v5 ∧ Below w.heap.size w w' := by
 obtain ⟨k, hk⟩ := (toModel_ev x y z t g r ht hg hr).rounds
 refine (laws_toModel.calls k x y z A3 c3 t A4 c4 g A5 c5 r x y z t g r w h1 h2 h3 h4 h5 h6 hk).mono ?_
 rintro e w' ⟨v3, v4, v5, he, q3, q4, q5, hb⟩
 exact ⟨v3, v4, v5, he, Kd.R_mono q3 (fun _ _ => trivial), Kd.R_mono q4 (fun _ _ => trivial), Kd.R_mono q5 (fun _ _ => trivial), ⟨fun k hk => (q3.1 k hk.symm).1, fun k hk => (q3.1 k hk.symm).2, fun k hk => (q4.1 k hk.symm).2⟩, hb⟩
/- partsP -/
def cP (e : S141) : S139 := ⟨e.f0, e.f1⟩
/- laws_toPartS -/
theorem toPartS_l0 (l : List S141) (hl : l.length ≤ 1048576) : ∀ (d i : Nat) (m : List S139), i + d = l.length → m.length = l.length → (∀ j, j < i → m[j]? = (l.map cP)[j]?) → Ev (fun k => laws_toPartS.l0 k l m (i : Int)) (l.map cP) := by
 intro d
 induction d with
 | zero =>
  intro i m hi hm he
  refine Ev.step (fun k => laws_toPartS.l0.eq_2 l m i k) ?_
  refine ev_neg (by omega) (ev_some ?_)
  refine List.ext_getElem? (fun j => ?_)
  by_cases hj : j < i
  ·exact he j hj
  ·rw [List.getElem?_eq_none (by omega), List.getElem?_eq_none (by simp; omega)]
 | succ d ih =>
  intro i m hi hm he
  refine Ev.step (fun k => laws_toPartS.l0.eq_2 l m i k) ?_
  refine ev_pos (by omega) (ev_pos (by omega) (ev_bindc rfl (ev_pos (by omega) ?_)))
  rw [w_succ (n := l.length) (by omega) (by omega), toNat_nat]
  refine ih (i + 1) _ (by omega) (by simpa using hm) (fun j hj => ?_)
  by_cases hji : j = i
  ·subst hji
   have h1 : j < l.length := by omega
   simp [List.getElem?_set, show j < m.length by omega, rd_T141, h1, cP]
  ·rw [← he j (by omega), List.getElem?_set_ne (Ne.symm hji)]
theorem toPartS_ev (l : List S141) (hl : l.length ≤ 1048576) : Ev (fun k => laws_toPartS.f k l) (l.map cP) := by
 unfold laws_toPartS.f
 refine ev_pos (by omega) (ev_pos (by omega) ?_)
 exact toPartS_l0 l hl l.length 0 _ (by omega) (by simp) (fun j hj => by omega)
/- com.toPartS -/
theorem toPartS_calls (l : List S141) (t : List S139) (ht : l.map cP = t) (hl : t.length ≤ 1048576) (A : Option Addr) (c : Nat) (w : World) (hr : Kd.C k141 w A l.length l) (hc : l.length ≤ c) :
  Calls Try.prog 41 #[.slice A l.length c] w fun e w' => ∃ v : Value, e = .returned v ∧ Kd.R k139 139 w' w.heap.size (fun _ => True) v t ∧ Below w.heap.size w w' := by
 subst ht
 rw [List.length_map] at hl
 obtain ⟨k, hk⟩ := (toPartS_ev l hl).rounds
 exact laws_toPartS.calls k A c l _ w hr hc hk
/- laws_eqIntS -/
theorem eqIntS_l0 (l : List Int) (hl : l.length ≤ maxLen) : ∀ (d i : Nat), i + d = l.length → Ev (fun k => laws_eqIntS.l0 k l l (i : Int)) true := by
 have hl := maxLen_le hl
 intro d
 induction d with
 | zero =>
  intro i hi
  exact Ev.step (fun k => laws_eqIntS.l0.eq_2 l l i k) (ev_neg (by omega) (ev_some rfl))
 | succ d ih =>
  intro i hi
  refine Ev.step (fun k => laws_eqIntS.l0.eq_2 l l i k) ?_
  rw [w_succ (n := l.length) (by omega) (by omega)]
  exact ev_pos (by omega) (ev_pos (by omega) (ev_pos (by omega) (ev_pos rfl (ih (i + 1) (by omega)))))
theorem eqIntS_ev (l : List Int) (hl : l.length ≤ maxLen) : Ev (fun k => laws_eqIntS.f k l l) true := by
 unfold laws_eqIntS.f
 exact ev_pos rfl (eqIntS_l0 l hl l.length 0 (by omega))
/- com.eqModel -/
theorem eqModel_calls (x y z : Int) (t g r : List Int) (ht : t.length ≤ maxLen) (hg : g.length ≤ maxLen) (hr : r.length ≤ maxLen) (A3 : Option Addr) (c3 : Nat) (A4 : Option Addr) (c4 : Nat) (A5 : Option Addr) (c5 : Nat) (B3 : Option Addr) (d3 : Nat) (B4 : Option Addr) (d4 : Nat) (B5 : Option Addr) (d5 : Nat) (w : World)
  (h1 : Kd.C (Kd.int .i64) w A3 t.length t) (h2 : t.length ≤ c3) (h3 : Kd.C (Kd.int .i64) w A4 g.length g) (h4 : g.length ≤ c4) (h5 : Kd.C (Kd.int .i64) w A5 r.length r) (h6 : r.length ≤ c5) (k1 : Kd.C (Kd.int .i64) w B3 t.length t) (k2 : t.length ≤ d3) (k3 : Kd.C (Kd.int .i64) w B4 g.length g) (k4 : g.length ≤ d4) (k5 : Kd.C (Kd.int .i64) w B5 r.length r) (k6 : r.length ≤ d5) :
  Calls Try.prog 19 #[.agg #[.int .i64 x, .int .i64 y, .int .i64 z, .slice A3 t.length c3, .slice A4 g.length c4, .slice A5 r.length c5], .agg #[.int .i64 x, .int .i64 y, .int .i64 z, .slice B3 t.length d3, .slice B4 g.length d4, .slice B5 r.length d5]] w fun e w' => e = .returned (.bool true) ∧ Below w.heap.size w w' := by
 have : Ev (fun k => laws_eqModel.f k x y z t g r x y z t g r) true := by
  unfold laws_eqModel.f
  refine ev_bindc (a := true) (by unfold laws_eqGrid.f; simp) (ev_pos rfl ?_)
  exact Ev.bind (eqIntS_ev t ht) (ev_pos rfl (Ev.bind (eqIntS_ev g hg) (ev_pos rfl (Ev.bind (eqIntS_ev r hr) (ev_pos rfl (ev_some rfl))))))
 obtain ⟨k, hk⟩ := this.rounds
 exact laws_eqModel.calls k x y z A3 c3 t A4 c4 g A5 c5 r x y z B3 d3 t B4 d4 g B5 d5 r true w h1 h2 h3 h4 h5 h6 k1 k2 k3 k4 k5 k6 hk
/- laws_eqPartS -/
theorem eqPartS_l0 (l : List S139) (hl : l.length ≤ maxLen) : ∀ (d i : Nat), i + d = l.length → Ev (fun k => laws_eqPartS.l0 k l l (i : Int)) true := by
 have hl := maxLen_le hl
 intro d
 induction d with
 | zero =>
  intro i hi
  exact Ev.step (fun k => laws_eqPartS.l0.eq_2 l l i k) (ev_neg (by omega) (ev_some rfl))
 | succ d ih =>
  intro i hi
  refine Ev.step (fun k => laws_eqPartS.l0.eq_2 l l i k) ?_
  rw [w_succ (n := l.length) (by omega) (by omega)]
  exact ev_pos (by omega) (ev_pos (by omega) (ev_pos (by omega) (ev_bindc (by unfold laws_eqPart.f; rw [if_pos rfl, if_pos rfl]) (ev_pos rfl (ih (i + 1) (by omega))))))
theorem eqPartS_ev (l : List S139) (hl : l.length ≤ maxLen) : Ev (fun k => laws_eqPartS.f k l l) true := by
 unfold laws_eqPartS.f
 exact ev_pos rfl (eqPartS_l0 l hl l.length 0 (by omega))
/- com.eqPartS -/
theorem eqPartS_calls (l : List S139) (hl : l.length ≤ maxLen) (A A' : Option Addr) (c c' : Nat) (w : World) (h1 : Kd.C k139 w A l.length l) (h2 : l.length ≤ c) (h3 : Kd.C k139 w A' l.length l) (h4 : l.length ≤ c') :
  Calls Try.prog 43 #[.slice A l.length c, .slice A' l.length c'] w fun e w' => e = .returned (.bool true) ∧ Below w.heap.size w w' := by
 obtain ⟨k, hk⟩ := (eqPartS_ev l hl).rounds
 exact laws_eqPartS.calls k A c l A' c' l true w h1 h2 h3 h4 hk
/- markI0 -/
theorem markIntS_l0 (l : List Int) (hl : l.length ≤ 1048576) (a : Int) (ha : 0 ≤ a ∧ a ≤ 4398046511104) : ∀ (d i : Nat) (m : List Int), i + d = l.length → m.length = l.length → (∀ j, j < i → m.getD j 0 = a + j) →
  ∃ r, Ev (fun k => laws_markIntS.l0 k m (a + i) (i : Int)) (a + l.length, r) ∧ r.length = l.length ∧ ∀ j, j < l.length → r.getD j 0 = a + j := by
 intro d
 induction d with
 | zero =>
  intro i m hi hm he
  obtain rfl : i = l.length := by omega
  exact ⟨m, Ev.step (fun k => laws_markIntS.l0.eq_2 m (a + l.length) l.length k) (ev_neg (by omega) (ev_some rfl)), hm, he⟩
 | succ d ih =>
  intro i m hi hm he
  obtain ⟨r, hr, hz⟩ := ih (i + 1) (m.set i (a + i)) (by omega) (by simpa using hm) (fun j hj => by
   by_cases hji : j = i
   ·subst hji; simp [List.getD_eq_getElem?_getD, show j < m.length by omega]
   ·rw [← he j (by omega)]; simp [List.getD_eq_getElem?_getD, List.getElem?_set_ne (Ne.symm hji)])
  refine ⟨r, Ev.step (fun k => laws_markIntS.l0.eq_2 m (a + i) i k) ?_, hz⟩
  rw [w_succ (n := l.length) (by omega) (by omega), toNat_nat, w64 (x := a + i + 1) (by omega) (by omega), show a + (i : Int) + 1 = a + ((i + 1 : Nat) : Int) by omega]
  exact ev_pos (by omega) (ev_pos (by omega) hr)
/- markRowI -/
def markRow (a : Int) (n : Nat) : List Int := (List.range n).map (fun (j : Nat) => a + (j : Int))
theorem markRow_len (a : Int) (n : Nat) : (markRow a n).length = n := by unfold markRow; simp
theorem markRow_at (a : Int) (n j : Nat) (h : j < n) : (markRow a n).getD j 0 = a + j := by
 unfold markRow; simp [List.getD_eq_getElem?_getD, h]
theorem markIntS_row (l : List Int) (hl : l.length ≤ 1048576) (a : Int) (ha : 0 ≤ a ∧ a ≤ 4398046511104) : Ev (fun k => laws_markIntS.f k l a) (a + l.length, markRow a l.length) := by
 obtain ⟨r, h1, h2, h3⟩ := markIntS_l0 l hl a ha l.length 0 l (by omega) rfl (fun j hj => by omega)
 rw [show a + ((0 : Nat) : Int) = a by omega] at h1
 have e : r = markRow a l.length := getD_ext 0 (by rw [h2, markRow_len]) (fun j hj => by rw [markRow_at _ _ _ (by omega)]; exact h3 j (by omega))
 rw [← e]; exact h1
/- com.markModel -/
theorem markModel_calls (x y z : Int) (t g r : List Int) (ht : t.length ≤ 1048576) (hg : g.length ≤ 1048576) (hr : r.length ≤ 1048576) (a : Int) (ha : 0 ≤ a ∧ a ≤ 4000000000000) (W W' : World) (u3 u4 u5 : Value) (hne : ne3 u3 u4 u5) (w0 w : World) (hB : Below w0.heap.size w0 w)
  (h3 : Kd.R (Kd.int .i64) 3 w w0.heap.size (Zn W W' u3) u3 t) (h4 : Kd.R (Kd.int .i64) 3 w w0.heap.size (Zn W W' u4) u4 g) (h5 : Kd.R (Kd.int .i64) 3 w w0.heap.size (Zn W W' u5) u5 r) :
  Calls Try.prog 26 #[.agg #[.int .i64 x, .int .i64 y, .int .i64 z, u3, u4, u5], .int .i64 a] w fun e w' => e = .returned (.int .i64 (a + t.length + g.length + r.length)) ∧ Below w0.heap.size w0 w' ∧ Kept w w' (fun k => Zn W W' u3 k ∨ Zn W W' u4 k ∨ Zn W W' u5 k) := by
 have : Ev (fun k => laws_markModel.f k x y z t g r a) (a + t.length + g.length + r.length, markRow a t.length, markRow (a + t.length) g.length, markRow (a + t.length + g.length) r.length) := by
  unfold laws_markModel.f
  exact Ev.bind (markIntS_row t ht a (by omega)) (Ev.bind (markIntS_row g hg _ (by simp only; omega)) (Ev.bind (markIntS_row r hr _ (by simp only; omega)) (ev_some rfl)))
 obtain ⟨k, hk⟩ := this.rounds
 refine (laws_markModel.calls k x y z (Zn W W' u3) u3 t (Zn W W' u4) u4 g (Zn W W' u5) u5 r a _ _ _ _ w0 w hB h3 (fun k h h' => hne.1 k h.2 h'.2) (fun k h h' => hne.2.1 k h.2 h'.2) h4 (fun k h h' => hne.1 k h'.2 h.2) (fun k h h' => hne.2.2 k h.2 h'.2) h5 (fun k h h' => hne.2.1 k h'.2 h.2) (fun k h h' => hne.2.2 k h'.2 h.2) hk).mono ?_
 rintro e w' ⟨he, _, _, _, hb, hk⟩
 exact ⟨he, hb, hk⟩
/- laws_markPartS -/
def mk2 (a : Int) (j : Nat) : S139 := ⟨a + 2 * j, a + 2 * j + 1⟩
theorem markPartS_l0 (l : List S139) (hl : l.length ≤ 1048576) (a : Int) (ha : 0 ≤ a ∧ a ≤ 1099511627776) : ∀ (d i : Nat) (m : List S139), i + d = l.length → m.length = l.length → (∀ j, j < i → m.getD j z139 = mk2 a j) →
  ∃ r, Ev (fun k => laws_markPartS.l0 k m (a + 2 * i) (i : Int)) (a + 2 * l.length, r) ∧ r.length = l.length ∧ ∀ j, j < l.length → r.getD j z139 = mk2 a j := by
 intro d
 induction d with
 | zero =>
  intro i m hi hm he
  obtain rfl : i = l.length := by omega
  exact ⟨m, Ev.step (fun k => laws_markPartS.l0.eq_2 m (a + 2 * l.length) l.length k) (ev_neg (by omega) (ev_some rfl)), hm, he⟩
 | succ d ih =>
  intro i m hi hm he
  have hi' : i < m.length := by omega
  have e : ∀ (v : S139) (u : List S139), u.length = m.length → rd_T139 (u.set i v) (i : Int) = v := by
   intro v u hu; unfold rd_T139; rw [toNat_nat, getD_set, if_pos ⟨rfl, by omega⟩]
  obtain ⟨r, hr, hz⟩ := ih (i + 1) ((m.set i ⟨a + 2 * i, (rd_T139 m i).f1⟩).set i (mk2 a i)) (by omega) (by simpa using hm) (fun j hj => by
   rw [getD_set, getD_set]
   simp only [List.length_set]
   by_cases hji : i = j
   ·subst hji; rw [if_pos ⟨rfl, hi'⟩]
   ·rw [if_neg (by omega), if_neg (by omega)]; exact he j (by omega))
  refine ⟨r, Ev.step (fun k => laws_markPartS.l0.eq_2 m (a + 2 * i) i k) ?_, hz⟩
  rw [w_succ (n := l.length) (by omega) (by omega), toNat_nat, w64 (x := a + 2 * i + 1) (by omega) (by omega), w64 (x := a + 2 * i + 1 + 1) (by omega) (by omega)]
  simp only [Option.bind_some, e _ _ rfl, List.length_set]
  refine ev_pos (by omega) (ev_pos (by omega) ?_)
  rw [show a + 2 * (i : Int) + 1 + 1 = a + 2 * ((i + 1 : Nat) : Int) by omega]
  exact hr
/- com.markPartS -/
def markRowP (a : Int) (n : Nat) : List S139 := (List.range n).map (mk2 a)
theorem markRowP_len (a : Int) (n : Nat) : (markRowP a n).length = n := by unfold markRowP; rw [List.length_map, List.length_range]
theorem markRowP_at (a : Int) (n j : Nat) (h : j < n) : (markRowP a n).getD j z139 = mk2 a j := by
 unfold markRowP
 rw [List.getD_eq_getElem?_getD, List.getElem?_map, List.getElem?_range h]; rfl
theorem markPartS_row (l : List S139) (hl : l.length ≤ 1048576) (a : Int) (ha : 0 ≤ a ∧ a ≤ 1099511627776) : Ev (fun k => laws_markPartS.f k l a) (a + 2 * l.length, markRowP a l.length) := by
 obtain ⟨r, h1, h2, h3⟩ := markPartS_l0 l hl a ha l.length 0 l (by omega) rfl (fun j hj => by omega)
 rw [show a + 2 * ((0 : Nat) : Int) = a by omega] at h1
 have : r = markRowP a l.length := getD_ext z139 (by rw [h2, markRowP_len]) (fun j hj => by rw [h3 j (by omega), markRowP_at a l.length j (by omega)])
 rw [← this]
 exact h1
theorem markPartS_calls (l : List S139) (hl : l.length ≤ 1048576) (a : Int) (ha : 0 ≤ a ∧ a ≤ 1099511627776) (P : Nat → Prop) (u : Value) (w0 w : World) (hB : Below w0.heap.size w0 w) (hR : Kd.R k139 139 w w0.heap.size P u l) :
  Calls Try.prog 46 #[u, .int .i64 a] w fun e w' => e = .returned (.int .i64 (a + 2 * l.length)) ∧ Kd.R k139 139 w' w0.heap.size P u (markRowP a l.length) ∧ Below w0.heap.size w0 w' ∧ Kept w w' P := by
 obtain ⟨k, hk⟩ := (markPartS_row l hl a ha).rounds
 exact (laws_markPartS.calls k P u l a _ _ w0 w hB hR hk).mono fun e w' h => ⟨h.1, Kd.R_reok rfl h.2.1 hR.1, h.2.2.1, h.2.2.2⟩
/- laws_szIntS -/
theorem szIntS_tells (l : List Int) (a : Int) (hl : l.length ≤ maxLen) (ha : 0 ≤ a ∧ a ≤ 1048576) : ∃ r, laws_szIntS.f l a = some r ∧ (0 ≤ r → r = a - l.length) ∧ (r < 0 → r = -1) := by
 have hl := maxLen_le hl
 unfold laws_szIntS.f
 rw [w64 (by omega) (by omega)]
 by_cases h : a - (l.length : Int) < 0
 ·exact ⟨-1, by rw [if_pos h], by omega, by omega⟩
 ·exact ⟨_, by rw [if_neg h], by omega, by omega⟩
/- com.szModel -/
theorem szModel_tells (x y z : Int) (t g r : List Int) (ht : t.length ≤ maxLen) (hg : g.length ≤ maxLen) (hr : r.length ≤ maxLen) (a : Int) (ha : 0 ≤ a ∧ a ≤ 1048576) : ∃ q, laws_szModel.f x y z t g r a = some q ∧ (0 ≤ q → (0 ≤ q ∧ q ≤ 1048576) ∧ t.length ≤ 1048576 ∧ g.length ≤ 1048576 ∧ r.length ≤ 1048576) := by
 unfold laws_szModel.f
 obtain ⟨q1, e1, p1, n1⟩ := szIntS_tells t a ht ha
 rw [e1, Option.bind_some]
 split
 ·exact ⟨-1, rfl, fun h => by omega⟩
 ·rename_i h1
  obtain ⟨q2, e2, p2, n2⟩ := szIntS_tells g q1 hg (by omega)
  rw [e2, Option.bind_some]
  split
  ·exact ⟨-1, rfl, fun h => by omega⟩
  ·rename_i h2
   obtain ⟨q3, e3, p3, n3⟩ := szIntS_tells r q2 hr (by omega)
   rw [e3, Option.bind_some]
   split
   ·exact ⟨-1, rfl, fun h => by omega⟩
   ·rename_i h3
    exact ⟨q3, rfl, fun h => by omega⟩
theorem szModel_calls (x y z : Int) (t g r : List Int) (ht : t.length ≤ maxLen) (hg : g.length ≤ maxLen) (hr : r.length ≤ maxLen) (a : Int) (ha : 0 ≤ a ∧ a ≤ 1048576) : ∃ q : Int, (0 ≤ q → (0 ≤ q ∧ q ≤ 1048576) ∧ t.length ≤ 1048576 ∧ g.length ≤ 1048576 ∧ r.length ≤ 1048576) ∧
  ∀ (A3 : Option Addr) (c3 : Nat) (A4 : Option Addr) (c4 : Nat) (A5 : Option Addr) (c5 : Nat) (w : World), Kd.C (Kd.int .i64) w A3 t.length t → t.length ≤ c3 → Kd.C (Kd.int .i64) w A4 g.length g → g.length ≤ c4 → Kd.C (Kd.int .i64) w A5 r.length r → r.length ≤ c5 →
   Calls Try.prog 14 #[.agg #[.int .i64 x, .int .i64 y, .int .i64 z, .slice A3 t.length c3, .slice A4 g.length c4, .slice A5 r.length c5], .int .i64 a] w fun e w' => e = .returned (.int .i64 q) ∧ Below w.heap.size w w' := by
 obtain ⟨q, e, hq⟩ := szModel_tells x y z t g r ht hg hr a ha
 exact ⟨q, hq, fun A3 c3 A4 c4 A5 c5 w h1 h2 h3 h4 h5 h6 => laws_szModel.calls x y z A3 c3 t A4 c4 g A5 c5 r a q w h1 h2 h3 h4 h5 h6 e⟩
/- com.szPartS -/
theorem szPartS_calls (l : List S141) (hl : l.length ≤ maxLen) (a : Int) (ha : 0 ≤ a ∧ a ≤ 1048576) : ∃ q : Int, (0 ≤ q → (0 ≤ q ∧ q ≤ 1048576) ∧ l.length ≤ 1048576) ∧
  ∀ (A : Option Addr) (c : Nat) (w : World), Kd.C k141 w A l.length l → l.length ≤ c → Calls Try.prog 39 #[.slice A l.length c, .int .i64 a] w fun e w' => e = .returned (.int .i64 q) ∧ Below w.heap.size w w' := by
 have hl := maxLen_le hl
 have : ∃ q, laws_szPartS.f l a = some q ∧ (0 ≤ q → (0 ≤ q ∧ q ≤ 1048576) ∧ l.length ≤ 1048576) := by
  unfold laws_szPartS.f
  rw [w64 (by omega) (by omega)]
  by_cases h : a - (l.length : Int) < 0
  ·exact ⟨-1, by rw [if_pos h], by omega⟩
  ·exact ⟨_, by rw [if_neg h], by omega⟩
 obtain ⟨q, e, hq⟩ := this
 exact ⟨q, hq, fun A c w h1 h2 => (laws_szPartS.calls A c l a q w h1 h2 e).mono fun e w' h => ⟨h.1, drawn_below h.2⟩⟩
/- hand.FnExactRuleValues -/
theorem values_l0 (x y z : Int) (t g r : List Int) (l : List S139) (ht : t.length ≤ 1048576) (hg : g.length ≤ 1048576) (hr : r.length ≤ 1048576) (hm : OwnRuleDepth.modelOk x y z t g r = true) (hl : OwnRuleDepth.isRuleB l = true) : ∀ (d i : Nat) (v : List Int), i + d = t.length → v.length = i →
  ∃ q : List Int × Bool, Ev (fun k => spec_RuleValues.l0 k l v (t.length : Int) (i : Int) x y z t g r) q ∧ OwnRuleValues.RVl x y z t g r l d i v q ∧ q.1.length ≤ 1048576 := by
 intro d
 induction d with
 | zero =>
  intro i v hi hv
  exact ⟨(v, true), Ev.step (fun k => spec_RuleValues.l0.eq_2 _ _ _ _ _ _ _ _ _ _ k) (ev_neg (by omega) (ev_some rfl)), OwnRuleValues.RVl.stop i v, by show v.length ≤ _; omega⟩
 | succ d ih =>
  intro i v hi hv
  obtain ⟨q, h1, ⟨k, hk⟩, hf⟩ := OwnRuleP.value_both x y z t g r l (i : Int) (maxLen_val (by omega)) (maxLen_val (by omega)) (maxLen_val (by omega)) hm hl (by omega)
  obtain ⟨n, b⟩ := q
  cases b with
  | false =>
   exact ⟨([], false), Ev.step (fun k => spec_RuleValues.l0.eq_2 _ _ _ _ _ _ _ _ _ _ k) (ev_pos (by omega) (Ev.bind h1 (ev_neg (by simp) (ev_some rfl)))), OwnRuleValues.RVl.fall d i v k n hk, by simp⟩
  | true =>
   obtain ⟨q2, e1, e2, e3⟩ := ih (i + 1) (v ++ [n]) (by omega) (by rw [List.length_append]; simp; omega)
   refine ⟨q2, Ev.step (fun k => spec_RuleValues.l0.eq_2 _ _ _ _ _ _ _ _ _ _ k) (ev_pos (by omega) (Ev.bind h1 (ev_pos rfl (ev_pos (by omega) ?_)))), OwnRuleValues.RVl.step d i v k n hk q2 e2, e3⟩
   rw [w_succ (n := t.length) (by omega) (by omega)]
   exact e1
theorem both (x y z : Int) (t g r : List Int) (l : List S139) (_ : -9223372036854775808 ≤ x ∧ x ≤ 9223372036854775807) (_ : -9223372036854775808 ≤ y ∧ y ≤ 9223372036854775807) (_ : -9223372036854775808 ≤ z ∧ z ≤ 9223372036854775807) (ht : t.length ≤ 1048576) (hg : g.length ≤ 1048576) (hr : r.length ≤ 1048576) (hl : l.length ≤ 1048576) :
  ∃ q : List Int × Bool, Ev (fun k => spec_RuleValues.f k x y z t g r l) q ∧ OwnRuleValues.RVsays x y z t g r l q ∧ q.1.length ≤ 1048576 := by
 have hmo := OwnRuleDepth.moGood_ev x y z t g r (maxLen_val (by omega)) (maxLen_val (by omega)) (maxLen_val (by omega))
 by_cases hm : OwnRuleDepth.modelOk x y z t g r = true
 ·by_cases hr2 : OwnRuleDepth.isRuleB l = true
  ·obtain ⟨q, e1, e2, e3⟩ := values_l0 x y z t g r l ht hg hr hm hr2 t.length 0 [] (by omega) rfl
   refine ⟨q, ?_, ⟨fun _ => e2, fun hn => absurd ⟨hm, hr2⟩ hn⟩, e3⟩
   unfold spec_RuleValues.f
   exact Ev.bind hmo (ev_pos hm (Ev.bind (OwnRuleP.ruGood_ev l) (Ev.step (fun k => spec_RuleValues.j0.eq_2 _ _ _ _ _ _ _ _ k) (ev_neg (by rw [hr2]; simp) e1))))
  ·refine ⟨([], false), ?_, ⟨fun hn => absurd hn.2 hr2, fun _ => rfl⟩, by simp⟩
   unfold spec_RuleValues.f
   rw [Bool.not_eq_true] at hr2
   exact Ev.bind hmo (ev_pos hm (Ev.bind (OwnRuleP.ruGood_ev l) (Ev.step (fun k => spec_RuleValues.j0.eq_2 _ _ _ _ _ _ _ _ k) (ev_pos (by rw [hr2]; rfl) (ev_some rfl)))))
 ·refine ⟨([], false), ?_, ⟨fun hn => absurd hn.1 hm, fun _ => rfl⟩, by simp⟩
  unfold spec_RuleValues.f
  exact Ev.bind hmo (ev_neg hm (Ev.step (fun k => spec_RuleValues.j0.eq_2 _ _ _ _ _ _ _ _ k) (ev_pos rfl (ev_some rfl))))
def laws_FnExactRuleValues_T14 : Bool × List (List Nat × List Nat) := (true, [([], []), ([], []), ([1], [1]), ([0, 2, 2], [0, 2]), ([3], [3])])
def laws_FnExactRuleValues_B14 : List Nat := [0, 0, 2, 7, 15]
theorem laws_FnExactRuleValues_tab14 : rtab .any (opsOf Try.f9 14) = laws_FnExactRuleValues_T14 := by kernel_rfl
theorem laws_FnExactRuleValues_bits14 : waitsOk laws_FnExactRuleValues_T14.2 laws_FnExactRuleValues_B14 = true := by kernel_rfl
set_option maxHeartbeats 4000000 in
set_option maxRecDepth 100000 in
theorem walk (a0_0 : Int) (a0_1 : Int) (a0_2 : Int) (a0_3 : List Int) (a0_4 : List Int) (a0_5 : List Int) (a1 : List S141) (Aa0_3 : Option Addr) (ca0_3 : Nat) (Aa0_4 : Option Addr) (ca0_4 : Nat) (Aa0_5 : Option Addr) (ca0_5 : Nat) (Aa1 : Option Addr) (ca1 : Nat) (w : World) (hra0_3 : Kd.C (Kd.int .i64) w Aa0_3 a0_3.length a0_3) (hca0_3 : a0_3.length ≤ ca0_3) (hra0_4 : Kd.C (Kd.int .i64) w Aa0_4 a0_4.length a0_4) (hca0_4 : a0_4.length ≤ ca0_4) (hra0_5 : Kd.C (Kd.int .i64) w Aa0_5 a0_5.length a0_5) (hca0_5 : a0_5.length ≤ ca0_5) (hra1 : Kd.C k141 w Aa1 a1.length a1) (hca1 : a1.length ≤ ca1) (r0 : Int) (hsz0 : ∀ (Aa0_3 : Option Addr) (ca0_3 : Nat) (Aa0_4 : Option Addr) (ca0_4 : Nat) (Aa0_5 : Option Addr) (ca0_5 : Nat) (w : World), Kd.C (Kd.int .i64) w Aa0_3 a0_3.length a0_3 → a0_3.length ≤ ca0_3 → Kd.C (Kd.int .i64) w Aa0_4 a0_4.length a0_4 → a0_4.length ≤ ca0_4 → Kd.C (Kd.int .i64) w Aa0_5 a0_5.length a0_5 → a0_5.length ≤ ca0_5 → Calls Try.prog 14 #[.agg #[.int .i64 a0_0, .int .i64 a0_1, .int .i64 a0_2, .slice Aa0_3 a0_3.length ca0_3, .slice Aa0_4 a0_4.length ca0_4, .slice Aa0_5 a0_5.length ca0_5], .int .i64 1048576] w fun e w' => e = .returned (.int .i64 r0) ∧ Below w.heap.size w w') (hlt0 : ¬ r0 < 0) (r1 : Int) (hsz1 : ∀ (Aa1 : Option Addr) (ca1 : Nat) (w : World), Kd.C k141 w Aa1 a1.length a1 → a1.length ≤ ca1 → Calls Try.prog 39 #[.slice Aa1 a1.length ca1, .int .i64 r0] w fun e w' => e = .returned (.int .i64 r1) ∧ Below w.heap.size w w') (hlt1 : ¬ r1 < 0) (ta1 : List S139) (hta1 : a1.map cP = ta1) (g0 : List Int) (g1 : Bool) (hla0_3 : a0_3.length ≤ 1048576) (hla0_4 : a0_4.length ≤ 1048576) (hla0_5 : a0_5.length ≤ 1048576) (hlta1 : ta1.length ≤ 1048576) (hlg0 : g0.length ≤ 1048576) (hs : ∃ k, spec_RuleValues.f k a0_0 a0_1 a0_2 a0_3 a0_4 a0_5 ta1 = some (g0, g1)) (hi : RVsays a0_0 a0_1 a0_2 a0_3 a0_4 a0_5 ta1 (g0, g1)) :
  Calls Try.prog 9 #[.agg #[.int .i64 a0_0, .int .i64 a0_1, .int .i64 a0_2, .slice Aa0_3 a0_3.length ca0_3, .slice Aa0_4 a0_4.length ca0_4, .slice Aa0_5 a0_5.length ca0_5], .slice Aa1 a1.length ca1] w fun e w' => e = .returned (.bool true) ∧ Below w.heap.size w w' := by
 obtain ⟨ks, hs⟩ := hs
 have Hs := Aside0.mk hs
 have Hi := Aside0.mk hi
 have HRa0_3 := Aside0.mk hra0_3
 have HCa0_3 := Aside0.mk hca0_3
 have HLa0_3 := Aside0.mk hla0_3
 have HRa0_4 := Aside0.mk hra0_4
 have HCa0_4 := Aside0.mk hca0_4
 have HLa0_4 := Aside0.mk hla0_4
 have HRa0_5 := Aside0.mk hra0_5
 have HCa0_5 := Aside0.mk hca0_5
 have HLa0_5 := Aside0.mk hla0_5
 have HRa1 := Aside0.mk hra1
 have HCa1 := Aside0.mk hca1
 have HLta1 := Aside0.mk hlta1
 have HTa1 := Aside0.mk hta1
 have HLg0 := Aside0.mk hlg0
 have HSZ0 := Aside0.mk hsz0
 have d0 : decide (r0 < 0) = false := decide_eq_false hlt0
 have HSZ1 := Aside0.mk hsz1
 have d1 : decide (r1 < 0) = false := decide_eq_false hlt1
 clear hs hi hra0_3 hca0_3 hla0_3 hra0_4 hca0_4 hla0_4 hra0_5 hca0_5 hla0_5 hra1 hca1 hlta1 hta1 hlg0 hsz0 hlt0 hsz1 hlt1
 go_enter Try.func9, Try.ntmps9
 go_wp2_with fail
 obtain ⟨wb, hwb⟩ : ∃ z : World, z = (w.alloc (.cells #[.int .i64 a0_0, .int .i64 a0_1, .int .i64 a0_2, .slice Aa0_3 a0_3.length ca0_3, .slice Aa0_4 a0_4.length ca0_4, .slice Aa0_5 a0_5.length ca0_5] 26)) := ⟨_, rfl⟩
 rw [← hwb]
 have K0_0 : Aside0 (wb.heap[w.heap.size]? = some (.cells #[.int .i64 a0_0, .int .i64 a0_1, .int .i64 a0_2, .slice Aa0_3 a0_3.length ca0_3, .slice Aa0_4 a0_4.length ca0_4, .slice Aa0_5 a0_5.length ca0_5] 26 (0, 0))) := ⟨by rw [hwb]; exact blk_new w _⟩
 have B0 : Aside0 (Below w.heap.size w wb) := ⟨by rw [hwb]; exact below_alloc (Below.refl _ _) _⟩
 have z0 := B0.out.size
 have zb := blk_lt K0_0.out
 clear hwb
 refine (HSZ0.out Aa0_3 ca0_3 Aa0_4 ca0_4 Aa0_5 ca0_5 wb (Kd.C_below HRa0_3.out B0.out) HCa0_3.out (Kd.C_below HRa0_4.out B0.out) HCa0_4.out (Kd.C_below HRa0_5.out B0.out) HCa0_5.out).mono ?_
 rintro e w1 ⟨rfl, hb⟩
 have B1 := Aside0.mk (below_step B0.out hb)
 have z1 := hb.size
 have K0_1 := Aside0.mk (blk_below K0_0.out hb)
 clear K0_0
 clear hb
 have hcz0_0 : w1.cell? ⟨w.heap.size, 0, none⟩ = some (.int .i64 a0_0) := (blk_cell K0_1.out 0).trans rfl
 have hfz0_0 := blk_frozen K0_1.out 0
 have hcz0_1 : w1.cell? ⟨w.heap.size, 1, none⟩ = some (.int .i64 a0_1) := (blk_cell K0_1.out 1).trans rfl
 have hfz0_1 := blk_frozen K0_1.out 1
 have hcz0_2 : w1.cell? ⟨w.heap.size, 2, none⟩ = some (.int .i64 a0_2) := (blk_cell K0_1.out 2).trans rfl
 have hfz0_2 := blk_frozen K0_1.out 2
 have hcz0_3 : w1.cell? ⟨w.heap.size, 3, none⟩ = some (.slice Aa0_3 a0_3.length ca0_3) := (blk_cell K0_1.out 3).trans rfl
 have hfz0_3 := blk_frozen K0_1.out 3
 have hcz0_4 : w1.cell? ⟨w.heap.size, 4, none⟩ = some (.slice Aa0_4 a0_4.length ca0_4) := (blk_cell K0_1.out 4).trans rfl
 have hfz0_4 := blk_frozen K0_1.out 4
 have hcz0_5 : w1.cell? ⟨w.heap.size, 5, none⟩ = some (.slice Aa0_5 a0_5.length ca0_5) := (blk_cell K0_1.out 5).trans rfl
 have hfz0_5 := blk_frozen K0_1.out 5
 go_wp2_with fail
 clear hcz0_0 hfz0_0 hcz0_1 hfz0_1 hcz0_2 hfz0_2 hcz0_3 hfz0_3 hcz0_4 hfz0_4 hcz0_5 hfz0_5
 refine (HSZ1.out Aa1 ca1 w1 (Kd.C_below HRa1.out B1.out) HCa1.out).mono ?_
 rintro e w2 ⟨rfl, hb⟩
 have B2 := Aside0.mk (below_step B1.out hb)
 have z2 := hb.size
 have K0_2 := Aside0.mk (blk_below K0_1.out hb)
 clear K0_1
 clear hb
 have hcz0_0 : w2.cell? ⟨w.heap.size, 0, none⟩ = some (.int .i64 a0_0) := (blk_cell K0_2.out 0).trans rfl
 have hfz0_0 := blk_frozen K0_2.out 0
 have hcz0_1 : w2.cell? ⟨w.heap.size, 1, none⟩ = some (.int .i64 a0_1) := (blk_cell K0_2.out 1).trans rfl
 have hfz0_1 := blk_frozen K0_2.out 1
 have hcz0_2 : w2.cell? ⟨w.heap.size, 2, none⟩ = some (.int .i64 a0_2) := (blk_cell K0_2.out 2).trans rfl
 have hfz0_2 := blk_frozen K0_2.out 2
 have hcz0_3 : w2.cell? ⟨w.heap.size, 3, none⟩ = some (.slice Aa0_3 a0_3.length ca0_3) := (blk_cell K0_2.out 3).trans rfl
 have hfz0_3 := blk_frozen K0_2.out 3
 have hcz0_4 : w2.cell? ⟨w.heap.size, 4, none⟩ = some (.slice Aa0_4 a0_4.length ca0_4) := (blk_cell K0_2.out 4).trans rfl
 have hfz0_4 := blk_frozen K0_2.out 4
 have hcz0_5 : w2.cell? ⟨w.heap.size, 5, none⟩ = some (.slice Aa0_5 a0_5.length ca0_5) := (blk_cell K0_2.out 5).trans rfl
 have hfz0_5 := blk_frozen K0_2.out 5
 go_wp2_with fail
 clear hcz0_0 hfz0_0 hcz0_1 hfz0_1 hcz0_2 hfz0_2 hcz0_3 hfz0_3 hcz0_4 hfz0_4 hcz0_5 hfz0_5
 refine (toModel_calls a0_0 a0_1 a0_2 a0_3 HLa0_3.out a0_4 HLa0_4.out a0_5 HLa0_5.out Aa0_3 ca0_3 Aa0_4 ca0_4 Aa0_5 ca0_5 w2 (Kd.C_below HRa0_3.out B2.out) HCa0_3.out (Kd.C_below HRa0_4.out B2.out) HCa0_4.out (Kd.C_below HRa0_5.out B2.out) HCa0_5.out).mono ?_
 rintro e w3 ⟨v0, v1, v2, rfl, ho0, ho1, ho2, hne, hb⟩
 have B3 := Aside0.mk (below_step B2.out hb)
 have z3 := hb.size
 obtain ⟨At0_3_3, ct0_3_3, rfl⟩ := Kd.R_slice ho0
 have Ft0_3_3 := Aside0.mk (znR (w := w) rfl ho0 (by omega))
 clear ho0
 obtain ⟨At0_4_3, ct0_4_3, rfl⟩ := Kd.R_slice ho1
 have Ft0_4_3 := Aside0.mk (znR (w := w) rfl ho1 (by omega))
 clear ho1
 obtain ⟨At0_5_3, ct0_5_3, rfl⟩ := Kd.R_slice ho2
 have Ft0_5_3 := Aside0.mk (znR (w := w) rfl ho2 (by omega))
 clear ho2
 have Dt0 := Aside0.mk hne
 clear hne
 have K0_3 := Aside0.mk (blk_below K0_2.out hb)
 clear K0_2
 clear hb
 have hcz0_0 : w3.cell? ⟨w.heap.size, 0, none⟩ = some (.int .i64 a0_0) := (blk_cell K0_3.out 0).trans rfl
 have hfz0_0 := blk_frozen K0_3.out 0
 have hcz0_1 : w3.cell? ⟨w.heap.size, 1, none⟩ = some (.int .i64 a0_1) := (blk_cell K0_3.out 1).trans rfl
 have hfz0_1 := blk_frozen K0_3.out 1
 have hcz0_2 : w3.cell? ⟨w.heap.size, 2, none⟩ = some (.int .i64 a0_2) := (blk_cell K0_3.out 2).trans rfl
 have hfz0_2 := blk_frozen K0_3.out 2
 have hcz0_3 : w3.cell? ⟨w.heap.size, 3, none⟩ = some (.slice Aa0_3 a0_3.length ca0_3) := (blk_cell K0_3.out 3).trans rfl
 have hfz0_3 := blk_frozen K0_3.out 3
 have hcz0_4 : w3.cell? ⟨w.heap.size, 4, none⟩ = some (.slice Aa0_4 a0_4.length ca0_4) := (blk_cell K0_3.out 4).trans rfl
 have hfz0_4 := blk_frozen K0_3.out 4
 have hcz0_5 : w3.cell? ⟨w.heap.size, 5, none⟩ = some (.slice Aa0_5 a0_5.length ca0_5) := (blk_cell K0_3.out 5).trans rfl
 have hfz0_5 := blk_frozen K0_3.out 5
 go_wp2_with fail
 clear hcz0_0 hfz0_0 hcz0_1 hfz0_1 hcz0_2 hfz0_2 hcz0_3 hfz0_3 hcz0_4 hfz0_4 hcz0_5 hfz0_5
 refine (toPartS_calls a1 ta1 HTa1.out HLta1.out Aa1 ca1 w3 (Kd.C_below HRa1.out B3.out) HCa1.out).mono ?_
 rintro e w4 ⟨v, rfl, ho, hb⟩
 have B4 := Aside0.mk (below_step B3.out hb)
 have z4 := hb.size
 obtain ⟨At1_0_4, ct1_0_4, rfl⟩ := Kd.R_slice ho
 have Ft1_0_4 := Aside0.mk (ivR (w := w) ho (by omega))
 clear ho
 have K0_4 := Aside0.mk (blk_below K0_3.out hb)
 clear K0_3
 have Ft0_3_4 := Aside0.mk (Kd.R_below Ft0_3_3.out hb)
 clear Ft0_3_3
 have Ft0_4_4 := Aside0.mk (Kd.R_below Ft0_4_3.out hb)
 clear Ft0_4_3
 have Ft0_5_4 := Aside0.mk (Kd.R_below Ft0_5_3.out hb)
 clear Ft0_5_3
 clear hb
 have hcz0_0 : w4.cell? ⟨w.heap.size, 0, none⟩ = some (.int .i64 a0_0) := (blk_cell K0_4.out 0).trans rfl
 have hfz0_0 := blk_frozen K0_4.out 0
 have hcz0_1 : w4.cell? ⟨w.heap.size, 1, none⟩ = some (.int .i64 a0_1) := (blk_cell K0_4.out 1).trans rfl
 have hfz0_1 := blk_frozen K0_4.out 1
 have hcz0_2 : w4.cell? ⟨w.heap.size, 2, none⟩ = some (.int .i64 a0_2) := (blk_cell K0_4.out 2).trans rfl
 have hfz0_2 := blk_frozen K0_4.out 2
 have hcz0_3 : w4.cell? ⟨w.heap.size, 3, none⟩ = some (.slice Aa0_3 a0_3.length ca0_3) := (blk_cell K0_4.out 3).trans rfl
 have hfz0_3 := blk_frozen K0_4.out 3
 have hcz0_4 : w4.cell? ⟨w.heap.size, 4, none⟩ = some (.slice Aa0_4 a0_4.length ca0_4) := (blk_cell K0_4.out 4).trans rfl
 have hfz0_4 := blk_frozen K0_4.out 4
 have hcz0_5 : w4.cell? ⟨w.heap.size, 5, none⟩ = some (.slice Aa0_5 a0_5.length ca0_5) := (blk_cell K0_4.out 5).trans rfl
 have hfz0_5 := blk_frozen K0_4.out 5
 go_wp2_with fail
 clear hcz0_0 hfz0_0 hcz0_1 hfz0_1 hcz0_2 hfz0_2 hcz0_3 hfz0_3 hcz0_4 hfz0_4 hcz0_5 hfz0_5
 refine (spec_RuleValues.calls ks a0_0 a0_1 a0_2 At0_3_3 ct0_3_3 a0_3 At0_4_3 ct0_4_3 a0_4 At0_5_3 ct0_5_3 a0_5 At1_0_4 ct1_0_4 ta1 g0 g1 w4 (readsR Ft0_3_4.out).2.2 (readsR Ft0_3_4.out).2.1 (readsR Ft0_4_4.out).2.2 (readsR Ft0_4_4.out).2.1 (readsR Ft0_5_4.out).2.2 (readsR Ft0_5_4.out).2.1 (readsR Ft1_0_4.out).2.2 (readsR Ft1_0_4.out).2.1 Hs.out).mono ?_
 rintro e w5 ⟨v, rfl, ho, hb⟩
 have ho := Kd.R_mono ho (ok' := fun _ => True) (fun _ _ => trivial)
 have B5 := Aside0.mk (below_step B4.out hb)
 have z5 := hb.size
 obtain ⟨Aw0_0_5, cw0_0_5, rfl⟩ := Kd.R_slice ho
 have Fw0_0_5 := Aside0.mk (ivR (w := w) ho (by omega))
 clear ho
 have K0_5 := Aside0.mk (blk_below K0_4.out hb)
 clear K0_4
 have Ft0_3_5 := Aside0.mk (Kd.R_below Ft0_3_4.out hb)
 clear Ft0_3_4
 have Ft0_4_5 := Aside0.mk (Kd.R_below Ft0_4_4.out hb)
 clear Ft0_4_4
 have Ft0_5_5 := Aside0.mk (Kd.R_below Ft0_5_4.out hb)
 clear Ft0_5_4
 have Ft1_0_5 := Aside0.mk (Kd.R_below Ft1_0_4.out hb)
 clear Ft1_0_4
 clear hb
 have hcz0_0 : w5.cell? ⟨w.heap.size, 0, none⟩ = some (.int .i64 a0_0) := (blk_cell K0_5.out 0).trans rfl
 have hfz0_0 := blk_frozen K0_5.out 0
 have hcz0_1 : w5.cell? ⟨w.heap.size, 1, none⟩ = some (.int .i64 a0_1) := (blk_cell K0_5.out 1).trans rfl
 have hfz0_1 := blk_frozen K0_5.out 1
 have hcz0_2 : w5.cell? ⟨w.heap.size, 2, none⟩ = some (.int .i64 a0_2) := (blk_cell K0_5.out 2).trans rfl
 have hfz0_2 := blk_frozen K0_5.out 2
 have hcz0_3 : w5.cell? ⟨w.heap.size, 3, none⟩ = some (.slice Aa0_3 a0_3.length ca0_3) := (blk_cell K0_5.out 3).trans rfl
 have hfz0_3 := blk_frozen K0_5.out 3
 have hcz0_4 : w5.cell? ⟨w.heap.size, 4, none⟩ = some (.slice Aa0_4 a0_4.length ca0_4) := (blk_cell K0_5.out 4).trans rfl
 have hfz0_4 := blk_frozen K0_5.out 4
 have hcz0_5 : w5.cell? ⟨w.heap.size, 5, none⟩ = some (.slice Aa0_5 a0_5.length ca0_5) := (blk_cell K0_5.out 5).trans rfl
 have hfz0_5 := blk_frozen K0_5.out 5
 go_wp2_with fail
 clear hcz0_0 hfz0_0 hcz0_1 hfz0_1 hcz0_2 hfz0_2 hcz0_3 hfz0_3 hcz0_4 hfz0_4 hcz0_5 hfz0_5
 refine (toModel_calls a0_0 a0_1 a0_2 a0_3 HLa0_3.out a0_4 HLa0_4.out a0_5 HLa0_5.out Aa0_3 ca0_3 Aa0_4 ca0_4 Aa0_5 ca0_5 w5 (Kd.C_below HRa0_3.out B5.out) HCa0_3.out (Kd.C_below HRa0_4.out B5.out) HCa0_4.out (Kd.C_below HRa0_5.out B5.out) HCa0_5.out).mono ?_
 rintro e w6 ⟨v0, v1, v2, rfl, ho0, ho1, ho2, hne, hb⟩
 have B6 := Aside0.mk (below_step B5.out hb)
 have z6 := hb.size
 obtain ⟨Ax0_3_6, cx0_3_6, rfl⟩ := Kd.R_slice ho0
 have Fx0_3_6 := Aside0.mk (znR (w := w) rfl ho0 (by omega))
 clear ho0
 obtain ⟨Ax0_4_6, cx0_4_6, rfl⟩ := Kd.R_slice ho1
 have Fx0_4_6 := Aside0.mk (znR (w := w) rfl ho1 (by omega))
 clear ho1
 obtain ⟨Ax0_5_6, cx0_5_6, rfl⟩ := Kd.R_slice ho2
 have Fx0_5_6 := Aside0.mk (znR (w := w) rfl ho2 (by omega))
 clear ho2
 have Dx0 := Aside0.mk hne
 clear hne
 have K0_6 := Aside0.mk (blk_below K0_5.out hb)
 clear K0_5
 have Fw0_0_6 := Aside0.mk (Kd.R_below Fw0_0_5.out hb)
 clear Fw0_0_5
 clear hb
 have hcz0_0 : w6.cell? ⟨w.heap.size, 0, none⟩ = some (.int .i64 a0_0) := (blk_cell K0_6.out 0).trans rfl
 have hfz0_0 := blk_frozen K0_6.out 0
 have hcz0_1 : w6.cell? ⟨w.heap.size, 1, none⟩ = some (.int .i64 a0_1) := (blk_cell K0_6.out 1).trans rfl
 have hfz0_1 := blk_frozen K0_6.out 1
 have hcz0_2 : w6.cell? ⟨w.heap.size, 2, none⟩ = some (.int .i64 a0_2) := (blk_cell K0_6.out 2).trans rfl
 have hfz0_2 := blk_frozen K0_6.out 2
 have hcz0_3 : w6.cell? ⟨w.heap.size, 3, none⟩ = some (.slice Aa0_3 a0_3.length ca0_3) := (blk_cell K0_6.out 3).trans rfl
 have hfz0_3 := blk_frozen K0_6.out 3
 have hcz0_4 : w6.cell? ⟨w.heap.size, 4, none⟩ = some (.slice Aa0_4 a0_4.length ca0_4) := (blk_cell K0_6.out 4).trans rfl
 have hfz0_4 := blk_frozen K0_6.out 4
 have hcz0_5 : w6.cell? ⟨w.heap.size, 5, none⟩ = some (.slice Aa0_5 a0_5.length ca0_5) := (blk_cell K0_6.out 5).trans rfl
 have hfz0_5 := blk_frozen K0_6.out 5
 go_wp2_with fail
 clear hcz0_0 hfz0_0 hcz0_1 hfz0_1 hcz0_2 hfz0_2 hcz0_3 hfz0_3 hcz0_4 hfz0_4 hcz0_5 hfz0_5
 have Fw0_0_6b := Aside0.mk (Kd.R_below Fw0_0_6.out (below_alloc (Below.refl _ _) (.cells #[.int .i64 a0_0, .int .i64 a0_1, .int .i64 a0_2, .slice Ax0_3_6 a0_3.length cx0_3_6, .slice Ax0_4_6 a0_4.length cx0_4_6, .slice Ax0_5_6 a0_5.length cx0_5_6] 34)))
 clear Fw0_0_6
 have Fx0_3_6b := Aside0.mk (Kd.R_below Fx0_3_6.out (below_alloc (Below.refl _ _) (.cells #[.int .i64 a0_0, .int .i64 a0_1, .int .i64 a0_2, .slice Ax0_3_6 a0_3.length cx0_3_6, .slice Ax0_4_6 a0_4.length cx0_4_6, .slice Ax0_5_6 a0_5.length cx0_5_6] 34)))
 clear Fx0_3_6
 have Fx0_4_6b := Aside0.mk (Kd.R_below Fx0_4_6.out (below_alloc (Below.refl _ _) (.cells #[.int .i64 a0_0, .int .i64 a0_1, .int .i64 a0_2, .slice Ax0_3_6 a0_3.length cx0_3_6, .slice Ax0_4_6 a0_4.length cx0_4_6, .slice Ax0_5_6 a0_5.length cx0_5_6] 34)))
 clear Fx0_4_6
 have Fx0_5_6b := Aside0.mk (Kd.R_below Fx0_5_6.out (below_alloc (Below.refl _ _) (.cells #[.int .i64 a0_0, .int .i64 a0_1, .int .i64 a0_2, .slice Ax0_3_6 a0_3.length cx0_3_6, .slice Ax0_4_6 a0_4.length cx0_4_6, .slice Ax0_5_6 a0_5.length cx0_5_6] 34)))
 clear Fx0_5_6
 have K0_6b := Aside0.mk (blk_alloc K0_6.out (.cells #[.int .i64 a0_0, .int .i64 a0_1, .int .i64 a0_2, .slice Ax0_3_6 a0_3.length cx0_3_6, .slice Ax0_4_6 a0_4.length cx0_4_6, .slice Ax0_5_6 a0_5.length cx0_5_6] 34))
 clear K0_6
 have B7 := Aside0.mk (below_alloc B6.out (.cells #[.int .i64 a0_0, .int .i64 a0_1, .int .i64 a0_2, .slice Ax0_3_6 a0_3.length cx0_3_6, .slice Ax0_4_6 a0_4.length cx0_4_6, .slice Ax0_5_6 a0_5.length cx0_5_6] 34))
 have z7 : w6.heap.size < (w6.alloc (.cells #[.int .i64 a0_0, .int .i64 a0_1, .int .i64 a0_2, .slice Ax0_3_6 a0_3.length cx0_3_6, .slice Ax0_4_6 a0_4.length cx0_4_6, .slice Ax0_5_6 a0_5.length cx0_5_6] 34)).heap.size := Nat.lt_of_lt_of_eq (Nat.lt_succ_self _) (Array.size_push ..).symm
 have Kx0_7 := Aside0.mk (blk_new w6 (.cells #[.int .i64 a0_0, .int .i64 a0_1, .int .i64 a0_2, .slice Ax0_3_6 a0_3.length cx0_3_6, .slice Ax0_4_6 a0_4.length cx0_4_6, .slice Ax0_5_6 a0_5.length cx0_5_6] 34))
 generalize w6.alloc (.cells #[.int .i64 a0_0, .int .i64 a0_1, .int .i64 a0_2, .slice Ax0_3_6 a0_3.length cx0_3_6, .slice Ax0_4_6 a0_4.length cx0_4_6, .slice Ax0_5_6 a0_5.length cx0_5_6] 34) = w7 at Fw0_0_6b Fx0_3_6b Fx0_4_6b Fx0_5_6b K0_6b Kx0_7 B7 z7 ⊢
 refine (toPartS_calls a1 ta1 HTa1.out HLta1.out Aa1 ca1 w7 (Kd.C_below HRa1.out B7.out) HCa1.out).mono ?_
 rintro e w8 ⟨v, rfl, ho, hb⟩
 have B8 := Aside0.mk (below_step B7.out hb)
 have z8 := hb.size
 obtain ⟨Ax1_0_8, cx1_0_8, rfl⟩ := Kd.R_slice ho
 have Fx1_0_8 := Aside0.mk (ivR (w := w) ho (by omega))
 clear ho
 have K0_8 := Aside0.mk (blk_below K0_6b.out hb)
 clear K0_6b
 have K1_8 := Aside0.mk (blk_below Kx0_7.out hb)
 clear Kx0_7
 have Fw0_0_8 := Aside0.mk (Kd.R_below Fw0_0_6b.out hb)
 clear Fw0_0_6b
 have Fx0_3_8 := Aside0.mk (Kd.R_below Fx0_3_6b.out hb)
 clear Fx0_3_6b
 have Fx0_4_8 := Aside0.mk (Kd.R_below Fx0_4_6b.out hb)
 clear Fx0_4_6b
 have Fx0_5_8 := Aside0.mk (Kd.R_below Fx0_5_6b.out hb)
 clear Fx0_5_6b
 clear hb
 have hcz0_0 : w8.cell? ⟨w.heap.size, 0, none⟩ = some (.int .i64 a0_0) := (blk_cell K0_8.out 0).trans rfl
 have hfz0_0 := blk_frozen K0_8.out 0
 have hcz0_1 : w8.cell? ⟨w.heap.size, 1, none⟩ = some (.int .i64 a0_1) := (blk_cell K0_8.out 1).trans rfl
 have hfz0_1 := blk_frozen K0_8.out 1
 have hcz0_2 : w8.cell? ⟨w.heap.size, 2, none⟩ = some (.int .i64 a0_2) := (blk_cell K0_8.out 2).trans rfl
 have hfz0_2 := blk_frozen K0_8.out 2
 have hcz0_3 : w8.cell? ⟨w.heap.size, 3, none⟩ = some (.slice Aa0_3 a0_3.length ca0_3) := (blk_cell K0_8.out 3).trans rfl
 have hfz0_3 := blk_frozen K0_8.out 3
 have hcz0_4 : w8.cell? ⟨w.heap.size, 4, none⟩ = some (.slice Aa0_4 a0_4.length ca0_4) := (blk_cell K0_8.out 4).trans rfl
 have hfz0_4 := blk_frozen K0_8.out 4
 have hcz0_5 : w8.cell? ⟨w.heap.size, 5, none⟩ = some (.slice Aa0_5 a0_5.length ca0_5) := (blk_cell K0_8.out 5).trans rfl
 have hfz0_5 := blk_frozen K0_8.out 5
 have hcz1_0 : w8.cell? ⟨w6.heap.size, 0, none⟩ = some (.int .i64 a0_0) := (blk_cell K1_8.out 0).trans rfl
 have hfz1_0 := blk_frozen K1_8.out 0
 have hcz1_1 : w8.cell? ⟨w6.heap.size, 1, none⟩ = some (.int .i64 a0_1) := (blk_cell K1_8.out 1).trans rfl
 have hfz1_1 := blk_frozen K1_8.out 1
 have hcz1_2 : w8.cell? ⟨w6.heap.size, 2, none⟩ = some (.int .i64 a0_2) := (blk_cell K1_8.out 2).trans rfl
 have hfz1_2 := blk_frozen K1_8.out 2
 have hcz1_3 : w8.cell? ⟨w6.heap.size, 3, none⟩ = some (.slice Ax0_3_6 a0_3.length cx0_3_6) := (blk_cell K1_8.out 3).trans rfl
 have hfz1_3 := blk_frozen K1_8.out 3
 have hcz1_4 : w8.cell? ⟨w6.heap.size, 4, none⟩ = some (.slice Ax0_4_6 a0_4.length cx0_4_6) := (blk_cell K1_8.out 4).trans rfl
 have hfz1_4 := blk_frozen K1_8.out 4
 have hcz1_5 : w8.cell? ⟨w6.heap.size, 5, none⟩ = some (.slice Ax0_5_6 a0_5.length cx0_5_6) := (blk_cell K1_8.out 5).trans rfl
 have hfz1_5 := blk_frozen K1_8.out 5
 go_wp2_with fail
 clear hcz0_0 hfz0_0 hcz0_1 hfz0_1 hcz0_2 hfz0_2 hcz0_3 hfz0_3 hcz0_4 hfz0_4 hcz0_5 hfz0_5 hcz1_0 hfz1_0 hcz1_1 hfz1_1 hcz1_2 hfz1_2 hcz1_3 hfz1_3 hcz1_4 hfz1_4 hcz1_5 hfz1_5
 refine (OwnRuleValues.own_impl a0_0 a0_1 a0_2 Ax0_3_6 cx0_3_6 a0_3 Ax0_4_6 cx0_4_6 a0_4 Ax0_5_6 cx0_5_6 a0_5 Ax1_0_8 cx1_0_8 ta1 g0 g1 w8 (readsR Fx0_3_8.out).2.2 (readsR Fx0_3_8.out).2.1 (readsR Fx0_4_8.out).2.2 (readsR Fx0_4_8.out).2.1 (readsR Fx0_5_8.out).2.2 (readsR Fx0_5_8.out).2.1 (readsR Fx1_0_8.out).2.2 (readsR Fx1_0_8.out).2.1 HLa0_3.out HLa0_4.out HLa0_5.out HLta1.out Hi.out).mono ?_
 rintro e w9 ⟨v, rfl, ho, hb⟩
 have ho := Kd.R_mono ho (ok' := fun _ => True) (fun _ _ => trivial)
 have B9 := Aside0.mk (below_step B8.out hb)
 have z9 := hb.size
 obtain ⟨Ag0_0_9, cg0_0_9, rfl⟩ := Kd.R_slice ho
 have Fg0_0_9 := Aside0.mk (ivR (w := w) ho (by omega))
 clear ho
 have K0_9 := Aside0.mk (blk_below K0_8.out hb)
 clear K0_8
 have K1_9 := Aside0.mk (blk_below K1_8.out hb)
 clear K1_8
 have Fw0_0_9 := Aside0.mk (Kd.R_below Fw0_0_8.out hb)
 clear Fw0_0_8
 have Fx0_3_9 := Aside0.mk (Kd.R_below Fx0_3_8.out hb)
 clear Fx0_3_8
 have Fx0_4_9 := Aside0.mk (Kd.R_below Fx0_4_8.out hb)
 clear Fx0_4_8
 have Fx0_5_9 := Aside0.mk (Kd.R_below Fx0_5_8.out hb)
 clear Fx0_5_8
 have Fx1_0_9 := Aside0.mk (Kd.R_below Fx1_0_8.out hb)
 clear Fx1_0_8
 clear hb
 have hcz0_0 : w9.cell? ⟨w.heap.size, 0, none⟩ = some (.int .i64 a0_0) := (blk_cell K0_9.out 0).trans rfl
 have hfz0_0 := blk_frozen K0_9.out 0
 have hcz0_1 : w9.cell? ⟨w.heap.size, 1, none⟩ = some (.int .i64 a0_1) := (blk_cell K0_9.out 1).trans rfl
 have hfz0_1 := blk_frozen K0_9.out 1
 have hcz0_2 : w9.cell? ⟨w.heap.size, 2, none⟩ = some (.int .i64 a0_2) := (blk_cell K0_9.out 2).trans rfl
 have hfz0_2 := blk_frozen K0_9.out 2
 have hcz0_3 : w9.cell? ⟨w.heap.size, 3, none⟩ = some (.slice Aa0_3 a0_3.length ca0_3) := (blk_cell K0_9.out 3).trans rfl
 have hfz0_3 := blk_frozen K0_9.out 3
 have hcz0_4 : w9.cell? ⟨w.heap.size, 4, none⟩ = some (.slice Aa0_4 a0_4.length ca0_4) := (blk_cell K0_9.out 4).trans rfl
 have hfz0_4 := blk_frozen K0_9.out 4
 have hcz0_5 : w9.cell? ⟨w.heap.size, 5, none⟩ = some (.slice Aa0_5 a0_5.length ca0_5) := (blk_cell K0_9.out 5).trans rfl
 have hfz0_5 := blk_frozen K0_9.out 5
 have hcz1_0 : w9.cell? ⟨w6.heap.size, 0, none⟩ = some (.int .i64 a0_0) := (blk_cell K1_9.out 0).trans rfl
 have hfz1_0 := blk_frozen K1_9.out 0
 have hcz1_1 : w9.cell? ⟨w6.heap.size, 1, none⟩ = some (.int .i64 a0_1) := (blk_cell K1_9.out 1).trans rfl
 have hfz1_1 := blk_frozen K1_9.out 1
 have hcz1_2 : w9.cell? ⟨w6.heap.size, 2, none⟩ = some (.int .i64 a0_2) := (blk_cell K1_9.out 2).trans rfl
 have hfz1_2 := blk_frozen K1_9.out 2
 have hcz1_3 : w9.cell? ⟨w6.heap.size, 3, none⟩ = some (.slice Ax0_3_6 a0_3.length cx0_3_6) := (blk_cell K1_9.out 3).trans rfl
 have hfz1_3 := blk_frozen K1_9.out 3
 have hcz1_4 : w9.cell? ⟨w6.heap.size, 4, none⟩ = some (.slice Ax0_4_6 a0_4.length cx0_4_6) := (blk_cell K1_9.out 4).trans rfl
 have hfz1_4 := blk_frozen K1_9.out 4
 have hcz1_5 : w9.cell? ⟨w6.heap.size, 5, none⟩ = some (.slice Ax0_5_6 a0_5.length cx0_5_6) := (blk_cell K1_9.out 5).trans rfl
 have hfz1_5 := blk_frozen K1_9.out 5
 go_wp2_with fail
 clear hcz0_0 hfz0_0 hcz0_1 hfz0_1 hcz0_2 hfz0_2 hcz0_3 hfz0_3 hcz0_4 hfz0_4 hcz0_5 hfz0_5 hcz1_0 hfz1_0 hcz1_1 hfz1_1 hcz1_2 hfz1_2 hcz1_3 hfz1_3 hcz1_4 hfz1_4 hcz1_5 hfz1_5
 refine (eqIntS_calls g0 (maxLen_val (by have := HLg0.out; omega)) Ag0_0_9 Aw0_0_5 cg0_0_9 cw0_0_5 w9 (readsR Fg0_0_9.out).2.2 (readsR Fg0_0_9.out).2.1 (readsR Fw0_0_9.out).2.2 (readsR Fw0_0_9.out).2.1).mono ?_
 rintro e w10 ⟨rfl, hb⟩
 have B10 := Aside0.mk (below_step B9.out hb)
 have z10 := hb.size
 have K0_10 := Aside0.mk (blk_below K0_9.out hb)
 clear K0_9
 have K1_10 := Aside0.mk (blk_below K1_9.out hb)
 clear K1_9
 have Fw0_0_10 := Aside0.mk (Kd.R_below Fw0_0_9.out hb)
 clear Fw0_0_9
 have Fx0_3_10 := Aside0.mk (Kd.R_below Fx0_3_9.out hb)
 clear Fx0_3_9
 have Fx0_4_10 := Aside0.mk (Kd.R_below Fx0_4_9.out hb)
 clear Fx0_4_9
 have Fx0_5_10 := Aside0.mk (Kd.R_below Fx0_5_9.out hb)
 clear Fx0_5_9
 have Fx1_0_10 := Aside0.mk (Kd.R_below Fx1_0_9.out hb)
 clear Fx1_0_9
 have Fg0_0_10 := Aside0.mk (Kd.R_below Fg0_0_9.out hb)
 clear Fg0_0_9
 clear hb
 have hcz0_0 : w10.cell? ⟨w.heap.size, 0, none⟩ = some (.int .i64 a0_0) := (blk_cell K0_10.out 0).trans rfl
 have hfz0_0 := blk_frozen K0_10.out 0
 have hcz0_1 : w10.cell? ⟨w.heap.size, 1, none⟩ = some (.int .i64 a0_1) := (blk_cell K0_10.out 1).trans rfl
 have hfz0_1 := blk_frozen K0_10.out 1
 have hcz0_2 : w10.cell? ⟨w.heap.size, 2, none⟩ = some (.int .i64 a0_2) := (blk_cell K0_10.out 2).trans rfl
 have hfz0_2 := blk_frozen K0_10.out 2
 have hcz0_3 : w10.cell? ⟨w.heap.size, 3, none⟩ = some (.slice Aa0_3 a0_3.length ca0_3) := (blk_cell K0_10.out 3).trans rfl
 have hfz0_3 := blk_frozen K0_10.out 3
 have hcz0_4 : w10.cell? ⟨w.heap.size, 4, none⟩ = some (.slice Aa0_4 a0_4.length ca0_4) := (blk_cell K0_10.out 4).trans rfl
 have hfz0_4 := blk_frozen K0_10.out 4
 have hcz0_5 : w10.cell? ⟨w.heap.size, 5, none⟩ = some (.slice Aa0_5 a0_5.length ca0_5) := (blk_cell K0_10.out 5).trans rfl
 have hfz0_5 := blk_frozen K0_10.out 5
 have hcz1_0 : w10.cell? ⟨w6.heap.size, 0, none⟩ = some (.int .i64 a0_0) := (blk_cell K1_10.out 0).trans rfl
 have hfz1_0 := blk_frozen K1_10.out 0
 have hcz1_1 : w10.cell? ⟨w6.heap.size, 1, none⟩ = some (.int .i64 a0_1) := (blk_cell K1_10.out 1).trans rfl
 have hfz1_1 := blk_frozen K1_10.out 1
 have hcz1_2 : w10.cell? ⟨w6.heap.size, 2, none⟩ = some (.int .i64 a0_2) := (blk_cell K1_10.out 2).trans rfl
 have hfz1_2 := blk_frozen K1_10.out 2
 have hcz1_3 : w10.cell? ⟨w6.heap.size, 3, none⟩ = some (.slice Ax0_3_6 a0_3.length cx0_3_6) := (blk_cell K1_10.out 3).trans rfl
 have hfz1_3 := blk_frozen K1_10.out 3
 have hcz1_4 : w10.cell? ⟨w6.heap.size, 4, none⟩ = some (.slice Ax0_4_6 a0_4.length cx0_4_6) := (blk_cell K1_10.out 4).trans rfl
 have hfz1_4 := blk_frozen K1_10.out 4
 have hcz1_5 : w10.cell? ⟨w6.heap.size, 5, none⟩ = some (.slice Ax0_5_6 a0_5.length cx0_5_6) := (blk_cell K1_10.out 5).trans rfl
 have hfz1_5 := blk_frozen K1_10.out 5
 go_wp2_with fail
 clear hcz0_0 hfz0_0 hcz0_1 hfz0_1 hcz0_2 hfz0_2 hcz0_3 hfz0_3 hcz0_4 hfz0_4 hcz0_5 hfz0_5 hcz1_0 hfz1_0 hcz1_1 hfz1_1 hcz1_2 hfz1_2 hcz1_3 hfz1_3 hcz1_4 hfz1_4 hcz1_5 hfz1_5
 have Fw0_0_10d := Aside0.mk (Kd.R_drew Fw0_0_10.out)
 clear Fw0_0_10
 have Fx0_3_10d := Aside0.mk (Kd.R_drew Fx0_3_10.out)
 clear Fx0_3_10
 have Fx0_4_10d := Aside0.mk (Kd.R_drew Fx0_4_10.out)
 clear Fx0_4_10
 have Fx0_5_10d := Aside0.mk (Kd.R_drew Fx0_5_10.out)
 clear Fx0_5_10
 have Fx1_0_10d := Aside0.mk (Kd.R_drew Fx1_0_10.out)
 clear Fx1_0_10
 have Fg0_0_10d := Aside0.mk (Kd.R_drew Fg0_0_10.out)
 clear Fg0_0_10
 have K0_10d := Aside0.mk (blk_drew K0_10.out)
 clear K0_10
 have K1_10d := Aside0.mk (blk_drew K1_10.out)
 clear K1_10
 have B11 := Aside0.mk (below_drew1 B10.out)
 have z11 : w10.heap.size ≤ (w10.drew).heap.size := Nat.le_refl _
 refine start_ (n := 5) (S := fun w' => w'.cell? ⟨w.heap.size, 0, none⟩ = some (.int .i64 a0_0) ∧ w'.cell? ⟨w.heap.size, 1, none⟩ = some (.int .i64 a0_1) ∧ w'.cell? ⟨w.heap.size, 2, none⟩ = some (.int .i64 a0_2) ∧ w'.cell? ⟨w.heap.size, 3, none⟩ = some (.slice Aa0_3 a0_3.length ca0_3) ∧ w'.cell? ⟨w.heap.size, 4, none⟩ = some (.slice Aa0_4 a0_4.length ca0_4) ∧ w'.cell? ⟨w.heap.size, 5, none⟩ = some (.slice Aa0_5 a0_5.length ca0_5) ∧ w'.cell? ⟨w6.heap.size, 0, none⟩ = some (.int .i64 a0_0) ∧ w'.cell? ⟨w6.heap.size, 1, none⟩ = some (.int .i64 a0_1) ∧ w'.cell? ⟨w6.heap.size, 2, none⟩ = some (.int .i64 a0_2) ∧ w'.cell? ⟨w6.heap.size, 3, none⟩ = some (.slice Ax0_3_6 a0_3.length cx0_3_6) ∧ w'.cell? ⟨w6.heap.size, 4, none⟩ = some (.slice Ax0_4_6 a0_4.length cx0_4_6) ∧ w'.cell? ⟨w6.heap.size, 5, none⟩ = some (.slice Ax0_5_6 a0_5.length cx0_5_6)) (ds := []) #[false, false, false, false, false] (by kernel_rfl) rfl rfl ⟨(blk_cell K0_10d.out 0).trans rfl, (blk_cell K0_10d.out 1).trans rfl, (blk_cell K0_10d.out 2).trans rfl, (blk_cell K0_10d.out 3).trans rfl, (blk_cell K0_10d.out 4).trans rfl, (blk_cell K0_10d.out 5).trans rfl, (blk_cell K1_10d.out 0).trans rfl, (blk_cell K1_10d.out 1).trans rfl, (blk_cell K1_10d.out 2).trans rfl, (blk_cell K1_10d.out 3).trans rfl, (blk_cell K1_10d.out 4).trans rfl, (blk_cell K1_10d.out 5).trans rfl⟩ (fun hHeld => ?_)
 refine with_tabW laws_FnExactRuleValues_tab14 laws_FnExactRuleValues_bits14 (fun HT_ HW_ => ?_)
 generalize w10.drew = w11 at Fw0_0_10d Fx0_3_10d Fx0_4_10d Fx0_5_10d Fx1_0_10d Fg0_0_10d K0_10d K1_10d B11 z11 hHeld ⊢
 refine take_ (i := 0) (N := some 54) (v := ?_) (a' := ?_) #[true, false, false, false, false] rfl rfl (take_ofW HT_.out HW_.out (by kernel_rfl)) (fun _ _ _ h => h) (Or.inl ⟨by rfl, ?_⟩) hHeld ?_ ?_
 rotate_left
 ·rintro w' ⟨s0, s1, s2, s3, s4, s5, s6, s7, s8, s9, s10, s11⟩
  go_simp
  with_reducible rfl
 rotate_left
 ·simp only [Act.put, List.setIfInBounds_toArray, List.set_cons_zero, List.set_cons_succ, i64_w, i32_w]
  rfl
 refine take_ (i := 1) (N := some 55) (v := ?_) (a' := ?_) #[true, true, false, false, false] rfl rfl (take_ofW HT_.out HW_.out (by kernel_rfl)) (fun _ _ _ h => h) (Or.inl ⟨by rfl, ?_⟩) hHeld ?_ ?_
 rotate_left
 ·rintro w' ⟨s0, s1, s2, s3, s4, s5, s6, s7, s8, s9, s10, s11⟩
  go_simp
  with_reducible rfl
 rotate_left
 ·simp only [Act.put, List.setIfInBounds_toArray, List.set_cons_zero, List.set_cons_succ, i64_w, i32_w]
  rfl
 refine one_ (i := 2) (N := some 56) #[true, true, true, false, false] rfl rfl (one_of HT_.out (by kernel_rfl)) (by decide) (fun K hK => ?_)
 refine goes_ Try.func16 (by kernel_rfl) rfl #[.agg #[.int .i64 a0_0, .int .i64 a0_1, .int .i64 a0_2, .slice Aa0_3 a0_3.length ca0_3, .slice Aa0_4 a0_4.length ca0_4, .slice Aa0_5 a0_5.length ca0_5]] (by rfl) rfl rfl (by (try simp only [List.map_toArray, List.map_cons, List.map_nil]); first | done | rfl | (simp only [List.length_drop, List.length_take]; rfl)) ?_
 refine (toModel_calls a0_0 a0_1 a0_2 a0_3 HLa0_3.out a0_4 HLa0_4.out a0_5 HLa0_5.out Aa0_3 ca0_3 Aa0_4 ca0_4 Aa0_5 ca0_5 w11 (Kd.C_below HRa0_3.out B11.out) HCa0_3.out (Kd.C_below HRa0_4.out B11.out) HCa0_4.out (Kd.C_below HRa0_5.out B11.out) HCa0_5.out).mono ?_
 rintro e w12 ⟨v0, v1, v2, rfl, ho0, ho1, ho2, hne, hb⟩
 refine ⟨_, rfl, ?_⟩
 have B12 := Aside0.mk (below_step B11.out hb)
 have z12 := hb.size
 obtain ⟨Au_3_12, cu_3_12, rfl⟩ := Kd.R_slice ho0
 have Fu_3_12 := Aside0.mk (znR (w := w) rfl ho0 (by omega))
 clear ho0
 obtain ⟨Au_4_12, cu_4_12, rfl⟩ := Kd.R_slice ho1
 have Fu_4_12 := Aside0.mk (znR (w := w) rfl ho1 (by omega))
 clear ho1
 obtain ⟨Au_5_12, cu_5_12, rfl⟩ := Kd.R_slice ho2
 have Fu_5_12 := Aside0.mk (znR (w := w) rfl ho2 (by omega))
 clear ho2
 have Du := Aside0.mk hne
 clear hne
 have K0_12 := Aside0.mk (blk_below K0_10d.out hb)
 clear K0_10d
 have K1_12 := Aside0.mk (blk_below K1_10d.out hb)
 clear K1_10d
 have Fw0_0_12 := Aside0.mk (Kd.R_below Fw0_0_10d.out hb)
 clear Fw0_0_10d
 have Fx0_3_12 := Aside0.mk (Kd.R_below Fx0_3_10d.out hb)
 clear Fx0_3_10d
 have Fx0_4_12 := Aside0.mk (Kd.R_below Fx0_4_10d.out hb)
 clear Fx0_4_10d
 have Fx0_5_12 := Aside0.mk (Kd.R_below Fx0_5_10d.out hb)
 clear Fx0_5_10d
 have Fx1_0_12 := Aside0.mk (Kd.R_below Fx1_0_10d.out hb)
 clear Fx1_0_10d
 have Fg0_0_12 := Aside0.mk (Kd.R_below Fg0_0_10d.out hb)
 clear Fg0_0_10d
 clear hb
 refine hK.out _ _ ⟨(blk_cell K0_12.out 0).trans rfl, (blk_cell K0_12.out 1).trans rfl, (blk_cell K0_12.out 2).trans rfl, (blk_cell K0_12.out 3).trans rfl, (blk_cell K0_12.out 4).trans rfl, (blk_cell K0_12.out 5).trans rfl, (blk_cell K1_12.out 0).trans rfl, (blk_cell K1_12.out 1).trans rfl, (blk_cell K1_12.out 2).trans rfl, (blk_cell K1_12.out 3).trans rfl, (blk_cell K1_12.out 4).trans rfl, (blk_cell K1_12.out 5).trans rfl⟩ (fun hHeld => ?_)
 clear hK K
 refine norm_ (a' := ?_) ?_ ?_
 rotate_left
 ·show Act.put _ (some 56) _ = _
  simp only [Act.put, List.setIfInBounds_toArray, List.set_cons_zero, List.set_cons_succ, i64_w, i32_w]
  rfl
 refine one_ (i := 3) (N := some 57) #[true, true, true, true, false] rfl rfl (one_of HT_.out (by kernel_rfl)) (by decide) (fun K hK => ?_)
 refine goes_ Try.func19 (by kernel_rfl) rfl #[.agg #[.int .i64 a0_0, .int .i64 a0_1, .int .i64 a0_2, .slice Ax0_3_6 a0_3.length cx0_3_6, .slice Ax0_4_6 a0_4.length cx0_4_6, .slice Ax0_5_6 a0_5.length cx0_5_6], .agg #[.int .i64 a0_0, .int .i64 a0_1, .int .i64 a0_2, .slice Au_3_12 a0_3.length cu_3_12, .slice Au_4_12 a0_4.length cu_4_12, .slice Au_5_12 a0_5.length cu_5_12]] (by rfl) rfl rfl (by (try simp only [List.map_toArray, List.map_cons, List.map_nil]); first | done | rfl | (simp only [List.length_drop, List.length_take]; rfl)) ?_
 refine (eqModel_calls a0_0 a0_1 a0_2 a0_3 a0_4 a0_5 (maxLen_val (by have := HLa0_3.out; omega)) (maxLen_val (by have := HLa0_4.out; omega)) (maxLen_val (by have := HLa0_5.out; omega)) Ax0_3_6 cx0_3_6 Ax0_4_6 cx0_4_6 Ax0_5_6 cx0_5_6 Au_3_12 cu_3_12 Au_4_12 cu_4_12 Au_5_12 cu_5_12 w12 (readsR Fx0_3_12.out).2.2 (readsR Fx0_3_12.out).2.1 (readsR Fx0_4_12.out).2.2 (readsR Fx0_4_12.out).2.1 (readsR Fx0_5_12.out).2.2 (readsR Fx0_5_12.out).2.1 (readsR Fu_3_12.out).2.2 (readsR Fu_3_12.out).2.1 (readsR Fu_4_12.out).2.2 (readsR Fu_4_12.out).2.1 (readsR Fu_5_12.out).2.2 (readsR Fu_5_12.out).2.1).mono ?_
 rintro e w13 ⟨rfl, hb⟩
 refine ⟨_, rfl, ?_⟩
 have B13 := Aside0.mk (below_step B12.out hb)
 have z13 := hb.size
 have K0_13 := Aside0.mk (blk_below K0_12.out hb)
 clear K0_12
 have K1_13 := Aside0.mk (blk_below K1_12.out hb)
 clear K1_12
 have Fw0_0_13 := Aside0.mk (Kd.R_below Fw0_0_12.out hb)
 clear Fw0_0_12
 have Fx0_3_13 := Aside0.mk (Kd.R_below Fx0_3_12.out hb)
 clear Fx0_3_12
 have Fx0_4_13 := Aside0.mk (Kd.R_below Fx0_4_12.out hb)
 clear Fx0_4_12
 have Fx0_5_13 := Aside0.mk (Kd.R_below Fx0_5_12.out hb)
 clear Fx0_5_12
 have Fx1_0_13 := Aside0.mk (Kd.R_below Fx1_0_12.out hb)
 clear Fx1_0_12
 have Fg0_0_13 := Aside0.mk (Kd.R_below Fg0_0_12.out hb)
 clear Fg0_0_12
 have Fu_3_13 := Aside0.mk (Kd.R_below Fu_3_12.out hb)
 clear Fu_3_12
 have Fu_4_13 := Aside0.mk (Kd.R_below Fu_4_12.out hb)
 clear Fu_4_12
 have Fu_5_13 := Aside0.mk (Kd.R_below Fu_5_12.out hb)
 clear Fu_5_12
 clear hb
 refine hK.out _ _ ⟨(blk_cell K0_13.out 0).trans rfl, (blk_cell K0_13.out 1).trans rfl, (blk_cell K0_13.out 2).trans rfl, (blk_cell K0_13.out 3).trans rfl, (blk_cell K0_13.out 4).trans rfl, (blk_cell K0_13.out 5).trans rfl, (blk_cell K1_13.out 0).trans rfl, (blk_cell K1_13.out 1).trans rfl, (blk_cell K1_13.out 2).trans rfl, (blk_cell K1_13.out 3).trans rfl, (blk_cell K1_13.out 4).trans rfl, (blk_cell K1_13.out 5).trans rfl⟩ (fun hHeld => ?_)
 clear hK K
 refine norm_ (a' := ?_) ?_ ?_
 rotate_left
 ·show Act.put _ (some 57) _ = _
  simp only [Act.put, List.setIfInBounds_toArray, List.set_cons_zero, List.set_cons_succ, i64_w, i32_w]
  rfl
 refine pure_ (i := 4) (N := some 58) (v := ?_) (a' := ?_) #[true, true, true, true, true] rfl rfl (any_of HT_.out (by kernel_rfl)) (fun _ _ _ h => h) (Or.inl ⟨by rfl, ?_⟩) ?_ ?_
 rotate_left
 ·intro w'
  go_simp
  with_reducible rfl
 rotate_left
 ·simp only [Act.put, List.setIfInBounds_toArray, List.set_cons_zero, List.set_cons_succ, i64_w, i32_w]
  rfl
 refine done_ (done_of HT_.out (by kernel_rfl)) ?_
 clear HT_ HW_
 have hcz0_0 : w13.cell? ⟨w.heap.size, 0, none⟩ = some (.int .i64 a0_0) := (blk_cell K0_13.out 0).trans rfl
 have hfz0_0 := blk_frozen K0_13.out 0
 have hcz0_1 : w13.cell? ⟨w.heap.size, 1, none⟩ = some (.int .i64 a0_1) := (blk_cell K0_13.out 1).trans rfl
 have hfz0_1 := blk_frozen K0_13.out 1
 have hcz0_2 : w13.cell? ⟨w.heap.size, 2, none⟩ = some (.int .i64 a0_2) := (blk_cell K0_13.out 2).trans rfl
 have hfz0_2 := blk_frozen K0_13.out 2
 have hcz0_3 : w13.cell? ⟨w.heap.size, 3, none⟩ = some (.slice Aa0_3 a0_3.length ca0_3) := (blk_cell K0_13.out 3).trans rfl
 have hfz0_3 := blk_frozen K0_13.out 3
 have hcz0_4 : w13.cell? ⟨w.heap.size, 4, none⟩ = some (.slice Aa0_4 a0_4.length ca0_4) := (blk_cell K0_13.out 4).trans rfl
 have hfz0_4 := blk_frozen K0_13.out 4
 have hcz0_5 : w13.cell? ⟨w.heap.size, 5, none⟩ = some (.slice Aa0_5 a0_5.length ca0_5) := (blk_cell K0_13.out 5).trans rfl
 have hfz0_5 := blk_frozen K0_13.out 5
 have hcz1_0 : w13.cell? ⟨w6.heap.size, 0, none⟩ = some (.int .i64 a0_0) := (blk_cell K1_13.out 0).trans rfl
 have hfz1_0 := blk_frozen K1_13.out 0
 have hcz1_1 : w13.cell? ⟨w6.heap.size, 1, none⟩ = some (.int .i64 a0_1) := (blk_cell K1_13.out 1).trans rfl
 have hfz1_1 := blk_frozen K1_13.out 1
 have hcz1_2 : w13.cell? ⟨w6.heap.size, 2, none⟩ = some (.int .i64 a0_2) := (blk_cell K1_13.out 2).trans rfl
 have hfz1_2 := blk_frozen K1_13.out 2
 have hcz1_3 : w13.cell? ⟨w6.heap.size, 3, none⟩ = some (.slice Ax0_3_6 a0_3.length cx0_3_6) := (blk_cell K1_13.out 3).trans rfl
 have hfz1_3 := blk_frozen K1_13.out 3
 have hcz1_4 : w13.cell? ⟨w6.heap.size, 4, none⟩ = some (.slice Ax0_4_6 a0_4.length cx0_4_6) := (blk_cell K1_13.out 4).trans rfl
 have hfz1_4 := blk_frozen K1_13.out 4
 have hcz1_5 : w13.cell? ⟨w6.heap.size, 5, none⟩ = some (.slice Ax0_5_6 a0_5.length cx0_5_6) := (blk_cell K1_13.out 5).trans rfl
 have hfz1_5 := blk_frozen K1_13.out 5
 go_wp2_with fail
 clear hcz0_0 hfz0_0 hcz0_1 hfz0_1 hcz0_2 hfz0_2 hcz0_3 hfz0_3 hcz0_4 hfz0_4 hcz0_5 hfz0_5 hcz1_0 hfz1_0 hcz1_1 hfz1_1 hcz1_2 hfz1_2 hcz1_3 hfz1_3 hcz1_4 hfz1_4 hcz1_5 hfz1_5
 refine (toPartS_calls a1 ta1 HTa1.out HLta1.out Aa1 ca1 w13 (Kd.C_below HRa1.out B13.out) HCa1.out).mono ?_
 rintro e w14 ⟨v, rfl, ho, hb⟩
 have B14 := Aside0.mk (below_step B13.out hb)
 have z14 := hb.size
 obtain ⟨Au_0_14, cu_0_14, rfl⟩ := Kd.R_slice ho
 have Fu_0_14 := Aside0.mk (ivR (w := w) ho (by omega))
 clear ho
 have K0_14 := Aside0.mk (blk_below K0_13.out hb)
 clear K0_13
 have K1_14 := Aside0.mk (blk_below K1_13.out hb)
 clear K1_13
 have Fw0_0_14 := Aside0.mk (Kd.R_below Fw0_0_13.out hb)
 clear Fw0_0_13
 have Fx0_3_14 := Aside0.mk (Kd.R_below Fx0_3_13.out hb)
 clear Fx0_3_13
 have Fx0_4_14 := Aside0.mk (Kd.R_below Fx0_4_13.out hb)
 clear Fx0_4_13
 have Fx0_5_14 := Aside0.mk (Kd.R_below Fx0_5_13.out hb)
 clear Fx0_5_13
 have Fx1_0_14 := Aside0.mk (Kd.R_below Fx1_0_13.out hb)
 clear Fx1_0_13
 have Fg0_0_14 := Aside0.mk (Kd.R_below Fg0_0_13.out hb)
 clear Fg0_0_13
 clear hb
 have hcz0_0 : w14.cell? ⟨w.heap.size, 0, none⟩ = some (.int .i64 a0_0) := (blk_cell K0_14.out 0).trans rfl
 have hfz0_0 := blk_frozen K0_14.out 0
 have hcz0_1 : w14.cell? ⟨w.heap.size, 1, none⟩ = some (.int .i64 a0_1) := (blk_cell K0_14.out 1).trans rfl
 have hfz0_1 := blk_frozen K0_14.out 1
 have hcz0_2 : w14.cell? ⟨w.heap.size, 2, none⟩ = some (.int .i64 a0_2) := (blk_cell K0_14.out 2).trans rfl
 have hfz0_2 := blk_frozen K0_14.out 2
 have hcz0_3 : w14.cell? ⟨w.heap.size, 3, none⟩ = some (.slice Aa0_3 a0_3.length ca0_3) := (blk_cell K0_14.out 3).trans rfl
 have hfz0_3 := blk_frozen K0_14.out 3
 have hcz0_4 : w14.cell? ⟨w.heap.size, 4, none⟩ = some (.slice Aa0_4 a0_4.length ca0_4) := (blk_cell K0_14.out 4).trans rfl
 have hfz0_4 := blk_frozen K0_14.out 4
 have hcz0_5 : w14.cell? ⟨w.heap.size, 5, none⟩ = some (.slice Aa0_5 a0_5.length ca0_5) := (blk_cell K0_14.out 5).trans rfl
 have hfz0_5 := blk_frozen K0_14.out 5
 have hcz1_0 : w14.cell? ⟨w6.heap.size, 0, none⟩ = some (.int .i64 a0_0) := (blk_cell K1_14.out 0).trans rfl
 have hfz1_0 := blk_frozen K1_14.out 0
 have hcz1_1 : w14.cell? ⟨w6.heap.size, 1, none⟩ = some (.int .i64 a0_1) := (blk_cell K1_14.out 1).trans rfl
 have hfz1_1 := blk_frozen K1_14.out 1
 have hcz1_2 : w14.cell? ⟨w6.heap.size, 2, none⟩ = some (.int .i64 a0_2) := (blk_cell K1_14.out 2).trans rfl
 have hfz1_2 := blk_frozen K1_14.out 2
 have hcz1_3 : w14.cell? ⟨w6.heap.size, 3, none⟩ = some (.slice Ax0_3_6 a0_3.length cx0_3_6) := (blk_cell K1_14.out 3).trans rfl
 have hfz1_3 := blk_frozen K1_14.out 3
 have hcz1_4 : w14.cell? ⟨w6.heap.size, 4, none⟩ = some (.slice Ax0_4_6 a0_4.length cx0_4_6) := (blk_cell K1_14.out 4).trans rfl
 have hfz1_4 := blk_frozen K1_14.out 4
 have hcz1_5 : w14.cell? ⟨w6.heap.size, 5, none⟩ = some (.slice Ax0_5_6 a0_5.length cx0_5_6) := (blk_cell K1_14.out 5).trans rfl
 have hfz1_5 := blk_frozen K1_14.out 5
 go_wp2_with fail
 clear hcz0_0 hfz0_0 hcz0_1 hfz0_1 hcz0_2 hfz0_2 hcz0_3 hfz0_3 hcz0_4 hfz0_4 hcz0_5 hfz0_5 hcz1_0 hfz1_0 hcz1_1 hfz1_1 hcz1_2 hfz1_2 hcz1_3 hfz1_3 hcz1_4 hfz1_4 hcz1_5 hfz1_5
 refine (eqPartS_calls ta1 (maxLen_val (by have := HLta1.out; omega)) Ax1_0_8 Au_0_14 cx1_0_8 cu_0_14 w14 (readsR Fx1_0_14.out).2.2 (readsR Fx1_0_14.out).2.1 (readsR Fu_0_14.out).2.2 (readsR Fu_0_14.out).2.1).mono ?_
 rintro e w15 ⟨rfl, hb⟩
 have B15 := Aside0.mk (below_step B14.out hb)
 have z15 := hb.size
 have K0_15 := Aside0.mk (blk_below K0_14.out hb)
 clear K0_14
 have K1_15 := Aside0.mk (blk_below K1_14.out hb)
 clear K1_14
 have Fw0_0_15 := Aside0.mk (Kd.R_below Fw0_0_14.out hb)
 clear Fw0_0_14
 have Fx0_3_15 := Aside0.mk (Kd.R_below Fx0_3_14.out hb)
 clear Fx0_3_14
 have Fx0_4_15 := Aside0.mk (Kd.R_below Fx0_4_14.out hb)
 clear Fx0_4_14
 have Fx0_5_15 := Aside0.mk (Kd.R_below Fx0_5_14.out hb)
 clear Fx0_5_14
 have Fx1_0_15 := Aside0.mk (Kd.R_below Fx1_0_14.out hb)
 clear Fx1_0_14
 have Fg0_0_15 := Aside0.mk (Kd.R_below Fg0_0_14.out hb)
 clear Fg0_0_14
 have Fu_0_15 := Aside0.mk (Kd.R_below Fu_0_14.out hb)
 clear Fu_0_14
 clear hb
 have hcz0_0 : w15.cell? ⟨w.heap.size, 0, none⟩ = some (.int .i64 a0_0) := (blk_cell K0_15.out 0).trans rfl
 have hfz0_0 := blk_frozen K0_15.out 0
 have hcz0_1 : w15.cell? ⟨w.heap.size, 1, none⟩ = some (.int .i64 a0_1) := (blk_cell K0_15.out 1).trans rfl
 have hfz0_1 := blk_frozen K0_15.out 1
 have hcz0_2 : w15.cell? ⟨w.heap.size, 2, none⟩ = some (.int .i64 a0_2) := (blk_cell K0_15.out 2).trans rfl
 have hfz0_2 := blk_frozen K0_15.out 2
 have hcz0_3 : w15.cell? ⟨w.heap.size, 3, none⟩ = some (.slice Aa0_3 a0_3.length ca0_3) := (blk_cell K0_15.out 3).trans rfl
 have hfz0_3 := blk_frozen K0_15.out 3
 have hcz0_4 : w15.cell? ⟨w.heap.size, 4, none⟩ = some (.slice Aa0_4 a0_4.length ca0_4) := (blk_cell K0_15.out 4).trans rfl
 have hfz0_4 := blk_frozen K0_15.out 4
 have hcz0_5 : w15.cell? ⟨w.heap.size, 5, none⟩ = some (.slice Aa0_5 a0_5.length ca0_5) := (blk_cell K0_15.out 5).trans rfl
 have hfz0_5 := blk_frozen K0_15.out 5
 have hcz1_0 : w15.cell? ⟨w6.heap.size, 0, none⟩ = some (.int .i64 a0_0) := (blk_cell K1_15.out 0).trans rfl
 have hfz1_0 := blk_frozen K1_15.out 0
 have hcz1_1 : w15.cell? ⟨w6.heap.size, 1, none⟩ = some (.int .i64 a0_1) := (blk_cell K1_15.out 1).trans rfl
 have hfz1_1 := blk_frozen K1_15.out 1
 have hcz1_2 : w15.cell? ⟨w6.heap.size, 2, none⟩ = some (.int .i64 a0_2) := (blk_cell K1_15.out 2).trans rfl
 have hfz1_2 := blk_frozen K1_15.out 2
 have hcz1_3 : w15.cell? ⟨w6.heap.size, 3, none⟩ = some (.slice Ax0_3_6 a0_3.length cx0_3_6) := (blk_cell K1_15.out 3).trans rfl
 have hfz1_3 := blk_frozen K1_15.out 3
 have hcz1_4 : w15.cell? ⟨w6.heap.size, 4, none⟩ = some (.slice Ax0_4_6 a0_4.length cx0_4_6) := (blk_cell K1_15.out 4).trans rfl
 have hfz1_4 := blk_frozen K1_15.out 4
 have hcz1_5 : w15.cell? ⟨w6.heap.size, 5, none⟩ = some (.slice Ax0_5_6 a0_5.length cx0_5_6) := (blk_cell K1_15.out 5).trans rfl
 have hfz1_5 := blk_frozen K1_15.out 5
 go_wp2_with fail
 clear hcz0_0 hfz0_0 hcz0_1 hfz0_1 hcz0_2 hfz0_2 hcz0_3 hfz0_3 hcz0_4 hfz0_4 hcz0_5 hfz0_5 hcz1_0 hfz1_0 hcz1_1 hfz1_1 hcz1_2 hfz1_2 hcz1_3 hfz1_3 hcz1_4 hfz1_4 hcz1_5 hfz1_5
 refine (markModel_calls a0_0 a0_1 a0_2 a0_3 a0_4 a0_5 HLa0_3.out HLa0_4.out HLa0_5.out 1 (by omega) w5 w6 (.slice Ax0_3_6 a0_3.length cx0_3_6) (.slice Ax0_4_6 a0_4.length cx0_4_6) (.slice Ax0_5_6 a0_5.length cx0_5_6) Dx0.out w w15 B15.out Fx0_3_15.out Fx0_4_15.out Fx0_5_15.out).mono ?_
 rintro e w16 ⟨rfl, hb, hk⟩
 have z16 := hk.1
 have B16 := Aside0.mk hb
 have K0_16m := Aside0.mk (blk_kept K0_15.out hk (fun h => by rcases h with h | h | h <;> (have h1 := h.1; unfold Btw at h1; omega)))
 clear K0_15
 have K1_16m := Aside0.mk (blk_kept K1_15.out hk (fun h => by rcases h with h | h | h <;> (have h1 := h.1; unfold Btw at h1; omega)))
 clear K1_15
 have Fw0_0_16 := Aside0.mk (Kd.R_kept Fw0_0_15.out hk (fun k h1 h2 => (h2.elim (fun h2 => apart (by omega) k h1 h2.1) (fun h2 => (h2.elim (fun h2 => apart (by omega) k h1 h2.1) (fun h2 => (apart (by omega) k h1 h2.1)))))))
 clear Fw0_0_15
 have Fx1_0_16 := Aside0.mk (Kd.R_kept Fx1_0_15.out hk (fun k h1 h2 => (h2.elim (fun h2 => apart (by omega) k h1 h2.1) (fun h2 => (h2.elim (fun h2 => apart (by omega) k h1 h2.1) (fun h2 => (apart (by omega) k h1 h2.1)))))))
 clear Fx1_0_15
 have Fg0_0_16 := Aside0.mk (Kd.R_kept Fg0_0_15.out hk (fun k h1 h2 => (h2.elim (fun h2 => apart (by omega) k h1 h2.1) (fun h2 => (h2.elim (fun h2 => apart (by omega) k h1 h2.1) (fun h2 => (apart (by omega) k h1 h2.1)))))))
 clear Fg0_0_15
 have hll0 := HLa0_3.out
 have hll1 := HLa0_4.out
 have hll2 := HLa0_5.out
 obtain ⟨m16, em16⟩ : ∃ z : Int, z = 1 + (a0_3.length : Int) + (a0_4.length : Int) + (a0_5.length : Int) := ⟨_, rfl⟩
 rw [← em16]
 have lm16 : 0 ≤ m16 ∧ m16 ≤ 25165825 := by omega
 have dm16 : decide (m16 < 0) = false := decide_eq_false (by omega)
 have Em16 := Aside0.mk em16
 have Lm16 := Aside0.mk lm16
 clear Fx0_3_15
 clear Fx0_4_15
 clear Fx0_5_15
 clear hb hk  hll0 hll1 hll2 em16 lm16
 have hcz0_0 : w16.cell? ⟨w.heap.size, 0, none⟩ = some (.int .i64 a0_0) := (blk_cell K0_16m.out 0).trans rfl
 have hfz0_0 := blk_frozen K0_16m.out 0
 have hcz0_1 : w16.cell? ⟨w.heap.size, 1, none⟩ = some (.int .i64 a0_1) := (blk_cell K0_16m.out 1).trans rfl
 have hfz0_1 := blk_frozen K0_16m.out 1
 have hcz0_2 : w16.cell? ⟨w.heap.size, 2, none⟩ = some (.int .i64 a0_2) := (blk_cell K0_16m.out 2).trans rfl
 have hfz0_2 := blk_frozen K0_16m.out 2
 have hcz0_3 : w16.cell? ⟨w.heap.size, 3, none⟩ = some (.slice Aa0_3 a0_3.length ca0_3) := (blk_cell K0_16m.out 3).trans rfl
 have hfz0_3 := blk_frozen K0_16m.out 3
 have hcz0_4 : w16.cell? ⟨w.heap.size, 4, none⟩ = some (.slice Aa0_4 a0_4.length ca0_4) := (blk_cell K0_16m.out 4).trans rfl
 have hfz0_4 := blk_frozen K0_16m.out 4
 have hcz0_5 : w16.cell? ⟨w.heap.size, 5, none⟩ = some (.slice Aa0_5 a0_5.length ca0_5) := (blk_cell K0_16m.out 5).trans rfl
 have hfz0_5 := blk_frozen K0_16m.out 5
 have hcz1_0 : w16.cell? ⟨w6.heap.size, 0, none⟩ = some (.int .i64 a0_0) := (blk_cell K1_16m.out 0).trans rfl
 have hfz1_0 := blk_frozen K1_16m.out 0
 have hcz1_1 : w16.cell? ⟨w6.heap.size, 1, none⟩ = some (.int .i64 a0_1) := (blk_cell K1_16m.out 1).trans rfl
 have hfz1_1 := blk_frozen K1_16m.out 1
 have hcz1_2 : w16.cell? ⟨w6.heap.size, 2, none⟩ = some (.int .i64 a0_2) := (blk_cell K1_16m.out 2).trans rfl
 have hfz1_2 := blk_frozen K1_16m.out 2
 have hcz1_3 : w16.cell? ⟨w6.heap.size, 3, none⟩ = some (.slice Ax0_3_6 a0_3.length cx0_3_6) := (blk_cell K1_16m.out 3).trans rfl
 have hfz1_3 := blk_frozen K1_16m.out 3
 have hcz1_4 : w16.cell? ⟨w6.heap.size, 4, none⟩ = some (.slice Ax0_4_6 a0_4.length cx0_4_6) := (blk_cell K1_16m.out 4).trans rfl
 have hfz1_4 := blk_frozen K1_16m.out 4
 have hcz1_5 : w16.cell? ⟨w6.heap.size, 5, none⟩ = some (.slice Ax0_5_6 a0_5.length cx0_5_6) := (blk_cell K1_16m.out 5).trans rfl
 have hfz1_5 := blk_frozen K1_16m.out 5
 go_wp2_with fail
 clear hcz0_0 hfz0_0 hcz0_1 hfz0_1 hcz0_2 hfz0_2 hcz0_3 hfz0_3 hcz0_4 hfz0_4 hcz0_5 hfz0_5 hcz1_0 hfz1_0 hcz1_1 hfz1_1 hcz1_2 hfz1_2 hcz1_3 hfz1_3 hcz1_4 hfz1_4 hcz1_5 hfz1_5
 have lk := Lm16.out
 refine (markPartS_calls ta1 (by have := HLta1.out; omega) m16 (by omega) (Btw w7 w8) (.slice Ax1_0_8 ta1.length cx1_0_8) w w16 B16.out Fx1_0_16.out).mono ?_
 rintro e w17 ⟨rfl, ho, hb, hk⟩
 have z17 := hk.1
 have B17 := Aside0.mk hb
 have K0_17m := Aside0.mk (blk_kept K0_16m.out hk (fun h => by unfold Btw at h; omega))
 clear K0_16m
 have K1_17m := Aside0.mk (blk_kept K1_16m.out hk (fun h => by unfold Btw at h; omega))
 clear K1_16m
 have Fw0_0_17 := Aside0.mk (Kd.R_kept Fw0_0_16.out hk (apart (by omega)))
 clear Fw0_0_16
 have Fg0_0_17 := Aside0.mk (Kd.R_kept Fg0_0_16.out hk (apart (by omega)))
 clear Fg0_0_16
 have hll := HLta1.out
 obtain ⟨m17, em17⟩ : ∃ z : Int, z = m16 + 2 * (ta1.length : Int) := ⟨_, rfl⟩
 rw [← em17]
 have lm17 : 0 ≤ m17 ∧ m17 ≤ 33554433 := by omega
 have dm17 : decide (m17 < 0) = false := decide_eq_false (by omega)
 have Em17 := Aside0.mk em17
 have Lm17 := Aside0.mk lm17
 clear Fx1_0_16
 clear hb hk ho hll em17 lm17 lk
 have hcz0_0 : w17.cell? ⟨w.heap.size, 0, none⟩ = some (.int .i64 a0_0) := (blk_cell K0_17m.out 0).trans rfl
 have hfz0_0 := blk_frozen K0_17m.out 0
 have hcz0_1 : w17.cell? ⟨w.heap.size, 1, none⟩ = some (.int .i64 a0_1) := (blk_cell K0_17m.out 1).trans rfl
 have hfz0_1 := blk_frozen K0_17m.out 1
 have hcz0_2 : w17.cell? ⟨w.heap.size, 2, none⟩ = some (.int .i64 a0_2) := (blk_cell K0_17m.out 2).trans rfl
 have hfz0_2 := blk_frozen K0_17m.out 2
 have hcz0_3 : w17.cell? ⟨w.heap.size, 3, none⟩ = some (.slice Aa0_3 a0_3.length ca0_3) := (blk_cell K0_17m.out 3).trans rfl
 have hfz0_3 := blk_frozen K0_17m.out 3
 have hcz0_4 : w17.cell? ⟨w.heap.size, 4, none⟩ = some (.slice Aa0_4 a0_4.length ca0_4) := (blk_cell K0_17m.out 4).trans rfl
 have hfz0_4 := blk_frozen K0_17m.out 4
 have hcz0_5 : w17.cell? ⟨w.heap.size, 5, none⟩ = some (.slice Aa0_5 a0_5.length ca0_5) := (blk_cell K0_17m.out 5).trans rfl
 have hfz0_5 := blk_frozen K0_17m.out 5
 have hcz1_0 : w17.cell? ⟨w6.heap.size, 0, none⟩ = some (.int .i64 a0_0) := (blk_cell K1_17m.out 0).trans rfl
 have hfz1_0 := blk_frozen K1_17m.out 0
 have hcz1_1 : w17.cell? ⟨w6.heap.size, 1, none⟩ = some (.int .i64 a0_1) := (blk_cell K1_17m.out 1).trans rfl
 have hfz1_1 := blk_frozen K1_17m.out 1
 have hcz1_2 : w17.cell? ⟨w6.heap.size, 2, none⟩ = some (.int .i64 a0_2) := (blk_cell K1_17m.out 2).trans rfl
 have hfz1_2 := blk_frozen K1_17m.out 2
 have hcz1_3 : w17.cell? ⟨w6.heap.size, 3, none⟩ = some (.slice Ax0_3_6 a0_3.length cx0_3_6) := (blk_cell K1_17m.out 3).trans rfl
 have hfz1_3 := blk_frozen K1_17m.out 3
 have hcz1_4 : w17.cell? ⟨w6.heap.size, 4, none⟩ = some (.slice Ax0_4_6 a0_4.length cx0_4_6) := (blk_cell K1_17m.out 4).trans rfl
 have hfz1_4 := blk_frozen K1_17m.out 4
 have hcz1_5 : w17.cell? ⟨w6.heap.size, 5, none⟩ = some (.slice Ax0_5_6 a0_5.length cx0_5_6) := (blk_cell K1_17m.out 5).trans rfl
 have hfz1_5 := blk_frozen K1_17m.out 5
 go_wp2_with fail
 clear hcz0_0 hfz0_0 hcz0_1 hfz0_1 hcz0_2 hfz0_2 hcz0_3 hfz0_3 hcz0_4 hfz0_4 hcz0_5 hfz0_5 hcz1_0 hfz1_0 hcz1_1 hfz1_1 hcz1_2 hfz1_2 hcz1_3 hfz1_3 hcz1_4 hfz1_4 hcz1_5 hfz1_5
 refine (eqIntS_calls g0 (maxLen_val (by have := HLg0.out; omega)) Ag0_0_9 Aw0_0_5 cg0_0_9 cw0_0_5 w17 (readsR Fg0_0_17.out).2.2 (readsR Fg0_0_17.out).2.1 (readsR Fw0_0_17.out).2.2 (readsR Fw0_0_17.out).2.1).mono ?_
 rintro e w18 ⟨rfl, hb⟩
 have B18 := Aside0.mk (below_step B17.out hb)
 have z18 := hb.size
 have K0_18 := Aside0.mk (blk_below K0_17m.out hb)
 clear K0_17m
 have K1_18 := Aside0.mk (blk_below K1_17m.out hb)
 clear K1_17m
 have Fw0_0_18 := Aside0.mk (Kd.R_below Fw0_0_17.out hb)
 clear Fw0_0_17
 have Fg0_0_18 := Aside0.mk (Kd.R_below Fg0_0_17.out hb)
 clear Fg0_0_17
 clear hb
 have hcz0_0 : w18.cell? ⟨w.heap.size, 0, none⟩ = some (.int .i64 a0_0) := (blk_cell K0_18.out 0).trans rfl
 have hfz0_0 := blk_frozen K0_18.out 0
 have hcz0_1 : w18.cell? ⟨w.heap.size, 1, none⟩ = some (.int .i64 a0_1) := (blk_cell K0_18.out 1).trans rfl
 have hfz0_1 := blk_frozen K0_18.out 1
 have hcz0_2 : w18.cell? ⟨w.heap.size, 2, none⟩ = some (.int .i64 a0_2) := (blk_cell K0_18.out 2).trans rfl
 have hfz0_2 := blk_frozen K0_18.out 2
 have hcz0_3 : w18.cell? ⟨w.heap.size, 3, none⟩ = some (.slice Aa0_3 a0_3.length ca0_3) := (blk_cell K0_18.out 3).trans rfl
 have hfz0_3 := blk_frozen K0_18.out 3
 have hcz0_4 : w18.cell? ⟨w.heap.size, 4, none⟩ = some (.slice Aa0_4 a0_4.length ca0_4) := (blk_cell K0_18.out 4).trans rfl
 have hfz0_4 := blk_frozen K0_18.out 4
 have hcz0_5 : w18.cell? ⟨w.heap.size, 5, none⟩ = some (.slice Aa0_5 a0_5.length ca0_5) := (blk_cell K0_18.out 5).trans rfl
 have hfz0_5 := blk_frozen K0_18.out 5
 have hcz1_0 : w18.cell? ⟨w6.heap.size, 0, none⟩ = some (.int .i64 a0_0) := (blk_cell K1_18.out 0).trans rfl
 have hfz1_0 := blk_frozen K1_18.out 0
 have hcz1_1 : w18.cell? ⟨w6.heap.size, 1, none⟩ = some (.int .i64 a0_1) := (blk_cell K1_18.out 1).trans rfl
 have hfz1_1 := blk_frozen K1_18.out 1
 have hcz1_2 : w18.cell? ⟨w6.heap.size, 2, none⟩ = some (.int .i64 a0_2) := (blk_cell K1_18.out 2).trans rfl
 have hfz1_2 := blk_frozen K1_18.out 2
 have hcz1_3 : w18.cell? ⟨w6.heap.size, 3, none⟩ = some (.slice Ax0_3_6 a0_3.length cx0_3_6) := (blk_cell K1_18.out 3).trans rfl
 have hfz1_3 := blk_frozen K1_18.out 3
 have hcz1_4 : w18.cell? ⟨w6.heap.size, 4, none⟩ = some (.slice Ax0_4_6 a0_4.length cx0_4_6) := (blk_cell K1_18.out 4).trans rfl
 have hfz1_4 := blk_frozen K1_18.out 4
 have hcz1_5 : w18.cell? ⟨w6.heap.size, 5, none⟩ = some (.slice Ax0_5_6 a0_5.length cx0_5_6) := (blk_cell K1_18.out 5).trans rfl
 have hfz1_5 := blk_frozen K1_18.out 5
 go_wp2_with fail
 clear hcz0_0 hfz0_0 hcz0_1 hfz0_1 hcz0_2 hfz0_2 hcz0_3 hfz0_3 hcz0_4 hfz0_4 hcz0_5 hfz0_5 hcz1_0 hfz1_0 hcz1_1 hfz1_1 hcz1_2 hfz1_2 hcz1_3 hfz1_3 hcz1_4 hfz1_4 hcz1_5 hfz1_5
 refine (markIntS_calls g0 (by have := HLg0.out; omega) 1 (by omega) (Btw w8 w9) (.slice Ag0_0_9 g0.length cg0_0_9) w w18 B18.out Fg0_0_18.out).mono ?_
 rintro e w19 ⟨rfl, ho, hb, hk⟩
 have z19 := hk.1
 have B19 := Aside0.mk hb
 have K0_19m := Aside0.mk (blk_kept K0_18.out hk (fun h => by unfold Btw at h; omega))
 clear K0_18
 have K1_19m := Aside0.mk (blk_kept K1_18.out hk (fun h => by unfold Btw at h; omega))
 clear K1_18
 have Fw0_0_19 := Aside0.mk (Kd.R_kept Fw0_0_18.out hk (apart (by omega)))
 clear Fw0_0_18
 have hll := HLg0.out
 obtain ⟨m19, em19⟩ : ∃ z : Int, z = 1 + (g0.length : Int) := ⟨_, rfl⟩
 rw [← em19]
 have lm19 : 0 ≤ m19 ∧ m19 ≤ 8388609 := by omega
 have dm19 : decide (m19 < 0) = false := decide_eq_false (by omega)
 have Em19 := Aside0.mk em19
 have Lm19 := Aside0.mk lm19
 have Fg0_0_19 := Aside0.mk ho
 clear Fg0_0_18
 clear hb hk ho hll em19 lm19
 have hcz0_0 : w19.cell? ⟨w.heap.size, 0, none⟩ = some (.int .i64 a0_0) := (blk_cell K0_19m.out 0).trans rfl
 have hfz0_0 := blk_frozen K0_19m.out 0
 have hcz0_1 : w19.cell? ⟨w.heap.size, 1, none⟩ = some (.int .i64 a0_1) := (blk_cell K0_19m.out 1).trans rfl
 have hfz0_1 := blk_frozen K0_19m.out 1
 have hcz0_2 : w19.cell? ⟨w.heap.size, 2, none⟩ = some (.int .i64 a0_2) := (blk_cell K0_19m.out 2).trans rfl
 have hfz0_2 := blk_frozen K0_19m.out 2
 have hcz0_3 : w19.cell? ⟨w.heap.size, 3, none⟩ = some (.slice Aa0_3 a0_3.length ca0_3) := (blk_cell K0_19m.out 3).trans rfl
 have hfz0_3 := blk_frozen K0_19m.out 3
 have hcz0_4 : w19.cell? ⟨w.heap.size, 4, none⟩ = some (.slice Aa0_4 a0_4.length ca0_4) := (blk_cell K0_19m.out 4).trans rfl
 have hfz0_4 := blk_frozen K0_19m.out 4
 have hcz0_5 : w19.cell? ⟨w.heap.size, 5, none⟩ = some (.slice Aa0_5 a0_5.length ca0_5) := (blk_cell K0_19m.out 5).trans rfl
 have hfz0_5 := blk_frozen K0_19m.out 5
 have hcz1_0 : w19.cell? ⟨w6.heap.size, 0, none⟩ = some (.int .i64 a0_0) := (blk_cell K1_19m.out 0).trans rfl
 have hfz1_0 := blk_frozen K1_19m.out 0
 have hcz1_1 : w19.cell? ⟨w6.heap.size, 1, none⟩ = some (.int .i64 a0_1) := (blk_cell K1_19m.out 1).trans rfl
 have hfz1_1 := blk_frozen K1_19m.out 1
 have hcz1_2 : w19.cell? ⟨w6.heap.size, 2, none⟩ = some (.int .i64 a0_2) := (blk_cell K1_19m.out 2).trans rfl
 have hfz1_2 := blk_frozen K1_19m.out 2
 have hcz1_3 : w19.cell? ⟨w6.heap.size, 3, none⟩ = some (.slice Ax0_3_6 a0_3.length cx0_3_6) := (blk_cell K1_19m.out 3).trans rfl
 have hfz1_3 := blk_frozen K1_19m.out 3
 have hcz1_4 : w19.cell? ⟨w6.heap.size, 4, none⟩ = some (.slice Ax0_4_6 a0_4.length cx0_4_6) := (blk_cell K1_19m.out 4).trans rfl
 have hfz1_4 := blk_frozen K1_19m.out 4
 have hcz1_5 : w19.cell? ⟨w6.heap.size, 5, none⟩ = some (.slice Ax0_5_6 a0_5.length cx0_5_6) := (blk_cell K1_19m.out 5).trans rfl
 have hfz1_5 := blk_frozen K1_19m.out 5
 go_wp2_with fail
 clear hcz0_0 hfz0_0 hcz0_1 hfz0_1 hcz0_2 hfz0_2 hcz0_3 hfz0_3 hcz0_4 hfz0_4 hcz0_5 hfz0_5 hcz1_0 hfz1_0 hcz1_1 hfz1_1 hcz1_2 hfz1_2 hcz1_3 hfz1_3 hcz1_4 hfz1_4 hcz1_5 hfz1_5
 refine (heldIntS_calls g0.length (by have := HLg0.out; omega) 1 (by omega) Ag0_0_9 cg0_0_9 w19 (by have h := (readsR Fg0_0_19.out).2.2; rwa [Com.markRow_len] at h) (by have h := (readsR Fg0_0_19.out).2.1; rwa [Com.markRow_len] at h)).mono ?_
 rintro e w20 ⟨rfl, hb⟩
 have B20 := Aside0.mk (below_step B19.out hb)
 have z20 := hb.size
 have K0_20 := Aside0.mk (blk_below K0_19m.out hb)
 clear K0_19m
 have K1_20 := Aside0.mk (blk_below K1_19m.out hb)
 clear K1_19m
 have Fw0_0_20 := Aside0.mk (Kd.R_below Fw0_0_19.out hb)
 clear Fw0_0_19
 have Fg0_0_20 := Aside0.mk (Kd.R_below Fg0_0_19.out hb)
 clear Fg0_0_19
 rw [← Em19.out]
 clear hb
 have hcz0_0 : w20.cell? ⟨w.heap.size, 0, none⟩ = some (.int .i64 a0_0) := (blk_cell K0_20.out 0).trans rfl
 have hfz0_0 := blk_frozen K0_20.out 0
 have hcz0_1 : w20.cell? ⟨w.heap.size, 1, none⟩ = some (.int .i64 a0_1) := (blk_cell K0_20.out 1).trans rfl
 have hfz0_1 := blk_frozen K0_20.out 1
 have hcz0_2 : w20.cell? ⟨w.heap.size, 2, none⟩ = some (.int .i64 a0_2) := (blk_cell K0_20.out 2).trans rfl
 have hfz0_2 := blk_frozen K0_20.out 2
 have hcz0_3 : w20.cell? ⟨w.heap.size, 3, none⟩ = some (.slice Aa0_3 a0_3.length ca0_3) := (blk_cell K0_20.out 3).trans rfl
 have hfz0_3 := blk_frozen K0_20.out 3
 have hcz0_4 : w20.cell? ⟨w.heap.size, 4, none⟩ = some (.slice Aa0_4 a0_4.length ca0_4) := (blk_cell K0_20.out 4).trans rfl
 have hfz0_4 := blk_frozen K0_20.out 4
 have hcz0_5 : w20.cell? ⟨w.heap.size, 5, none⟩ = some (.slice Aa0_5 a0_5.length ca0_5) := (blk_cell K0_20.out 5).trans rfl
 have hfz0_5 := blk_frozen K0_20.out 5
 have hcz1_0 : w20.cell? ⟨w6.heap.size, 0, none⟩ = some (.int .i64 a0_0) := (blk_cell K1_20.out 0).trans rfl
 have hfz1_0 := blk_frozen K1_20.out 0
 have hcz1_1 : w20.cell? ⟨w6.heap.size, 1, none⟩ = some (.int .i64 a0_1) := (blk_cell K1_20.out 1).trans rfl
 have hfz1_1 := blk_frozen K1_20.out 1
 have hcz1_2 : w20.cell? ⟨w6.heap.size, 2, none⟩ = some (.int .i64 a0_2) := (blk_cell K1_20.out 2).trans rfl
 have hfz1_2 := blk_frozen K1_20.out 2
 have hcz1_3 : w20.cell? ⟨w6.heap.size, 3, none⟩ = some (.slice Ax0_3_6 a0_3.length cx0_3_6) := (blk_cell K1_20.out 3).trans rfl
 have hfz1_3 := blk_frozen K1_20.out 3
 have hcz1_4 : w20.cell? ⟨w6.heap.size, 4, none⟩ = some (.slice Ax0_4_6 a0_4.length cx0_4_6) := (blk_cell K1_20.out 4).trans rfl
 have hfz1_4 := blk_frozen K1_20.out 4
 have hcz1_5 : w20.cell? ⟨w6.heap.size, 5, none⟩ = some (.slice Ax0_5_6 a0_5.length cx0_5_6) := (blk_cell K1_20.out 5).trans rfl
 have hfz1_5 := blk_frozen K1_20.out 5
 go_wp2_with fail
 clear hcz0_0 hfz0_0 hcz0_1 hfz0_1 hcz0_2 hfz0_2 hcz0_3 hfz0_3 hcz0_4 hfz0_4 hcz0_5 hfz0_5 hcz1_0 hfz1_0 hcz1_1 hfz1_1 hcz1_2 hfz1_2 hcz1_3 hfz1_3 hcz1_4 hfz1_4 hcz1_5 hfz1_5
 refine (toModel_calls a0_0 a0_1 a0_2 a0_3 HLa0_3.out a0_4 HLa0_4.out a0_5 HLa0_5.out Aa0_3 ca0_3 Aa0_4 ca0_4 Aa0_5 ca0_5 w20 (Kd.C_below HRa0_3.out B20.out) HCa0_3.out (Kd.C_below HRa0_4.out B20.out) HCa0_4.out (Kd.C_below HRa0_5.out B20.out) HCa0_5.out).mono ?_
 rintro e w21 ⟨v0, v1, v2, rfl, ho0, ho1, ho2, hne, hb⟩
 have B21 := Aside0.mk (below_step B20.out hb)
 have z21 := hb.size
 obtain ⟨At0_3_21, ct0_3_21, rfl⟩ := Kd.R_slice ho0
 have Ft0_3_21 := Aside0.mk (znR (w := w) rfl ho0 (by omega))
 clear ho0
 obtain ⟨At0_4_21, ct0_4_21, rfl⟩ := Kd.R_slice ho1
 have Ft0_4_21 := Aside0.mk (znR (w := w) rfl ho1 (by omega))
 clear ho1
 obtain ⟨At0_5_21, ct0_5_21, rfl⟩ := Kd.R_slice ho2
 have Ft0_5_21 := Aside0.mk (znR (w := w) rfl ho2 (by omega))
 clear ho2
 have Dt0 := Aside0.mk hne
 clear hne
 have K0_21 := Aside0.mk (blk_below K0_20.out hb)
 clear K0_20
 have K1_21 := Aside0.mk (blk_below K1_20.out hb)
 clear K1_20
 have Fw0_0_21 := Aside0.mk (Kd.R_below Fw0_0_20.out hb)
 clear Fw0_0_20
 have Fg0_0_21 := Aside0.mk (Kd.R_below Fg0_0_20.out hb)
 clear Fg0_0_20
 clear hb
 have hcz0_0 : w21.cell? ⟨w.heap.size, 0, none⟩ = some (.int .i64 a0_0) := (blk_cell K0_21.out 0).trans rfl
 have hfz0_0 := blk_frozen K0_21.out 0
 have hcz0_1 : w21.cell? ⟨w.heap.size, 1, none⟩ = some (.int .i64 a0_1) := (blk_cell K0_21.out 1).trans rfl
 have hfz0_1 := blk_frozen K0_21.out 1
 have hcz0_2 : w21.cell? ⟨w.heap.size, 2, none⟩ = some (.int .i64 a0_2) := (blk_cell K0_21.out 2).trans rfl
 have hfz0_2 := blk_frozen K0_21.out 2
 have hcz0_3 : w21.cell? ⟨w.heap.size, 3, none⟩ = some (.slice Aa0_3 a0_3.length ca0_3) := (blk_cell K0_21.out 3).trans rfl
 have hfz0_3 := blk_frozen K0_21.out 3
 have hcz0_4 : w21.cell? ⟨w.heap.size, 4, none⟩ = some (.slice Aa0_4 a0_4.length ca0_4) := (blk_cell K0_21.out 4).trans rfl
 have hfz0_4 := blk_frozen K0_21.out 4
 have hcz0_5 : w21.cell? ⟨w.heap.size, 5, none⟩ = some (.slice Aa0_5 a0_5.length ca0_5) := (blk_cell K0_21.out 5).trans rfl
 have hfz0_5 := blk_frozen K0_21.out 5
 have hcz1_0 : w21.cell? ⟨w6.heap.size, 0, none⟩ = some (.int .i64 a0_0) := (blk_cell K1_21.out 0).trans rfl
 have hfz1_0 := blk_frozen K1_21.out 0
 have hcz1_1 : w21.cell? ⟨w6.heap.size, 1, none⟩ = some (.int .i64 a0_1) := (blk_cell K1_21.out 1).trans rfl
 have hfz1_1 := blk_frozen K1_21.out 1
 have hcz1_2 : w21.cell? ⟨w6.heap.size, 2, none⟩ = some (.int .i64 a0_2) := (blk_cell K1_21.out 2).trans rfl
 have hfz1_2 := blk_frozen K1_21.out 2
 have hcz1_3 : w21.cell? ⟨w6.heap.size, 3, none⟩ = some (.slice Ax0_3_6 a0_3.length cx0_3_6) := (blk_cell K1_21.out 3).trans rfl
 have hfz1_3 := blk_frozen K1_21.out 3
 have hcz1_4 : w21.cell? ⟨w6.heap.size, 4, none⟩ = some (.slice Ax0_4_6 a0_4.length cx0_4_6) := (blk_cell K1_21.out 4).trans rfl
 have hfz1_4 := blk_frozen K1_21.out 4
 have hcz1_5 : w21.cell? ⟨w6.heap.size, 5, none⟩ = some (.slice Ax0_5_6 a0_5.length cx0_5_6) := (blk_cell K1_21.out 5).trans rfl
 have hfz1_5 := blk_frozen K1_21.out 5
 go_wp2_with fail
 clear hcz0_0 hfz0_0 hcz0_1 hfz0_1 hcz0_2 hfz0_2 hcz0_3 hfz0_3 hcz0_4 hfz0_4 hcz0_5 hfz0_5 hcz1_0 hfz1_0 hcz1_1 hfz1_1 hcz1_2 hfz1_2 hcz1_3 hfz1_3 hcz1_4 hfz1_4 hcz1_5 hfz1_5
 refine (toPartS_calls a1 ta1 HTa1.out HLta1.out Aa1 ca1 w21 (Kd.C_below HRa1.out B21.out) HCa1.out).mono ?_
 rintro e w22 ⟨v, rfl, ho, hb⟩
 have B22 := Aside0.mk (below_step B21.out hb)
 have z22 := hb.size
 obtain ⟨At1_0_22, ct1_0_22, rfl⟩ := Kd.R_slice ho
 have Ft1_0_22 := Aside0.mk (ivR (w := w) ho (by omega))
 clear ho
 have K0_22 := Aside0.mk (blk_below K0_21.out hb)
 clear K0_21
 have K1_22 := Aside0.mk (blk_below K1_21.out hb)
 clear K1_21
 have Fw0_0_22 := Aside0.mk (Kd.R_below Fw0_0_21.out hb)
 clear Fw0_0_21
 have Fg0_0_22 := Aside0.mk (Kd.R_below Fg0_0_21.out hb)
 clear Fg0_0_21
 have Ft0_3_22 := Aside0.mk (Kd.R_below Ft0_3_21.out hb)
 clear Ft0_3_21
 have Ft0_4_22 := Aside0.mk (Kd.R_below Ft0_4_21.out hb)
 clear Ft0_4_21
 have Ft0_5_22 := Aside0.mk (Kd.R_below Ft0_5_21.out hb)
 clear Ft0_5_21
 clear hb
 have hcz0_0 : w22.cell? ⟨w.heap.size, 0, none⟩ = some (.int .i64 a0_0) := (blk_cell K0_22.out 0).trans rfl
 have hfz0_0 := blk_frozen K0_22.out 0
 have hcz0_1 : w22.cell? ⟨w.heap.size, 1, none⟩ = some (.int .i64 a0_1) := (blk_cell K0_22.out 1).trans rfl
 have hfz0_1 := blk_frozen K0_22.out 1
 have hcz0_2 : w22.cell? ⟨w.heap.size, 2, none⟩ = some (.int .i64 a0_2) := (blk_cell K0_22.out 2).trans rfl
 have hfz0_2 := blk_frozen K0_22.out 2
 have hcz0_3 : w22.cell? ⟨w.heap.size, 3, none⟩ = some (.slice Aa0_3 a0_3.length ca0_3) := (blk_cell K0_22.out 3).trans rfl
 have hfz0_3 := blk_frozen K0_22.out 3
 have hcz0_4 : w22.cell? ⟨w.heap.size, 4, none⟩ = some (.slice Aa0_4 a0_4.length ca0_4) := (blk_cell K0_22.out 4).trans rfl
 have hfz0_4 := blk_frozen K0_22.out 4
 have hcz0_5 : w22.cell? ⟨w.heap.size, 5, none⟩ = some (.slice Aa0_5 a0_5.length ca0_5) := (blk_cell K0_22.out 5).trans rfl
 have hfz0_5 := blk_frozen K0_22.out 5
 have hcz1_0 : w22.cell? ⟨w6.heap.size, 0, none⟩ = some (.int .i64 a0_0) := (blk_cell K1_22.out 0).trans rfl
 have hfz1_0 := blk_frozen K1_22.out 0
 have hcz1_1 : w22.cell? ⟨w6.heap.size, 1, none⟩ = some (.int .i64 a0_1) := (blk_cell K1_22.out 1).trans rfl
 have hfz1_1 := blk_frozen K1_22.out 1
 have hcz1_2 : w22.cell? ⟨w6.heap.size, 2, none⟩ = some (.int .i64 a0_2) := (blk_cell K1_22.out 2).trans rfl
 have hfz1_2 := blk_frozen K1_22.out 2
 have hcz1_3 : w22.cell? ⟨w6.heap.size, 3, none⟩ = some (.slice Ax0_3_6 a0_3.length cx0_3_6) := (blk_cell K1_22.out 3).trans rfl
 have hfz1_3 := blk_frozen K1_22.out 3
 have hcz1_4 : w22.cell? ⟨w6.heap.size, 4, none⟩ = some (.slice Ax0_4_6 a0_4.length cx0_4_6) := (blk_cell K1_22.out 4).trans rfl
 have hfz1_4 := blk_frozen K1_22.out 4
 have hcz1_5 : w22.cell? ⟨w6.heap.size, 5, none⟩ = some (.slice Ax0_5_6 a0_5.length cx0_5_6) := (blk_cell K1_22.out 5).trans rfl
 have hfz1_5 := blk_frozen K1_22.out 5
 go_wp2_with fail
 clear hcz0_0 hfz0_0 hcz0_1 hfz0_1 hcz0_2 hfz0_2 hcz0_3 hfz0_3 hcz0_4 hfz0_4 hcz0_5 hfz0_5 hcz1_0 hfz1_0 hcz1_1 hfz1_1 hcz1_2 hfz1_2 hcz1_3 hfz1_3 hcz1_4 hfz1_4 hcz1_5 hfz1_5
 refine (OwnRuleValues.own_impl a0_0 a0_1 a0_2 At0_3_21 ct0_3_21 a0_3 At0_4_21 ct0_4_21 a0_4 At0_5_21 ct0_5_21 a0_5 At1_0_22 ct1_0_22 ta1 g0 g1 w22 (readsR Ft0_3_22.out).2.2 (readsR Ft0_3_22.out).2.1 (readsR Ft0_4_22.out).2.2 (readsR Ft0_4_22.out).2.1 (readsR Ft0_5_22.out).2.2 (readsR Ft0_5_22.out).2.1 (readsR Ft1_0_22.out).2.2 (readsR Ft1_0_22.out).2.1 HLa0_3.out HLa0_4.out HLa0_5.out HLta1.out Hi.out).mono ?_
 rintro e w23 ⟨v, rfl, ho, hb⟩
 have ho := Kd.R_mono ho (ok' := fun _ => True) (fun _ _ => trivial)
 have B23 := Aside0.mk (below_step B22.out hb)
 have z23 := hb.size
 obtain ⟨Ah0_0_23, ch0_0_23, rfl⟩ := Kd.R_slice ho
 have Fh0_0_23 := Aside0.mk (ivR (w := w) ho (by omega))
 clear ho
 have K0_23 := Aside0.mk (blk_below K0_22.out hb)
 clear K0_22
 have K1_23 := Aside0.mk (blk_below K1_22.out hb)
 clear K1_22
 have Fw0_0_23 := Aside0.mk (Kd.R_below Fw0_0_22.out hb)
 clear Fw0_0_22
 have Fg0_0_23 := Aside0.mk (Kd.R_below Fg0_0_22.out hb)
 clear Fg0_0_22
 have Ft0_3_23 := Aside0.mk (Kd.R_below Ft0_3_22.out hb)
 clear Ft0_3_22
 have Ft0_4_23 := Aside0.mk (Kd.R_below Ft0_4_22.out hb)
 clear Ft0_4_22
 have Ft0_5_23 := Aside0.mk (Kd.R_below Ft0_5_22.out hb)
 clear Ft0_5_22
 have Ft1_0_23 := Aside0.mk (Kd.R_below Ft1_0_22.out hb)
 clear Ft1_0_22
 clear hb
 have hcz0_0 : w23.cell? ⟨w.heap.size, 0, none⟩ = some (.int .i64 a0_0) := (blk_cell K0_23.out 0).trans rfl
 have hfz0_0 := blk_frozen K0_23.out 0
 have hcz0_1 : w23.cell? ⟨w.heap.size, 1, none⟩ = some (.int .i64 a0_1) := (blk_cell K0_23.out 1).trans rfl
 have hfz0_1 := blk_frozen K0_23.out 1
 have hcz0_2 : w23.cell? ⟨w.heap.size, 2, none⟩ = some (.int .i64 a0_2) := (blk_cell K0_23.out 2).trans rfl
 have hfz0_2 := blk_frozen K0_23.out 2
 have hcz0_3 : w23.cell? ⟨w.heap.size, 3, none⟩ = some (.slice Aa0_3 a0_3.length ca0_3) := (blk_cell K0_23.out 3).trans rfl
 have hfz0_3 := blk_frozen K0_23.out 3
 have hcz0_4 : w23.cell? ⟨w.heap.size, 4, none⟩ = some (.slice Aa0_4 a0_4.length ca0_4) := (blk_cell K0_23.out 4).trans rfl
 have hfz0_4 := blk_frozen K0_23.out 4
 have hcz0_5 : w23.cell? ⟨w.heap.size, 5, none⟩ = some (.slice Aa0_5 a0_5.length ca0_5) := (blk_cell K0_23.out 5).trans rfl
 have hfz0_5 := blk_frozen K0_23.out 5
 have hcz1_0 : w23.cell? ⟨w6.heap.size, 0, none⟩ = some (.int .i64 a0_0) := (blk_cell K1_23.out 0).trans rfl
 have hfz1_0 := blk_frozen K1_23.out 0
 have hcz1_1 : w23.cell? ⟨w6.heap.size, 1, none⟩ = some (.int .i64 a0_1) := (blk_cell K1_23.out 1).trans rfl
 have hfz1_1 := blk_frozen K1_23.out 1
 have hcz1_2 : w23.cell? ⟨w6.heap.size, 2, none⟩ = some (.int .i64 a0_2) := (blk_cell K1_23.out 2).trans rfl
 have hfz1_2 := blk_frozen K1_23.out 2
 have hcz1_3 : w23.cell? ⟨w6.heap.size, 3, none⟩ = some (.slice Ax0_3_6 a0_3.length cx0_3_6) := (blk_cell K1_23.out 3).trans rfl
 have hfz1_3 := blk_frozen K1_23.out 3
 have hcz1_4 : w23.cell? ⟨w6.heap.size, 4, none⟩ = some (.slice Ax0_4_6 a0_4.length cx0_4_6) := (blk_cell K1_23.out 4).trans rfl
 have hfz1_4 := blk_frozen K1_23.out 4
 have hcz1_5 : w23.cell? ⟨w6.heap.size, 5, none⟩ = some (.slice Ax0_5_6 a0_5.length cx0_5_6) := (blk_cell K1_23.out 5).trans rfl
 have hfz1_5 := blk_frozen K1_23.out 5
 go_wp2_with fail
 clear hcz0_0 hfz0_0 hcz0_1 hfz0_1 hcz0_2 hfz0_2 hcz0_3 hfz0_3 hcz0_4 hfz0_4 hcz0_5 hfz0_5 hcz1_0 hfz1_0 hcz1_1 hfz1_1 hcz1_2 hfz1_2 hcz1_3 hfz1_3 hcz1_4 hfz1_4 hcz1_5 hfz1_5
 refine (eqIntS_calls g0 (maxLen_val (by have := HLg0.out; omega)) Ah0_0_23 Aw0_0_5 ch0_0_23 cw0_0_5 w23 (readsR Fh0_0_23.out).2.2 (readsR Fh0_0_23.out).2.1 (readsR Fw0_0_23.out).2.2 (readsR Fw0_0_23.out).2.1).mono ?_
 rintro e w24 ⟨rfl, hb⟩
 have B24 := Aside0.mk (below_step B23.out hb)
 have z24 := hb.size
 have K0_24 := Aside0.mk (blk_below K0_23.out hb)
 clear K0_23
 have K1_24 := Aside0.mk (blk_below K1_23.out hb)
 clear K1_23
 have Fw0_0_24 := Aside0.mk (Kd.R_below Fw0_0_23.out hb)
 clear Fw0_0_23
 have Fg0_0_24 := Aside0.mk (Kd.R_below Fg0_0_23.out hb)
 clear Fg0_0_23
 have Fh0_0_24 := Aside0.mk (Kd.R_below Fh0_0_23.out hb)
 clear Fh0_0_23
 clear hb
 have hcz0_0 : w24.cell? ⟨w.heap.size, 0, none⟩ = some (.int .i64 a0_0) := (blk_cell K0_24.out 0).trans rfl
 have hfz0_0 := blk_frozen K0_24.out 0
 have hcz0_1 : w24.cell? ⟨w.heap.size, 1, none⟩ = some (.int .i64 a0_1) := (blk_cell K0_24.out 1).trans rfl
 have hfz0_1 := blk_frozen K0_24.out 1
 have hcz0_2 : w24.cell? ⟨w.heap.size, 2, none⟩ = some (.int .i64 a0_2) := (blk_cell K0_24.out 2).trans rfl
 have hfz0_2 := blk_frozen K0_24.out 2
 have hcz0_3 : w24.cell? ⟨w.heap.size, 3, none⟩ = some (.slice Aa0_3 a0_3.length ca0_3) := (blk_cell K0_24.out 3).trans rfl
 have hfz0_3 := blk_frozen K0_24.out 3
 have hcz0_4 : w24.cell? ⟨w.heap.size, 4, none⟩ = some (.slice Aa0_4 a0_4.length ca0_4) := (blk_cell K0_24.out 4).trans rfl
 have hfz0_4 := blk_frozen K0_24.out 4
 have hcz0_5 : w24.cell? ⟨w.heap.size, 5, none⟩ = some (.slice Aa0_5 a0_5.length ca0_5) := (blk_cell K0_24.out 5).trans rfl
 have hfz0_5 := blk_frozen K0_24.out 5
 have hcz1_0 : w24.cell? ⟨w6.heap.size, 0, none⟩ = some (.int .i64 a0_0) := (blk_cell K1_24.out 0).trans rfl
 have hfz1_0 := blk_frozen K1_24.out 0
 have hcz1_1 : w24.cell? ⟨w6.heap.size, 1, none⟩ = some (.int .i64 a0_1) := (blk_cell K1_24.out 1).trans rfl
 have hfz1_1 := blk_frozen K1_24.out 1
 have hcz1_2 : w24.cell? ⟨w6.heap.size, 2, none⟩ = some (.int .i64 a0_2) := (blk_cell K1_24.out 2).trans rfl
 have hfz1_2 := blk_frozen K1_24.out 2
 have hcz1_3 : w24.cell? ⟨w6.heap.size, 3, none⟩ = some (.slice Ax0_3_6 a0_3.length cx0_3_6) := (blk_cell K1_24.out 3).trans rfl
 have hfz1_3 := blk_frozen K1_24.out 3
 have hcz1_4 : w24.cell? ⟨w6.heap.size, 4, none⟩ = some (.slice Ax0_4_6 a0_4.length cx0_4_6) := (blk_cell K1_24.out 4).trans rfl
 have hfz1_4 := blk_frozen K1_24.out 4
 have hcz1_5 : w24.cell? ⟨w6.heap.size, 5, none⟩ = some (.slice Ax0_5_6 a0_5.length cx0_5_6) := (blk_cell K1_24.out 5).trans rfl
 have hfz1_5 := blk_frozen K1_24.out 5
 go_wp2_with fail
 clear hcz0_0 hfz0_0 hcz0_1 hfz0_1 hcz0_2 hfz0_2 hcz0_3 hfz0_3 hcz0_4 hfz0_4 hcz0_5 hfz0_5 hcz1_0 hfz1_0 hcz1_1 hfz1_1 hcz1_2 hfz1_2 hcz1_3 hfz1_3 hcz1_4 hfz1_4 hcz1_5 hfz1_5
 refine (heldIntS_calls g0.length (by have := HLg0.out; omega) 1 (by omega) Ag0_0_9 cg0_0_9 w24 (by have h := (readsR Fg0_0_24.out).2.2; rwa [Com.markRow_len] at h) (by have h := (readsR Fg0_0_24.out).2.1; rwa [Com.markRow_len] at h)).mono ?_
 rintro e w25 ⟨rfl, hb⟩
 have B25 := Aside0.mk (below_step B24.out hb)
 have z25 := hb.size
 have K0_25 := Aside0.mk (blk_below K0_24.out hb)
 clear K0_24
 have K1_25 := Aside0.mk (blk_below K1_24.out hb)
 clear K1_24
 have Fw0_0_25 := Aside0.mk (Kd.R_below Fw0_0_24.out hb)
 clear Fw0_0_24
 have Fg0_0_25 := Aside0.mk (Kd.R_below Fg0_0_24.out hb)
 clear Fg0_0_24
 have Fh0_0_25 := Aside0.mk (Kd.R_below Fh0_0_24.out hb)
 clear Fh0_0_24
 rw [← Em19.out]
 clear hb
 have hcz0_0 : w25.cell? ⟨w.heap.size, 0, none⟩ = some (.int .i64 a0_0) := (blk_cell K0_25.out 0).trans rfl
 have hfz0_0 := blk_frozen K0_25.out 0
 have hcz0_1 : w25.cell? ⟨w.heap.size, 1, none⟩ = some (.int .i64 a0_1) := (blk_cell K0_25.out 1).trans rfl
 have hfz0_1 := blk_frozen K0_25.out 1
 have hcz0_2 : w25.cell? ⟨w.heap.size, 2, none⟩ = some (.int .i64 a0_2) := (blk_cell K0_25.out 2).trans rfl
 have hfz0_2 := blk_frozen K0_25.out 2
 have hcz0_3 : w25.cell? ⟨w.heap.size, 3, none⟩ = some (.slice Aa0_3 a0_3.length ca0_3) := (blk_cell K0_25.out 3).trans rfl
 have hfz0_3 := blk_frozen K0_25.out 3
 have hcz0_4 : w25.cell? ⟨w.heap.size, 4, none⟩ = some (.slice Aa0_4 a0_4.length ca0_4) := (blk_cell K0_25.out 4).trans rfl
 have hfz0_4 := blk_frozen K0_25.out 4
 have hcz0_5 : w25.cell? ⟨w.heap.size, 5, none⟩ = some (.slice Aa0_5 a0_5.length ca0_5) := (blk_cell K0_25.out 5).trans rfl
 have hfz0_5 := blk_frozen K0_25.out 5
 have hcz1_0 : w25.cell? ⟨w6.heap.size, 0, none⟩ = some (.int .i64 a0_0) := (blk_cell K1_25.out 0).trans rfl
 have hfz1_0 := blk_frozen K1_25.out 0
 have hcz1_1 : w25.cell? ⟨w6.heap.size, 1, none⟩ = some (.int .i64 a0_1) := (blk_cell K1_25.out 1).trans rfl
 have hfz1_1 := blk_frozen K1_25.out 1
 have hcz1_2 : w25.cell? ⟨w6.heap.size, 2, none⟩ = some (.int .i64 a0_2) := (blk_cell K1_25.out 2).trans rfl
 have hfz1_2 := blk_frozen K1_25.out 2
 have hcz1_3 : w25.cell? ⟨w6.heap.size, 3, none⟩ = some (.slice Ax0_3_6 a0_3.length cx0_3_6) := (blk_cell K1_25.out 3).trans rfl
 have hfz1_3 := blk_frozen K1_25.out 3
 have hcz1_4 : w25.cell? ⟨w6.heap.size, 4, none⟩ = some (.slice Ax0_4_6 a0_4.length cx0_4_6) := (blk_cell K1_25.out 4).trans rfl
 have hfz1_4 := blk_frozen K1_25.out 4
 have hcz1_5 : w25.cell? ⟨w6.heap.size, 5, none⟩ = some (.slice Ax0_5_6 a0_5.length cx0_5_6) := (blk_cell K1_25.out 5).trans rfl
 have hfz1_5 := blk_frozen K1_25.out 5
 go_wp2_with fail
 clear hcz0_0 hfz0_0 hcz0_1 hfz0_1 hcz0_2 hfz0_2 hcz0_3 hfz0_3 hcz0_4 hfz0_4 hcz0_5 hfz0_5 hcz1_0 hfz1_0 hcz1_1 hfz1_1 hcz1_2 hfz1_2 hcz1_3 hfz1_3 hcz1_4 hfz1_4 hcz1_5 hfz1_5
 go_ret
 exact ⟨rfl, B25.out⟩
set_option maxRecDepth 100000 in
theorem walk_neg0 (a0_0 : Int) (a0_1 : Int) (a0_2 : Int) (a0_3 : List Int) (a0_4 : List Int) (a0_5 : List Int) (a1 : List S141) (Aa0_3 : Option Addr) (ca0_3 : Nat) (Aa0_4 : Option Addr) (ca0_4 : Nat) (Aa0_5 : Option Addr) (ca0_5 : Nat) (Aa1 : Option Addr) (ca1 : Nat) (w : World) (hra0_3 : Kd.C (Kd.int .i64) w Aa0_3 a0_3.length a0_3) (hca0_3 : a0_3.length ≤ ca0_3) (hra0_4 : Kd.C (Kd.int .i64) w Aa0_4 a0_4.length a0_4) (hca0_4 : a0_4.length ≤ ca0_4) (hra0_5 : Kd.C (Kd.int .i64) w Aa0_5 a0_5.length a0_5) (hca0_5 : a0_5.length ≤ ca0_5) (hra1 : Kd.C k141 w Aa1 a1.length a1) (hca1 : a1.length ≤ ca1)  (r0 : Int) (hsz0 : ∀ (Aa0_3 : Option Addr) (ca0_3 : Nat) (Aa0_4 : Option Addr) (ca0_4 : Nat) (Aa0_5 : Option Addr) (ca0_5 : Nat) (w : World), Kd.C (Kd.int .i64) w Aa0_3 a0_3.length a0_3 → a0_3.length ≤ ca0_3 → Kd.C (Kd.int .i64) w Aa0_4 a0_4.length a0_4 → a0_4.length ≤ ca0_4 → Kd.C (Kd.int .i64) w Aa0_5 a0_5.length a0_5 → a0_5.length ≤ ca0_5 → Calls Try.prog 14 #[.agg #[.int .i64 a0_0, .int .i64 a0_1, .int .i64 a0_2, .slice Aa0_3 a0_3.length ca0_3, .slice Aa0_4 a0_4.length ca0_4, .slice Aa0_5 a0_5.length ca0_5], .int .i64 1048576] w fun e w' => e = .returned (.int .i64 r0) ∧ Below w.heap.size w w') (hlt0 : r0 < 0) : Calls Try.prog 9 #[.agg #[.int .i64 a0_0, .int .i64 a0_1, .int .i64 a0_2, .slice Aa0_3 a0_3.length ca0_3, .slice Aa0_4 a0_4.length ca0_4, .slice Aa0_5 a0_5.length ca0_5], .slice Aa1 a1.length ca1] w fun e w' => e = .returned (.bool true) ∧ Below w.heap.size w w' := by
 have HRa0_3 := Aside0.mk hra0_3
 have HRa0_4 := Aside0.mk hra0_4
 have HRa0_5 := Aside0.mk hra0_5
 have HRa1 := Aside0.mk hra1
 have HCa0_3 := Aside0.mk hca0_3
 have HCa0_4 := Aside0.mk hca0_4
 have HCa0_5 := Aside0.mk hca0_5
 have HCa1 := Aside0.mk hca1
 have HSZ0 := Aside0.mk hsz0
 have d0 : decide (r0 < 0) = true := decide_eq_true hlt0
 clear hsz0 hlt0  hra0_3 hca0_3 hra0_4 hca0_4 hra0_5 hca0_5 hra1 hca1
 go_enter Try.func9, Try.ntmps9
 go_wp2_with fail
 obtain ⟨wb, hwb⟩ : ∃ z : World, z = (w.alloc (.cells #[.int .i64 a0_0, .int .i64 a0_1, .int .i64 a0_2, .slice Aa0_3 a0_3.length ca0_3, .slice Aa0_4 a0_4.length ca0_4, .slice Aa0_5 a0_5.length ca0_5] 26)) := ⟨_, rfl⟩
 rw [← hwb]
 have K0_0 : Aside0 (wb.heap[w.heap.size]? = some (.cells #[.int .i64 a0_0, .int .i64 a0_1, .int .i64 a0_2, .slice Aa0_3 a0_3.length ca0_3, .slice Aa0_4 a0_4.length ca0_4, .slice Aa0_5 a0_5.length ca0_5] 26 (0, 0))) := ⟨by rw [hwb]; exact blk_new w _⟩
 have B0 : Aside0 (Below w.heap.size w wb) := ⟨by rw [hwb]; exact below_alloc (Below.refl _ _) _⟩
 have z0 := B0.out.size
 have zb := blk_lt K0_0.out
 clear hwb
 refine (HSZ0.out Aa0_3 ca0_3 Aa0_4 ca0_4 Aa0_5 ca0_5 wb (Kd.C_below HRa0_3.out B0.out) HCa0_3.out (Kd.C_below HRa0_4.out B0.out) HCa0_4.out (Kd.C_below HRa0_5.out B0.out) HCa0_5.out).mono ?_
 rintro e w1 ⟨rfl, hb⟩
 have B1 := Aside0.mk (below_step B0.out hb)
 have K0_0n := Aside0.mk (blk_below K0_0.out hb)
 clear hb
 have hcz0_0 : w1.cell? ⟨w.heap.size, 0, none⟩ = some (.int .i64 a0_0) := (blk_cell K0_0n.out 0).trans rfl
 have hfz0_0 := blk_frozen K0_0n.out 0
 have hcz0_1 : w1.cell? ⟨w.heap.size, 1, none⟩ = some (.int .i64 a0_1) := (blk_cell K0_0n.out 1).trans rfl
 have hfz0_1 := blk_frozen K0_0n.out 1
 have hcz0_2 : w1.cell? ⟨w.heap.size, 2, none⟩ = some (.int .i64 a0_2) := (blk_cell K0_0n.out 2).trans rfl
 have hfz0_2 := blk_frozen K0_0n.out 2
 have hcz0_3 : w1.cell? ⟨w.heap.size, 3, none⟩ = some (.slice Aa0_3 a0_3.length ca0_3) := (blk_cell K0_0n.out 3).trans rfl
 have hfz0_3 := blk_frozen K0_0n.out 3
 have hcz0_4 : w1.cell? ⟨w.heap.size, 4, none⟩ = some (.slice Aa0_4 a0_4.length ca0_4) := (blk_cell K0_0n.out 4).trans rfl
 have hfz0_4 := blk_frozen K0_0n.out 4
 have hcz0_5 : w1.cell? ⟨w.heap.size, 5, none⟩ = some (.slice Aa0_5 a0_5.length ca0_5) := (blk_cell K0_0n.out 5).trans rfl
 have hfz0_5 := blk_frozen K0_0n.out 5
 go_wp2_with fail
 go_ret
 exact ⟨rfl, B1.out⟩
set_option maxRecDepth 100000 in
theorem walk_neg1 (a0_0 : Int) (a0_1 : Int) (a0_2 : Int) (a0_3 : List Int) (a0_4 : List Int) (a0_5 : List Int) (a1 : List S141) (Aa0_3 : Option Addr) (ca0_3 : Nat) (Aa0_4 : Option Addr) (ca0_4 : Nat) (Aa0_5 : Option Addr) (ca0_5 : Nat) (Aa1 : Option Addr) (ca1 : Nat) (w : World) (hra0_3 : Kd.C (Kd.int .i64) w Aa0_3 a0_3.length a0_3) (hca0_3 : a0_3.length ≤ ca0_3) (hra0_4 : Kd.C (Kd.int .i64) w Aa0_4 a0_4.length a0_4) (hca0_4 : a0_4.length ≤ ca0_4) (hra0_5 : Kd.C (Kd.int .i64) w Aa0_5 a0_5.length a0_5) (hca0_5 : a0_5.length ≤ ca0_5) (hra1 : Kd.C k141 w Aa1 a1.length a1) (hca1 : a1.length ≤ ca1)  (r0 : Int) (hsz0 : ∀ (Aa0_3 : Option Addr) (ca0_3 : Nat) (Aa0_4 : Option Addr) (ca0_4 : Nat) (Aa0_5 : Option Addr) (ca0_5 : Nat) (w : World), Kd.C (Kd.int .i64) w Aa0_3 a0_3.length a0_3 → a0_3.length ≤ ca0_3 → Kd.C (Kd.int .i64) w Aa0_4 a0_4.length a0_4 → a0_4.length ≤ ca0_4 → Kd.C (Kd.int .i64) w Aa0_5 a0_5.length a0_5 → a0_5.length ≤ ca0_5 → Calls Try.prog 14 #[.agg #[.int .i64 a0_0, .int .i64 a0_1, .int .i64 a0_2, .slice Aa0_3 a0_3.length ca0_3, .slice Aa0_4 a0_4.length ca0_4, .slice Aa0_5 a0_5.length ca0_5], .int .i64 1048576] w fun e w' => e = .returned (.int .i64 r0) ∧ Below w.heap.size w w') (hlt0 : ¬ r0 < 0) (r1 : Int) (hsz1 : ∀ (Aa1 : Option Addr) (ca1 : Nat) (w : World), Kd.C k141 w Aa1 a1.length a1 → a1.length ≤ ca1 → Calls Try.prog 39 #[.slice Aa1 a1.length ca1, .int .i64 r0] w fun e w' => e = .returned (.int .i64 r1) ∧ Below w.heap.size w w') (hlt1 : r1 < 0) : Calls Try.prog 9 #[.agg #[.int .i64 a0_0, .int .i64 a0_1, .int .i64 a0_2, .slice Aa0_3 a0_3.length ca0_3, .slice Aa0_4 a0_4.length ca0_4, .slice Aa0_5 a0_5.length ca0_5], .slice Aa1 a1.length ca1] w fun e w' => e = .returned (.bool true) ∧ Below w.heap.size w w' := by
 have HRa0_3 := Aside0.mk hra0_3
 have HRa0_4 := Aside0.mk hra0_4
 have HRa0_5 := Aside0.mk hra0_5
 have HRa1 := Aside0.mk hra1
 have HCa0_3 := Aside0.mk hca0_3
 have HCa0_4 := Aside0.mk hca0_4
 have HCa0_5 := Aside0.mk hca0_5
 have HCa1 := Aside0.mk hca1
 have HSZ0 := Aside0.mk hsz0
 have HSZ1 := Aside0.mk hsz1
 have d0 : decide (r0 < 0) = false := decide_eq_false hlt0
 have d1 : decide (r1 < 0) = true := decide_eq_true hlt1
 clear hsz0 hlt0 hsz1 hlt1  hra0_3 hca0_3 hra0_4 hca0_4 hra0_5 hca0_5 hra1 hca1
 go_enter Try.func9, Try.ntmps9
 go_wp2_with fail
 obtain ⟨wb, hwb⟩ : ∃ z : World, z = (w.alloc (.cells #[.int .i64 a0_0, .int .i64 a0_1, .int .i64 a0_2, .slice Aa0_3 a0_3.length ca0_3, .slice Aa0_4 a0_4.length ca0_4, .slice Aa0_5 a0_5.length ca0_5] 26)) := ⟨_, rfl⟩
 rw [← hwb]
 have K0_0 : Aside0 (wb.heap[w.heap.size]? = some (.cells #[.int .i64 a0_0, .int .i64 a0_1, .int .i64 a0_2, .slice Aa0_3 a0_3.length ca0_3, .slice Aa0_4 a0_4.length ca0_4, .slice Aa0_5 a0_5.length ca0_5] 26 (0, 0))) := ⟨by rw [hwb]; exact blk_new w _⟩
 have B0 : Aside0 (Below w.heap.size w wb) := ⟨by rw [hwb]; exact below_alloc (Below.refl _ _) _⟩
 have z0 := B0.out.size
 have zb := blk_lt K0_0.out
 clear hwb
 refine (HSZ0.out Aa0_3 ca0_3 Aa0_4 ca0_4 Aa0_5 ca0_5 wb (Kd.C_below HRa0_3.out B0.out) HCa0_3.out (Kd.C_below HRa0_4.out B0.out) HCa0_4.out (Kd.C_below HRa0_5.out B0.out) HCa0_5.out).mono ?_
 rintro e w1 ⟨rfl, hb⟩
 have B1 := Aside0.mk (below_step B0.out hb)
 have K0_0n := Aside0.mk (blk_below K0_0.out hb)
 clear hb
 have hcz0_0 : w1.cell? ⟨w.heap.size, 0, none⟩ = some (.int .i64 a0_0) := (blk_cell K0_0n.out 0).trans rfl
 have hfz0_0 := blk_frozen K0_0n.out 0
 have hcz0_1 : w1.cell? ⟨w.heap.size, 1, none⟩ = some (.int .i64 a0_1) := (blk_cell K0_0n.out 1).trans rfl
 have hfz0_1 := blk_frozen K0_0n.out 1
 have hcz0_2 : w1.cell? ⟨w.heap.size, 2, none⟩ = some (.int .i64 a0_2) := (blk_cell K0_0n.out 2).trans rfl
 have hfz0_2 := blk_frozen K0_0n.out 2
 have hcz0_3 : w1.cell? ⟨w.heap.size, 3, none⟩ = some (.slice Aa0_3 a0_3.length ca0_3) := (blk_cell K0_0n.out 3).trans rfl
 have hfz0_3 := blk_frozen K0_0n.out 3
 have hcz0_4 : w1.cell? ⟨w.heap.size, 4, none⟩ = some (.slice Aa0_4 a0_4.length ca0_4) := (blk_cell K0_0n.out 4).trans rfl
 have hfz0_4 := blk_frozen K0_0n.out 4
 have hcz0_5 : w1.cell? ⟨w.heap.size, 5, none⟩ = some (.slice Aa0_5 a0_5.length ca0_5) := (blk_cell K0_0n.out 5).trans rfl
 have hfz0_5 := blk_frozen K0_0n.out 5
 go_wp2_with fail
 clear hcz0_0 hfz0_0 hcz0_1 hfz0_1 hcz0_2 hfz0_2 hcz0_3 hfz0_3 hcz0_4 hfz0_4 hcz0_5 hfz0_5
 refine (HSZ1.out Aa1 ca1 w1 (Kd.C_below HRa1.out B1.out) HCa1.out).mono ?_
 rintro e w2 ⟨rfl, hb⟩
 have B2 := Aside0.mk (below_step B1.out hb)
 have K0_0nn := Aside0.mk (blk_below K0_0n.out hb)
 clear hb
 have hcz0_0 : w2.cell? ⟨w.heap.size, 0, none⟩ = some (.int .i64 a0_0) := (blk_cell K0_0nn.out 0).trans rfl
 have hfz0_0 := blk_frozen K0_0nn.out 0
 have hcz0_1 : w2.cell? ⟨w.heap.size, 1, none⟩ = some (.int .i64 a0_1) := (blk_cell K0_0nn.out 1).trans rfl
 have hfz0_1 := blk_frozen K0_0nn.out 1
 have hcz0_2 : w2.cell? ⟨w.heap.size, 2, none⟩ = some (.int .i64 a0_2) := (blk_cell K0_0nn.out 2).trans rfl
 have hfz0_2 := blk_frozen K0_0nn.out 2
 have hcz0_3 : w2.cell? ⟨w.heap.size, 3, none⟩ = some (.slice Aa0_3 a0_3.length ca0_3) := (blk_cell K0_0nn.out 3).trans rfl
 have hfz0_3 := blk_frozen K0_0nn.out 3
 have hcz0_4 : w2.cell? ⟨w.heap.size, 4, none⟩ = some (.slice Aa0_4 a0_4.length ca0_4) := (blk_cell K0_0nn.out 4).trans rfl
 have hfz0_4 := blk_frozen K0_0nn.out 4
 have hcz0_5 : w2.cell? ⟨w.heap.size, 5, none⟩ = some (.slice Aa0_5 a0_5.length ca0_5) := (blk_cell K0_0nn.out 5).trans rfl
 have hfz0_5 := blk_frozen K0_0nn.out 5
 go_wp2_with fail
 go_ret
 exact ⟨rfl, B2.out⟩
theorem law (a0_0 : Int) (a0_1 : Int) (a0_2 : Int) (a0_3 : List Int) (a0_4 : List Int) (a0_5 : List Int) (a1 : List S141) (ga0_0 : (Lit.int .i64 a0_0).wf = true) (ga0_1 : (Lit.int .i64 a0_1).wf = true) (ga0_2 : (Lit.int .i64 a0_2).wf = true) (ha0_3 : a0_3.length ≤ maxLen) (ga0_3 : ∀ x ∈ a0_3, (Lit.int .i64 x).wf = true) (ha0_4 : a0_4.length ≤ maxLen) (ga0_4 : ∀ x ∈ a0_4, (Lit.int .i64 x).wf = true) (ha0_5 : a0_5.length ≤ maxLen) (ga0_5 : ∀ x ∈ a0_5, (Lit.int .i64 x).wf = true) (ha1 : a1.length ≤ maxLen) (Aa0_3 : Option Addr) (ca0_3 : Nat) (Aa0_4 : Option Addr) (ca0_4 : Nat) (Aa0_5 : Option Addr) (ca0_5 : Nat) (Aa1 : Option Addr) (ca1 : Nat) (w : World) (hra0_3 : Kd.C (Kd.int .i64) w Aa0_3 a0_3.length a0_3) (hca0_3 : a0_3.length ≤ ca0_3) (hra0_4 : Kd.C (Kd.int .i64) w Aa0_4 a0_4.length a0_4) (hca0_4 : a0_4.length ≤ ca0_4) (hra0_5 : Kd.C (Kd.int .i64) w Aa0_5 a0_5.length a0_5) (hca0_5 : a0_5.length ≤ ca0_5) (hra1 : Kd.C k141 w Aa1 a1.length a1) (hca1 : a1.length ≤ ca1) : Calls Try.prog 9 #[.agg #[.int .i64 a0_0, .int .i64 a0_1, .int .i64 a0_2, .slice Aa0_3 a0_3.length ca0_3, .slice Aa0_4 a0_4.length ca0_4, .slice Aa0_5 a0_5.length ca0_5], .slice Aa1 a1.length ca1] w fun e w' => e = .returned (.bool true) ∧ Below w.heap.size w w' := by
 obtain ⟨r0, hz0, hsz0⟩ := szModel_calls a0_0 a0_1 a0_2 a0_3 a0_4 a0_5 ha0_3 ha0_4 ha0_5 1048576 (by omega)
 by_cases hlt0 : r0 < 0
 ·exact walk_neg0 a0_0 a0_1 a0_2 a0_3 a0_4 a0_5 a1 Aa0_3 ca0_3 Aa0_4 ca0_4 Aa0_5 ca0_5 Aa1 ca1 w hra0_3 hca0_3 hra0_4 hca0_4 hra0_5 hca0_5 hra1 hca1  r0 hsz0 hlt0
 obtain ⟨hq0, l1a0_3, l1a0_4, l1a0_5⟩ := hz0 (by omega)
 obtain ⟨r1, hz1, hsz1⟩ := szPartS_calls a1 ha1 r0 hq0
 by_cases hlt1 : r1 < 0
 ·exact walk_neg1 a0_0 a0_1 a0_2 a0_3 a0_4 a0_5 a1 Aa0_3 ca0_3 Aa0_4 ca0_4 Aa0_5 ca0_5 Aa1 ca1 w hra0_3 hca0_3 hra0_4 hca0_4 hra0_5 hca0_5 hra1 hca1  r0 hsz0 hlt0 r1 hsz1 hlt1
 obtain ⟨hq1, l1a1⟩ := hz1 (by omega)
 obtain ⟨⟨g0, g1⟩, hs, hi, ng0⟩ := both a0_0 a0_1 a0_2 a0_3 a0_4 a0_5 (a1.map cP) (wf64 ga0_0) (wf64 ga0_1) (wf64 ga0_2) l1a0_3 l1a0_4 l1a0_5 (by rw [List.length_map]; exact l1a1)
 exact walk a0_0 a0_1 a0_2 a0_3 a0_4 a0_5 a1 Aa0_3 ca0_3 Aa0_4 ca0_4 Aa0_5 ca0_5 Aa1 ca1 w hra0_3 hca0_3 hra0_4 hca0_4 hra0_5 hca0_5 hra1 hca1 r0 hsz0 hlt0 r1 hsz1 hlt1 (a1.map cP) rfl g0 g1 l1a0_3 l1a0_4 l1a0_5 (by rw [List.length_map]; exact l1a1) ng0 hs.rounds hi
end Go.Proofs.Ytomfjhpiemipkaa.WalkFnExactRuleValues
