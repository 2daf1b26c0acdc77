/- The law FnExactRuleValue, walked by hand over its callees' contracts: for every input it returns true. -/
import Derived.Test.YtomfjhpiemipkaaTComI
import Derived.Test.YtomfjhpiemipkaaTMFnExactRuleValuesx2
import Derived.Test.YtomfjhpiemipkaaTMFnExactRuleValuesx3
import Derived.Test.YtomfjhpiemipkaaTMFnExactRuleValuesx0
import Derived.Test.YtomfjhpiemipkaaTMFnExactRuleValuesx5
import Derived.Test.YtomfjhpiemipkaaTOwnRuleValue
namespace Go.Proofs.Ytomfjhpiemipkaa.WalkFnExactRuleValue
open Go.RowKit Go.Proofs.Ytomfjhpiemipkaa.PFnExactRuleValues Go.Proofs.YtomfjhpiemipkaaW.PrintWords Go.Proofs.YtomfjhpiemipkaaW.PrintLast Go.Proofs.YtomfjhpiemipkaaW.PrintMore Go.Proofs.Ytomfjhpiemipkaa.B Go.Proofs.Ytomfjhpiemipkaa.Com Go.Proofs.Ytomfjhpiemipkaa.OwnRuleValue
set_option linter.unusedVariables false
set_option linter.unusedSimpArgs false
def Zn (W W' : World) (u : Value) (k : Nat) : Prop := Btw W W' k ∧ some k = u.ownBlock
/- zones -/
def ne3 (u v z : Value) : Prop := (∀ k : Nat, some k = u.ownBlock → some k ≠ v.ownBlock) ∧ (∀ k : Nat, some k = u.ownBlock → some k ≠ z.ownBlock) ∧ (∀ k : Nat, some k = v.ownBlock → some k ≠ z.ownBlock)
theorem znR {α : Type} {d : Kd α} {e : Nat} {w W W' : World} {v : Value} {xs : List α} {ok : Nat → Prop} (hE : d.E = []) (h : Kd.R d e W' W.heap.size ok v xs) (hw : w.heap.size ≤ W.heap.size) : Kd.R d e W' w.heap.size (Zn W W' v) v xs :=
  Kd.R_lower (Kd.R_mono (Kd.R_bound (Kd.R_tight2 hE h)) (fun k hk => ⟨⟨hk.2.1, hk.2.2.1⟩, hk.1.1⟩)) hw
/- laws_toIntS -/
theorem toIntS_l0 (l : List Int) (hl : l.length ≤ 35184372088832) : ∀ (d i : Nat) (m : List Int), i + d = l.length → m.length = l.length → (∀ j, j < i → m.getD j 0 = l.getD j 0) → Ev (fun k => laws_toIntS.l0 k l m (i : Int)) l := by
  intro d
  induction d with
  | zero =>
    intro i m hi hm he
    refine Ev.step (fun k => laws_toIntS.l0.eq_2 l m i k) ?_
    refine ev_neg (by omega) (ev_some ?_)
    refine List.ext_getElem hm (fun j h1 h2 => ?_)
    have := he j (by omega)
    simpa [List.getD_eq_getElem?_getD, h1, h2] using this
  | succ d ih =>
    intro i m hi hm he
    refine Ev.step (fun k => laws_toIntS.l0.eq_2 l m i k) ?_
    refine ev_pos (by omega) (ev_pos (by omega) (ev_pos (by omega) ?_))
    rw [w_succ (n := l.length) (by omega) (by omega), toNat_nat, rd_nat]
    refine ih (i + 1) _ (by omega) (by simpa using hm) (fun j hj => ?_)
    by_cases hji : j = i
    · subst hji
      simp [List.getD_eq_getElem?_getD, show j < m.length by omega]
    · rw [← he j (by omega)]
      simp [List.getD_eq_getElem?_getD, List.getElem?_set_ne (Ne.symm hji)]
theorem toIntS_ev (l : List Int) (hl : l.length ≤ 35184372088832) : Ev (fun k => laws_toIntS.f k l) l := by
  unfold laws_toIntS.f
  refine ev_pos (by omega) (ev_pos (by omega) ?_)
  exact toIntS_l0 l hl l.length 0 _ (by omega) (by simp) (fun j hj => by omega)
/- com.toModel -/
theorem toModel_ev (x y z : Int) (t g r : List Int) (ht : t.length ≤ 1048576) (hg : g.length ≤ 1048576) (hr : r.length ≤ 1048576) : Ev (fun k => laws_toModel.f k x y z t g r) (x, y, z, t, g, r) := by
  unfold laws_toModel.f
  exact ev_bindc (a := (x, y, z)) rfl (Ev.bind (toIntS_ev t (by omega)) (Ev.bind (toIntS_ev g (by omega)) (Ev.bind (toIntS_ev r (by omega)) (ev_some rfl))))
theorem toModel_calls (x y z : Int) (t : List Int) (ht : t.length ≤ 1048576) (g : List Int) (hg : g.length ≤ 1048576) (r : List Int) (hr : r.length ≤ 1048576) (A3 : Option Addr) (c3 : Nat) (A4 : Option Addr) (c4 : Nat) (A5 : Option Addr) (c5 : Nat) (w : World)
    (h1 : Kd.C (Kd.int .i64) w A3 t.length t) (h2 : t.length ≤ c3) (h3 : Kd.C (Kd.int .i64) w A4 g.length g) (h4 : g.length ≤ c4) (h5 : Kd.C (Kd.int .i64) w A5 r.length r) (h6 : r.length ≤ c5) :
    Calls Try.prog 16 #[.agg #[.int .i64 x, .int .i64 y, .int .i64 z, .slice A3 t.length c3, .slice A4 g.length c4, .slice A5 r.length c5]] w fun e w' => ∃ v3 v4 v5 : Value, e = .returned (.agg #[.int .i64 x, .int .i64 y, .int .i64 z, v3, v4, v5]) ∧
      Kd.R (Kd.int .i64) 3 w' w.heap.size (fun _ => True) v3 t ∧ Kd.R (Kd.int .i64) 3 w' w.heap.size (fun _ => True) v4 g ∧ Kd.R (Kd.int .i64) 3 w' w.heap.size (fun _ => True) v5 r ∧ ne3 v3 v4 v5 ∧ Below w.heap.size w w' := by
  obtain ⟨k, hk⟩ := (toModel_ev x y z t g r ht hg hr).rounds
  refine (laws_toModel.calls k x y z A3 c3 t A4 c4 g A5 c5 r x y z t g r w h1 h2 h3 h4 h5 h6 hk).mono ?_
  rintro e w' ⟨v3, v4, v5, he, q3, q4, q5, hb⟩
  exact ⟨v3, v4, v5, he, Kd.R_mono q3 (fun _ _ => trivial), Kd.R_mono q4 (fun _ _ => trivial), Kd.R_mono q5 (fun _ _ => trivial), ⟨fun k hk => (q3.1 k hk.symm).1, fun k hk => (q3.1 k hk.symm).2, fun k hk => (q4.1 k hk.symm).2⟩, hb⟩
/- partsP -/
def cP (e : S141) : S139 := ⟨e.f0, e.f1⟩
/- laws_toPartS -/
theorem toPartS_l0 (l : List S141) (hl : l.length ≤ 1048576) : ∀ (d i : Nat) (m : List S139), i + d = l.length → m.length = l.length → (∀ j, j < i → m[j]? = (l.map cP)[j]?) → Ev (fun k => laws_toPartS.l0 k l m (i : Int)) (l.map cP) := by
  intro d
  induction d with
  | zero =>
    intro i m hi hm he
    refine Ev.step (fun k => laws_toPartS.l0.eq_2 l m i k) ?_
    refine ev_neg (by omega) (ev_some ?_)
    refine List.ext_getElem? (fun j => ?_)
    by_cases hj : j < i
    · exact he j hj
    · rw [List.getElem?_eq_none (by omega), List.getElem?_eq_none (by simp; omega)]
  | succ d ih =>
    intro i m hi hm he
    refine Ev.step (fun k => laws_toPartS.l0.eq_2 l m i k) ?_
    refine ev_pos (by omega) (ev_pos (by omega) (ev_bindc rfl (ev_pos (by omega) ?_)))
    rw [w_succ (n := l.length) (by omega) (by omega), toNat_nat]
    refine ih (i + 1) _ (by omega) (by simpa using hm) (fun j hj => ?_)
    by_cases hji : j = i
    · subst hji
      have h1 : j < l.length := by omega
      simp [List.getElem?_set, show j < m.length by omega, rd_T141, h1, cP]
    · rw [← he j (by omega), List.getElem?_set_ne (Ne.symm hji)]
theorem toPartS_ev (l : List S141) (hl : l.length ≤ 1048576) : Ev (fun k => laws_toPartS.f k l) (l.map cP) := by
  unfold laws_toPartS.f
  refine ev_pos (by omega) (ev_pos (by omega) ?_)
  exact toPartS_l0 l hl l.length 0 _ (by omega) (by simp) (fun j hj => by omega)
/- com.toPartS -/
theorem toPartS_calls (l : List S141) (t : List S139) (ht : l.map cP = t) (hl : t.length ≤ 1048576) (A : Option Addr) (c : Nat) (w : World) (hr : Kd.C k141 w A l.length l) (hc : l.length ≤ c) :
    Calls Try.prog 41 #[.slice A l.length c] w fun e w' => ∃ v : Value, e = .returned v ∧ Kd.R k139 139 w' w.heap.size (fun _ => True) v t ∧ Below w.heap.size w w' := by
  subst ht
  rw [List.length_map] at hl
  obtain ⟨k, hk⟩ := (toPartS_ev l hl).rounds
  exact laws_toPartS.calls k A c l _ w hr hc hk
/- laws_eqIntS -/
theorem eqIntS_l0 (l : List Int) (hl : l.length ≤ maxLen) : ∀ (d i : Nat), i + d = l.length → Ev (fun k => laws_eqIntS.l0 k l l (i : Int)) true := by
  have hl := maxLen_le hl
  intro d
  induction d with
  | zero =>
    intro i hi
    exact Ev.step (fun k => laws_eqIntS.l0.eq_2 l l i k) (ev_neg (by omega) (ev_some rfl))
  | succ d ih =>
    intro i hi
    refine Ev.step (fun k => laws_eqIntS.l0.eq_2 l l i k) ?_
    rw [w_succ (n := l.length) (by omega) (by omega)]
    exact ev_pos (by omega) (ev_pos (by omega) (ev_pos (by omega) (ev_pos rfl (ih (i + 1) (by omega)))))
theorem eqIntS_ev (l : List Int) (hl : l.length ≤ maxLen) : Ev (fun k => laws_eqIntS.f k l l) true := by
  unfold laws_eqIntS.f
  exact ev_pos rfl (eqIntS_l0 l hl l.length 0 (by omega))
/- com.eqModel -/
theorem eqModel_calls (x y z : Int) (t g r : List Int) (ht : t.length ≤ maxLen) (hg : g.length ≤ maxLen) (hr : r.length ≤ maxLen) (A3 : Option Addr) (c3 : Nat) (A4 : Option Addr) (c4 : Nat) (A5 : Option Addr) (c5 : Nat) (B3 : Option Addr) (d3 : Nat) (B4 : Option Addr) (d4 : Nat) (B5 : Option Addr) (d5 : Nat) (w : World)
    (h1 : Kd.C (Kd.int .i64) w A3 t.length t) (h2 : t.length ≤ c3) (h3 : Kd.C (Kd.int .i64) w A4 g.length g) (h4 : g.length ≤ c4) (h5 : Kd.C (Kd.int .i64) w A5 r.length r) (h6 : r.length ≤ c5) (k1 : Kd.C (Kd.int .i64) w B3 t.length t) (k2 : t.length ≤ d3) (k3 : Kd.C (Kd.int .i64) w B4 g.length g) (k4 : g.length ≤ d4) (k5 : Kd.C (Kd.int .i64) w B5 r.length r) (k6 : r.length ≤ d5) :
    Calls Try.prog 19 #[.agg #[.int .i64 x, .int .i64 y, .int .i64 z, .slice A3 t.length c3, .slice A4 g.length c4, .slice A5 r.length c5], .agg #[.int .i64 x, .int .i64 y, .int .i64 z, .slice B3 t.length d3, .slice B4 g.length d4, .slice B5 r.length d5]] w fun e w' => e = .returned (.bool true) ∧ Below w.heap.size w w' := by
  have : Ev (fun k => laws_eqModel.f k x y z t g r x y z t g r) true := by
    unfold laws_eqModel.f
    refine ev_bindc (a := true) (by unfold laws_eqGrid.f; simp) (ev_pos rfl ?_)
    exact Ev.bind (eqIntS_ev t ht) (ev_pos rfl (Ev.bind (eqIntS_ev g hg) (ev_pos rfl (Ev.bind (eqIntS_ev r hr) (ev_pos rfl (ev_some rfl))))))
  obtain ⟨k, hk⟩ := this.rounds
  exact laws_eqModel.calls k x y z A3 c3 t A4 c4 g A5 c5 r x y z B3 d3 t B4 d4 g B5 d5 r true w h1 h2 h3 h4 h5 h6 k1 k2 k3 k4 k5 k6 hk
/- laws_eqPartS -/
theorem eqPartS_l0 (l : List S139) (hl : l.length ≤ maxLen) : ∀ (d i : Nat), i + d = l.length → Ev (fun k => laws_eqPartS.l0 k l l (i : Int)) true := by
  have hl := maxLen_le hl
  intro d
  induction d with
  | zero =>
    intro i hi
    exact Ev.step (fun k => laws_eqPartS.l0.eq_2 l l i k) (ev_neg (by omega) (ev_some rfl))
  | succ d ih =>
    intro i hi
    refine Ev.step (fun k => laws_eqPartS.l0.eq_2 l l i k) ?_
    rw [w_succ (n := l.length) (by omega) (by omega)]
    exact ev_pos (by omega) (ev_pos (by omega) (ev_pos (by omega) (ev_bindc (by unfold laws_eqPart.f; rw [if_pos rfl, if_pos rfl]) (ev_pos rfl (ih (i + 1) (by omega))))))
theorem eqPartS_ev (l : List S139) (hl : l.length ≤ maxLen) : Ev (fun k => laws_eqPartS.f k l l) true := by
  unfold laws_eqPartS.f
  exact ev_pos rfl (eqPartS_l0 l hl l.length 0 (by omega))
/- com.eqPartS -/
theorem eqPartS_calls (l : List S139) (hl : l.length ≤ maxLen) (A A' : Option Addr) (c c' : Nat) (w : World) (h1 : Kd.C k139 w A l.length l) (h2 : l.length ≤ c) (h3 : Kd.C k139 w A' l.length l) (h4 : l.length ≤ c') :
    Calls Try.prog 43 #[.slice A l.length c, .slice A' l.length c'] w fun e w' => e = .returned (.bool true) ∧ Below w.heap.size w w' := by
  obtain ⟨k, hk⟩ := (eqPartS_ev l hl).rounds
  exact laws_eqPartS.calls k A c l A' c' l true w h1 h2 h3 h4 hk
/- laws_szIntS -/
theorem szIntS_tells (l : List Int) (a : Int) (hl : l.length ≤ maxLen) (ha : 0 ≤ a ∧ a ≤ 1048576) : ∃ r, laws_szIntS.f l a = some r ∧ (0 ≤ r → r = a - l.length) ∧ (r < 0 → r = -1) := by
  have hl := maxLen_le hl
  unfold laws_szIntS.f
  rw [w64 (by omega) (by omega)]
  by_cases h : a - (l.length : Int) < 0
  · exact ⟨-1, by rw [if_pos h], by omega, by omega⟩
  · exact ⟨_, by rw [if_neg h], by omega, by omega⟩
/- com.szModel -/
theorem szModel_tells (x y z : Int) (t g r : List Int) (ht : t.length ≤ maxLen) (hg : g.length ≤ maxLen) (hr : r.length ≤ maxLen) (a : Int) (ha : 0 ≤ a ∧ a ≤ 1048576) : ∃ q, laws_szModel.f x y z t g r a = some q ∧ (0 ≤ q → (0 ≤ q ∧ q ≤ 1048576) ∧ t.length ≤ 1048576 ∧ g.length ≤ 1048576 ∧ r.length ≤ 1048576) := by
  unfold laws_szModel.f
  obtain ⟨q1, e1, p1, n1⟩ := szIntS_tells t a ht ha
  rw [e1, Option.bind_some]
  split
  · exact ⟨-1, rfl, fun h => by omega⟩
  · rename_i h1
    obtain ⟨q2, e2, p2, n2⟩ := szIntS_tells g q1 hg (by omega)
    rw [e2, Option.bind_some]
    split
    · exact ⟨-1, rfl, fun h => by omega⟩
    · rename_i h2
      obtain ⟨q3, e3, p3, n3⟩ := szIntS_tells r q2 hr (by omega)
      rw [e3, Option.bind_some]
      split
      · exact ⟨-1, rfl, fun h => by omega⟩
      · rename_i h3
        exact ⟨q3, rfl, fun h => by omega⟩
theorem szModel_calls (x y z : Int) (t g r : List Int) (ht : t.length ≤ maxLen) (hg : g.length ≤ maxLen) (hr : r.length ≤ maxLen) (a : Int) (ha : 0 ≤ a ∧ a ≤ 1048576) : ∃ q : Int, (0 ≤ q → (0 ≤ q ∧ q ≤ 1048576) ∧ t.length ≤ 1048576 ∧ g.length ≤ 1048576 ∧ r.length ≤ 1048576) ∧
    ∀ (A3 : Option Addr) (c3 : Nat) (A4 : Option Addr) (c4 : Nat) (A5 : Option Addr) (c5 : Nat) (w : World), Kd.C (Kd.int .i64) w A3 t.length t → t.length ≤ c3 → Kd.C (Kd.int .i64) w A4 g.length g → g.length ≤ c4 → Kd.C (Kd.int .i64) w A5 r.length r → r.length ≤ c5 →
      Calls Try.prog 14 #[.agg #[.int .i64 x, .int .i64 y, .int .i64 z, .slice A3 t.length c3, .slice A4 g.length c4, .slice A5 r.length c5], .int .i64 a] w fun e w' => e = .returned (.int .i64 q) ∧ Below w.heap.size w w' := by
  obtain ⟨q, e, hq⟩ := szModel_tells x y z t g r ht hg hr a ha
  exact ⟨q, hq, fun A3 c3 A4 c4 A5 c5 w h1 h2 h3 h4 h5 h6 => laws_szModel.calls x y z A3 c3 t A4 c4 g A5 c5 r a q w h1 h2 h3 h4 h5 h6 e⟩
/- com.szPartS -/
theorem szPartS_calls (l : List S141) (hl : l.length ≤ maxLen) (a : Int) (ha : 0 ≤ a ∧ a ≤ 1048576) : ∃ q : Int, (0 ≤ q → (0 ≤ q ∧ q ≤ 1048576) ∧ l.length ≤ 1048576) ∧
    ∀ (A : Option Addr) (c : Nat) (w : World), Kd.C k141 w A l.length l → l.length ≤ c → Calls Try.prog 39 #[.slice A l.length c, .int .i64 a] w fun e w' => e = .returned (.int .i64 q) ∧ Below w.heap.size w w' := by
  have hl := maxLen_le hl
  have : ∃ q, laws_szPartS.f l a = some q ∧ (0 ≤ q → (0 ≤ q ∧ q ≤ 1048576) ∧ l.length ≤ 1048576) := by
    unfold laws_szPartS.f
    rw [w64 (by omega) (by omega)]
    by_cases h : a - (l.length : Int) < 0
    · exact ⟨-1, by rw [if_pos h], by omega⟩
    · exact ⟨_, by rw [if_neg h], by omega⟩
  obtain ⟨q, e, hq⟩ := this
  exact ⟨q, hq, fun A c w h1 h2 => (laws_szPartS.calls A c l a q w h1 h2 e).mono fun e w' h => ⟨h.1, drawn_below h.2⟩⟩
/- hand.FnExactRuleValue -/
theorem both (x y z : Int) (t g r : List Int) (l : List S139) (i : Int) (_ : -9223372036854775808 ≤ x ∧ x ≤ 9223372036854775807) (_ : -9223372036854775808 ≤ y ∧ y ≤ 9223372036854775807) (_ : -9223372036854775808 ≤ z ∧ z ≤ 9223372036854775807) (ht : t.length ≤ 1048576) (hg : g.length ≤ 1048576) (hr : r.length ≤ 1048576) (hl : l.length ≤ 1048576) (_ : -9223372036854775808 ≤ i ∧ i ≤ 9223372036854775807) :
    ∃ q : Int × Bool, Ev (fun k => spec_RuleValue.f k x y z t g r l i) q ∧ OwnRuleValue.RVsays x y z t g r l i q := by
  by_cases h : OwnRuleDepth.modelOk x y z t g r = true ∧ OwnRuleDepth.isRuleB l = true ∧ 0 ≤ i ∧ i < (t.length : Int)
  · obtain ⟨q, h1, h2, _⟩ := OwnRuleP.value_both x y z t g r l i (maxLen_val (by omega)) (maxLen_val (by omega)) (maxLen_val (by omega)) h.1 h.2.1 h.2.2
    exact ⟨q, h1, fun _ => h2, fun hn => absurd h hn⟩
  · exact ⟨(0, false), OwnRuleP.value_none x y z t g r l i (maxLen_val (by omega)) (maxLen_val (by omega)) (maxLen_val (by omega)) h, fun hn => absurd hn h, fun _ => rfl⟩
def laws_FnExactRuleValue_T14 : Bool × List (List Nat × List Nat) := (true, [([], []), ([], []), ([1], [1]), ([0, 2, 2], [0, 2]), ([3], [3])])
def laws_FnExactRuleValue_B14 : List Nat := [0, 0, 2, 7, 15]
theorem laws_FnExactRuleValue_tab14 : rtab .any (opsOf Try.f8 14) = laws_FnExactRuleValue_T14 := by kernel_rfl
theorem laws_FnExactRuleValue_bits14 : waitsOk laws_FnExactRuleValue_T14.2 laws_FnExactRuleValue_B14 = true := by kernel_rfl
set_option maxHeartbeats 4000000 in
set_option maxRecDepth 100000 in
theorem walk (a0_0 : Int) (a0_1 : Int) (a0_2 : Int) (a0_3 : List Int) (a0_4 : List Int) (a0_5 : List Int) (a1 : List S141) (a2 : Int) (Aa0_3 : Option Addr) (ca0_3 : Nat) (Aa0_4 : Option Addr) (ca0_4 : Nat) (Aa0_5 : Option Addr) (ca0_5 : Nat) (Aa1 : Option Addr) (ca1 : Nat) (w : World) (hra0_3 : Kd.C (Kd.int .i64) w Aa0_3 a0_3.length a0_3) (hca0_3 : a0_3.length ≤ ca0_3) (hra0_4 : Kd.C (Kd.int .i64) w Aa0_4 a0_4.length a0_4) (hca0_4 : a0_4.length ≤ ca0_4) (hra0_5 : Kd.C (Kd.int .i64) w Aa0_5 a0_5.length a0_5) (hca0_5 : a0_5.length ≤ ca0_5) (hra1 : Kd.C k141 w Aa1 a1.length a1) (hca1 : a1.length ≤ ca1) (r0 : Int) (hsz0 : ∀ (Aa0_3 : Option Addr) (ca0_3 : Nat) (Aa0_4 : Option Addr) (ca0_4 : Nat) (Aa0_5 : Option Addr) (ca0_5 : Nat) (w : World), Kd.C (Kd.int .i64) w Aa0_3 a0_3.length a0_3 → a0_3.length ≤ ca0_3 → Kd.C (Kd.int .i64) w Aa0_4 a0_4.length a0_4 → a0_4.length ≤ ca0_4 → Kd.C (Kd.int .i64) w Aa0_5 a0_5.length a0_5 → a0_5.length ≤ ca0_5 → Calls Try.prog 14 #[.agg #[.int .i64 a0_0, .int .i64 a0_1, .int .i64 a0_2, .slice Aa0_3 a0_3.length ca0_3, .slice Aa0_4 a0_4.length ca0_4, .slice Aa0_5 a0_5.length ca0_5], .int .i64 1048576] w fun e w' => e = .returned (.int .i64 r0) ∧ Below w.heap.size w w') (hlt0 : ¬ r0 < 0) (r1 : Int) (hsz1 : ∀ (Aa1 : Option Addr) (ca1 : Nat) (w : World), Kd.C k141 w Aa1 a1.length a1 → a1.length ≤ ca1 → Calls Try.prog 39 #[.slice Aa1 a1.length ca1, .int .i64 r0] w fun e w' => e = .returned (.int .i64 r1) ∧ Below w.heap.size w w') (hlt1 : ¬ r1 < 0) (ta1 : List S139) (hta1 : a1.map cP = ta1) (g0 : Int) (g1 : Bool) (hla0_3 : a0_3.length ≤ 1048576) (hla0_4 : a0_4.length ≤ 1048576) (hla0_5 : a0_5.length ≤ 1048576) (hlta1 : ta1.length ≤ 1048576)  (hs : ∃ k, spec_RuleValue.f k a0_0 a0_1 a0_2 a0_3 a0_4 a0_5 ta1 a2 = some (g0, g1)) (hi : RVsays a0_0 a0_1 a0_2 a0_3 a0_4 a0_5 ta1 a2 (g0, g1)) :
    Calls Try.prog 8 #[.agg #[.int .i64 a0_0, .int .i64 a0_1, .int .i64 a0_2, .slice Aa0_3 a0_3.length ca0_3, .slice Aa0_4 a0_4.length ca0_4, .slice Aa0_5 a0_5.length ca0_5], .slice Aa1 a1.length ca1, .int .i64 a2] w fun e w' => e = .returned (.bool true) ∧ Below w.heap.size w w' := by
  obtain ⟨ks, hs⟩ := hs
  have Hs := Aside0.mk hs
  have Hi := Aside0.mk hi
  have HRa0_3 := Aside0.mk hra0_3
  have HCa0_3 := Aside0.mk hca0_3
  have HLa0_3 := Aside0.mk hla0_3
  have HRa0_4 := Aside0.mk hra0_4
  have HCa0_4 := Aside0.mk hca0_4
  have HLa0_4 := Aside0.mk hla0_4
  have HRa0_5 := Aside0.mk hra0_5
  have HCa0_5 := Aside0.mk hca0_5
  have HLa0_5 := Aside0.mk hla0_5
  have HRa1 := Aside0.mk hra1
  have HCa1 := Aside0.mk hca1
  have HLta1 := Aside0.mk hlta1
  have HTa1 := Aside0.mk hta1
  have HSZ0 := Aside0.mk hsz0
  have d0 : decide (r0 < 0) = false := decide_eq_false hlt0
  have HSZ1 := Aside0.mk hsz1
  have d1 : decide (r1 < 0) = false := decide_eq_false hlt1
  clear hs hi hra0_3 hca0_3 hla0_3 hra0_4 hca0_4 hla0_4 hra0_5 hca0_5 hla0_5 hra1 hca1 hlta1 hta1 hsz0 hlt0 hsz1 hlt1
  go_enter Try.func8, Try.ntmps8
  go_wp2_with fail
  obtain ⟨wb, hwb⟩ : ∃ z : World, z = (w.alloc (.cells #[.int .i64 a0_0, .int .i64 a0_1, .int .i64 a0_2, .slice Aa0_3 a0_3.length ca0_3, .slice Aa0_4 a0_4.length ca0_4, .slice Aa0_5 a0_5.length ca0_5] 26)) := ⟨_, rfl⟩
  rw [← hwb]
  have K0_0 : Aside0 (wb.heap[w.heap.size]? = some (.cells #[.int .i64 a0_0, .int .i64 a0_1, .int .i64 a0_2, .slice Aa0_3 a0_3.length ca0_3, .slice Aa0_4 a0_4.length ca0_4, .slice Aa0_5 a0_5.length ca0_5] 26 (0, 0))) := ⟨by rw [hwb]; exact blk_new w _⟩
  have B0 : Aside0 (Below w.heap.size w wb) := ⟨by rw [hwb]; exact below_alloc (Below.refl _ _) _⟩
  have z0 := B0.out.size
  have zb := blk_lt K0_0.out
  clear hwb
  refine (HSZ0.out Aa0_3 ca0_3 Aa0_4 ca0_4 Aa0_5 ca0_5 wb (Kd.C_below HRa0_3.out B0.out) HCa0_3.out (Kd.C_below HRa0_4.out B0.out) HCa0_4.out (Kd.C_below HRa0_5.out B0.out) HCa0_5.out).mono ?_
  rintro e w1 ⟨rfl, hb⟩
  have B1 := Aside0.mk (below_step B0.out hb)
  have z1 := hb.size
  have K0_1 := Aside0.mk (blk_below K0_0.out hb)
  clear K0_0
  clear hb
  have hcz0_0 : w1.cell? ⟨w.heap.size, 0, none⟩ = some (.int .i64 a0_0) := (blk_cell K0_1.out 0).trans rfl
  have hfz0_0 := blk_frozen K0_1.out 0
  have hcz0_1 : w1.cell? ⟨w.heap.size, 1, none⟩ = some (.int .i64 a0_1) := (blk_cell K0_1.out 1).trans rfl
  have hfz0_1 := blk_frozen K0_1.out 1
  have hcz0_2 : w1.cell? ⟨w.heap.size, 2, none⟩ = some (.int .i64 a0_2) := (blk_cell K0_1.out 2).trans rfl
  have hfz0_2 := blk_frozen K0_1.out 2
  have hcz0_3 : w1.cell? ⟨w.heap.size, 3, none⟩ = some (.slice Aa0_3 a0_3.length ca0_3) := (blk_cell K0_1.out 3).trans rfl
  have hfz0_3 := blk_frozen K0_1.out 3
  have hcz0_4 : w1.cell? ⟨w.heap.size, 4, none⟩ = some (.slice Aa0_4 a0_4.length ca0_4) := (blk_cell K0_1.out 4).trans rfl
  have hfz0_4 := blk_frozen K0_1.out 4
  have hcz0_5 : w1.cell? ⟨w.heap.size, 5, none⟩ = some (.slice Aa0_5 a0_5.length ca0_5) := (blk_cell K0_1.out 5).trans rfl
  have hfz0_5 := blk_frozen K0_1.out 5
  go_wp2_with fail
  clear hcz0_0 hfz0_0 hcz0_1 hfz0_1 hcz0_2 hfz0_2 hcz0_3 hfz0_3 hcz0_4 hfz0_4 hcz0_5 hfz0_5
  refine (HSZ1.out Aa1 ca1 w1 (Kd.C_below HRa1.out B1.out) HCa1.out).mono ?_
  rintro e w2 ⟨rfl, hb⟩
  have B2 := Aside0.mk (below_step B1.out hb)
  have z2 := hb.size
  have K0_2 := Aside0.mk (blk_below K0_1.out hb)
  clear K0_1
  clear hb
  have hcz0_0 : w2.cell? ⟨w.heap.size, 0, none⟩ = some (.int .i64 a0_0) := (blk_cell K0_2.out 0).trans rfl
  have hfz0_0 := blk_frozen K0_2.out 0
  have hcz0_1 : w2.cell? ⟨w.heap.size, 1, none⟩ = some (.int .i64 a0_1) := (blk_cell K0_2.out 1).trans rfl
  have hfz0_1 := blk_frozen K0_2.out 1
  have hcz0_2 : w2.cell? ⟨w.heap.size, 2, none⟩ = some (.int .i64 a0_2) := (blk_cell K0_2.out 2).trans rfl
  have hfz0_2 := blk_frozen K0_2.out 2
  have hcz0_3 : w2.cell? ⟨w.heap.size, 3, none⟩ = some (.slice Aa0_3 a0_3.length ca0_3) := (blk_cell K0_2.out 3).trans rfl
  have hfz0_3 := blk_frozen K0_2.out 3
  have hcz0_4 : w2.cell? ⟨w.heap.size, 4, none⟩ = some (.slice Aa0_4 a0_4.length ca0_4) := (blk_cell K0_2.out 4).trans rfl
  have hfz0_4 := blk_frozen K0_2.out 4
  have hcz0_5 : w2.cell? ⟨w.heap.size, 5, none⟩ = some (.slice Aa0_5 a0_5.length ca0_5) := (blk_cell K0_2.out 5).trans rfl
  have hfz0_5 := blk_frozen K0_2.out 5
  go_wp2_with fail
  clear hcz0_0 hfz0_0 hcz0_1 hfz0_1 hcz0_2 hfz0_2 hcz0_3 hfz0_3 hcz0_4 hfz0_4 hcz0_5 hfz0_5
  refine (toModel_calls a0_0 a0_1 a0_2 a0_3 HLa0_3.out a0_4 HLa0_4.out a0_5 HLa0_5.out Aa0_3 ca0_3 Aa0_4 ca0_4 Aa0_5 ca0_5 w2 (Kd.C_below HRa0_3.out B2.out) HCa0_3.out (Kd.C_below HRa0_4.out B2.out) HCa0_4.out (Kd.C_below HRa0_5.out B2.out) HCa0_5.out).mono ?_
  rintro e w3 ⟨v0, v1, v2, rfl, ho0, ho1, ho2, hne, hb⟩
  have B3 := Aside0.mk (below_step B2.out hb)
  have z3 := hb.size
  obtain ⟨At0_3_3, ct0_3_3, rfl⟩ := Kd.R_slice ho0
  have Ft0_3_3 := Aside0.mk (znR (w := w) rfl ho0 (by omega))
  clear ho0
  obtain ⟨At0_4_3, ct0_4_3, rfl⟩ := Kd.R_slice ho1
  have Ft0_4_3 := Aside0.mk (znR (w := w) rfl ho1 (by omega))
  clear ho1
  obtain ⟨At0_5_3, ct0_5_3, rfl⟩ := Kd.R_slice ho2
  have Ft0_5_3 := Aside0.mk (znR (w := w) rfl ho2 (by omega))
  clear ho2
  have Dt0 := Aside0.mk hne
  clear hne
  have K0_3 := Aside0.mk (blk_below K0_2.out hb)
  clear K0_2
  clear hb
  have hcz0_0 : w3.cell? ⟨w.heap.size, 0, none⟩ = some (.int .i64 a0_0) := (blk_cell K0_3.out 0).trans rfl
  have hfz0_0 := blk_frozen K0_3.out 0
  have hcz0_1 : w3.cell? ⟨w.heap.size, 1, none⟩ = some (.int .i64 a0_1) := (blk_cell K0_3.out 1).trans rfl
  have hfz0_1 := blk_frozen K0_3.out 1
  have hcz0_2 : w3.cell? ⟨w.heap.size, 2, none⟩ = some (.int .i64 a0_2) := (blk_cell K0_3.out 2).trans rfl
  have hfz0_2 := blk_frozen K0_3.out 2
  have hcz0_3 : w3.cell? ⟨w.heap.size, 3, none⟩ = some (.slice Aa0_3 a0_3.length ca0_3) := (blk_cell K0_3.out 3).trans rfl
  have hfz0_3 := blk_frozen K0_3.out 3
  have hcz0_4 : w3.cell? ⟨w.heap.size, 4, none⟩ = some (.slice Aa0_4 a0_4.length ca0_4) := (blk_cell K0_3.out 4).trans rfl
  have hfz0_4 := blk_frozen K0_3.out 4
  have hcz0_5 : w3.cell? ⟨w.heap.size, 5, none⟩ = some (.slice Aa0_5 a0_5.length ca0_5) := (blk_cell K0_3.out 5).trans rfl
  have hfz0_5 := blk_frozen K0_3.out 5
  go_wp2_with fail
  clear hcz0_0 hfz0_0 hcz0_1 hfz0_1 hcz0_2 hfz0_2 hcz0_3 hfz0_3 hcz0_4 hfz0_4 hcz0_5 hfz0_5
  refine (toPartS_calls a1 ta1 HTa1.out HLta1.out Aa1 ca1 w3 (Kd.C_below HRa1.out B3.out) HCa1.out).mono ?_
  rintro e w4 ⟨v, rfl, ho, hb⟩
  have B4 := Aside0.mk (below_step B3.out hb)
  have z4 := hb.size
  obtain ⟨At1_0_4, ct1_0_4, rfl⟩ := Kd.R_slice ho
  have Ft1_0_4 := Aside0.mk (ivR (w := w) ho (by omega))
  clear ho
  have K0_4 := Aside0.mk (blk_below K0_3.out hb)
  clear K0_3
  have Ft0_3_4 := Aside0.mk (Kd.R_below Ft0_3_3.out hb)
  clear Ft0_3_3
  have Ft0_4_4 := Aside0.mk (Kd.R_below Ft0_4_3.out hb)
  clear Ft0_4_3
  have Ft0_5_4 := Aside0.mk (Kd.R_below Ft0_5_3.out hb)
  clear Ft0_5_3
  clear hb
  have hcz0_0 : w4.cell? ⟨w.heap.size, 0, none⟩ = some (.int .i64 a0_0) := (blk_cell K0_4.out 0).trans rfl
  have hfz0_0 := blk_frozen K0_4.out 0
  have hcz0_1 : w4.cell? ⟨w.heap.size, 1, none⟩ = some (.int .i64 a0_1) := (blk_cell K0_4.out 1).trans rfl
  have hfz0_1 := blk_frozen K0_4.out 1
  have hcz0_2 : w4.cell? ⟨w.heap.size, 2, none⟩ = some (.int .i64 a0_2) := (blk_cell K0_4.out 2).trans rfl
  have hfz0_2 := blk_frozen K0_4.out 2
  have hcz0_3 : w4.cell? ⟨w.heap.size, 3, none⟩ = some (.slice Aa0_3 a0_3.length ca0_3) := (blk_cell K0_4.out 3).trans rfl
  have hfz0_3 := blk_frozen K0_4.out 3
  have hcz0_4 : w4.cell? ⟨w.heap.size, 4, none⟩ = some (.slice Aa0_4 a0_4.length ca0_4) := (blk_cell K0_4.out 4).trans rfl
  have hfz0_4 := blk_frozen K0_4.out 4
  have hcz0_5 : w4.cell? ⟨w.heap.size, 5, none⟩ = some (.slice Aa0_5 a0_5.length ca0_5) := (blk_cell K0_4.out 5).trans rfl
  have hfz0_5 := blk_frozen K0_4.out 5
  go_wp2_with fail
  clear hcz0_0 hfz0_0 hcz0_1 hfz0_1 hcz0_2 hfz0_2 hcz0_3 hfz0_3 hcz0_4 hfz0_4 hcz0_5 hfz0_5
  refine (spec_RuleValue.calls ks a0_0 a0_1 a0_2 At0_3_3 ct0_3_3 a0_3 At0_4_3 ct0_4_3 a0_4 At0_5_3 ct0_5_3 a0_5 At1_0_4 ct1_0_4 ta1 a2 g0 g1 w4 (readsR Ft0_3_4.out).2.2 (readsR Ft0_3_4.out).2.1 (readsR Ft0_4_4.out).2.2 (readsR Ft0_4_4.out).2.1 (readsR Ft0_5_4.out).2.2 (readsR Ft0_5_4.out).2.1 (readsR Ft1_0_4.out).2.2 (readsR Ft1_0_4.out).2.1 Hs.out).mono ?_
  rintro e w5 ⟨rfl, hb⟩
  have B5 := Aside0.mk (below_step B4.out hb)
  have z5 := hb.size
  have K0_5 := Aside0.mk (blk_below K0_4.out hb)
  clear K0_4
  have Ft0_3_5 := Aside0.mk (Kd.R_below Ft0_3_4.out hb)
  clear Ft0_3_4
  have Ft0_4_5 := Aside0.mk (Kd.R_below Ft0_4_4.out hb)
  clear Ft0_4_4
  have Ft0_5_5 := Aside0.mk (Kd.R_below Ft0_5_4.out hb)
  clear Ft0_5_4
  have Ft1_0_5 := Aside0.mk (Kd.R_below Ft1_0_4.out hb)
  clear Ft1_0_4
  clear hb
  have hcz0_0 : w5.cell? ⟨w.heap.size, 0, none⟩ = some (.int .i64 a0_0) := (blk_cell K0_5.out 0).trans rfl
  have hfz0_0 := blk_frozen K0_5.out 0
  have hcz0_1 : w5.cell? ⟨w.heap.size, 1, none⟩ = some (.int .i64 a0_1) := (blk_cell K0_5.out 1).trans rfl
  have hfz0_1 := blk_frozen K0_5.out 1
  have hcz0_2 : w5.cell? ⟨w.heap.size, 2, none⟩ = some (.int .i64 a0_2) := (blk_cell K0_5.out 2).trans rfl
  have hfz0_2 := blk_frozen K0_5.out 2
  have hcz0_3 : w5.cell? ⟨w.heap.size, 3, none⟩ = some (.slice Aa0_3 a0_3.length ca0_3) := (blk_cell K0_5.out 3).trans rfl
  have hfz0_3 := blk_frozen K0_5.out 3
  have hcz0_4 : w5.cell? ⟨w.heap.size, 4, none⟩ = some (.slice Aa0_4 a0_4.length ca0_4) := (blk_cell K0_5.out 4).trans rfl
  have hfz0_4 := blk_frozen K0_5.out 4
  have hcz0_5 : w5.cell? ⟨w.heap.size, 5, none⟩ = some (.slice Aa0_5 a0_5.length ca0_5) := (blk_cell K0_5.out 5).trans rfl
  have hfz0_5 := blk_frozen K0_5.out 5
  go_wp2_with fail
  clear hcz0_0 hfz0_0 hcz0_1 hfz0_1 hcz0_2 hfz0_2 hcz0_3 hfz0_3 hcz0_4 hfz0_4 hcz0_5 hfz0_5
  refine (toModel_calls a0_0 a0_1 a0_2 a0_3 HLa0_3.out a0_4 HLa0_4.out a0_5 HLa0_5.out Aa0_3 ca0_3 Aa0_4 ca0_4 Aa0_5 ca0_5 w5 (Kd.C_below HRa0_3.out B5.out) HCa0_3.out (Kd.C_below HRa0_4.out B5.out) HCa0_4.out (Kd.C_below HRa0_5.out B5.out) HCa0_5.out).mono ?_
  rintro e w6 ⟨v0, v1, v2, rfl, ho0, ho1, ho2, hne, hb⟩
  have B6 := Aside0.mk (below_step B5.out hb)
  have z6 := hb.size
  obtain ⟨Ax0_3_6, cx0_3_6, rfl⟩ := Kd.R_slice ho0
  have Fx0_3_6 := Aside0.mk (znR (w := w) rfl ho0 (by omega))
  clear ho0
  obtain ⟨Ax0_4_6, cx0_4_6, rfl⟩ := Kd.R_slice ho1
  have Fx0_4_6 := Aside0.mk (znR (w := w) rfl ho1 (by omega))
  clear ho1
  obtain ⟨Ax0_5_6, cx0_5_6, rfl⟩ := Kd.R_slice ho2
  have Fx0_5_6 := Aside0.mk (znR (w := w) rfl ho2 (by omega))
  clear ho2
  have Dx0 := Aside0.mk hne
  clear hne
  have K0_6 := Aside0.mk (blk_below K0_5.out hb)
  clear K0_5
  clear hb
  have hcz0_0 : w6.cell? ⟨w.heap.size, 0, none⟩ = some (.int .i64 a0_0) := (blk_cell K0_6.out 0).trans rfl
  have hfz0_0 := blk_frozen K0_6.out 0
  have hcz0_1 : w6.cell? ⟨w.heap.size, 1, none⟩ = some (.int .i64 a0_1) := (blk_cell K0_6.out 1).trans rfl
  have hfz0_1 := blk_frozen K0_6.out 1
  have hcz0_2 : w6.cell? ⟨w.heap.size, 2, none⟩ = some (.int .i64 a0_2) := (blk_cell K0_6.out 2).trans rfl
  have hfz0_2 := blk_frozen K0_6.out 2
  have hcz0_3 : w6.cell? ⟨w.heap.size, 3, none⟩ = some (.slice Aa0_3 a0_3.length ca0_3) := (blk_cell K0_6.out 3).trans rfl
  have hfz0_3 := blk_frozen K0_6.out 3
  have hcz0_4 : w6.cell? ⟨w.heap.size, 4, none⟩ = some (.slice Aa0_4 a0_4.length ca0_4) := (blk_cell K0_6.out 4).trans rfl
  have hfz0_4 := blk_frozen K0_6.out 4
  have hcz0_5 : w6.cell? ⟨w.heap.size, 5, none⟩ = some (.slice Aa0_5 a0_5.length ca0_5) := (blk_cell K0_6.out 5).trans rfl
  have hfz0_5 := blk_frozen K0_6.out 5
  go_wp2_with fail
  clear hcz0_0 hfz0_0 hcz0_1 hfz0_1 hcz0_2 hfz0_2 hcz0_3 hfz0_3 hcz0_4 hfz0_4 hcz0_5 hfz0_5
  have Fx0_3_6b := Aside0.mk (Kd.R_below Fx0_3_6.out (below_alloc (Below.refl _ _) (.cells #[.int .i64 a0_0, .int .i64 a0_1, .int .i64 a0_2, .slice Ax0_3_6 a0_3.length cx0_3_6, .slice Ax0_4_6 a0_4.length cx0_4_6, .slice Ax0_5_6 a0_5.length cx0_5_6] 34)))
  clear Fx0_3_6
  have Fx0_4_6b := Aside0.mk (Kd.R_below Fx0_4_6.out (below_alloc (Below.refl _ _) (.cells #[.int .i64 a0_0, .int .i64 a0_1, .int .i64 a0_2, .slice Ax0_3_6 a0_3.length cx0_3_6, .slice Ax0_4_6 a0_4.length cx0_4_6, .slice Ax0_5_6 a0_5.length cx0_5_6] 34)))
  clear Fx0_4_6
  have Fx0_5_6b := Aside0.mk (Kd.R_below Fx0_5_6.out (below_alloc (Below.refl _ _) (.cells #[.int .i64 a0_0, .int .i64 a0_1, .int .i64 a0_2, .slice Ax0_3_6 a0_3.length cx0_3_6, .slice Ax0_4_6 a0_4.length cx0_4_6, .slice Ax0_5_6 a0_5.length cx0_5_6] 34)))
  clear Fx0_5_6
  have K0_6b := Aside0.mk (blk_alloc K0_6.out (.cells #[.int .i64 a0_0, .int .i64 a0_1, .int .i64 a0_2, .slice Ax0_3_6 a0_3.length cx0_3_6, .slice Ax0_4_6 a0_4.length cx0_4_6, .slice Ax0_5_6 a0_5.length cx0_5_6] 34))
  clear K0_6
  have B7 := Aside0.mk (below_alloc B6.out (.cells #[.int .i64 a0_0, .int .i64 a0_1, .int .i64 a0_2, .slice Ax0_3_6 a0_3.length cx0_3_6, .slice Ax0_4_6 a0_4.length cx0_4_6, .slice Ax0_5_6 a0_5.length cx0_5_6] 34))
  have z7 : w6.heap.size < (w6.alloc (.cells #[.int .i64 a0_0, .int .i64 a0_1, .int .i64 a0_2, .slice Ax0_3_6 a0_3.length cx0_3_6, .slice Ax0_4_6 a0_4.length cx0_4_6, .slice Ax0_5_6 a0_5.length cx0_5_6] 34)).heap.size := Nat.lt_of_lt_of_eq (Nat.lt_succ_self _) (Array.size_push ..).symm
  have Kx0_7 := Aside0.mk (blk_new w6 (.cells #[.int .i64 a0_0, .int .i64 a0_1, .int .i64 a0_2, .slice Ax0_3_6 a0_3.length cx0_3_6, .slice Ax0_4_6 a0_4.length cx0_4_6, .slice Ax0_5_6 a0_5.length cx0_5_6] 34))
  generalize w6.alloc (.cells #[.int .i64 a0_0, .int .i64 a0_1, .int .i64 a0_2, .slice Ax0_3_6 a0_3.length cx0_3_6, .slice Ax0_4_6 a0_4.length cx0_4_6, .slice Ax0_5_6 a0_5.length cx0_5_6] 34) = w7 at Fx0_3_6b Fx0_4_6b Fx0_5_6b K0_6b Kx0_7 B7 z7 ⊢
  refine (toPartS_calls a1 ta1 HTa1.out HLta1.out Aa1 ca1 w7 (Kd.C_below HRa1.out B7.out) HCa1.out).mono ?_
  rintro e w8 ⟨v, rfl, ho, hb⟩
  have B8 := Aside0.mk (below_step B7.out hb)
  have z8 := hb.size
  obtain ⟨Ax1_0_8, cx1_0_8, rfl⟩ := Kd.R_slice ho
  have Fx1_0_8 := Aside0.mk (ivR (w := w) ho (by omega))
  clear ho
  have K0_8 := Aside0.mk (blk_below K0_6b.out hb)
  clear K0_6b
  have K1_8 := Aside0.mk (blk_below Kx0_7.out hb)
  clear Kx0_7
  have Fx0_3_8 := Aside0.mk (Kd.R_below Fx0_3_6b.out hb)
  clear Fx0_3_6b
  have Fx0_4_8 := Aside0.mk (Kd.R_below Fx0_4_6b.out hb)
  clear Fx0_4_6b
  have Fx0_5_8 := Aside0.mk (Kd.R_below Fx0_5_6b.out hb)
  clear Fx0_5_6b
  clear hb
  have hcz0_0 : w8.cell? ⟨w.heap.size, 0, none⟩ = some (.int .i64 a0_0) := (blk_cell K0_8.out 0).trans rfl
  have hfz0_0 := blk_frozen K0_8.out 0
  have hcz0_1 : w8.cell? ⟨w.heap.size, 1, none⟩ = some (.int .i64 a0_1) := (blk_cell K0_8.out 1).trans rfl
  have hfz0_1 := blk_frozen K0_8.out 1
  have hcz0_2 : w8.cell? ⟨w.heap.size, 2, none⟩ = some (.int .i64 a0_2) := (blk_cell K0_8.out 2).trans rfl
  have hfz0_2 := blk_frozen K0_8.out 2
  have hcz0_3 : w8.cell? ⟨w.heap.size, 3, none⟩ = some (.slice Aa0_3 a0_3.length ca0_3) := (blk_cell K0_8.out 3).trans rfl
  have hfz0_3 := blk_frozen K0_8.out 3
  have hcz0_4 : w8.cell? ⟨w.heap.size, 4, none⟩ = some (.slice Aa0_4 a0_4.length ca0_4) := (blk_cell K0_8.out 4).trans rfl
  have hfz0_4 := blk_frozen K0_8.out 4
  have hcz0_5 : w8.cell? ⟨w.heap.size, 5, none⟩ = some (.slice Aa0_5 a0_5.length ca0_5) := (blk_cell K0_8.out 5).trans rfl
  have hfz0_5 := blk_frozen K0_8.out 5
  have hcz1_0 : w8.cell? ⟨w6.heap.size, 0, none⟩ = some (.int .i64 a0_0) := (blk_cell K1_8.out 0).trans rfl
  have hfz1_0 := blk_frozen K1_8.out 0
  have hcz1_1 : w8.cell? ⟨w6.heap.size, 1, none⟩ = some (.int .i64 a0_1) := (blk_cell K1_8.out 1).trans rfl
  have hfz1_1 := blk_frozen K1_8.out 1
  have hcz1_2 : w8.cell? ⟨w6.heap.size, 2, none⟩ = some (.int .i64 a0_2) := (blk_cell K1_8.out 2).trans rfl
  have hfz1_2 := blk_frozen K1_8.out 2
  have hcz1_3 : w8.cell? ⟨w6.heap.size, 3, none⟩ = some (.slice Ax0_3_6 a0_3.length cx0_3_6) := (blk_cell K1_8.out 3).trans rfl
  have hfz1_3 := blk_frozen K1_8.out 3
  have hcz1_4 : w8.cell? ⟨w6.heap.size, 4, none⟩ = some (.slice Ax0_4_6 a0_4.length cx0_4_6) := (blk_cell K1_8.out 4).trans rfl
  have hfz1_4 := blk_frozen K1_8.out 4
  have hcz1_5 : w8.cell? ⟨w6.heap.size, 5, none⟩ = some (.slice Ax0_5_6 a0_5.length cx0_5_6) := (blk_cell K1_8.out 5).trans rfl
  have hfz1_5 := blk_frozen K1_8.out 5
  go_wp2_with fail
  clear hcz0_0 hfz0_0 hcz0_1 hfz0_1 hcz0_2 hfz0_2 hcz0_3 hfz0_3 hcz0_4 hfz0_4 hcz0_5 hfz0_5 hcz1_0 hfz1_0 hcz1_1 hfz1_1 hcz1_2 hfz1_2 hcz1_3 hfz1_3 hcz1_4 hfz1_4 hcz1_5 hfz1_5
  refine (OwnRuleValue.own_impl a0_0 a0_1 a0_2 Ax0_3_6 cx0_3_6 a0_3 Ax0_4_6 cx0_4_6 a0_4 Ax0_5_6 cx0_5_6 a0_5 Ax1_0_8 cx1_0_8 ta1 a2 g0 g1 w8 (readsR Fx0_3_8.out).2.2 (readsR Fx0_3_8.out).2.1 (readsR Fx0_4_8.out).2.2 (readsR Fx0_4_8.out).2.1 (readsR Fx0_5_8.out).2.2 (readsR Fx0_5_8.out).2.1 (readsR Fx1_0_8.out).2.2 (readsR Fx1_0_8.out).2.1 HLa0_3.out HLa0_4.out HLa0_5.out HLta1.out Hi.out).mono ?_
  rintro e w9 ⟨rfl, hb⟩
  have B9 := Aside0.mk (below_step B8.out hb)
  have z9 := hb.size
  have K0_9 := Aside0.mk (blk_below K0_8.out hb)
  clear K0_8
  have K1_9 := Aside0.mk (blk_below K1_8.out hb)
  clear K1_8
  have Fx0_3_9 := Aside0.mk (Kd.R_below Fx0_3_8.out hb)
  clear Fx0_3_8
  have Fx0_4_9 := Aside0.mk (Kd.R_below Fx0_4_8.out hb)
  clear Fx0_4_8
  have Fx0_5_9 := Aside0.mk (Kd.R_below Fx0_5_8.out hb)
  clear Fx0_5_8
  have Fx1_0_9 := Aside0.mk (Kd.R_below Fx1_0_8.out hb)
  clear Fx1_0_8
  clear hb
  have hcz0_0 : w9.cell? ⟨w.heap.size, 0, none⟩ = some (.int .i64 a0_0) := (blk_cell K0_9.out 0).trans rfl
  have hfz0_0 := blk_frozen K0_9.out 0
  have hcz0_1 : w9.cell? ⟨w.heap.size, 1, none⟩ = some (.int .i64 a0_1) := (blk_cell K0_9.out 1).trans rfl
  have hfz0_1 := blk_frozen K0_9.out 1
  have hcz0_2 : w9.cell? ⟨w.heap.size, 2, none⟩ = some (.int .i64 a0_2) := (blk_cell K0_9.out 2).trans rfl
  have hfz0_2 := blk_frozen K0_9.out 2
  have hcz0_3 : w9.cell? ⟨w.heap.size, 3, none⟩ = some (.slice Aa0_3 a0_3.length ca0_3) := (blk_cell K0_9.out 3).trans rfl
  have hfz0_3 := blk_frozen K0_9.out 3
  have hcz0_4 : w9.cell? ⟨w.heap.size, 4, none⟩ = some (.slice Aa0_4 a0_4.length ca0_4) := (blk_cell K0_9.out 4).trans rfl
  have hfz0_4 := blk_frozen K0_9.out 4
  have hcz0_5 : w9.cell? ⟨w.heap.size, 5, none⟩ = some (.slice Aa0_5 a0_5.length ca0_5) := (blk_cell K0_9.out 5).trans rfl
  have hfz0_5 := blk_frozen K0_9.out 5
  have hcz1_0 : w9.cell? ⟨w6.heap.size, 0, none⟩ = some (.int .i64 a0_0) := (blk_cell K1_9.out 0).trans rfl
  have hfz1_0 := blk_frozen K1_9.out 0
  have hcz1_1 : w9.cell? ⟨w6.heap.size, 1, none⟩ = some (.int .i64 a0_1) := (blk_cell K1_9.out 1).trans rfl
  have hfz1_1 := blk_frozen K1_9.out 1
  have hcz1_2 : w9.cell? ⟨w6.heap.size, 2, none⟩ = some (.int .i64 a0_2) := (blk_cell K1_9.out 2).trans rfl
  have hfz1_2 := blk_frozen K1_9.out 2
  have hcz1_3 : w9.cell? ⟨w6.heap.size, 3, none⟩ = some (.slice Ax0_3_6 a0_3.length cx0_3_6) := (blk_cell K1_9.out 3).trans rfl
  have hfz1_3 := blk_frozen K1_9.out 3
  have hcz1_4 : w9.cell? ⟨w6.heap.size, 4, none⟩ = some (.slice Ax0_4_6 a0_4.length cx0_4_6) := (blk_cell K1_9.out 4).trans rfl
  have hfz1_4 := blk_frozen K1_9.out 4
  have hcz1_5 : w9.cell? ⟨w6.heap.size, 5, none⟩ = some (.slice Ax0_5_6 a0_5.length cx0_5_6) := (blk_cell K1_9.out 5).trans rfl
  have hfz1_5 := blk_frozen K1_9.out 5
  go_wp2_with fail
  clear hcz0_0 hfz0_0 hcz0_1 hfz0_1 hcz0_2 hfz0_2 hcz0_3 hfz0_3 hcz0_4 hfz0_4 hcz0_5 hfz0_5 hcz1_0 hfz1_0 hcz1_1 hfz1_1 hcz1_2 hfz1_2 hcz1_3 hfz1_3 hcz1_4 hfz1_4 hcz1_5 hfz1_5
  have Fx0_3_9d := Aside0.mk (Kd.R_drew Fx0_3_9.out)
  clear Fx0_3_9
  have Fx0_4_9d := Aside0.mk (Kd.R_drew Fx0_4_9.out)
  clear Fx0_4_9
  have Fx0_5_9d := Aside0.mk (Kd.R_drew Fx0_5_9.out)
  clear Fx0_5_9
  have Fx1_0_9d := Aside0.mk (Kd.R_drew Fx1_0_9.out)
  clear Fx1_0_9
  have K0_9d := Aside0.mk (blk_drew K0_9.out)
  clear K0_9
  have K1_9d := Aside0.mk (blk_drew K1_9.out)
  clear K1_9
  have B10 := Aside0.mk (below_drew1 B9.out)
  have z10 : w9.heap.size ≤ (w9.drew).heap.size := Nat.le_refl _
  refine start_ (n := 5) (S := fun w' => w'.cell? ⟨w.heap.size, 0, none⟩ = some (.int .i64 a0_0) ∧ w'.cell? ⟨w.heap.size, 1, none⟩ = some (.int .i64 a0_1) ∧ w'.cell? ⟨w.heap.size, 2, none⟩ = some (.int .i64 a0_2) ∧ w'.cell? ⟨w.heap.size, 3, none⟩ = some (.slice Aa0_3 a0_3.length ca0_3) ∧ w'.cell? ⟨w.heap.size, 4, none⟩ = some (.slice Aa0_4 a0_4.length ca0_4) ∧ w'.cell? ⟨w.heap.size, 5, none⟩ = some (.slice Aa0_5 a0_5.length ca0_5) ∧ w'.cell? ⟨w6.heap.size, 0, none⟩ = some (.int .i64 a0_0) ∧ w'.cell? ⟨w6.heap.size, 1, none⟩ = some (.int .i64 a0_1) ∧ w'.cell? ⟨w6.heap.size, 2, none⟩ = some (.int .i64 a0_2) ∧ w'.cell? ⟨w6.heap.size, 3, none⟩ = some (.slice Ax0_3_6 a0_3.length cx0_3_6) ∧ w'.cell? ⟨w6.heap.size, 4, none⟩ = some (.slice Ax0_4_6 a0_4.length cx0_4_6) ∧ w'.cell? ⟨w6.heap.size, 5, none⟩ = some (.slice Ax0_5_6 a0_5.length cx0_5_6)) (ds := []) #[false, false, false, false, false] (by kernel_rfl) rfl rfl ⟨(blk_cell K0_9d.out 0).trans rfl, (blk_cell K0_9d.out 1).trans rfl, (blk_cell K0_9d.out 2).trans rfl, (blk_cell K0_9d.out 3).trans rfl, (blk_cell K0_9d.out 4).trans rfl, (blk_cell K0_9d.out 5).trans rfl, (blk_cell K1_9d.out 0).trans rfl, (blk_cell K1_9d.out 1).trans rfl, (blk_cell K1_9d.out 2).trans rfl, (blk_cell K1_9d.out 3).trans rfl, (blk_cell K1_9d.out 4).trans rfl, (blk_cell K1_9d.out 5).trans rfl⟩ (fun hHeld => ?_)
  refine with_tabW laws_FnExactRuleValue_tab14 laws_FnExactRuleValue_bits14 (fun HT_ HW_ => ?_)
  generalize w9.drew = w10 at Fx0_3_9d Fx0_4_9d Fx0_5_9d Fx1_0_9d K0_9d K1_9d B10 z10 hHeld ⊢
  refine take_ (i := 0) (N := some 52) (v := ?_) (a' := ?_) #[true, false, false, false, false] rfl rfl (take_ofW HT_.out HW_.out (by kernel_rfl)) (fun _ _ _ h => h) (Or.inl ⟨by rfl, ?_⟩) hHeld ?_ ?_
  rotate_left
  · rintro w' ⟨s0, s1, s2, s3, s4, s5, s6, s7, s8, s9, s10, s11⟩
    go_simp
    with_reducible rfl
  rotate_left
  · simp only [Act.put, List.setIfInBounds_toArray, List.set_cons_zero, List.set_cons_succ, i64_w, i32_w]
    rfl
  refine take_ (i := 1) (N := some 53) (v := ?_) (a' := ?_) #[true, true, false, false, false] rfl rfl (take_ofW HT_.out HW_.out (by kernel_rfl)) (fun _ _ _ h => h) (Or.inl ⟨by rfl, ?_⟩) hHeld ?_ ?_
  rotate_left
  · rintro w' ⟨s0, s1, s2, s3, s4, s5, s6, s7, s8, s9, s10, s11⟩
    go_simp
    with_reducible rfl
  rotate_left
  · simp only [Act.put, List.setIfInBounds_toArray, List.set_cons_zero, List.set_cons_succ, i64_w, i32_w]
    rfl
  refine one_ (i := 2) (N := some 54) #[true, true, true, false, false] rfl rfl (one_of HT_.out (by kernel_rfl)) (by decide) (fun K hK => ?_)
  refine goes_ Try.func16 (by kernel_rfl) rfl #[.agg #[.int .i64 a0_0, .int .i64 a0_1, .int .i64 a0_2, .slice Aa0_3 a0_3.length ca0_3, .slice Aa0_4 a0_4.length ca0_4, .slice Aa0_5 a0_5.length ca0_5]] (by rfl) rfl rfl (by (try simp only [List.map_toArray, List.map_cons, List.map_nil]); first | done | rfl | (simp only [List.length_drop, List.length_take]; rfl)) ?_
  refine (toModel_calls a0_0 a0_1 a0_2 a0_3 HLa0_3.out a0_4 HLa0_4.out a0_5 HLa0_5.out Aa0_3 ca0_3 Aa0_4 ca0_4 Aa0_5 ca0_5 w10 (Kd.C_below HRa0_3.out B10.out) HCa0_3.out (Kd.C_below HRa0_4.out B10.out) HCa0_4.out (Kd.C_below HRa0_5.out B10.out) HCa0_5.out).mono ?_
  rintro e w11 ⟨v0, v1, v2, rfl, ho0, ho1, ho2, hne, hb⟩
  refine ⟨_, rfl, ?_⟩
  have B11 := Aside0.mk (below_step B10.out hb)
  have z11 := hb.size
  obtain ⟨Au_3_11, cu_3_11, rfl⟩ := Kd.R_slice ho0
  have Fu_3_11 := Aside0.mk (znR (w := w) rfl ho0 (by omega))
  clear ho0
  obtain ⟨Au_4_11, cu_4_11, rfl⟩ := Kd.R_slice ho1
  have Fu_4_11 := Aside0.mk (znR (w := w) rfl ho1 (by omega))
  clear ho1
  obtain ⟨Au_5_11, cu_5_11, rfl⟩ := Kd.R_slice ho2
  have Fu_5_11 := Aside0.mk (znR (w := w) rfl ho2 (by omega))
  clear ho2
  have Du := Aside0.mk hne
  clear hne
  have K0_11 := Aside0.mk (blk_below K0_9d.out hb)
  clear K0_9d
  have K1_11 := Aside0.mk (blk_below K1_9d.out hb)
  clear K1_9d
  have Fx0_3_11 := Aside0.mk (Kd.R_below Fx0_3_9d.out hb)
  clear Fx0_3_9d
  have Fx0_4_11 := Aside0.mk (Kd.R_below Fx0_4_9d.out hb)
  clear Fx0_4_9d
  have Fx0_5_11 := Aside0.mk (Kd.R_below Fx0_5_9d.out hb)
  clear Fx0_5_9d
  have Fx1_0_11 := Aside0.mk (Kd.R_below Fx1_0_9d.out hb)
  clear Fx1_0_9d
  clear hb
  refine hK.out _ _ ⟨(blk_cell K0_11.out 0).trans rfl, (blk_cell K0_11.out 1).trans rfl, (blk_cell K0_11.out 2).trans rfl, (blk_cell K0_11.out 3).trans rfl, (blk_cell K0_11.out 4).trans rfl, (blk_cell K0_11.out 5).trans rfl, (blk_cell K1_11.out 0).trans rfl, (blk_cell K1_11.out 1).trans rfl, (blk_cell K1_11.out 2).trans rfl, (blk_cell K1_11.out 3).trans rfl, (blk_cell K1_11.out 4).trans rfl, (blk_cell K1_11.out 5).trans rfl⟩ (fun hHeld => ?_)
  clear hK K
  refine norm_ (a' := ?_) ?_ ?_
  rotate_left
  · show Act.put _ (some 54) _ = _
    simp only [Act.put, List.setIfInBounds_toArray, List.set_cons_zero, List.set_cons_succ, i64_w, i32_w]
    rfl
  refine one_ (i := 3) (N := some 55) #[true, true, true, true, false] rfl rfl (one_of HT_.out (by kernel_rfl)) (by decide) (fun K hK => ?_)
  refine goes_ Try.func19 (by kernel_rfl) rfl #[.agg #[.int .i64 a0_0, .int .i64 a0_1, .int .i64 a0_2, .slice Ax0_3_6 a0_3.length cx0_3_6, .slice Ax0_4_6 a0_4.length cx0_4_6, .slice Ax0_5_6 a0_5.length cx0_5_6], .agg #[.int .i64 a0_0, .int .i64 a0_1, .int .i64 a0_2, .slice Au_3_11 a0_3.length cu_3_11, .slice Au_4_11 a0_4.length cu_4_11, .slice Au_5_11 a0_5.length cu_5_11]] (by rfl) rfl rfl (by (try simp only [List.map_toArray, List.map_cons, List.map_nil]); first | done | rfl | (simp only [List.length_drop, List.length_take]; rfl)) ?_
  refine (eqModel_calls a0_0 a0_1 a0_2 a0_3 a0_4 a0_5 (maxLen_val (by have := HLa0_3.out; omega)) (maxLen_val (by have := HLa0_4.out; omega)) (maxLen_val (by have := HLa0_5.out; omega)) Ax0_3_6 cx0_3_6 Ax0_4_6 cx0_4_6 Ax0_5_6 cx0_5_6 Au_3_11 cu_3_11 Au_4_11 cu_4_11 Au_5_11 cu_5_11 w11 (readsR Fx0_3_11.out).2.2 (readsR Fx0_3_11.out).2.1 (readsR Fx0_4_11.out).2.2 (readsR Fx0_4_11.out).2.1 (readsR Fx0_5_11.out).2.2 (readsR Fx0_5_11.out).2.1 (readsR Fu_3_11.out).2.2 (readsR Fu_3_11.out).2.1 (readsR Fu_4_11.out).2.2 (readsR Fu_4_11.out).2.1 (readsR Fu_5_11.out).2.2 (readsR Fu_5_11.out).2.1).mono ?_
  rintro e w12 ⟨rfl, hb⟩
  refine ⟨_, rfl, ?_⟩
  have B12 := Aside0.mk (below_step B11.out hb)
  have z12 := hb.size
  have K0_12 := Aside0.mk (blk_below K0_11.out hb)
  clear K0_11
  have K1_12 := Aside0.mk (blk_below K1_11.out hb)
  clear K1_11
  have Fx0_3_12 := Aside0.mk (Kd.R_below Fx0_3_11.out hb)
  clear Fx0_3_11
  have Fx0_4_12 := Aside0.mk (Kd.R_below Fx0_4_11.out hb)
  clear Fx0_4_11
  have Fx0_5_12 := Aside0.mk (Kd.R_below Fx0_5_11.out hb)
  clear Fx0_5_11
  have Fx1_0_12 := Aside0.mk (Kd.R_below Fx1_0_11.out hb)
  clear Fx1_0_11
  have Fu_3_12 := Aside0.mk (Kd.R_below Fu_3_11.out hb)
  clear Fu_3_11
  have Fu_4_12 := Aside0.mk (Kd.R_below Fu_4_11.out hb)
  clear Fu_4_11
  have Fu_5_12 := Aside0.mk (Kd.R_below Fu_5_11.out hb)
  clear Fu_5_11
  clear hb
  refine hK.out _ _ ⟨(blk_cell K0_12.out 0).trans rfl, (blk_cell K0_12.out 1).trans rfl, (blk_cell K0_12.out 2).trans rfl, (blk_cell K0_12.out 3).trans rfl, (blk_cell K0_12.out 4).trans rfl, (blk_cell K0_12.out 5).trans rfl, (blk_cell K1_12.out 0).trans rfl, (blk_cell K1_12.out 1).trans rfl, (blk_cell K1_12.out 2).trans rfl, (blk_cell K1_12.out 3).trans rfl, (blk_cell K1_12.out 4).trans rfl, (blk_cell K1_12.out 5).trans rfl⟩ (fun hHeld => ?_)
  clear hK K
  refine norm_ (a' := ?_) ?_ ?_
  rotate_left
  · show Act.put _ (some 55) _ = _
    simp only [Act.put, List.setIfInBounds_toArray, List.set_cons_zero, List.set_cons_succ, i64_w, i32_w]
    rfl
  refine pure_ (i := 4) (N := some 56) (v := ?_) (a' := ?_) #[true, true, true, true, true] rfl rfl (any_of HT_.out (by kernel_rfl)) (fun _ _ _ h => h) (Or.inl ⟨by rfl, ?_⟩) ?_ ?_
  rotate_left
  · intro w'
    go_simp
    with_reducible rfl
  rotate_left
  · simp only [Act.put, List.setIfInBounds_toArray, List.set_cons_zero, List.set_cons_succ, i64_w, i32_w]
    rfl
  refine done_ (done_of HT_.out (by kernel_rfl)) ?_
  clear HT_ HW_
  have hcz0_0 : w12.cell? ⟨w.heap.size, 0, none⟩ = some (.int .i64 a0_0) := (blk_cell K0_12.out 0).trans rfl
  have hfz0_0 := blk_frozen K0_12.out 0
  have hcz0_1 : w12.cell? ⟨w.heap.size, 1, none⟩ = some (.int .i64 a0_1) := (blk_cell K0_12.out 1).trans rfl
  have hfz0_1 := blk_frozen K0_12.out 1
  have hcz0_2 : w12.cell? ⟨w.heap.size, 2, none⟩ = some (.int .i64 a0_2) := (blk_cell K0_12.out 2).trans rfl
  have hfz0_2 := blk_frozen K0_12.out 2
  have hcz0_3 : w12.cell? ⟨w.heap.size, 3, none⟩ = some (.slice Aa0_3 a0_3.length ca0_3) := (blk_cell K0_12.out 3).trans rfl
  have hfz0_3 := blk_frozen K0_12.out 3
  have hcz0_4 : w12.cell? ⟨w.heap.size, 4, none⟩ = some (.slice Aa0_4 a0_4.length ca0_4) := (blk_cell K0_12.out 4).trans rfl
  have hfz0_4 := blk_frozen K0_12.out 4
  have hcz0_5 : w12.cell? ⟨w.heap.size, 5, none⟩ = some (.slice Aa0_5 a0_5.length ca0_5) := (blk_cell K0_12.out 5).trans rfl
  have hfz0_5 := blk_frozen K0_12.out 5
  have hcz1_0 : w12.cell? ⟨w6.heap.size, 0, none⟩ = some (.int .i64 a0_0) := (blk_cell K1_12.out 0).trans rfl
  have hfz1_0 := blk_frozen K1_12.out 0
  have hcz1_1 : w12.cell? ⟨w6.heap.size, 1, none⟩ = some (.int .i64 a0_1) := (blk_cell K1_12.out 1).trans rfl
  have hfz1_1 := blk_frozen K1_12.out 1
  have hcz1_2 : w12.cell? ⟨w6.heap.size, 2, none⟩ = some (.int .i64 a0_2) := (blk_cell K1_12.out 2).trans rfl
  have hfz1_2 := blk_frozen K1_12.out 2
  have hcz1_3 : w12.cell? ⟨w6.heap.size, 3, none⟩ = some (.slice Ax0_3_6 a0_3.length cx0_3_6) := (blk_cell K1_12.out 3).trans rfl
  have hfz1_3 := blk_frozen K1_12.out 3
  have hcz1_4 : w12.cell? ⟨w6.heap.size, 4, none⟩ = some (.slice Ax0_4_6 a0_4.length cx0_4_6) := (blk_cell K1_12.out 4).trans rfl
  have hfz1_4 := blk_frozen K1_12.out 4
  have hcz1_5 : w12.cell? ⟨w6.heap.size, 5, none⟩ = some (.slice Ax0_5_6 a0_5.length cx0_5_6) := (blk_cell K1_12.out 5).trans rfl
  have hfz1_5 := blk_frozen K1_12.out 5
  go_wp2_with fail
  clear hcz0_0 hfz0_0 hcz0_1 hfz0_1 hcz0_2 hfz0_2 hcz0_3 hfz0_3 hcz0_4 hfz0_4 hcz0_5 hfz0_5 hcz1_0 hfz1_0 hcz1_1 hfz1_1 hcz1_2 hfz1_2 hcz1_3 hfz1_3 hcz1_4 hfz1_4 hcz1_5 hfz1_5
  refine (toPartS_calls a1 ta1 HTa1.out HLta1.out Aa1 ca1 w12 (Kd.C_below HRa1.out B12.out) HCa1.out).mono ?_
  rintro e w13 ⟨v, rfl, ho, hb⟩
  have B13 := Aside0.mk (below_step B12.out hb)
  have z13 := hb.size
  obtain ⟨Au_0_13, cu_0_13, rfl⟩ := Kd.R_slice ho
  have Fu_0_13 := Aside0.mk (ivR (w := w) ho (by omega))
  clear ho
  have K0_13 := Aside0.mk (blk_below K0_12.out hb)
  clear K0_12
  have K1_13 := Aside0.mk (blk_below K1_12.out hb)
  clear K1_12
  have Fx0_3_13 := Aside0.mk (Kd.R_below Fx0_3_12.out hb)
  clear Fx0_3_12
  have Fx0_4_13 := Aside0.mk (Kd.R_below Fx0_4_12.out hb)
  clear Fx0_4_12
  have Fx0_5_13 := Aside0.mk (Kd.R_below Fx0_5_12.out hb)
  clear Fx0_5_12
  have Fx1_0_13 := Aside0.mk (Kd.R_below Fx1_0_12.out hb)
  clear Fx1_0_12
  clear hb
  have hcz0_0 : w13.cell? ⟨w.heap.size, 0, none⟩ = some (.int .i64 a0_0) := (blk_cell K0_13.out 0).trans rfl
  have hfz0_0 := blk_frozen K0_13.out 0
  have hcz0_1 : w13.cell? ⟨w.heap.size, 1, none⟩ = some (.int .i64 a0_1) := (blk_cell K0_13.out 1).trans rfl
  have hfz0_1 := blk_frozen K0_13.out 1
  have hcz0_2 : w13.cell? ⟨w.heap.size, 2, none⟩ = some (.int .i64 a0_2) := (blk_cell K0_13.out 2).trans rfl
  have hfz0_2 := blk_frozen K0_13.out 2
  have hcz0_3 : w13.cell? ⟨w.heap.size, 3, none⟩ = some (.slice Aa0_3 a0_3.length ca0_3) := (blk_cell K0_13.out 3).trans rfl
  have hfz0_3 := blk_frozen K0_13.out 3
  have hcz0_4 : w13.cell? ⟨w.heap.size, 4, none⟩ = some (.slice Aa0_4 a0_4.length ca0_4) := (blk_cell K0_13.out 4).trans rfl
  have hfz0_4 := blk_frozen K0_13.out 4
  have hcz0_5 : w13.cell? ⟨w.heap.size, 5, none⟩ = some (.slice Aa0_5 a0_5.length ca0_5) := (blk_cell K0_13.out 5).trans rfl
  have hfz0_5 := blk_frozen K0_13.out 5
  have hcz1_0 : w13.cell? ⟨w6.heap.size, 0, none⟩ = some (.int .i64 a0_0) := (blk_cell K1_13.out 0).trans rfl
  have hfz1_0 := blk_frozen K1_13.out 0
  have hcz1_1 : w13.cell? ⟨w6.heap.size, 1, none⟩ = some (.int .i64 a0_1) := (blk_cell K1_13.out 1).trans rfl
  have hfz1_1 := blk_frozen K1_13.out 1
  have hcz1_2 : w13.cell? ⟨w6.heap.size, 2, none⟩ = some (.int .i64 a0_2) := (blk_cell K1_13.out 2).trans rfl
  have hfz1_2 := blk_frozen K1_13.out 2
  have hcz1_3 : w13.cell? ⟨w6.heap.size, 3, none⟩ = some (.slice Ax0_3_6 a0_3.length cx0_3_6) := (blk_cell K1_13.out 3).trans rfl
  have hfz1_3 := blk_frozen K1_13.out 3
  have hcz1_4 : w13.cell? ⟨w6.heap.size, 4, none⟩ = some (.slice Ax0_4_6 a0_4.length cx0_4_6) := (blk_cell K1_13.out 4).trans rfl
  have hfz1_4 := blk_frozen K1_13.out 4
  have hcz1_5 : w13.cell? ⟨w6.heap.size, 5, none⟩ = some (.slice Ax0_5_6 a0_5.length cx0_5_6) := (blk_cell K1_13.out 5).trans rfl
  have hfz1_5 := blk_frozen K1_13.out 5
  go_wp2_with fail
  clear hcz0_0 hfz0_0 hcz0_1 hfz0_1 hcz0_2 hfz0_2 hcz0_3 hfz0_3 hcz0_4 hfz0_4 hcz0_5 hfz0_5 hcz1_0 hfz1_0 hcz1_1 hfz1_1 hcz1_2 hfz1_2 hcz1_3 hfz1_3 hcz1_4 hfz1_4 hcz1_5 hfz1_5
  refine (eqPartS_calls ta1 (maxLen_val (by have := HLta1.out; omega)) Ax1_0_8 Au_0_13 cx1_0_8 cu_0_13 w13 (readsR Fx1_0_13.out).2.2 (readsR Fx1_0_13.out).2.1 (readsR Fu_0_13.out).2.2 (readsR Fu_0_13.out).2.1).mono ?_
  rintro e w14 ⟨rfl, hb⟩
  have B14 := Aside0.mk (below_step B13.out hb)
  have z14 := hb.size
  have K0_14 := Aside0.mk (blk_below K0_13.out hb)
  clear K0_13
  have K1_14 := Aside0.mk (blk_below K1_13.out hb)
  clear K1_13
  have Fx0_3_14 := Aside0.mk (Kd.R_below Fx0_3_13.out hb)
  clear Fx0_3_13
  have Fx0_4_14 := Aside0.mk (Kd.R_below Fx0_4_13.out hb)
  clear Fx0_4_13
  have Fx0_5_14 := Aside0.mk (Kd.R_below Fx0_5_13.out hb)
  clear Fx0_5_13
  have Fx1_0_14 := Aside0.mk (Kd.R_below Fx1_0_13.out hb)
  clear Fx1_0_13
  have Fu_0_14 := Aside0.mk (Kd.R_below Fu_0_13.out hb)
  clear Fu_0_13
  clear hb
  have hcz0_0 : w14.cell? ⟨w.heap.size, 0, none⟩ = some (.int .i64 a0_0) := (blk_cell K0_14.out 0).trans rfl
  have hfz0_0 := blk_frozen K0_14.out 0
  have hcz0_1 : w14.cell? ⟨w.heap.size, 1, none⟩ = some (.int .i64 a0_1) := (blk_cell K0_14.out 1).trans rfl
  have hfz0_1 := blk_frozen K0_14.out 1
  have hcz0_2 : w14.cell? ⟨w.heap.size, 2, none⟩ = some (.int .i64 a0_2) := (blk_cell K0_14.out 2).trans rfl
  have hfz0_2 := blk_frozen K0_14.out 2
  have hcz0_3 : w14.cell? ⟨w.heap.size, 3, none⟩ = some (.slice Aa0_3 a0_3.length ca0_3) := (blk_cell K0_14.out 3).trans rfl
  have hfz0_3 := blk_frozen K0_14.out 3
  have hcz0_4 : w14.cell? ⟨w.heap.size, 4, none⟩ = some (.slice Aa0_4 a0_4.length ca0_4) := (blk_cell K0_14.out 4).trans rfl
  have hfz0_4 := blk_frozen K0_14.out 4
  have hcz0_5 : w14.cell? ⟨w.heap.size, 5, none⟩ = some (.slice Aa0_5 a0_5.length ca0_5) := (blk_cell K0_14.out 5).trans rfl
  have hfz0_5 := blk_frozen K0_14.out 5
  have hcz1_0 : w14.cell? ⟨w6.heap.size, 0, none⟩ = some (.int .i64 a0_0) := (blk_cell K1_14.out 0).trans rfl
  have hfz1_0 := blk_frozen K1_14.out 0
  have hcz1_1 : w14.cell? ⟨w6.heap.size, 1, none⟩ = some (.int .i64 a0_1) := (blk_cell K1_14.out 1).trans rfl
  have hfz1_1 := blk_frozen K1_14.out 1
  have hcz1_2 : w14.cell? ⟨w6.heap.size, 2, none⟩ = some (.int .i64 a0_2) := (blk_cell K1_14.out 2).trans rfl
  have hfz1_2 := blk_frozen K1_14.out 2
  have hcz1_3 : w14.cell? ⟨w6.heap.size, 3, none⟩ = some (.slice Ax0_3_6 a0_3.length cx0_3_6) := (blk_cell K1_14.out 3).trans rfl
  have hfz1_3 := blk_frozen K1_14.out 3
  have hcz1_4 : w14.cell? ⟨w6.heap.size, 4, none⟩ = some (.slice Ax0_4_6 a0_4.length cx0_4_6) := (blk_cell K1_14.out 4).trans rfl
  have hfz1_4 := blk_frozen K1_14.out 4
  have hcz1_5 : w14.cell? ⟨w6.heap.size, 5, none⟩ = some (.slice Ax0_5_6 a0_5.length cx0_5_6) := (blk_cell K1_14.out 5).trans rfl
  have hfz1_5 := blk_frozen K1_14.out 5
  go_wp2_with fail
  clear hcz0_0 hfz0_0 hcz0_1 hfz0_1 hcz0_2 hfz0_2 hcz0_3 hfz0_3 hcz0_4 hfz0_4 hcz0_5 hfz0_5 hcz1_0 hfz1_0 hcz1_1 hfz1_1 hcz1_2 hfz1_2 hcz1_3 hfz1_3 hcz1_4 hfz1_4 hcz1_5 hfz1_5
  go_ret
  exact ⟨rfl, B14.out⟩
set_option maxRecDepth 100000 in
theorem walk_neg0 (a0_0 : Int) (a0_1 : Int) (a0_2 : Int) (a0_3 : List Int) (a0_4 : List Int) (a0_5 : List Int) (a1 : List S141) (a2 : Int) (Aa0_3 : Option Addr) (ca0_3 : Nat) (Aa0_4 : Option Addr) (ca0_4 : Nat) (Aa0_5 : Option Addr) (ca0_5 : Nat) (Aa1 : Option Addr) (ca1 : Nat) (w : World) (hra0_3 : Kd.C (Kd.int .i64) w Aa0_3 a0_3.length a0_3) (hca0_3 : a0_3.length ≤ ca0_3) (hra0_4 : Kd.C (Kd.int .i64) w Aa0_4 a0_4.length a0_4) (hca0_4 : a0_4.length ≤ ca0_4) (hra0_5 : Kd.C (Kd.int .i64) w Aa0_5 a0_5.length a0_5) (hca0_5 : a0_5.length ≤ ca0_5) (hra1 : Kd.C k141 w Aa1 a1.length a1) (hca1 : a1.length ≤ ca1)  (r0 : Int) (hsz0 : ∀ (Aa0_3 : Option Addr) (ca0_3 : Nat) (Aa0_4 : Option Addr) (ca0_4 : Nat) (Aa0_5 : Option Addr) (ca0_5 : Nat) (w : World), Kd.C (Kd.int .i64) w Aa0_3 a0_3.length a0_3 → a0_3.length ≤ ca0_3 → Kd.C (Kd.int .i64) w Aa0_4 a0_4.length a0_4 → a0_4.length ≤ ca0_4 → Kd.C (Kd.int .i64) w Aa0_5 a0_5.length a0_5 → a0_5.length ≤ ca0_5 → Calls Try.prog 14 #[.agg #[.int .i64 a0_0, .int .i64 a0_1, .int .i64 a0_2, .slice Aa0_3 a0_3.length ca0_3, .slice Aa0_4 a0_4.length ca0_4, .slice Aa0_5 a0_5.length ca0_5], .int .i64 1048576] w fun e w' => e = .returned (.int .i64 r0) ∧ Below w.heap.size w w') (hlt0 : r0 < 0) : Calls Try.prog 8 #[.agg #[.int .i64 a0_0, .int .i64 a0_1, .int .i64 a0_2, .slice Aa0_3 a0_3.length ca0_3, .slice Aa0_4 a0_4.length ca0_4, .slice Aa0_5 a0_5.length ca0_5], .slice Aa1 a1.length ca1, .int .i64 a2] w fun e w' => e = .returned (.bool true) ∧ Below w.heap.size w w' := by
  have HRa0_3 := Aside0.mk hra0_3
  have HRa0_4 := Aside0.mk hra0_4
  have HRa0_5 := Aside0.mk hra0_5
  have HRa1 := Aside0.mk hra1
  have HCa0_3 := Aside0.mk hca0_3
  have HCa0_4 := Aside0.mk hca0_4
  have HCa0_5 := Aside0.mk hca0_5
  have HCa1 := Aside0.mk hca1
  have HSZ0 := Aside0.mk hsz0
  have d0 : decide (r0 < 0) = true := decide_eq_true hlt0
  clear hsz0 hlt0  hra0_3 hca0_3 hra0_4 hca0_4 hra0_5 hca0_5 hra1 hca1
  go_enter Try.func8, Try.ntmps8
  go_wp2_with fail
  obtain ⟨wb, hwb⟩ : ∃ z : World, z = (w.alloc (.cells #[.int .i64 a0_0, .int .i64 a0_1, .int .i64 a0_2, .slice Aa0_3 a0_3.length ca0_3, .slice Aa0_4 a0_4.length ca0_4, .slice Aa0_5 a0_5.length ca0_5] 26)) := ⟨_, rfl⟩
  rw [← hwb]
  have K0_0 : Aside0 (wb.heap[w.heap.size]? = some (.cells #[.int .i64 a0_0, .int .i64 a0_1, .int .i64 a0_2, .slice Aa0_3 a0_3.length ca0_3, .slice Aa0_4 a0_4.length ca0_4, .slice Aa0_5 a0_5.length ca0_5] 26 (0, 0))) := ⟨by rw [hwb]; exact blk_new w _⟩
  have B0 : Aside0 (Below w.heap.size w wb) := ⟨by rw [hwb]; exact below_alloc (Below.refl _ _) _⟩
  have z0 := B0.out.size
  have zb := blk_lt K0_0.out
  clear hwb
  refine (HSZ0.out Aa0_3 ca0_3 Aa0_4 ca0_4 Aa0_5 ca0_5 wb (Kd.C_below HRa0_3.out B0.out) HCa0_3.out (Kd.C_below HRa0_4.out B0.out) HCa0_4.out (Kd.C_below HRa0_5.out B0.out) HCa0_5.out).mono ?_
  rintro e w1 ⟨rfl, hb⟩
  have B1 := Aside0.mk (below_step B0.out hb)
  have K0_0n := Aside0.mk (blk_below K0_0.out hb)
  clear hb
  have hcz0_0 : w1.cell? ⟨w.heap.size, 0, none⟩ = some (.int .i64 a0_0) := (blk_cell K0_0n.out 0).trans rfl
  have hfz0_0 := blk_frozen K0_0n.out 0
  have hcz0_1 : w1.cell? ⟨w.heap.size, 1, none⟩ = some (.int .i64 a0_1) := (blk_cell K0_0n.out 1).trans rfl
  have hfz0_1 := blk_frozen K0_0n.out 1
  have hcz0_2 : w1.cell? ⟨w.heap.size, 2, none⟩ = some (.int .i64 a0_2) := (blk_cell K0_0n.out 2).trans rfl
  have hfz0_2 := blk_frozen K0_0n.out 2
  have hcz0_3 : w1.cell? ⟨w.heap.size, 3, none⟩ = some (.slice Aa0_3 a0_3.length ca0_3) := (blk_cell K0_0n.out 3).trans rfl
  have hfz0_3 := blk_frozen K0_0n.out 3
  have hcz0_4 : w1.cell? ⟨w.heap.size, 4, none⟩ = some (.slice Aa0_4 a0_4.length ca0_4) := (blk_cell K0_0n.out 4).trans rfl
  have hfz0_4 := blk_frozen K0_0n.out 4
  have hcz0_5 : w1.cell? ⟨w.heap.size, 5, none⟩ = some (.slice Aa0_5 a0_5.length ca0_5) := (blk_cell K0_0n.out 5).trans rfl
  have hfz0_5 := blk_frozen K0_0n.out 5
  go_wp2_with fail
  go_ret
  exact ⟨rfl, B1.out⟩
set_option maxRecDepth 100000 in
theorem walk_neg1 (a0_0 : Int) (a0_1 : Int) (a0_2 : Int) (a0_3 : List Int) (a0_4 : List Int) (a0_5 : List Int) (a1 : List S141) (a2 : Int) (Aa0_3 : Option Addr) (ca0_3 : Nat) (Aa0_4 : Option Addr) (ca0_4 : Nat) (Aa0_5 : Option Addr) (ca0_5 : Nat) (Aa1 : Option Addr) (ca1 : Nat) (w : World) (hra0_3 : Kd.C (Kd.int .i64) w Aa0_3 a0_3.length a0_3) (hca0_3 : a0_3.length ≤ ca0_3) (hra0_4 : Kd.C (Kd.int .i64) w Aa0_4 a0_4.length a0_4) (hca0_4 : a0_4.length ≤ ca0_4) (hra0_5 : Kd.C (Kd.int .i64) w Aa0_5 a0_5.length a0_5) (hca0_5 : a0_5.length ≤ ca0_5) (hra1 : Kd.C k141 w Aa1 a1.length a1) (hca1 : a1.length ≤ ca1)  (r0 : Int) (hsz0 : ∀ (Aa0_3 : Option Addr) (ca0_3 : Nat) (Aa0_4 : Option Addr) (ca0_4 : Nat) (Aa0_5 : Option Addr) (ca0_5 : Nat) (w : World), Kd.C (Kd.int .i64) w Aa0_3 a0_3.length a0_3 → a0_3.length ≤ ca0_3 → Kd.C (Kd.int .i64) w Aa0_4 a0_4.length a0_4 → a0_4.length ≤ ca0_4 → Kd.C (Kd.int .i64) w Aa0_5 a0_5.length a0_5 → a0_5.length ≤ ca0_5 → Calls Try.prog 14 #[.agg #[.int .i64 a0_0, .int .i64 a0_1, .int .i64 a0_2, .slice Aa0_3 a0_3.length ca0_3, .slice Aa0_4 a0_4.length ca0_4, .slice Aa0_5 a0_5.length ca0_5], .int .i64 1048576] w fun e w' => e = .returned (.int .i64 r0) ∧ Below w.heap.size w w') (hlt0 : ¬ r0 < 0) (r1 : Int) (hsz1 : ∀ (Aa1 : Option Addr) (ca1 : Nat) (w : World), Kd.C k141 w Aa1 a1.length a1 → a1.length ≤ ca1 → Calls Try.prog 39 #[.slice Aa1 a1.length ca1, .int .i64 r0] w fun e w' => e = .returned (.int .i64 r1) ∧ Below w.heap.size w w') (hlt1 : r1 < 0) : Calls Try.prog 8 #[.agg #[.int .i64 a0_0, .int .i64 a0_1, .int .i64 a0_2, .slice Aa0_3 a0_3.length ca0_3, .slice Aa0_4 a0_4.length ca0_4, .slice Aa0_5 a0_5.length ca0_5], .slice Aa1 a1.length ca1, .int .i64 a2] w fun e w' => e = .returned (.bool true) ∧ Below w.heap.size w w' := by
  have HRa0_3 := Aside0.mk hra0_3
  have HRa0_4 := Aside0.mk hra0_4
  have HRa0_5 := Aside0.mk hra0_5
  have HRa1 := Aside0.mk hra1
  have HCa0_3 := Aside0.mk hca0_3
  have HCa0_4 := Aside0.mk hca0_4
  have HCa0_5 := Aside0.mk hca0_5
  have HCa1 := Aside0.mk hca1
  have HSZ0 := Aside0.mk hsz0
  have HSZ1 := Aside0.mk hsz1
  have d0 : decide (r0 < 0) = false := decide_eq_false hlt0
  have d1 : decide (r1 < 0) = true := decide_eq_true hlt1
  clear hsz0 hlt0 hsz1 hlt1  hra0_3 hca0_3 hra0_4 hca0_4 hra0_5 hca0_5 hra1 hca1
  go_enter Try.func8, Try.ntmps8
  go_wp2_with fail
  obtain ⟨wb, hwb⟩ : ∃ z : World, z = (w.alloc (.cells #[.int .i64 a0_0, .int .i64 a0_1, .int .i64 a0_2, .slice Aa0_3 a0_3.length ca0_3, .slice Aa0_4 a0_4.length ca0_4, .slice Aa0_5 a0_5.length ca0_5] 26)) := ⟨_, rfl⟩
  rw [← hwb]
  have K0_0 : Aside0 (wb.heap[w.heap.size]? = some (.cells #[.int .i64 a0_0, .int .i64 a0_1, .int .i64 a0_2, .slice Aa0_3 a0_3.length ca0_3, .slice Aa0_4 a0_4.length ca0_4, .slice Aa0_5 a0_5.length ca0_5] 26 (0, 0))) := ⟨by rw [hwb]; exact blk_new w _⟩
  have B0 : Aside0 (Below w.heap.size w wb) := ⟨by rw [hwb]; exact below_alloc (Below.refl _ _) _⟩
  have z0 := B0.out.size
  have zb := blk_lt K0_0.out
  clear hwb
  refine (HSZ0.out Aa0_3 ca0_3 Aa0_4 ca0_4 Aa0_5 ca0_5 wb (Kd.C_below HRa0_3.out B0.out) HCa0_3.out (Kd.C_below HRa0_4.out B0.out) HCa0_4.out (Kd.C_below HRa0_5.out B0.out) HCa0_5.out).mono ?_
  rintro e w1 ⟨rfl, hb⟩
  have B1 := Aside0.mk (below_step B0.out hb)
  have K0_0n := Aside0.mk (blk_below K0_0.out hb)
  clear hb
  have hcz0_0 : w1.cell? ⟨w.heap.size, 0, none⟩ = some (.int .i64 a0_0) := (blk_cell K0_0n.out 0).trans rfl
  have hfz0_0 := blk_frozen K0_0n.out 0
  have hcz0_1 : w1.cell? ⟨w.heap.size, 1, none⟩ = some (.int .i64 a0_1) := (blk_cell K0_0n.out 1).trans rfl
  have hfz0_1 := blk_frozen K0_0n.out 1
  have hcz0_2 : w1.cell? ⟨w.heap.size, 2, none⟩ = some (.int .i64 a0_2) := (blk_cell K0_0n.out 2).trans rfl
  have hfz0_2 := blk_frozen K0_0n.out 2
  have hcz0_3 : w1.cell? ⟨w.heap.size, 3, none⟩ = some (.slice Aa0_3 a0_3.length ca0_3) := (blk_cell K0_0n.out 3).trans rfl
  have hfz0_3 := blk_frozen K0_0n.out 3
  have hcz0_4 : w1.cell? ⟨w.heap.size, 4, none⟩ = some (.slice Aa0_4 a0_4.length ca0_4) := (blk_cell K0_0n.out 4).trans rfl
  have hfz0_4 := blk_frozen K0_0n.out 4
  have hcz0_5 : w1.cell? ⟨w.heap.size, 5, none⟩ = some (.slice Aa0_5 a0_5.length ca0_5) := (blk_cell K0_0n.out 5).trans rfl
  have hfz0_5 := blk_frozen K0_0n.out 5
  go_wp2_with fail
  clear hcz0_0 hfz0_0 hcz0_1 hfz0_1 hcz0_2 hfz0_2 hcz0_3 hfz0_3 hcz0_4 hfz0_4 hcz0_5 hfz0_5
  refine (HSZ1.out Aa1 ca1 w1 (Kd.C_below HRa1.out B1.out) HCa1.out).mono ?_
  rintro e w2 ⟨rfl, hb⟩
  have B2 := Aside0.mk (below_step B1.out hb)
  have K0_0nn := Aside0.mk (blk_below K0_0n.out hb)
  clear hb
  have hcz0_0 : w2.cell? ⟨w.heap.size, 0, none⟩ = some (.int .i64 a0_0) := (blk_cell K0_0nn.out 0).trans rfl
  have hfz0_0 := blk_frozen K0_0nn.out 0
  have hcz0_1 : w2.cell? ⟨w.heap.size, 1, none⟩ = some (.int .i64 a0_1) := (blk_cell K0_0nn.out 1).trans rfl
  have hfz0_1 := blk_frozen K0_0nn.out 1
  have hcz0_2 : w2.cell? ⟨w.heap.size, 2, none⟩ = some (.int .i64 a0_2) := (blk_cell K0_0nn.out 2).trans rfl
  have hfz0_2 := blk_frozen K0_0nn.out 2
  have hcz0_3 : w2.cell? ⟨w.heap.size, 3, none⟩ = some (.slice Aa0_3 a0_3.length ca0_3) := (blk_cell K0_0nn.out 3).trans rfl
  have hfz0_3 := blk_frozen K0_0nn.out 3
  have hcz0_4 : w2.cell? ⟨w.heap.size, 4, none⟩ = some (.slice Aa0_4 a0_4.length ca0_4) := (blk_cell K0_0nn.out 4).trans rfl
  have hfz0_4 := blk_frozen K0_0nn.out 4
  have hcz0_5 : w2.cell? ⟨w.heap.size, 5, none⟩ = some (.slice Aa0_5 a0_5.length ca0_5) := (blk_cell K0_0nn.out 5).trans rfl
  have hfz0_5 := blk_frozen K0_0nn.out 5
  go_wp2_with fail
  go_ret
  exact ⟨rfl, B2.out⟩
theorem law (a0_0 : Int) (a0_1 : Int) (a0_2 : Int) (a0_3 : List Int) (a0_4 : List Int) (a0_5 : List Int) (a1 : List S141) (a2 : Int) (ga0_0 : (Lit.int .i64 a0_0).wf = true) (ga0_1 : (Lit.int .i64 a0_1).wf = true) (ga0_2 : (Lit.int .i64 a0_2).wf = true) (ha0_3 : a0_3.length ≤ maxLen) (ga0_3 : ∀ x ∈ a0_3, (Lit.int .i64 x).wf = true) (ha0_4 : a0_4.length ≤ maxLen) (ga0_4 : ∀ x ∈ a0_4, (Lit.int .i64 x).wf = true) (ha0_5 : a0_5.length ≤ maxLen) (ga0_5 : ∀ x ∈ a0_5, (Lit.int .i64 x).wf = true) (ha1 : a1.length ≤ maxLen) (ga2 : (Lit.int .i64 a2).wf = true) (Aa0_3 : Option Addr) (ca0_3 : Nat) (Aa0_4 : Option Addr) (ca0_4 : Nat) (Aa0_5 : Option Addr) (ca0_5 : Nat) (Aa1 : Option Addr) (ca1 : Nat) (w : World) (hra0_3 : Kd.C (Kd.int .i64) w Aa0_3 a0_3.length a0_3) (hca0_3 : a0_3.length ≤ ca0_3) (hra0_4 : Kd.C (Kd.int .i64) w Aa0_4 a0_4.length a0_4) (hca0_4 : a0_4.length ≤ ca0_4) (hra0_5 : Kd.C (Kd.int .i64) w Aa0_5 a0_5.length a0_5) (hca0_5 : a0_5.length ≤ ca0_5) (hra1 : Kd.C k141 w Aa1 a1.length a1) (hca1 : a1.length ≤ ca1) : Calls Try.prog 8 #[.agg #[.int .i64 a0_0, .int .i64 a0_1, .int .i64 a0_2, .slice Aa0_3 a0_3.length ca0_3, .slice Aa0_4 a0_4.length ca0_4, .slice Aa0_5 a0_5.length ca0_5], .slice Aa1 a1.length ca1, .int .i64 a2] w fun e w' => e = .returned (.bool true) ∧ Below w.heap.size w w' := by
  obtain ⟨r0, hz0, hsz0⟩ := szModel_calls a0_0 a0_1 a0_2 a0_3 a0_4 a0_5 ha0_3 ha0_4 ha0_5 1048576 (by omega)
  by_cases hlt0 : r0 < 0
  · exact walk_neg0 a0_0 a0_1 a0_2 a0_3 a0_4 a0_5 a1 a2 Aa0_3 ca0_3 Aa0_4 ca0_4 Aa0_5 ca0_5 Aa1 ca1 w hra0_3 hca0_3 hra0_4 hca0_4 hra0_5 hca0_5 hra1 hca1  r0 hsz0 hlt0
  obtain ⟨hq0, l1a0_3, l1a0_4, l1a0_5⟩ := hz0 (by omega)
  obtain ⟨r1, hz1, hsz1⟩ := szPartS_calls a1 ha1 r0 hq0
  by_cases hlt1 : r1 < 0
  · exact walk_neg1 a0_0 a0_1 a0_2 a0_3 a0_4 a0_5 a1 a2 Aa0_3 ca0_3 Aa0_4 ca0_4 Aa0_5 ca0_5 Aa1 ca1 w hra0_3 hca0_3 hra0_4 hca0_4 hra0_5 hca0_5 hra1 hca1  r0 hsz0 hlt0 r1 hsz1 hlt1
  obtain ⟨hq1, l1a1⟩ := hz1 (by omega)
  obtain ⟨⟨g0, g1⟩, hs, hi⟩ := both a0_0 a0_1 a0_2 a0_3 a0_4 a0_5 (a1.map cP) a2 (wf64 ga0_0) (wf64 ga0_1) (wf64 ga0_2) l1a0_3 l1a0_4 l1a0_5 (by rw [List.length_map]; exact l1a1) (wf64 ga2)
  exact walk a0_0 a0_1 a0_2 a0_3 a0_4 a0_5 a1 a2 Aa0_3 ca0_3 Aa0_4 ca0_4 Aa0_5 ca0_5 Aa1 ca1 w hra0_3 hca0_3 hra0_4 hca0_4 hra0_5 hca0_5 hra1 hca1 r0 hsz0 hlt0 r1 hsz1 hlt1 (a1.map cP) rfl g0 g1 l1a0_3 l1a0_4 l1a0_5 (by rw [List.length_map]; exact l1a1)  hs.rounds hi
end Go.Proofs.Ytomfjhpiemipkaa.WalkFnExactRuleValue
