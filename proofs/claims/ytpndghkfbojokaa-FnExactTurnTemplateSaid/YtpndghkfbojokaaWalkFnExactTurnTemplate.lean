/- The law FnExactTurnTemplate, walked by hand over its callees' contracts: for every input it returns true. -/
import Derived.Test.YtpndghkfbojokaaComE
import Derived.Test.YtpndghkfbojokaaMFnExactTurnTemplatex1
import Derived.Test.YtpndghkfbojokaaOwnTurnTemplate
namespace Go.Proofs.Ytpndghkfbojokaa.WalkFnExactTurnTemplate
open Go.RowKit Go.Proofs.Ytpndghkfbojokaa.PFnExactTurnTemplate Go.Proofs.YtpndghkfbojokaaW.PrintWords Go.Proofs.YtpndghkfbojokaaW.PrintLast Go.Proofs.YtpndghkfbojokaaW.PrintMore Go.Proofs.Ytpndghkfbojokaa.B Go.Proofs.Ytpndghkfbojokaa.Com Go.Proofs.Ytpndghkfbojokaa.OwnTurnTemplate
set_option linter.unusedVariables false
set_option linter.unusedSimpArgs false
def Zn (W W' : World) (u : Value) (k : Nat) : Prop := Btw W W' k ∧ some k = u.ownBlock
/- offsets -/
def cO (e : S89) : S86 := ⟨e.f0, e.f1, e.f2⟩
def befO (a b : S86) : Bool := if a.f2 = b.f2 then (if a.f1 = b.f1 then decide (a.f0 < b.f0) else decide (a.f1 < b.f1)) else decide (a.f2 < b.f2)
def okO (o : S86) : Bool := decide (-2 ≤ o.f0 ∧ o.f0 ≤ 2 ∧ -2 ≤ o.f1 ∧ o.f1 ≤ 2 ∧ 1 ≤ o.f2 ∧ o.f2 ≤ 2)
def offAt (l : List S86) (j : Nat) : Bool := okO (l.getD j z86) && (decide (j = 0) || befO (l.getD (j - 1) z86) (l.getD j z86))
def tmplOk (l : List S86) : Bool := decide (1 ≤ l.length ∧ l.length ≤ 12) && allR (offAt l) 0 l.length
theorem rdO (l : List S86) (i : Nat) : rd_T86 l (i : Int) = l.getD i z86 := by unfold rd_T86; rw [toNat_nat]

/- laws_toOffsetS -/
theorem toOffsetS_l0 (l : List S89) (hl : l.length ≤ 1048576) : ∀ (d i : Nat) (m : List S86), i + d = l.length → m.length = l.length → (∀ j, j < i → m[j]? = (l.map cO)[j]?) → Ev (fun k => laws_toOffsetS.l0 k l m (i : Int)) (l.map cO) := by
  intro d
  induction d with
  | zero =>
    intro i m hi hm he
    refine Ev.step (fun k => laws_toOffsetS.l0.eq_2 l m i k) ?_
    refine ev_neg (by omega) (ev_some ?_)
    refine List.ext_getElem? (fun j => ?_)
    by_cases hj : j < i
    · exact he j hj
    · rw [List.getElem?_eq_none (by omega), List.getElem?_eq_none (by simp; omega)]
  | succ d ih =>
    intro i m hi hm he
    refine Ev.step (fun k => laws_toOffsetS.l0.eq_2 l m i k) ?_
    refine ev_pos (by omega) (ev_pos (by omega) (ev_bindc rfl (ev_pos (by omega) ?_)))
    rw [w_succ (n := l.length) (by omega) (by omega), toNat_nat]
    refine ih (i + 1) _ (by omega) (by simpa using hm) (fun j hj => ?_)
    by_cases hji : j = i
    · subst hji
      have h1 : j < l.length := by omega
      simp [List.getElem?_set, show j < m.length by omega, rd_T89, h1, cO]
    · rw [← he j (by omega), List.getElem?_set_ne (Ne.symm hji)]
theorem toOffsetS_ev (l : List S89) (hl : l.length ≤ 1048576) : Ev (fun k => laws_toOffsetS.f k l) (l.map cO) := by
  unfold laws_toOffsetS.f
  refine ev_pos (by omega) (ev_pos (by omega) ?_)
  exact toOffsetS_l0 l hl l.length 0 _ (by omega) (by simp) (fun j hj => by omega)

/- com.toOffsetS -/
theorem toOffsetS_calls (l : List S89) (t : List S86) (ht : l.map cO = t) (hl : t.length ≤ 1048576) (A : Option Addr) (c : Nat) (w : World) (hr : Kd.C k89 w A l.length l) (hc : l.length ≤ c) :
    Calls Try.prog 34 #[.slice A l.length c] w fun e w' => ∃ v : Value, e = .returned v ∧ Kd.R k86 86 w' w.heap.size (fun _ => True) v t ∧ Below w.heap.size w w' := by
  subst ht
  rw [List.length_map] at hl
  obtain ⟨k, hk⟩ := (toOffsetS_ev l hl).rounds
  exact laws_toOffsetS.calls k A c l _ w hr hc hk

/- laws_eqOffsetS -/
theorem eqOffsetS_l0 (l : List S86) (hl : l.length ≤ maxLen) : ∀ (d i : Nat), i + d = l.length → Ev (fun k => laws_eqOffsetS.l0 k l l (i : Int)) true := by
  have hl := maxLen_le hl
  intro d
  induction d with
  | zero =>
    intro i hi
    exact Ev.step (fun k => laws_eqOffsetS.l0.eq_2 l l i k) (ev_neg (by omega) (ev_some rfl))
  | succ d ih =>
    intro i hi
    refine Ev.step (fun k => laws_eqOffsetS.l0.eq_2 l l i k) ?_
    rw [w_succ (n := l.length) (by omega) (by omega)]
    exact ev_pos (by omega) (ev_pos (by omega) (ev_pos (by omega) (ev_bindc (by unfold laws_eqOffset.f; rw [if_pos rfl, if_pos rfl, if_pos rfl]) (ev_pos rfl (ih (i + 1) (by omega))))))
theorem eqOffsetS_ev (l : List S86) (hl : l.length ≤ maxLen) : Ev (fun k => laws_eqOffsetS.f k l l) true := by
  unfold laws_eqOffsetS.f
  exact ev_pos rfl (eqOffsetS_l0 l hl l.length 0 (by omega))

/- com.eqOffsetS -/
theorem eqOffsetS_calls (l : List S86) (hl : l.length ≤ maxLen) (A A' : Option Addr) (c c' : Nat) (w : World) (h1 : Kd.C k86 w A l.length l) (h2 : l.length ≤ c) (h3 : Kd.C k86 w A' l.length l) (h4 : l.length ≤ c') :
    Calls Try.prog 36 #[.slice A l.length c, .slice A' l.length c'] w fun e w' => e = .returned (.bool true) ∧ Below w.heap.size w w' := by
  obtain ⟨k, hk⟩ := (eqOffsetS_ev l hl).rounds
  exact laws_eqOffsetS.calls k A c l A' c' l true w h1 h2 h3 h4 hk

/- laws_markOffsetS -/
def mk3 (a : Int) (j : Nat) : S86 := ⟨a + 3 * j, a + 3 * j + 1, a + 3 * j + 2⟩
theorem markOffsetS_l0 (l : List S86) (hl : l.length ≤ 1048576) (a : Int) (ha : 0 ≤ a ∧ a ≤ 8796093022208) : ∀ (d i : Nat) (m : List S86), i + d = l.length → m.length = l.length → (∀ j, j < i → m.getD j z86 = mk3 a j) →
    ∃ r, Ev (fun k => laws_markOffsetS.l0 k m (a + 3 * i) (i : Int)) (a + 3 * l.length, r) ∧ r.length = l.length ∧ ∀ j, j < l.length → r.getD j z86 = mk3 a j := by
  intro d
  induction d with
  | zero =>
    intro i m hi hm he
    obtain rfl : i = l.length := by omega
    exact ⟨m, Ev.step (fun k => laws_markOffsetS.l0.eq_2 m (a + 3 * l.length) l.length k) (ev_neg (by omega) (ev_some rfl)), hm, he⟩
  | succ d ih =>
    intro i m hi hm he
    have hi' : i < m.length := by omega
    have e : ∀ (v : S86) (u : List S86), u.length = m.length → rd_T86 (u.set i v) (i : Int) = v := by
      intro v u hu; unfold rd_T86; rw [toNat_nat, getD_set, if_pos ⟨rfl, by omega⟩]
    obtain ⟨r, hr, hz⟩ := ih (i + 1) (((m.set i ⟨a + 3 * i, (rd_T86 m i).f1, (rd_T86 m i).f2⟩).set i ⟨a + 3 * i, a + 3 * i + 1, (rd_T86 m i).f2⟩).set i (mk3 a i)) (by omega) (by simpa using hm) (fun j hj => by
      rw [getD_set, getD_set, getD_set]
      simp only [List.length_set]
      by_cases hji : i = j
      · subst hji; rw [if_pos ⟨rfl, hi'⟩]
      · rw [if_neg (by omega), if_neg (by omega), if_neg (by omega)]; exact he j (by omega))
    refine ⟨r, Ev.step (fun k => laws_markOffsetS.l0.eq_2 m (a + 3 * i) i k) ?_, hz⟩
    rw [w_succ (n := l.length) (by omega) (by omega), toNat_nat, w64 (x := a + 3 * i + 1) (by omega) (by omega), w64 (x := a + 3 * i + 1 + 1) (by omega) (by omega), w64 (x := a + 3 * i + 1 + 1 + 1) (by omega) (by omega)]
    simp only [Option.bind_some, e _ _ rfl, List.length_set]
    refine ev_pos (by omega) (ev_pos (by omega) ?_)
    rw [e _ (m.set i _) (by simp)]
    rw [show a + 3 * (i : Int) + 1 + 1 + 1 = a + 3 * ((i + 1 : Nat) : Int) by omega]
    have e2 : a + 3 * (i : Int) + 1 + 1 = a + 3 * (i : Int) + 2 := by omega
    rw [e2]
    exact hr

/- com.markOffsetS -/
def markRowO (a : Int) (n : Nat) : List S86 := (List.range n).map (mk3 a)
theorem markRowO_len (a : Int) (n : Nat) : (markRowO a n).length = n := by unfold markRowO; rw [List.length_map, List.length_range]
theorem markRowO_at (a : Int) (n j : Nat) (h : j < n) : (markRowO a n).getD j z86 = mk3 a j := by
  unfold markRowO
  rw [List.getD_eq_getElem?_getD, List.getElem?_map, List.getElem?_range h]; rfl
theorem markOffsetS_row (l : List S86) (hl : l.length ≤ 1048576) (a : Int) (ha : 0 ≤ a ∧ a ≤ 8796093022208) : Ev (fun k => laws_markOffsetS.f k l a) (a + 3 * l.length, markRowO a l.length) := by
  obtain ⟨r, h1, h2, h3⟩ := markOffsetS_l0 l hl a ha l.length 0 l (by omega) rfl (fun j hj => by omega)
  rw [show a + 3 * ((0 : Nat) : Int) = a by omega] at h1
  have : r = markRowO a l.length := getD_ext z86 (by rw [h2, markRowO_len]) (fun j hj => by rw [h3 j (by omega), markRowO_at a l.length j (by omega)])
  rw [← this]
  exact h1
theorem markOffsetS_calls (l : List S86) (hl : l.length ≤ 1048576) (a : Int) (ha : 0 ≤ a ∧ a ≤ 8796093022208) (P : Nat → Prop) (u : Value) (w0 w : World) (hB : Below w0.heap.size w0 w) (hR : Kd.R k86 86 w w0.heap.size P u l) :
    Calls Try.prog 37 #[u, .int .i64 a] w fun e w' => e = .returned (.int .i64 (a + 3 * l.length)) ∧ Kd.R k86 86 w' w0.heap.size P u (markRowO a l.length) ∧ Below w0.heap.size w0 w' ∧ Kept w w' P := by
  obtain ⟨k, hk⟩ := (markOffsetS_row l hl a ha).rounds
  exact (laws_markOffsetS.calls k P u l a _ _ w0 w hB hR hk).mono fun e w' h => ⟨h.1, Kd.R_reok rfl h.2.1 hR.1, h.2.2.1, h.2.2.2⟩

/- laws_heldOffsetS -/
theorem heldOffsetS_l0 (l : List S86) (hl : l.length ≤ 1048576) (a : Int) (ha : 0 ≤ a ∧ a ≤ 8796093022208) (he : ∀ j, j < l.length → l.getD j z86 = mk3 a j) : ∀ (d i : Nat), i + d = l.length →
    Ev (fun k => laws_heldOffsetS.l0 k l (a + 3 * i) (i : Int)) (a + 3 * l.length) := by
  intro d
  induction d with
  | zero =>
    intro i hi
    obtain rfl : i = l.length := by omega
    exact Ev.step (fun k => laws_heldOffsetS.l0.eq_2 l (a + 3 * l.length) l.length k) (ev_neg (by omega) (ev_some rfl))
  | succ d ih =>
    intro i hi
    refine Ev.step (fun k => laws_heldOffsetS.l0.eq_2 l (a + 3 * i) i k) ?_
    have hx : rd_T86 l (i : Int) = mk3 a i := by unfold rd_T86; rw [toNat_nat]; exact he i (by omega)
    rw [w_succ (n := l.length) (by omega) (by omega), hx, w64 (x := a + 3 * i + 1) (by omega) (by omega), w64 (x := a + 3 * i + 1 + 1) (by omega) (by omega), w64 (x := a + 3 * i + 1 + 1 + 1) (by omega) (by omega)]
    refine ev_pos (by omega) (ev_pos (by omega) (ev_pos rfl (ev_pos rfl (ev_pos ?_ ?_))))
    · show a + 3 * (i : Int) + 2 = _; omega
    · have := ih (i + 1) (by omega)
      rwa [show a + 3 * ((i + 1 : Nat) : Int) = a + 3 * (i : Int) + 1 + 1 + 1 by omega] at this
theorem markOffsetS_ev (l : List S86) (hl : l.length ≤ 1048576) (a : Int) (ha : 0 ≤ a ∧ a ≤ 8796093022208) :
    ∃ r, Ev (fun k => laws_markOffsetS.f k l a) (a + 3 * l.length, r) ∧ Ev (fun k => laws_heldOffsetS.f k r a) (a + 3 * l.length) ∧ r.length = l.length := by
  obtain ⟨r, h1, h2, h3⟩ := markOffsetS_l0 l hl a ha l.length 0 l (by omega) rfl (fun j hj => by omega)
  have h4 := heldOffsetS_l0 r (by omega) a ha (fun j hj => h3 j (by omega)) r.length 0 (by omega)
  rw [show a + 3 * ((0 : Nat) : Int) = a by omega] at h1 h4
  rw [h2] at h4
  exact ⟨r, h1, h4, h2⟩

/- com.heldOffsetS -/
theorem heldOffsetS_calls (n : Nat) (hl : n ≤ 1048576) (a : Int) (ha : 0 ≤ a ∧ a ≤ 1099511627776) (A : Option Addr) (c : Nat) (w : World) (h1 : Kd.C k86 w A n (markRowO a n)) (h2 : n ≤ c) :
    Calls Try.prog 38 #[.slice A n c, .int .i64 a] w fun e w' => e = .returned (.int .i64 (a + 3 * n)) ∧ Below w.heap.size w w' := by
  have hn := markRowO_len a n
  have h := heldOffsetS_l0 (markRowO a n) (by rw [hn]; exact hl) a ⟨ha.1, by omega⟩ (fun j hj => markRowO_at a n j (by rw [hn] at hj; exact hj)) n 0 (by rw [hn]; omega)
  rw [hn, show a + 3 * ((0 : Nat) : Int) = a by omega] at h
  obtain ⟨k, hk⟩ := h.rounds
  have := laws_heldOffsetS.calls k A c (markRowO a n) a (a + 3 * n) w (by rw [hn]; exact h1) (by rw [hn]; exact h2) hk
  rw [hn] at this
  exact this.mono fun e w' h => ⟨h.1, drawn_below h.2⟩

/- com.szOffsetS -/
theorem szOffsetS_calls (l : List S89) (hl : l.length ≤ maxLen) (a : Int) (ha : 0 ≤ a ∧ a ≤ 1048576) : ∃ q : Int, (0 ≤ q → (0 ≤ q ∧ q ≤ 1048576) ∧ l.length ≤ 1048576) ∧
    ∀ (A : Option Addr) (c : Nat) (w : World), Kd.C k89 w A l.length l → l.length ≤ c → Calls Try.prog 32 #[.slice A l.length c, .int .i64 a] w fun e w' => e = .returned (.int .i64 q) ∧ Below w.heap.size w w' := by
  have hl := maxLen_le hl
  have : ∃ q, laws_szOffsetS.f l a = some q ∧ (0 ≤ q → (0 ≤ q ∧ q ≤ 1048576) ∧ l.length ≤ 1048576) := by
    unfold laws_szOffsetS.f
    rw [w64 (by omega) (by omega)]
    by_cases h : a - (l.length : Int) < 0
    · exact ⟨-1, by rw [if_pos h], by omega⟩
    · exact ⟨_, by rw [if_neg h], by omega⟩
  obtain ⟨q, e, hq⟩ := this
  exact ⟨q, hq, fun A c w h1 h2 => (laws_szOffsetS.calls A c l a q w h1 h2 e).mono fun e w' h => ⟨h.1, drawn_below h.2⟩⟩

/- hand.FnExactTurnTemplate -/
theorem both (l : List S86) (hl : l.length ≤ 1048576) : ∃ q : List S86 × Bool, OwnTurnSort.ttR l = q ∧ OwnTurnSort.ttR l = q ∧ q.1.length ≤ 1048576 := by
  refine ⟨_, rfl, rfl, ?_⟩
  unfold OwnTurnSort.ttR
  split
  · rename_i h
    show (OwnTurnSort.srtL l).length ≤ _
    rw [(OwnTurnSort.srtL_ok h).1]
    exact hl
  · exact Nat.zero_le _

set_option maxHeartbeats 4000000 in
set_option maxRecDepth 100000 in
theorem walk (a0 : List S89) (Aa0 : Option Addr) (ca0 : Nat) (w : World) (hra0 : Kd.C k89 w Aa0 a0.length a0) (hca0 : a0.length ≤ ca0) (r0 : Int) (hsz0 : ∀ (Aa0 : Option Addr) (ca0 : Nat) (w : World), Kd.C k89 w Aa0 a0.length a0 → a0.length ≤ ca0 → Calls Try.prog 32 #[.slice Aa0 a0.length ca0, .int .i64 1048576] w fun e w' => e = .returned (.int .i64 r0) ∧ Below w.heap.size w w') (hlt0 : ¬ r0 < 0) (ta0 : List S86) (hta0 : a0.map cO = ta0) (g0 : List S86) (g1 : Bool) (hlta0 : ta0.length ≤ 1048576) (hlg0 : g0.length ≤ 1048576) (hs : OwnTurnSort.ttR ta0 = (g0, g1)) (hi : OwnTurnSort.ttR ta0 = (g0, g1)) :
    Calls Try.prog 8 #[.slice Aa0 a0.length ca0] w fun e w' => e = .returned (.bool true) ∧ Below w.heap.size w w' := by
  have Hs := Aside0.mk hs
  have Hi := Aside0.mk hi
  have HRa0 := Aside0.mk hra0
  have HCa0 := Aside0.mk hca0
  have HLta0 := Aside0.mk hlta0
  have HTa0 := Aside0.mk hta0
  have HLg0 := Aside0.mk hlg0
  have HSZ0 := Aside0.mk hsz0
  have d0 : decide (r0 < 0) = false := decide_eq_false hlt0
  clear hs hi hra0 hca0 hlta0 hta0 hlg0 hsz0 hlt0
  go_enter Try.func8, Try.ntmps8
  go_wp2_with fail
  refine (HSZ0.out Aa0 ca0 w HRa0.out HCa0.out).mono ?_
  rintro e w1 ⟨rfl, hb⟩
  have B1 := Aside0.mk hb
  have z1 := hb.size
  clear hb
  go_wp2_with fail
  refine (toOffsetS_calls a0 ta0 HTa0.out HLta0.out Aa0 ca0 w1 (Kd.C_below HRa0.out B1.out) HCa0.out).mono ?_
  rintro e w2 ⟨v, rfl, ho, hb⟩
  have B2 := Aside0.mk (below_step B1.out hb)
  have z2 := hb.size
  obtain ⟨At0_0_2, ct0_0_2, rfl⟩ := Kd.R_slice ho
  have Ft0_0_2 := Aside0.mk (ivR (w := w) ho (by omega))
  clear ho
  clear hb
  go_wp2_with fail
  refine (OwnTurnTemplate.own_spec At0_0_2 ct0_0_2 ta0 g0 g1 w2 (readsR Ft0_0_2.out).2.2 (readsR Ft0_0_2.out).2.1 HLta0.out Hs.out).mono ?_
  rintro e w3 ⟨v, rfl, ho, hb⟩
  have ho := Kd.R_mono ho (ok' := fun _ => True) (fun _ _ => trivial)
  have B3 := Aside0.mk (below_step B2.out hb)
  have z3 := hb.size
  obtain ⟨Aw0_0_3, cw0_0_3, rfl⟩ := Kd.R_slice ho
  have Fw0_0_3 := Aside0.mk (ivR (w := w) ho (by omega))
  clear ho
  have Ft0_0_3 := Aside0.mk (Kd.R_below Ft0_0_2.out hb)
  clear Ft0_0_2
  clear hb
  go_wp2_with fail
  refine (toOffsetS_calls a0 ta0 HTa0.out HLta0.out Aa0 ca0 w3 (Kd.C_below HRa0.out B3.out) HCa0.out).mono ?_
  rintro e w4 ⟨v, rfl, ho, hb⟩
  have B4 := Aside0.mk (below_step B3.out hb)
  have z4 := hb.size
  obtain ⟨Ax0_0_4, cx0_0_4, rfl⟩ := Kd.R_slice ho
  have Fx0_0_4 := Aside0.mk (ivR (w := w) ho (by omega))
  clear ho
  have Fw0_0_4 := Aside0.mk (Kd.R_below Fw0_0_3.out hb)
  clear Fw0_0_3
  clear hb
  go_wp2_with fail
  refine (OwnTurnTemplate.own_impl Ax0_0_4 cx0_0_4 ta0 g0 g1 w4 (readsR Fx0_0_4.out).2.2 (readsR Fx0_0_4.out).2.1 HLta0.out Hi.out).mono ?_
  rintro e w5 ⟨v, rfl, ho, hb⟩
  have ho := Kd.R_mono ho (ok' := fun _ => True) (fun _ _ => trivial)
  have B5 := Aside0.mk (below_step B4.out hb)
  have z5 := hb.size
  obtain ⟨Ag0_0_5, cg0_0_5, rfl⟩ := Kd.R_slice ho
  have Fg0_0_5 := Aside0.mk (ivR (w := w) ho (by omega))
  clear ho
  have Fw0_0_5 := Aside0.mk (Kd.R_below Fw0_0_4.out hb)
  clear Fw0_0_4
  have Fx0_0_5 := Aside0.mk (Kd.R_below Fx0_0_4.out hb)
  clear Fx0_0_4
  clear hb
  go_wp2_with fail
  refine (eqOffsetS_calls g0 (maxLen_val (by have := HLg0.out; omega)) Ag0_0_5 Aw0_0_3 cg0_0_5 cw0_0_3 w5 (readsR Fg0_0_5.out).2.2 (readsR Fg0_0_5.out).2.1 (readsR Fw0_0_5.out).2.2 (readsR Fw0_0_5.out).2.1).mono ?_
  rintro e w6 ⟨rfl, hb⟩
  have B6 := Aside0.mk (below_step B5.out hb)
  have z6 := hb.size
  have Fw0_0_6 := Aside0.mk (Kd.R_below Fw0_0_5.out hb)
  clear Fw0_0_5
  have Fx0_0_6 := Aside0.mk (Kd.R_below Fx0_0_5.out hb)
  clear Fx0_0_5
  have Fg0_0_6 := Aside0.mk (Kd.R_below Fg0_0_5.out hb)
  clear Fg0_0_5
  clear hb
  go_wp2_with fail
  refine (toOffsetS_calls a0 ta0 HTa0.out HLta0.out Aa0 ca0 w6 (Kd.C_below HRa0.out B6.out) HCa0.out).mono ?_
  rintro e w7 ⟨v, rfl, ho, hb⟩
  have B7 := Aside0.mk (below_step B6.out hb)
  have z7 := hb.size
  obtain ⟨Au_0_7, cu_0_7, rfl⟩ := Kd.R_slice ho
  have Fu_0_7 := Aside0.mk (ivR (w := w) ho (by omega))
  clear ho
  have Fw0_0_7 := Aside0.mk (Kd.R_below Fw0_0_6.out hb)
  clear Fw0_0_6
  have Fx0_0_7 := Aside0.mk (Kd.R_below Fx0_0_6.out hb)
  clear Fx0_0_6
  have Fg0_0_7 := Aside0.mk (Kd.R_below Fg0_0_6.out hb)
  clear Fg0_0_6
  clear hb
  go_wp2_with fail
  refine (eqOffsetS_calls ta0 (maxLen_val (by have := HLta0.out; omega)) Ax0_0_4 Au_0_7 cx0_0_4 cu_0_7 w7 (readsR Fx0_0_7.out).2.2 (readsR Fx0_0_7.out).2.1 (readsR Fu_0_7.out).2.2 (readsR Fu_0_7.out).2.1).mono ?_
  rintro e w8 ⟨rfl, hb⟩
  have B8 := Aside0.mk (below_step B7.out hb)
  have z8 := hb.size
  have Fw0_0_8 := Aside0.mk (Kd.R_below Fw0_0_7.out hb)
  clear Fw0_0_7
  have Fx0_0_8 := Aside0.mk (Kd.R_below Fx0_0_7.out hb)
  clear Fx0_0_7
  have Fg0_0_8 := Aside0.mk (Kd.R_below Fg0_0_7.out hb)
  clear Fg0_0_7
  have Fu_0_8 := Aside0.mk (Kd.R_below Fu_0_7.out hb)
  clear Fu_0_7
  clear hb
  go_wp2_with fail
  refine (markOffsetS_calls ta0 (by have := HLta0.out; omega) 1 (by omega) (Btw w3 w4) (.slice Ax0_0_4 ta0.length cx0_0_4) w w8 B8.out Fx0_0_8.out).mono ?_
  rintro e w9 ⟨rfl, ho, hb, hk⟩
  have z9 := hk.1
  have B9 := Aside0.mk hb
  have Fw0_0_9 := Aside0.mk (Kd.R_kept Fw0_0_8.out hk (apart (by omega)))
  clear Fw0_0_8
  have Fg0_0_9 := Aside0.mk (Kd.R_kept Fg0_0_8.out hk (apart (by omega)))
  clear Fg0_0_8
  have hll := HLta0.out
  obtain ⟨m9, em9⟩ : ∃ z : Int, z = 1 + 3 * (ta0.length : Int) := ⟨_, rfl⟩
  rw [← em9]
  have lm9 : 0 ≤ m9 ∧ m9 ≤ 8388609 := by omega
  have dm9 : decide (m9 < 0) = false := decide_eq_false (by omega)
  have Em9 := Aside0.mk em9
  have Lm9 := Aside0.mk lm9
  clear Fx0_0_8
  clear hb hk ho hll em9 lm9
  go_wp2_with fail
  refine (eqOffsetS_calls g0 (maxLen_val (by have := HLg0.out; omega)) Ag0_0_5 Aw0_0_3 cg0_0_5 cw0_0_3 w9 (readsR Fg0_0_9.out).2.2 (readsR Fg0_0_9.out).2.1 (readsR Fw0_0_9.out).2.2 (readsR Fw0_0_9.out).2.1).mono ?_
  rintro e w10 ⟨rfl, hb⟩
  have B10 := Aside0.mk (below_step B9.out hb)
  have z10 := hb.size
  have Fw0_0_10 := Aside0.mk (Kd.R_below Fw0_0_9.out hb)
  clear Fw0_0_9
  have Fg0_0_10 := Aside0.mk (Kd.R_below Fg0_0_9.out hb)
  clear Fg0_0_9
  clear hb
  go_wp2_with fail
  refine (markOffsetS_calls g0 (by have := HLg0.out; omega) 1 (by omega) (Btw w4 w5) (.slice Ag0_0_5 g0.length cg0_0_5) w w10 B10.out Fg0_0_10.out).mono ?_
  rintro e w11 ⟨rfl, ho, hb, hk⟩
  have z11 := hk.1
  have B11 := Aside0.mk hb
  have Fw0_0_11 := Aside0.mk (Kd.R_kept Fw0_0_10.out hk (apart (by omega)))
  clear Fw0_0_10
  have hll := HLg0.out
  obtain ⟨m11, em11⟩ : ∃ z : Int, z = 1 + 3 * (g0.length : Int) := ⟨_, rfl⟩
  rw [← em11]
  have lm11 : 0 ≤ m11 ∧ m11 ≤ 8388609 := by omega
  have dm11 : decide (m11 < 0) = false := decide_eq_false (by omega)
  have Em11 := Aside0.mk em11
  have Lm11 := Aside0.mk lm11
  have Fg0_0_11 := Aside0.mk ho
  clear Fg0_0_10
  clear hb hk ho hll em11 lm11
  go_wp2_with fail
  refine (heldOffsetS_calls g0.length (by have := HLg0.out; omega) 1 (by omega) Ag0_0_5 cg0_0_5 w11 (by have h := (readsR Fg0_0_11.out).2.2; rwa [markRowO_len] at h) (by have h := (readsR Fg0_0_11.out).2.1; rwa [markRowO_len] at h)).mono ?_
  rintro e w12 ⟨rfl, hb⟩
  have B12 := Aside0.mk (below_step B11.out hb)
  have z12 := hb.size
  have Fw0_0_12 := Aside0.mk (Kd.R_below Fw0_0_11.out hb)
  clear Fw0_0_11
  have Fg0_0_12 := Aside0.mk (Kd.R_below Fg0_0_11.out hb)
  clear Fg0_0_11
  rw [← Em11.out]
  clear hb
  go_wp2_with fail
  refine (toOffsetS_calls a0 ta0 HTa0.out HLta0.out Aa0 ca0 w12 (Kd.C_below HRa0.out B12.out) HCa0.out).mono ?_
  rintro e w13 ⟨v, rfl, ho, hb⟩
  have B13 := Aside0.mk (below_step B12.out hb)
  have z13 := hb.size
  obtain ⟨At0_0_13, ct0_0_13, rfl⟩ := Kd.R_slice ho
  have Ft0_0_13 := Aside0.mk (ivR (w := w) ho (by omega))
  clear ho
  have Fw0_0_13 := Aside0.mk (Kd.R_below Fw0_0_12.out hb)
  clear Fw0_0_12
  have Fg0_0_13 := Aside0.mk (Kd.R_below Fg0_0_12.out hb)
  clear Fg0_0_12
  clear hb
  go_wp2_with fail
  refine (OwnTurnTemplate.own_impl At0_0_13 ct0_0_13 ta0 g0 g1 w13 (readsR Ft0_0_13.out).2.2 (readsR Ft0_0_13.out).2.1 HLta0.out Hi.out).mono ?_
  rintro e w14 ⟨v, rfl, ho, hb⟩
  have ho := Kd.R_mono ho (ok' := fun _ => True) (fun _ _ => trivial)
  have B14 := Aside0.mk (below_step B13.out hb)
  have z14 := hb.size
  obtain ⟨Ah0_0_14, ch0_0_14, rfl⟩ := Kd.R_slice ho
  have Fh0_0_14 := Aside0.mk (ivR (w := w) ho (by omega))
  clear ho
  have Fw0_0_14 := Aside0.mk (Kd.R_below Fw0_0_13.out hb)
  clear Fw0_0_13
  have Fg0_0_14 := Aside0.mk (Kd.R_below Fg0_0_13.out hb)
  clear Fg0_0_13
  have Ft0_0_14 := Aside0.mk (Kd.R_below Ft0_0_13.out hb)
  clear Ft0_0_13
  clear hb
  go_wp2_with fail
  refine (eqOffsetS_calls g0 (maxLen_val (by have := HLg0.out; omega)) Ah0_0_14 Aw0_0_3 ch0_0_14 cw0_0_3 w14 (readsR Fh0_0_14.out).2.2 (readsR Fh0_0_14.out).2.1 (readsR Fw0_0_14.out).2.2 (readsR Fw0_0_14.out).2.1).mono ?_
  rintro e w15 ⟨rfl, hb⟩
  have B15 := Aside0.mk (below_step B14.out hb)
  have z15 := hb.size
  have Fw0_0_15 := Aside0.mk (Kd.R_below Fw0_0_14.out hb)
  clear Fw0_0_14
  have Fg0_0_15 := Aside0.mk (Kd.R_below Fg0_0_14.out hb)
  clear Fg0_0_14
  have Fh0_0_15 := Aside0.mk (Kd.R_below Fh0_0_14.out hb)
  clear Fh0_0_14
  clear hb
  go_wp2_with fail
  refine (heldOffsetS_calls g0.length (by have := HLg0.out; omega) 1 (by omega) Ag0_0_5 cg0_0_5 w15 (by have h := (readsR Fg0_0_15.out).2.2; rwa [markRowO_len] at h) (by have h := (readsR Fg0_0_15.out).2.1; rwa [markRowO_len] at h)).mono ?_
  rintro e w16 ⟨rfl, hb⟩
  have B16 := Aside0.mk (below_step B15.out hb)
  have z16 := hb.size
  have Fw0_0_16 := Aside0.mk (Kd.R_below Fw0_0_15.out hb)
  clear Fw0_0_15
  have Fg0_0_16 := Aside0.mk (Kd.R_below Fg0_0_15.out hb)
  clear Fg0_0_15
  have Fh0_0_16 := Aside0.mk (Kd.R_below Fh0_0_15.out hb)
  clear Fh0_0_15
  rw [← Em11.out]
  clear hb
  go_wp2_with fail
  go_ret
  exact ⟨rfl, B16.out⟩
set_option maxRecDepth 100000 in
theorem walk_neg0 (a0 : List S89) (Aa0 : Option Addr) (ca0 : Nat) (w : World) (hra0 : Kd.C k89 w Aa0 a0.length a0) (hca0 : a0.length ≤ ca0)  (r0 : Int) (hsz0 : ∀ (Aa0 : Option Addr) (ca0 : Nat) (w : World), Kd.C k89 w Aa0 a0.length a0 → a0.length ≤ ca0 → Calls Try.prog 32 #[.slice Aa0 a0.length ca0, .int .i64 1048576] w fun e w' => e = .returned (.int .i64 r0) ∧ Below w.heap.size w w') (hlt0 : r0 < 0) : Calls Try.prog 8 #[.slice Aa0 a0.length ca0] w fun e w' => e = .returned (.bool true) ∧ Below w.heap.size w w' := by
  have HRa0 := Aside0.mk hra0
  have HCa0 := Aside0.mk hca0
  have HSZ0 := Aside0.mk hsz0
  have d0 : decide (r0 < 0) = true := decide_eq_true hlt0
  clear hsz0 hlt0  hra0 hca0
  go_enter Try.func8, Try.ntmps8
  go_wp2_with fail
  refine (HSZ0.out Aa0 ca0 w HRa0.out HCa0.out).mono ?_
  rintro e w1 ⟨rfl, hb⟩
  have B1 := Aside0.mk hb
  clear hb
  go_wp2_with fail
  go_ret
  exact ⟨rfl, B1.out⟩
theorem law (a0 : List S89) (ha0 : a0.length ≤ maxLen) (Aa0 : Option Addr) (ca0 : Nat) (w : World) (hra0 : Kd.C k89 w Aa0 a0.length a0) (hca0 : a0.length ≤ ca0) : Calls Try.prog 8 #[.slice Aa0 a0.length ca0] w fun e w' => e = .returned (.bool true) ∧ Below w.heap.size w w' := by
  obtain ⟨r0, hz0, hsz0⟩ := szOffsetS_calls a0 ha0 1048576 (by omega)
  by_cases hlt0 : r0 < 0
  · exact walk_neg0 a0 Aa0 ca0 w hra0 hca0  r0 hsz0 hlt0
  obtain ⟨hq0, l1a0⟩ := hz0 (by omega)
  obtain ⟨⟨g0, g1⟩, hs, hi, ng0⟩ := both (a0.map cO) (by rw [List.length_map]; exact l1a0)
  exact walk a0 Aa0 ca0 w hra0 hca0 r0 hsz0 hlt0 (a0.map cO) rfl g0 g1 (by rw [List.length_map]; exact l1a0) ng0 hs hi
end Go.Proofs.Ytpndghkfbojokaa.WalkFnExactTurnTemplate
