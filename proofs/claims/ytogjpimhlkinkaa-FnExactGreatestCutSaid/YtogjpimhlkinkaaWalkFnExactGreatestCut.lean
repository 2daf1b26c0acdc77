/- The law FnExactGreatestCut, walked by hand over its callees' contracts: for every input it returns true. -/
import Derived.Test.YtogjpimhlkinkaaComL
import Derived.Test.YtogjpimhlkinkaaMFnExactGreatestCutx0
import Derived.Test.YtogjpimhlkinkaaOwnGreatestCut
namespace Go.Proofs.Ytogjpimhlkinkaa.WalkFnExactGreatestCut
open Go.RowKit Go.Proofs.Ytogjpimhlkinkaa.PFnExactGreatestCut Go.Proofs.YtogjpimhlkinkaaW.PrintWords Go.Proofs.YtogjpimhlkinkaaW.PrintLast Go.Proofs.YtogjpimhlkinkaaW.PrintMore Go.Proofs.Ytogjpimhlkinkaa.B Go.Proofs.Ytogjpimhlkinkaa.Com Go.Proofs.Ytogjpimhlkinkaa.OwnGreatestCut
set_option linter.unusedVariables false
set_option linter.unusedSimpArgs false
def Zn (W W' : World) (u : Value) (k : Nat) : Prop := Btw W W' k ∧ some k = u.ownBlock
/- laws_toEdgeS -/
theorem toEdgeS_l0 (l : List S70) (hl : l.length ≤ 1048576) : ∀ (d i : Nat) (m : List S68), i + d = l.length → m.length = l.length → (∀ j, j < i → m[j]? = (l.map cE)[j]?) → Ev (fun k => laws_toEdgeS.l0 k l m (i : Int)) (l.map cE) := by
  intro d
  induction d with
  | zero =>
    intro i m hi hm he
    refine Ev.step (fun k => laws_toEdgeS.l0.eq_2 l m i k) ?_
    refine ev_neg (by omega) (ev_some ?_)
    refine List.ext_getElem? (fun j => ?_)
    by_cases hj : j < i
    · exact he j hj
    · rw [List.getElem?_eq_none (by omega), List.getElem?_eq_none (by simp; omega)]
  | succ d ih =>
    intro i m hi hm he
    refine Ev.step (fun k => laws_toEdgeS.l0.eq_2 l m i k) ?_
    refine ev_pos (by omega) (ev_pos (by omega) (ev_bindc rfl (ev_pos (by omega) ?_)))
    rw [w_succ (n := l.length) (by omega) (by omega), toNat_nat]
    refine ih (i + 1) _ (by omega) (by simpa using hm) (fun j hj => ?_)
    by_cases hji : j = i
    · subst hji
      have h1 : j < l.length := by omega
      simp [List.getElem?_set, show j < m.length by omega, rd_T70, h1, cE]
    · rw [← he j (by omega), List.getElem?_set_ne (Ne.symm hji)]
theorem toEdgeS_ev (l : List S70) (hl : l.length ≤ 1048576) : Ev (fun k => laws_toEdgeS.f k l) (l.map cE) := by
  unfold laws_toEdgeS.f
  refine ev_pos (by omega) (ev_pos (by omega) ?_)
  exact toEdgeS_l0 l hl l.length 0 _ (by omega) (by simp) (fun j hj => by omega)

/- com.toEdgeS -/
theorem toEdgeS_calls (l : List S70) (t : List S68) (ht : l.map cE = t) (hl : t.length ≤ 1048576) (A : Option Addr) (c : Nat) (w : World) (hr : Kd.C k70 w A l.length l) (hc : l.length ≤ c) :
    Calls Try.prog 17 #[.slice A l.length c] w fun e w' => ∃ v : Value, e = .returned v ∧ Kd.R k68 68 w' w.heap.size (fun _ => True) v t ∧ Below w.heap.size w w' := by
  subst ht
  rw [List.length_map] at hl
  obtain ⟨k, hk⟩ := (toEdgeS_ev l hl).rounds
  exact laws_toEdgeS.calls k A c l _ w hr hc hk

/- laws_eqEdgeS -/
theorem eqEdgeS_l0 (l : List S68) (hl : l.length ≤ maxLen) : ∀ (d i : Nat), i + d = l.length → Ev (fun k => laws_eqEdgeS.l0 k l l (i : Int)) true := by
  have hl := maxLen_le hl
  intro d
  induction d with
  | zero =>
    intro i hi
    exact Ev.step (fun k => laws_eqEdgeS.l0.eq_2 l l i k) (ev_neg (by omega) (ev_some rfl))
  | succ d ih =>
    intro i hi
    refine Ev.step (fun k => laws_eqEdgeS.l0.eq_2 l l i k) ?_
    rw [w_succ (n := l.length) (by omega) (by omega)]
    exact ev_pos (by omega) (ev_pos (by omega) (ev_pos (by omega) (ev_bindc (by unfold laws_eqEdge.f; rw [if_pos rfl, if_pos rfl, if_pos rfl]) (ev_pos rfl (ih (i + 1) (by omega))))))
theorem eqEdgeS_ev (l : List S68) (hl : l.length ≤ maxLen) : Ev (fun k => laws_eqEdgeS.f k l l) true := by
  unfold laws_eqEdgeS.f
  exact ev_pos rfl (eqEdgeS_l0 l hl l.length 0 (by omega))

/- com.eqEdgeS -/
theorem eqEdgeS_calls (l : List S68) (hl : l.length ≤ maxLen) (A A' : Option Addr) (c c' : Nat) (w : World) (h1 : Kd.C k68 w A l.length l) (h2 : l.length ≤ c) (h3 : Kd.C k68 w A' l.length l) (h4 : l.length ≤ c') :
    Calls Try.prog 19 #[.slice A l.length c, .slice A' l.length c'] w fun e w' => e = .returned (.bool true) ∧ Below w.heap.size w w' := by
  obtain ⟨k, hk⟩ := (eqEdgeS_ev l hl).rounds
  exact laws_eqEdgeS.calls k A c l A' c' l true w h1 h2 h3 h4 hk

/- laws_markEdgeS -/
def mk3 (a : Int) (j : Nat) : S68 := ⟨a + 3 * j, a + 3 * j + 1, a + 3 * j + 2⟩
theorem markEdgeS_l0 (l : List S68) (hl : l.length ≤ 1048576) (a : Int) (ha : 0 ≤ a ∧ a ≤ 1099511627776) : ∀ (d i : Nat) (m : List S68), i + d = l.length → m.length = l.length → (∀ j, j < i → m.getD j z68 = mk3 a j) →
    ∃ r, Ev (fun k => laws_markEdgeS.l0 k m (a + 3 * i) (i : Int)) (a + 3 * l.length, r) ∧ r.length = l.length ∧ ∀ j, j < l.length → r.getD j z68 = mk3 a j := by
  intro d
  induction d with
  | zero =>
    intro i m hi hm he
    obtain rfl : i = l.length := by omega
    exact ⟨m, Ev.step (fun k => laws_markEdgeS.l0.eq_2 m (a + 3 * l.length) l.length k) (ev_neg (by omega) (ev_some rfl)), hm, he⟩
  | succ d ih =>
    intro i m hi hm he
    have hi' : i < m.length := by omega
    have e : ∀ (v : S68) (u : List S68), u.length = m.length → rd_T68 (u.set i v) (i : Int) = v := by
      intro v u hu; unfold rd_T68; rw [toNat_nat, getD_set, if_pos ⟨rfl, by omega⟩]
    obtain ⟨r, hr, hz⟩ := ih (i + 1) (((m.set i ⟨a + 3 * i, (rd_T68 m i).f1, (rd_T68 m i).f2⟩).set i ⟨a + 3 * i, a + 3 * i + 1, (rd_T68 m i).f2⟩).set i (mk3 a i)) (by omega) (by simpa using hm) (fun j hj => by
      rw [getD_set, getD_set, getD_set]
      simp only [List.length_set]
      by_cases hji : i = j
      · subst hji; rw [if_pos ⟨rfl, hi'⟩]
      · rw [if_neg (by omega), if_neg (by omega), if_neg (by omega)]; exact he j (by omega))
    refine ⟨r, Ev.step (fun k => laws_markEdgeS.l0.eq_2 m (a + 3 * i) i k) ?_, hz⟩
    rw [w_succ (n := l.length) (by omega) (by omega), toNat_nat, w64 (x := a + 3 * i + 1) (by omega) (by omega), w64 (x := a + 3 * i + 1 + 1) (by omega) (by omega), w64 (x := a + 3 * i + 1 + 1 + 1) (by omega) (by omega)]
    simp only [Option.bind_some, e _ _ rfl, List.length_set]
    refine ev_pos (by omega) (ev_pos (by omega) ?_)
    rw [e _ (m.set i _) (by simp)]
    rw [show a + 3 * (i : Int) + 1 + 1 + 1 = a + 3 * ((i + 1 : Nat) : Int) by omega]
    have e2 : a + 3 * (i : Int) + 1 + 1 = a + 3 * (i : Int) + 2 := by omega
    rw [e2]
    exact hr

/- com.markEdgeS -/
def markRowE (a : Int) (n : Nat) : List S68 := (List.range n).map (mk3 a)
theorem markRowE_len (a : Int) (n : Nat) : (markRowE a n).length = n := by unfold markRowE; rw [List.length_map, List.length_range]
theorem markRowE_at (a : Int) (n j : Nat) (h : j < n) : (markRowE a n).getD j z68 = mk3 a j := by
  unfold markRowE
  rw [List.getD_eq_getElem?_getD, List.getElem?_map, List.getElem?_range h]; rfl
theorem markEdgeS_row (l : List S68) (hl : l.length ≤ 1048576) (a : Int) (ha : 0 ≤ a ∧ a ≤ 1099511627776) : Ev (fun k => laws_markEdgeS.f k l a) (a + 3 * l.length, markRowE a l.length) := by
  obtain ⟨r, h1, h2, h3⟩ := markEdgeS_l0 l hl a ha l.length 0 l (by omega) rfl (fun j hj => by omega)
  rw [show a + 3 * ((0 : Nat) : Int) = a by omega] at h1
  have : r = markRowE a l.length := getD_ext z68 (by rw [h2, markRowE_len]) (fun j hj => by rw [h3 j (by omega), markRowE_at a l.length j (by omega)])
  rw [← this]
  exact h1
theorem markEdgeS_calls (l : List S68) (hl : l.length ≤ 1048576) (a : Int) (ha : 0 ≤ a ∧ a ≤ 1099511627776) (P : Nat → Prop) (u : Value) (w0 w : World) (hB : Below w0.heap.size w0 w) (hR : Kd.R k68 68 w w0.heap.size P u l) :
    Calls Try.prog 27 #[u, .int .i64 a] w fun e w' => e = .returned (.int .i64 (a + 3 * l.length)) ∧ Kd.R k68 68 w' w0.heap.size P u (markRowE a l.length) ∧ Below w0.heap.size w0 w' ∧ Kept w w' P := by
  obtain ⟨k, hk⟩ := (markEdgeS_row l hl a ha).rounds
  exact (laws_markEdgeS.calls k P u l a _ _ w0 w hB hR hk).mono fun e w' h => ⟨h.1, Kd.R_reok rfl h.2.1 hR.1, h.2.2.1, h.2.2.2⟩

/- com.szEdgeS -/
theorem szEdgeS_calls (l : List S70) (hl : l.length ≤ maxLen) (a : Int) (ha : 0 ≤ a ∧ a ≤ 1048576) : ∃ q : Int, (0 ≤ q → (0 ≤ q ∧ q ≤ 1048576) ∧ l.length ≤ 1048576) ∧
    ∀ (A : Option Addr) (c : Nat) (w : World), Kd.C k70 w A l.length l → l.length ≤ c → Calls Try.prog 15 #[.slice A l.length c, .int .i64 a] w fun e w' => e = .returned (.int .i64 q) ∧ Below w.heap.size w w' := by
  have hl := maxLen_le hl
  have : ∃ q, laws_szEdgeS.f l a = some q ∧ (0 ≤ q → (0 ≤ q ∧ q ≤ 1048576) ∧ l.length ≤ 1048576) := by
    unfold laws_szEdgeS.f
    rw [w64 (by omega) (by omega)]
    by_cases h : a - (l.length : Int) < 0
    · exact ⟨-1, by rw [if_pos h], by omega⟩
    · exact ⟨_, by rw [if_neg h], by omega⟩
  obtain ⟨q, e, hq⟩ := this
  exact ⟨q, hq, fun A c w h1 h2 => (laws_szEdgeS.calls A c l a q w h1 h2 e).mono fun e w' h => ⟨h.1, drawn_below h.2⟩⟩

/- hand.FnExactGreatestCut -/
theorem both (n : Int) (l : List S68) (hn : -9223372036854775808 ≤ n ∧ n ≤ 9223372036854775807) (hl : l.length ≤ 1048576) : ∃ r : List Int × Bool, gcS n l r ∧ gcR n l r ∧ r.1.length ≤ 1048576 := by
  by_cases h : netOk n l = true
  · obtain ⟨m, rfl⟩ : ∃ m : Nat, n = (m : Int) := ⟨n.toNat, by have := netOk_iff.1 h; omega⟩
    have hE := edges_ok h
    obtain ⟨x, hx⟩ := OwnValue.ran_ends m l hE.1.1 hE.2.2
    obtain ⟨y, hy⟩ := OwnValue.ran_ends m (OwnTurn.turnL m l) hE.1.1 (OwnTurn.turn_edges hE.1.2 hE.2.2)
    have N := OwnNet.net_of m l hE.1.1 hE.2.2
    have h0 := Flow.lev0 (left := Flow.flipL x.2.1) N (o := (m : Int) - 1) (by omega) (by omega)
    obtain ⟨b, hb⟩ := Flow.bfs_ends N m _ _ h0.2 h0.1
    obtain ⟨kb, hb⟩ := hb.rounds
    have hs := same_most hE.1 hE.2.2 hx hy ⟨kb, hb⟩
    refine ⟨(B.listOf (PitMath.outB b), true), ⟨hn, ?_⟩, ?_, ?_⟩
    · rw [if_pos h, Int.toNat_natCast]
      exact ⟨y, hy, by rw [hs.1]⟩
    · unfold gcR
      rw [if_pos h, Int.toNat_natCast]
      exact ⟨x, b, hx, ⟨kb, hb⟩, rfl⟩
    · have := B.listOf_len (m := PitMath.outB b)
      rw [PitMath.outB_len, hs.2] at this
      show (B.listOf _).length ≤ _
      omega
  · exact ⟨([], false), ⟨hn, by rw [if_neg h]⟩, by unfold gcR; rw [if_neg h], Nat.zero_le _⟩

set_option maxHeartbeats 4000000 in
set_option maxRecDepth 100000 in
theorem walk (a0 : Int) (a1 : List S70) (Aa1 : Option Addr) (ca1 : Nat) (w : World) (hra1 : Kd.C k70 w Aa1 a1.length a1) (hca1 : a1.length ≤ ca1) (r0 : Int) (hsz0 : ∀ (Aa1 : Option Addr) (ca1 : Nat) (w : World), Kd.C k70 w Aa1 a1.length a1 → a1.length ≤ ca1 → Calls Try.prog 15 #[.slice Aa1 a1.length ca1, .int .i64 1048576] w fun e w' => e = .returned (.int .i64 r0) ∧ Below w.heap.size w w') (hlt0 : ¬ r0 < 0) (ta1 : List S68) (hta1 : a1.map cE = ta1) (g0 : List Int) (g1 : Bool) (hlta1 : ta1.length ≤ 1048576) (hlg0 : g0.length ≤ 1048576) (hs : gcS a0 ta1 (g0, g1)) (hi : gcR a0 ta1 (g0, g1)) :
    Calls Try.prog 7 #[.int .i64 a0, .slice Aa1 a1.length ca1] w fun e w' => e = .returned (.bool true) ∧ Below w.heap.size w w' := by
  have Hs := Aside0.mk hs
  have Hi := Aside0.mk hi
  have HRa1 := Aside0.mk hra1
  have HCa1 := Aside0.mk hca1
  have HLta1 := Aside0.mk hlta1
  have HTa1 := Aside0.mk hta1
  have HLg0 := Aside0.mk hlg0
  have HSZ0 := Aside0.mk hsz0
  have d0 : decide (r0 < 0) = false := decide_eq_false hlt0
  clear hs hi hra1 hca1 hlta1 hta1 hlg0 hsz0 hlt0
  go_enter Try.func7, Try.ntmps7
  go_wp2_with fail
  refine (HSZ0.out Aa1 ca1 w HRa1.out HCa1.out).mono ?_
  rintro e w1 ⟨rfl, hb⟩
  have B1 := Aside0.mk hb
  have z1 := hb.size
  clear hb
  go_wp2_with fail
  refine (toEdgeS_calls a1 ta1 HTa1.out HLta1.out Aa1 ca1 w1 (Kd.C_below HRa1.out B1.out) HCa1.out).mono ?_
  rintro e w2 ⟨v, rfl, ho, hb⟩
  have B2 := Aside0.mk (below_step B1.out hb)
  have z2 := hb.size
  obtain ⟨At1_0_2, ct1_0_2, rfl⟩ := Kd.R_slice ho
  have Ft1_0_2 := Aside0.mk (ivR (w := w) ho (by omega))
  clear ho
  clear hb
  go_wp2_with fail
  refine (OwnGreatestCut.own_spec a0 At1_0_2 ct1_0_2 ta1 g0 g1 w2 (readsR Ft1_0_2.out).2.2 (readsR Ft1_0_2.out).2.1 HLta1.out Hs.out).mono ?_
  rintro e w3 ⟨v, rfl, ho, hb⟩
  have ho := Kd.R_mono ho (ok' := fun _ => True) (fun _ _ => trivial)
  have B3 := Aside0.mk (below_step B2.out hb)
  have z3 := hb.size
  obtain ⟨Aw0_0_3, cw0_0_3, rfl⟩ := Kd.R_slice ho
  have Fw0_0_3 := Aside0.mk (ivR (w := w) ho (by omega))
  clear ho
  have Ft1_0_3 := Aside0.mk (Kd.R_below Ft1_0_2.out hb)
  clear Ft1_0_2
  clear hb
  go_wp2_with fail
  refine (toEdgeS_calls a1 ta1 HTa1.out HLta1.out Aa1 ca1 w3 (Kd.C_below HRa1.out B3.out) HCa1.out).mono ?_
  rintro e w4 ⟨v, rfl, ho, hb⟩
  have B4 := Aside0.mk (below_step B3.out hb)
  have z4 := hb.size
  obtain ⟨Ax1_0_4, cx1_0_4, rfl⟩ := Kd.R_slice ho
  have Fx1_0_4 := Aside0.mk (ivR (w := w) ho (by omega))
  clear ho
  have Fw0_0_4 := Aside0.mk (Kd.R_below Fw0_0_3.out hb)
  clear Fw0_0_3
  clear hb
  go_wp2_with fail
  refine (OwnGreatestCut.own_impl a0 Ax1_0_4 cx1_0_4 ta1 g0 g1 w4 (readsR Fx1_0_4.out).2.2 (readsR Fx1_0_4.out).2.1 HLta1.out Hi.out).mono ?_
  rintro e w5 ⟨v, rfl, ho, hb⟩
  have ho := Kd.R_mono ho (ok' := fun _ => True) (fun _ _ => trivial)
  have B5 := Aside0.mk (below_step B4.out hb)
  have z5 := hb.size
  obtain ⟨Ag0_0_5, cg0_0_5, rfl⟩ := Kd.R_slice ho
  have Fg0_0_5 := Aside0.mk (ivR (w := w) ho (by omega))
  clear ho
  have Fw0_0_5 := Aside0.mk (Kd.R_below Fw0_0_4.out hb)
  clear Fw0_0_4
  have Fx1_0_5 := Aside0.mk (Kd.R_below Fx1_0_4.out hb)
  clear Fx1_0_4
  clear hb
  go_wp2_with fail
  refine (eqIntS_calls g0 (maxLen_val (by have := HLg0.out; omega)) Ag0_0_5 Aw0_0_3 cg0_0_5 cw0_0_3 w5 (readsR Fg0_0_5.out).2.2 (readsR Fg0_0_5.out).2.1 (readsR Fw0_0_5.out).2.2 (readsR Fw0_0_5.out).2.1).mono ?_
  rintro e w6 ⟨rfl, hb⟩
  have B6 := Aside0.mk (below_step B5.out hb)
  have z6 := hb.size
  have Fw0_0_6 := Aside0.mk (Kd.R_below Fw0_0_5.out hb)
  clear Fw0_0_5
  have Fx1_0_6 := Aside0.mk (Kd.R_below Fx1_0_5.out hb)
  clear Fx1_0_5
  have Fg0_0_6 := Aside0.mk (Kd.R_below Fg0_0_5.out hb)
  clear Fg0_0_5
  clear hb
  go_wp2_with fail
  refine (toEdgeS_calls a1 ta1 HTa1.out HLta1.out Aa1 ca1 w6 (Kd.C_below HRa1.out B6.out) HCa1.out).mono ?_
  rintro e w7 ⟨v, rfl, ho, hb⟩
  have B7 := Aside0.mk (below_step B6.out hb)
  have z7 := hb.size
  obtain ⟨Au_0_7, cu_0_7, rfl⟩ := Kd.R_slice ho
  have Fu_0_7 := Aside0.mk (ivR (w := w) ho (by omega))
  clear ho
  have Fw0_0_7 := Aside0.mk (Kd.R_below Fw0_0_6.out hb)
  clear Fw0_0_6
  have Fx1_0_7 := Aside0.mk (Kd.R_below Fx1_0_6.out hb)
  clear Fx1_0_6
  have Fg0_0_7 := Aside0.mk (Kd.R_below Fg0_0_6.out hb)
  clear Fg0_0_6
  clear hb
  go_wp2_with fail
  refine (eqEdgeS_calls ta1 (maxLen_val (by have := HLta1.out; omega)) Ax1_0_4 Au_0_7 cx1_0_4 cu_0_7 w7 (readsR Fx1_0_7.out).2.2 (readsR Fx1_0_7.out).2.1 (readsR Fu_0_7.out).2.2 (readsR Fu_0_7.out).2.1).mono ?_
  rintro e w8 ⟨rfl, hb⟩
  have B8 := Aside0.mk (below_step B7.out hb)
  have z8 := hb.size
  have Fw0_0_8 := Aside0.mk (Kd.R_below Fw0_0_7.out hb)
  clear Fw0_0_7
  have Fx1_0_8 := Aside0.mk (Kd.R_below Fx1_0_7.out hb)
  clear Fx1_0_7
  have Fg0_0_8 := Aside0.mk (Kd.R_below Fg0_0_7.out hb)
  clear Fg0_0_7
  have Fu_0_8 := Aside0.mk (Kd.R_below Fu_0_7.out hb)
  clear Fu_0_7
  clear hb
  go_wp2_with fail
  refine (markEdgeS_calls ta1 (by have := HLta1.out; omega) 1 (by omega) (Btw w3 w4) (.slice Ax1_0_4 ta1.length cx1_0_4) w w8 B8.out Fx1_0_8.out).mono ?_
  rintro e w9 ⟨rfl, ho, hb, hk⟩
  have z9 := hk.1
  have B9 := Aside0.mk hb
  have Fw0_0_9 := Aside0.mk (Kd.R_kept Fw0_0_8.out hk (apart (by omega)))
  clear Fw0_0_8
  have Fg0_0_9 := Aside0.mk (Kd.R_kept Fg0_0_8.out hk (apart (by omega)))
  clear Fg0_0_8
  have hll := HLta1.out
  obtain ⟨m9, em9⟩ : ∃ z : Int, z = 1 + 3 * (ta1.length : Int) := ⟨_, rfl⟩
  rw [← em9]
  have lm9 : 0 ≤ m9 ∧ m9 ≤ 8388609 := by omega
  have dm9 : decide (m9 < 0) = false := decide_eq_false (by omega)
  have Em9 := Aside0.mk em9
  have Lm9 := Aside0.mk lm9
  clear Fx1_0_8
  clear hb hk ho hll em9 lm9
  go_wp2_with fail
  refine (eqIntS_calls g0 (maxLen_val (by have := HLg0.out; omega)) Ag0_0_5 Aw0_0_3 cg0_0_5 cw0_0_3 w9 (readsR Fg0_0_9.out).2.2 (readsR Fg0_0_9.out).2.1 (readsR Fw0_0_9.out).2.2 (readsR Fw0_0_9.out).2.1).mono ?_
  rintro e w10 ⟨rfl, hb⟩
  have B10 := Aside0.mk (below_step B9.out hb)
  have z10 := hb.size
  have Fw0_0_10 := Aside0.mk (Kd.R_below Fw0_0_9.out hb)
  clear Fw0_0_9
  have Fg0_0_10 := Aside0.mk (Kd.R_below Fg0_0_9.out hb)
  clear Fg0_0_9
  clear hb
  go_wp2_with fail
  refine (markIntS_calls g0 (by have := HLg0.out; omega) 1 (by omega) (Btw w4 w5) (.slice Ag0_0_5 g0.length cg0_0_5) w w10 B10.out Fg0_0_10.out).mono ?_
  rintro e w11 ⟨rfl, ho, hb, hk⟩
  have z11 := hk.1
  have B11 := Aside0.mk hb
  have Fw0_0_11 := Aside0.mk (Kd.R_kept Fw0_0_10.out hk (apart (by omega)))
  clear Fw0_0_10
  have hll := HLg0.out
  obtain ⟨m11, em11⟩ : ∃ z : Int, z = 1 + (g0.length : Int) := ⟨_, rfl⟩
  rw [← em11]
  have lm11 : 0 ≤ m11 ∧ m11 ≤ 8388609 := by omega
  have dm11 : decide (m11 < 0) = false := decide_eq_false (by omega)
  have Em11 := Aside0.mk em11
  have Lm11 := Aside0.mk lm11
  have Fg0_0_11 := Aside0.mk ho
  clear Fg0_0_10
  clear hb hk ho hll em11 lm11
  go_wp2_with fail
  refine (heldIntS_calls g0.length (by have := HLg0.out; omega) 1 (by omega) Ag0_0_5 cg0_0_5 w11 (by have h := (readsR Fg0_0_11.out).2.2; rwa [Com.markRow_len] at h) (by have h := (readsR Fg0_0_11.out).2.1; rwa [Com.markRow_len] at h)).mono ?_
  rintro e w12 ⟨rfl, hb⟩
  have B12 := Aside0.mk (below_step B11.out hb)
  have z12 := hb.size
  have Fw0_0_12 := Aside0.mk (Kd.R_below Fw0_0_11.out hb)
  clear Fw0_0_11
  have Fg0_0_12 := Aside0.mk (Kd.R_below Fg0_0_11.out hb)
  clear Fg0_0_11
  rw [← Em11.out]
  clear hb
  go_wp2_with fail
  refine (toEdgeS_calls a1 ta1 HTa1.out HLta1.out Aa1 ca1 w12 (Kd.C_below HRa1.out B12.out) HCa1.out).mono ?_
  rintro e w13 ⟨v, rfl, ho, hb⟩
  have B13 := Aside0.mk (below_step B12.out hb)
  have z13 := hb.size
  obtain ⟨At1_0_13, ct1_0_13, rfl⟩ := Kd.R_slice ho
  have Ft1_0_13 := Aside0.mk (ivR (w := w) ho (by omega))
  clear ho
  have Fw0_0_13 := Aside0.mk (Kd.R_below Fw0_0_12.out hb)
  clear Fw0_0_12
  have Fg0_0_13 := Aside0.mk (Kd.R_below Fg0_0_12.out hb)
  clear Fg0_0_12
  clear hb
  go_wp2_with fail
  refine (OwnGreatestCut.own_impl a0 At1_0_13 ct1_0_13 ta1 g0 g1 w13 (readsR Ft1_0_13.out).2.2 (readsR Ft1_0_13.out).2.1 HLta1.out Hi.out).mono ?_
  rintro e w14 ⟨v, rfl, ho, hb⟩
  have ho := Kd.R_mono ho (ok' := fun _ => True) (fun _ _ => trivial)
  have B14 := Aside0.mk (below_step B13.out hb)
  have z14 := hb.size
  obtain ⟨Ah0_0_14, ch0_0_14, rfl⟩ := Kd.R_slice ho
  have Fh0_0_14 := Aside0.mk (ivR (w := w) ho (by omega))
  clear ho
  have Fw0_0_14 := Aside0.mk (Kd.R_below Fw0_0_13.out hb)
  clear Fw0_0_13
  have Fg0_0_14 := Aside0.mk (Kd.R_below Fg0_0_13.out hb)
  clear Fg0_0_13
  have Ft1_0_14 := Aside0.mk (Kd.R_below Ft1_0_13.out hb)
  clear Ft1_0_13
  clear hb
  go_wp2_with fail
  refine (eqIntS_calls g0 (maxLen_val (by have := HLg0.out; omega)) Ah0_0_14 Aw0_0_3 ch0_0_14 cw0_0_3 w14 (readsR Fh0_0_14.out).2.2 (readsR Fh0_0_14.out).2.1 (readsR Fw0_0_14.out).2.2 (readsR Fw0_0_14.out).2.1).mono ?_
  rintro e w15 ⟨rfl, hb⟩
  have B15 := Aside0.mk (below_step B14.out hb)
  have z15 := hb.size
  have Fw0_0_15 := Aside0.mk (Kd.R_below Fw0_0_14.out hb)
  clear Fw0_0_14
  have Fg0_0_15 := Aside0.mk (Kd.R_below Fg0_0_14.out hb)
  clear Fg0_0_14
  have Fh0_0_15 := Aside0.mk (Kd.R_below Fh0_0_14.out hb)
  clear Fh0_0_14
  clear hb
  go_wp2_with fail
  refine (heldIntS_calls g0.length (by have := HLg0.out; omega) 1 (by omega) Ag0_0_5 cg0_0_5 w15 (by have h := (readsR Fg0_0_15.out).2.2; rwa [Com.markRow_len] at h) (by have h := (readsR Fg0_0_15.out).2.1; rwa [Com.markRow_len] at h)).mono ?_
  rintro e w16 ⟨rfl, hb⟩
  have B16 := Aside0.mk (below_step B15.out hb)
  have z16 := hb.size
  have Fw0_0_16 := Aside0.mk (Kd.R_below Fw0_0_15.out hb)
  clear Fw0_0_15
  have Fg0_0_16 := Aside0.mk (Kd.R_below Fg0_0_15.out hb)
  clear Fg0_0_15
  have Fh0_0_16 := Aside0.mk (Kd.R_below Fh0_0_15.out hb)
  clear Fh0_0_15
  rw [← Em11.out]
  clear hb
  go_wp2_with fail
  go_ret
  exact ⟨rfl, B16.out⟩
set_option maxRecDepth 100000 in
theorem walk_neg0 (a0 : Int) (a1 : List S70) (Aa1 : Option Addr) (ca1 : Nat) (w : World) (hra1 : Kd.C k70 w Aa1 a1.length a1) (hca1 : a1.length ≤ ca1)  (r0 : Int) (hsz0 : ∀ (Aa1 : Option Addr) (ca1 : Nat) (w : World), Kd.C k70 w Aa1 a1.length a1 → a1.length ≤ ca1 → Calls Try.prog 15 #[.slice Aa1 a1.length ca1, .int .i64 1048576] w fun e w' => e = .returned (.int .i64 r0) ∧ Below w.heap.size w w') (hlt0 : r0 < 0) : Calls Try.prog 7 #[.int .i64 a0, .slice Aa1 a1.length ca1] w fun e w' => e = .returned (.bool true) ∧ Below w.heap.size w w' := by
  have HRa1 := Aside0.mk hra1
  have HCa1 := Aside0.mk hca1
  have HSZ0 := Aside0.mk hsz0
  have d0 : decide (r0 < 0) = true := decide_eq_true hlt0
  clear hsz0 hlt0  hra1 hca1
  go_enter Try.func7, Try.ntmps7
  go_wp2_with fail
  refine (HSZ0.out Aa1 ca1 w HRa1.out HCa1.out).mono ?_
  rintro e w1 ⟨rfl, hb⟩
  have B1 := Aside0.mk hb
  clear hb
  go_wp2_with fail
  go_ret
  exact ⟨rfl, B1.out⟩
theorem law (a0 : Int) (a1 : List S70) (ga0 : (Lit.int .i64 a0).wf = true) (ha1 : a1.length ≤ maxLen) (Aa1 : Option Addr) (ca1 : Nat) (w : World) (hra1 : Kd.C k70 w Aa1 a1.length a1) (hca1 : a1.length ≤ ca1) : Calls Try.prog 7 #[.int .i64 a0, .slice Aa1 a1.length ca1] w fun e w' => e = .returned (.bool true) ∧ Below w.heap.size w w' := by
  obtain ⟨r0, hz0, hsz0⟩ := szEdgeS_calls a1 ha1 1048576 (by omega)
  by_cases hlt0 : r0 < 0
  · exact walk_neg0 a0 a1 Aa1 ca1 w hra1 hca1  r0 hsz0 hlt0
  obtain ⟨hq0, l1a1⟩ := hz0 (by omega)
  obtain ⟨⟨g0, g1⟩, hs, hi, ng0⟩ := both a0 (a1.map cE) (wf64 ga0) (by rw [List.length_map]; exact l1a1)
  exact walk a0 a1 Aa1 ca1 w hra1 hca1 r0 hsz0 hlt0 (a1.map cE) rfl g0 g1 (by rw [List.length_map]; exact l1a1) ng0 hs hi
end Go.Proofs.Ytogjpimhlkinkaa.WalkFnExactGreatestCut
