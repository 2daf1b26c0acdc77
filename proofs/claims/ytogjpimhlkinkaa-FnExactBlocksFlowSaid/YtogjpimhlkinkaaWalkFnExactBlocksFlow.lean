/- The law FnExactBlocksFlow, walked by hand over its callees' contracts: for every input it returns true. -/
import Derived.Test.YtogjpimhlkinkaaComL
import Derived.Test.YtogjpimhlkinkaaMFnExactLeastCutx0
import Derived.Test.YtogjpimhlkinkaaOwnBlocksFlow
namespace Go.Proofs.Ytogjpimhlkinkaa.WalkFnExactBlocksFlow
open Go.RowKit Go.Proofs.Ytogjpimhlkinkaa.PFnExactLeastCut Go.Proofs.YtogjpimhlkinkaaW.PrintWords Go.Proofs.YtogjpimhlkinkaaW.PrintLast Go.Proofs.YtogjpimhlkinkaaW.PrintMore Go.Proofs.Ytogjpimhlkinkaa.B Go.Proofs.Ytogjpimhlkinkaa.Com Go.Proofs.Ytogjpimhlkinkaa.OwnBlocksFlow
set_option linter.unusedVariables false
set_option linter.unusedSimpArgs false
def Zn (W W' : World) (u : Value) (k : Nat) : Prop := Btw W W' k ∧ some k = u.ownBlock
/- laws_toEdgeS -/
theorem toEdgeS_l0 (l : List S70) (hl : l.length ≤ 1048576) : ∀ (d i : Nat) (m : List S68), i + d = l.length → m.length = l.length → (∀ j, j < i → m[j]? = (l.map cE)[j]?) → Ev (fun k => laws_toEdgeS.l0 k l m (i : Int)) (l.map cE) := by
  intro d
  induction d with
  | zero =>
    intro i m hi hm he
    refine Ev.step (fun k => laws_toEdgeS.l0.eq_2 l m i k) ?_
    refine ev_neg (by omega) (ev_some ?_)
    refine List.ext_getElem? (fun j => ?_)
    by_cases hj : j < i
    · exact he j hj
    · rw [List.getElem?_eq_none (by omega), List.getElem?_eq_none (by simp; omega)]
  | succ d ih =>
    intro i m hi hm he
    refine Ev.step (fun k => laws_toEdgeS.l0.eq_2 l m i k) ?_
    refine ev_pos (by omega) (ev_pos (by omega) (ev_bindc rfl (ev_pos (by omega) ?_)))
    rw [w_succ (n := l.length) (by omega) (by omega), toNat_nat]
    refine ih (i + 1) _ (by omega) (by simpa using hm) (fun j hj => ?_)
    by_cases hji : j = i
    · subst hji
      have h1 : j < l.length := by omega
      simp [List.getElem?_set, show j < m.length by omega, rd_T70, h1, cE]
    · rw [← he j (by omega), List.getElem?_set_ne (Ne.symm hji)]
theorem toEdgeS_ev (l : List S70) (hl : l.length ≤ 1048576) : Ev (fun k => laws_toEdgeS.f k l) (l.map cE) := by
  unfold laws_toEdgeS.f
  refine ev_pos (by omega) (ev_pos (by omega) ?_)
  exact toEdgeS_l0 l hl l.length 0 _ (by omega) (by simp) (fun j hj => by omega)

/- com.toEdgeS -/
theorem toEdgeS_calls (l : List S70) (t : List S68) (ht : l.map cE = t) (hl : t.length ≤ 1048576) (A : Option Addr) (c : Nat) (w : World) (hr : Kd.C k70 w A l.length l) (hc : l.length ≤ c) :
    Calls Try.prog 17 #[.slice A l.length c] w fun e w' => ∃ v : Value, e = .returned v ∧ Kd.R k68 68 w' w.heap.size (fun _ => True) v t ∧ Below w.heap.size w w' := by
  subst ht
  rw [List.length_map] at hl
  obtain ⟨k, hk⟩ := (toEdgeS_ev l hl).rounds
  exact laws_toEdgeS.calls k A c l _ w hr hc hk

/- laws_eqEdgeS -/
theorem eqEdgeS_l0 (l : List S68) (hl : l.length ≤ maxLen) : ∀ (d i : Nat), i + d = l.length → Ev (fun k => laws_eqEdgeS.l0 k l l (i : Int)) true := by
  have hl := maxLen_le hl
  intro d
  induction d with
  | zero =>
    intro i hi
    exact Ev.step (fun k => laws_eqEdgeS.l0.eq_2 l l i k) (ev_neg (by omega) (ev_some rfl))
  | succ d ih =>
    intro i hi
    refine Ev.step (fun k => laws_eqEdgeS.l0.eq_2 l l i k) ?_
    rw [w_succ (n := l.length) (by omega) (by omega)]
    exact ev_pos (by omega) (ev_pos (by omega) (ev_pos (by omega) (ev_bindc (by unfold laws_eqEdge.f; rw [if_pos rfl, if_pos rfl, if_pos rfl]) (ev_pos rfl (ih (i + 1) (by omega))))))
theorem eqEdgeS_ev (l : List S68) (hl : l.length ≤ maxLen) : Ev (fun k => laws_eqEdgeS.f k l l) true := by
  unfold laws_eqEdgeS.f
  exact ev_pos rfl (eqEdgeS_l0 l hl l.length 0 (by omega))

/- com.eqEdgeS -/
theorem eqEdgeS_calls (l : List S68) (hl : l.length ≤ maxLen) (A A' : Option Addr) (c c' : Nat) (w : World) (h1 : Kd.C k68 w A l.length l) (h2 : l.length ≤ c) (h3 : Kd.C k68 w A' l.length l) (h4 : l.length ≤ c') :
    Calls Try.prog 19 #[.slice A l.length c, .slice A' l.length c'] w fun e w' => e = .returned (.bool true) ∧ Below w.heap.size w w' := by
  obtain ⟨k, hk⟩ := (eqEdgeS_ev l hl).rounds
  exact laws_eqEdgeS.calls k A c l A' c' l true w h1 h2 h3 h4 hk

/- com.szEdgeS -/
theorem szEdgeS_calls (l : List S70) (hl : l.length ≤ maxLen) (a : Int) (ha : 0 ≤ a ∧ a ≤ 1048576) : ∃ q : Int, (0 ≤ q → (0 ≤ q ∧ q ≤ 1048576) ∧ l.length ≤ 1048576) ∧
    ∀ (A : Option Addr) (c : Nat) (w : World), Kd.C k70 w A l.length l → l.length ≤ c → Calls Try.prog 15 #[.slice A l.length c, .int .i64 a] w fun e w' => e = .returned (.int .i64 q) ∧ Below w.heap.size w w' := by
  have hl := maxLen_le hl
  have : ∃ q, laws_szEdgeS.f l a = some q ∧ (0 ≤ q → (0 ≤ q ∧ q ≤ 1048576) ∧ l.length ≤ 1048576) := by
    unfold laws_szEdgeS.f
    rw [w64 (by omega) (by omega)]
    by_cases h : a - (l.length : Int) < 0
    · exact ⟨-1, by rw [if_pos h], by omega⟩
    · exact ⟨_, by rw [if_neg h], by omega⟩
  obtain ⟨q, e, hq⟩ := this
  exact ⟨q, hq, fun A c w h1 h2 => (laws_szEdgeS.calls A c l a q w h1 h2 e).mono fun e w' h => ⟨h.1, drawn_below h.2⟩⟩

/- hand.FnExactBlocksFlow -/
theorem both (n : Int) (l : List S68) (k : Int) (hn : -9223372036854775808 ≤ n ∧ n ≤ 9223372036854775807) (hl : l.length ≤ 1048576) (_ : -9223372036854775808 ≤ k ∧ k ≤ 9223372036854775807) : ∃ r : Bool × Bool, mbS n l k r ∧ mbR n l k r := by
  have h : ∃ r : Bool × Bool, mbR n l k r := by
    unfold mbR
    by_cases h : mayBe n l k
    · obtain ⟨m, rfl⟩ : ∃ m : Nat, n = (m : Int) := ⟨n.toNat, by have := netOk_iff.1 h.1; omega⟩
      have hE := edges_ok h.1
      obtain ⟨x, hx⟩ := OwnValue.ran_ends m (OwnWith.setCap l k ((-1))) hE.1.1 (changed_ok h)
      obtain ⟨y, hy⟩ := OwnValue.ran_ends m l hE.1.1 hE.2.2
      exact ⟨(decide (x.1 < y.1), true), by rw [if_pos h]; exact ⟨x, y, hx, hy, rfl⟩⟩
    · exact ⟨(false, false), by rw [if_neg h]⟩
  obtain ⟨r, hr⟩ := h
  exact ⟨r, ⟨hn, hr⟩, hr⟩

set_option maxHeartbeats 4000000 in
set_option maxRecDepth 100000 in
theorem walk (a0 : Int) (a1 : List S70) (a2 : Int) (Aa1 : Option Addr) (ca1 : Nat) (w : World) (hra1 : Kd.C k70 w Aa1 a1.length a1) (hca1 : a1.length ≤ ca1) (r0 : Int) (hsz0 : ∀ (Aa1 : Option Addr) (ca1 : Nat) (w : World), Kd.C k70 w Aa1 a1.length a1 → a1.length ≤ ca1 → Calls Try.prog 15 #[.slice Aa1 a1.length ca1, .int .i64 1048576] w fun e w' => e = .returned (.int .i64 r0) ∧ Below w.heap.size w w') (hlt0 : ¬ r0 < 0) (ta1 : List S68) (hta1 : a1.map cE = ta1) (g0 : Bool) (g1 : Bool) (hlta1 : ta1.length ≤ 1048576)  (hs : mbS a0 ta1 a2 (g0, g1)) (hi : mbR a0 ta1 a2 (g0, g1)) :
    Calls Try.prog 4 #[.int .i64 a0, .slice Aa1 a1.length ca1, .int .i64 a2] w fun e w' => e = .returned (.bool true) ∧ Below w.heap.size w w' := by
  have Hs := Aside0.mk hs
  have Hi := Aside0.mk hi
  have HRa1 := Aside0.mk hra1
  have HCa1 := Aside0.mk hca1
  have HLta1 := Aside0.mk hlta1
  have HTa1 := Aside0.mk hta1
  have HSZ0 := Aside0.mk hsz0
  have d0 : decide (r0 < 0) = false := decide_eq_false hlt0
  clear hs hi hra1 hca1 hlta1 hta1 hsz0 hlt0
  go_enter Try.func4, Try.ntmps4
  go_wp2_with fail
  refine (HSZ0.out Aa1 ca1 w HRa1.out HCa1.out).mono ?_
  rintro e w1 ⟨rfl, hb⟩
  have B1 := Aside0.mk hb
  have z1 := hb.size
  clear hb
  go_wp2_with fail
  refine (toEdgeS_calls a1 ta1 HTa1.out HLta1.out Aa1 ca1 w1 (Kd.C_below HRa1.out B1.out) HCa1.out).mono ?_
  rintro e w2 ⟨v, rfl, ho, hb⟩
  have B2 := Aside0.mk (below_step B1.out hb)
  have z2 := hb.size
  obtain ⟨At1_0_2, ct1_0_2, rfl⟩ := Kd.R_slice ho
  have Ft1_0_2 := Aside0.mk (ivR (w := w) ho (by omega))
  clear ho
  clear hb
  go_wp2_with fail
  refine (OwnBlocksFlow.own_spec a0 At1_0_2 ct1_0_2 ta1 a2 g0 g1 w2 (readsR Ft1_0_2.out).2.2 (readsR Ft1_0_2.out).2.1 HLta1.out Hs.out).mono ?_
  rintro e w3 ⟨rfl, hb⟩
  have B3 := Aside0.mk (below_step B2.out hb)
  have z3 := hb.size
  have Ft1_0_3 := Aside0.mk (Kd.R_below Ft1_0_2.out hb)
  clear Ft1_0_2
  clear hb
  go_wp2_with fail
  refine (toEdgeS_calls a1 ta1 HTa1.out HLta1.out Aa1 ca1 w3 (Kd.C_below HRa1.out B3.out) HCa1.out).mono ?_
  rintro e w4 ⟨v, rfl, ho, hb⟩
  have B4 := Aside0.mk (below_step B3.out hb)
  have z4 := hb.size
  obtain ⟨Ax1_0_4, cx1_0_4, rfl⟩ := Kd.R_slice ho
  have Fx1_0_4 := Aside0.mk (ivR (w := w) ho (by omega))
  clear ho
  clear hb
  go_wp2_with fail
  refine (OwnBlocksFlow.own_impl a0 Ax1_0_4 cx1_0_4 ta1 a2 g0 g1 w4 (readsR Fx1_0_4.out).2.2 (readsR Fx1_0_4.out).2.1 HLta1.out Hi.out).mono ?_
  rintro e w5 ⟨rfl, hb⟩
  have B5 := Aside0.mk (below_step B4.out hb)
  have z5 := hb.size
  have Fx1_0_5 := Aside0.mk (Kd.R_below Fx1_0_4.out hb)
  clear Fx1_0_4
  clear hb
  go_wp2_with fail
  refine (toEdgeS_calls a1 ta1 HTa1.out HLta1.out Aa1 ca1 w5 (Kd.C_below HRa1.out B5.out) HCa1.out).mono ?_
  rintro e w6 ⟨v, rfl, ho, hb⟩
  have B6 := Aside0.mk (below_step B5.out hb)
  have z6 := hb.size
  obtain ⟨Au_0_6, cu_0_6, rfl⟩ := Kd.R_slice ho
  have Fu_0_6 := Aside0.mk (ivR (w := w) ho (by omega))
  clear ho
  have Fx1_0_6 := Aside0.mk (Kd.R_below Fx1_0_5.out hb)
  clear Fx1_0_5
  clear hb
  go_wp2_with fail
  refine (eqEdgeS_calls ta1 (maxLen_val (by have := HLta1.out; omega)) Ax1_0_4 Au_0_6 cx1_0_4 cu_0_6 w6 (readsR Fx1_0_6.out).2.2 (readsR Fx1_0_6.out).2.1 (readsR Fu_0_6.out).2.2 (readsR Fu_0_6.out).2.1).mono ?_
  rintro e w7 ⟨rfl, hb⟩
  have B7 := Aside0.mk (below_step B6.out hb)
  have z7 := hb.size
  have Fx1_0_7 := Aside0.mk (Kd.R_below Fx1_0_6.out hb)
  clear Fx1_0_6
  have Fu_0_7 := Aside0.mk (Kd.R_below Fu_0_6.out hb)
  clear Fu_0_6
  clear hb
  go_wp2_with fail
  go_ret
  exact ⟨rfl, B7.out⟩
set_option maxRecDepth 100000 in
theorem walk_neg0 (a0 : Int) (a1 : List S70) (a2 : Int) (Aa1 : Option Addr) (ca1 : Nat) (w : World) (hra1 : Kd.C k70 w Aa1 a1.length a1) (hca1 : a1.length ≤ ca1)  (r0 : Int) (hsz0 : ∀ (Aa1 : Option Addr) (ca1 : Nat) (w : World), Kd.C k70 w Aa1 a1.length a1 → a1.length ≤ ca1 → Calls Try.prog 15 #[.slice Aa1 a1.length ca1, .int .i64 1048576] w fun e w' => e = .returned (.int .i64 r0) ∧ Below w.heap.size w w') (hlt0 : r0 < 0) : Calls Try.prog 4 #[.int .i64 a0, .slice Aa1 a1.length ca1, .int .i64 a2] w fun e w' => e = .returned (.bool true) ∧ Below w.heap.size w w' := by
  have HRa1 := Aside0.mk hra1
  have HCa1 := Aside0.mk hca1
  have HSZ0 := Aside0.mk hsz0
  have d0 : decide (r0 < 0) = true := decide_eq_true hlt0
  clear hsz0 hlt0  hra1 hca1
  go_enter Try.func4, Try.ntmps4
  go_wp2_with fail
  refine (HSZ0.out Aa1 ca1 w HRa1.out HCa1.out).mono ?_
  rintro e w1 ⟨rfl, hb⟩
  have B1 := Aside0.mk hb
  clear hb
  go_wp2_with fail
  go_ret
  exact ⟨rfl, B1.out⟩
theorem law (a0 : Int) (a1 : List S70) (a2 : Int) (ga0 : (Lit.int .i64 a0).wf = true) (ha1 : a1.length ≤ maxLen) (ga2 : (Lit.int .i64 a2).wf = true) (Aa1 : Option Addr) (ca1 : Nat) (w : World) (hra1 : Kd.C k70 w Aa1 a1.length a1) (hca1 : a1.length ≤ ca1) : Calls Try.prog 4 #[.int .i64 a0, .slice Aa1 a1.length ca1, .int .i64 a2] w fun e w' => e = .returned (.bool true) ∧ Below w.heap.size w w' := by
  obtain ⟨r0, hz0, hsz0⟩ := szEdgeS_calls a1 ha1 1048576 (by omega)
  by_cases hlt0 : r0 < 0
  · exact walk_neg0 a0 a1 a2 Aa1 ca1 w hra1 hca1  r0 hsz0 hlt0
  obtain ⟨hq0, l1a1⟩ := hz0 (by omega)
  obtain ⟨⟨g0, g1⟩, hs, hi⟩ := both a0 (a1.map cE) a2 (wf64 ga0) (by rw [List.length_map]; exact l1a1) (wf64 ga2)
  exact walk a0 a1 a2 Aa1 ca1 w hra1 hca1 r0 hsz0 hlt0 (a1.map cE) rfl g0 g1 (by rw [List.length_map]; exact l1a1)  hs hi
end Go.Proofs.Ytogjpimhlkinkaa.WalkFnExactBlocksFlow
