/- The law FnExactTemplateOf, walked by hand over its callees' contracts: for every input it returns true. -/
import Derived.Test.YtpdkackfdccedaaComE
import Derived.Test.YtpdkackfdccedaaPFnExactTemplateOfx6
import Derived.Test.YtpdkackfdccedaaPFnExactTemplateOfx10
import Derived.Test.YtpdkackfdccedaaPFnExactTemplateOfx11
import Derived.Test.YtpdkackfdccedaaPFnExactTemplateOfx12
import Derived.Test.YtpdkackfdccedaaOwnTemplateOf
namespace Go.Proofs.Ytpdkackfdccedaa.WalkFnExactTemplateOf
open Go.RowKit Go.Proofs.Ytpdkackfdccedaa.PFnExactTemplateOf Go.Proofs.YtpdkackfdccedaaW.PrintWords Go.Proofs.YtpdkackfdccedaaW.PrintLast Go.Proofs.YtpdkackfdccedaaW.PrintMore Go.Proofs.Ytpdkackfdccedaa.B Go.Proofs.Ytpdkackfdccedaa.Com Go.Proofs.Ytpdkackfdccedaa.OwnTemplateOf
set_option linter.unusedVariables false
set_option linter.unusedSimpArgs false
def Zn (W W' : World) (u : Value) (k : Nat) : Prop := Btw W W' k ∧ some k = u.ownBlock
/- laws_eqOffsetS -/
theorem eqOffsetS_l0 (l : List S78) (hl : l.length ≤ maxLen) : ∀ (d i : Nat), i + d = l.length → Ev (fun k => laws_eqOffsetS.l0 k l l (i : Int)) true := by
  have hl := maxLen_le hl
  intro d
  induction d with
  | zero =>
    intro i hi
    exact Ev.step (fun k => laws_eqOffsetS.l0.eq_2 l l i k) (ev_neg (by omega) (ev_some rfl))
  | succ d ih =>
    intro i hi
    refine Ev.step (fun k => laws_eqOffsetS.l0.eq_2 l l i k) ?_
    rw [w_succ (n := l.length) (by omega) (by omega)]
    exact ev_pos (by omega) (ev_pos (by omega) (ev_pos (by omega) (ev_bindc (by unfold laws_eqOffset.f; rw [if_pos rfl, if_pos rfl, if_pos rfl]) (ev_pos rfl (ih (i + 1) (by omega))))))
theorem eqOffsetS_ev (l : List S78) (hl : l.length ≤ maxLen) : Ev (fun k => laws_eqOffsetS.f k l l) true := by
  unfold laws_eqOffsetS.f
  exact ev_pos rfl (eqOffsetS_l0 l hl l.length 0 (by omega))

/- com.eqOffsetS -/
theorem eqOffsetS_calls (l : List S78) (hl : l.length ≤ maxLen) (A A' : Option Addr) (c c' : Nat) (w : World) (h1 : Kd.C k78 w A l.length l) (h2 : l.length ≤ c) (h3 : Kd.C k78 w A' l.length l) (h4 : l.length ≤ c') :
    Calls Try.prog 35 #[.slice A l.length c, .slice A' l.length c'] w fun e w' => e = .returned (.bool true) ∧ Below w.heap.size w w' := by
  obtain ⟨k, hk⟩ := (eqOffsetS_ev l hl).rounds
  exact laws_eqOffsetS.calls k A c l A' c' l true w h1 h2 h3 h4 hk

/- laws_markOffsetS -/
def mk3 (a : Int) (j : Nat) : S78 := ⟨a + 3 * j, a + 3 * j + 1, a + 3 * j + 2⟩
theorem markOffsetS_l0 (l : List S78) (hl : l.length ≤ 1048576) (a : Int) (ha : 0 ≤ a ∧ a ≤ 1099511627776) : ∀ (d i : Nat) (m : List S78), i + d = l.length → m.length = l.length → (∀ j, j < i → m.getD j z78 = mk3 a j) →
    ∃ r, Ev (fun k => laws_markOffsetS.l0 k m (a + 3 * i) (i : Int)) (a + 3 * l.length, r) ∧ r.length = l.length ∧ ∀ j, j < l.length → r.getD j z78 = mk3 a j := by
  intro d
  induction d with
  | zero =>
    intro i m hi hm he
    obtain rfl : i = l.length := by omega
    exact ⟨m, Ev.step (fun k => laws_markOffsetS.l0.eq_2 m (a + 3 * l.length) l.length k) (ev_neg (by omega) (ev_some rfl)), hm, he⟩
  | succ d ih =>
    intro i m hi hm he
    have hi' : i < m.length := by omega
    have e : ∀ (v : S78) (u : List S78), u.length = m.length → rd_T78 (u.set i v) (i : Int) = v := by
      intro v u hu; unfold rd_T78; rw [toNat_nat, getD_set, if_pos ⟨rfl, by omega⟩]
    obtain ⟨r, hr, hz⟩ := ih (i + 1) (((m.set i ⟨a + 3 * i, (rd_T78 m i).f1, (rd_T78 m i).f2⟩).set i ⟨a + 3 * i, a + 3 * i + 1, (rd_T78 m i).f2⟩).set i (mk3 a i)) (by omega) (by simpa using hm) (fun j hj => by
      rw [getD_set, getD_set, getD_set]
      simp only [List.length_set]
      by_cases hji : i = j
      · subst hji; rw [if_pos ⟨rfl, hi'⟩]
      · rw [if_neg (by omega), if_neg (by omega), if_neg (by omega)]; exact he j (by omega))
    refine ⟨r, Ev.step (fun k => laws_markOffsetS.l0.eq_2 m (a + 3 * i) i k) ?_, hz⟩
    rw [w_succ (n := l.length) (by omega) (by omega), toNat_nat, w64 (x := a + 3 * i + 1) (by omega) (by omega), w64 (x := a + 3 * i + 1 + 1) (by omega) (by omega), w64 (x := a + 3 * i + 1 + 1 + 1) (by omega) (by omega)]
    simp only [Option.bind_some, e _ _ rfl, List.length_set]
    refine ev_pos (by omega) (ev_pos (by omega) ?_)
    rw [e _ (m.set i _) (by simp)]
    rw [show a + 3 * (i : Int) + 1 + 1 + 1 = a + 3 * ((i + 1 : Nat) : Int) by omega]
    have e2 : a + 3 * (i : Int) + 1 + 1 = a + 3 * (i : Int) + 2 := by omega
    rw [e2]
    exact hr
theorem heldOffsetS_l0 (l : List S78) (hl : l.length ≤ 1048576) (a : Int) (ha : 0 ≤ a ∧ a ≤ 1099511627776) (he : ∀ j, j < l.length → l.getD j z78 = mk3 a j) : ∀ (d i : Nat), i + d = l.length →
    Ev (fun k => laws_heldOffsetS.l0 k l (a + 3 * i) (i : Int)) (a + 3 * l.length) := by
  intro d
  induction d with
  | zero =>
    intro i hi
    obtain rfl : i = l.length := by omega
    exact Ev.step (fun k => laws_heldOffsetS.l0.eq_2 l (a + 3 * l.length) l.length k) (ev_neg (by omega) (ev_some rfl))
  | succ d ih =>
    intro i hi
    refine Ev.step (fun k => laws_heldOffsetS.l0.eq_2 l (a + 3 * i) i k) ?_
    have hx : rd_T78 l (i : Int) = mk3 a i := by unfold rd_T78; rw [toNat_nat]; exact he i (by omega)
    rw [w_succ (n := l.length) (by omega) (by omega), hx, w64 (x := a + 3 * i + 1) (by omega) (by omega), w64 (x := a + 3 * i + 1 + 1) (by omega) (by omega), w64 (x := a + 3 * i + 1 + 1 + 1) (by omega) (by omega)]
    refine ev_pos (by omega) (ev_pos (by omega) (ev_pos rfl (ev_pos rfl (ev_pos ?_ ?_))))
    · show a + 3 * (i : Int) + 2 = _; omega
    · have := ih (i + 1) (by omega)
      rwa [show a + 3 * ((i + 1 : Nat) : Int) = a + 3 * (i : Int) + 1 + 1 + 1 by omega] at this
theorem markOffsetS_ev (l : List S78) (hl : l.length ≤ 1048576) (a : Int) (ha : 0 ≤ a ∧ a ≤ 1099511627776) :
    ∃ r, Ev (fun k => laws_markOffsetS.f k l a) (a + 3 * l.length, r) ∧ Ev (fun k => laws_heldOffsetS.f k r a) (a + 3 * l.length) ∧ r.length = l.length := by
  obtain ⟨r, h1, h2, h3⟩ := markOffsetS_l0 l hl a ha l.length 0 l (by omega) rfl (fun j hj => by omega)
  have h4 := heldOffsetS_l0 r (by omega) a ha (fun j hj => h3 j (by omega)) r.length 0 (by omega)
  rw [show a + 3 * ((0 : Nat) : Int) = a by omega] at h1 h4
  rw [h2] at h4
  exact ⟨r, h1, h4, h2⟩

/- com.markOffsetS -/
def markRowO (a : Int) (n : Nat) : List S78 := (List.range n).map (mk3 a)
theorem markRowO_len (a : Int) (n : Nat) : (markRowO a n).length = n := by unfold markRowO; rw [List.length_map, List.length_range]
theorem markRowO_at (a : Int) (n j : Nat) (h : j < n) : (markRowO a n).getD j z78 = mk3 a j := by
  unfold markRowO
  rw [List.getD_eq_getElem?_getD, List.getElem?_map, List.getElem?_range h]; rfl
theorem markOffsetS_row (l : List S78) (hl : l.length ≤ 1048576) (a : Int) (ha : 0 ≤ a ∧ a ≤ 1099511627776) : Ev (fun k => laws_markOffsetS.f k l a) (a + 3 * l.length, markRowO a l.length) := by
  obtain ⟨r, h1, h2, h3⟩ := markOffsetS_l0 l hl a ha l.length 0 l (by omega) rfl (fun j hj => by omega)
  rw [show a + 3 * ((0 : Nat) : Int) = a by omega] at h1
  have : r = markRowO a l.length := getD_ext z78 (by rw [h2, markRowO_len]) (fun j hj => by rw [h3 j (by omega), markRowO_at a l.length j (by omega)])
  rw [← this]
  exact h1
theorem markOffsetS_calls (l : List S78) (hl : l.length ≤ 1048576) (a : Int) (ha : 0 ≤ a ∧ a ≤ 1099511627776) (P : Nat → Prop) (u : Value) (w0 w : World) (hB : Below w0.heap.size w0 w) (hR : Kd.R k78 78 w w0.heap.size P u l) :
    Calls Try.prog 36 #[u, .int .i64 a] w fun e w' => e = .returned (.int .i64 (a + 3 * l.length)) ∧ Kd.R k78 78 w' w0.heap.size P u (markRowO a l.length) ∧ Below w0.heap.size w0 w' ∧ Kept w w' P := by
  obtain ⟨k, hk⟩ := (markOffsetS_row l hl a ha).rounds
  exact (laws_markOffsetS.calls k P u l a _ _ w0 w hB hR hk).mono fun e w' h => ⟨h.1, Kd.R_reok rfl h.2.1 hR.1, h.2.2.1, h.2.2.2⟩

/- com.heldOffsetS -/
theorem heldOffsetS_calls (n : Nat) (hl : n ≤ 1048576) (a : Int) (ha : 0 ≤ a ∧ a ≤ 1099511627776) (A : Option Addr) (c : Nat) (w : World) (h1 : Kd.C k78 w A n (markRowO a n)) (h2 : n ≤ c) :
    Calls Try.prog 37 #[.slice A n c, .int .i64 a] w fun e w' => e = .returned (.int .i64 (a + 3 * n)) ∧ Below w.heap.size w w' := by
  have hn := markRowO_len a n
  have h := heldOffsetS_l0 (markRowO a n) (by rw [hn]; exact hl) a ha (fun j hj => markRowO_at a n j (by rw [hn] at hj; exact hj)) n 0 (by rw [hn]; omega)
  rw [hn, show a + 3 * ((0 : Nat) : Int) = a by omega] at h
  obtain ⟨k, hk⟩ := h.rounds
  have := laws_heldOffsetS.calls k A c (markRowO a n) a (a + 3 * n) w (by rw [hn]; exact h1) (by rw [hn]; exact h2) hk
  rw [hn] at this
  exact this.mono fun e w' h => ⟨h.1, drawn_below h.2⟩

/- spec_l1In -/
theorem l1In_eq (a b c : Int) : spec_l1In.f a b c = some (decide (b ≤ a ∧ a ≤ c)) := by
  unfold spec_l1In.f
  by_cases h : a ≥ b
  · rw [if_pos h]; simp [show b ≤ a from h]
  · rw [if_neg h]; simp [show ¬ b ≤ a from h]

/- hand.FnExactTemplateOf -/
theorem both (k : Int) (hk : -9223372036854775808 ≤ k ∧ k ≤ 9223372036854775807) : ∃ r : List S78 × Bool, Ev (fun n => spec_TemplateOf.f n k) r ∧ OwnTemplateOf.tmplR k = r ∧ r.1.length ≤ 1048576 := by
  unfold OwnTemplateOf.tmplR spec_TemplateOf.f
  by_cases h : 1 ≤ k ∧ k ≤ 4
  · refine ⟨(OwnTemplateOf.tmpl k, true), ev_bindc (l1In_eq k 1 4) (ev_pos (by simpa using h) (Ev.bind (OwnTemplateOf.slStandard_ev k h) (ev_some rfl))), if_pos h, ?_⟩
    have := OwnTemplateOf.tmpl_len k
    show (OwnTemplateOf.tmpl k).length ≤ _
    omega
  · exact ⟨([], false), ev_bindc (l1In_eq k 1 4) (ev_neg (by simpa using h) (ev_some rfl)), if_neg h, by simp⟩

set_option maxHeartbeats 4000000 in
set_option maxRecDepth 100000 in
theorem walk (a0 : Int)  (w : World)   (g0 : List S78) (g1 : Bool)  (hlg0 : g0.length ≤ 1048576) (hs : ∃ k, spec_TemplateOf.f k a0 = some (g0, g1)) (hi : tmplR a0 = (g0, g1)) :
    Calls Try.prog 7 #[.int .i64 a0] w fun e w' => e = .returned (.bool true) ∧ Below w.heap.size w w' := by
  obtain ⟨ks, hs⟩ := hs
  have Hs := Aside0.mk hs
  have Hi := Aside0.mk hi
  have HLg0 := Aside0.mk hlg0
  clear hs hi hlg0
  go_enter Try.func7, Try.ntmps7
  go_wp2_with fail
  refine (spec_TemplateOf.calls ks a0 g0 g1 w  Hs.out).mono ?_
  rintro e w1 ⟨v, rfl, ho, hb⟩
  have ho := Kd.R_mono ho (ok' := fun _ => True) (fun _ _ => trivial)
  have B1 := Aside0.mk hb
  have z1 := hb.size
  obtain ⟨Aw0_0_1, cw0_0_1, rfl⟩ := Kd.R_slice ho
  have Fw0_0_1 := Aside0.mk (ivR (w := w) ho (by omega))
  clear ho
  clear hb
  go_wp2_with fail
  refine (OwnTemplateOf.own_impl a0 g0 g1 w1   Hi.out).mono ?_
  rintro e w2 ⟨v, rfl, ho, hb⟩
  have ho := Kd.R_mono ho (ok' := fun _ => True) (fun _ _ => trivial)
  have B2 := Aside0.mk (below_step B1.out hb)
  have z2 := hb.size
  obtain ⟨Ag0_0_2, cg0_0_2, rfl⟩ := Kd.R_slice ho
  have Fg0_0_2 := Aside0.mk (ivR (w := w) ho (by omega))
  clear ho
  have Fw0_0_2 := Aside0.mk (Kd.R_below Fw0_0_1.out hb)
  clear Fw0_0_1
  clear hb
  go_wp2_with fail
  refine (eqOffsetS_calls g0 (maxLen_val (by have := HLg0.out; omega)) Ag0_0_2 Aw0_0_1 cg0_0_2 cw0_0_1 w2 (readsR Fg0_0_2.out).2.2 (readsR Fg0_0_2.out).2.1 (readsR Fw0_0_2.out).2.2 (readsR Fw0_0_2.out).2.1).mono ?_
  rintro e w3 ⟨rfl, hb⟩
  have B3 := Aside0.mk (below_step B2.out hb)
  have z3 := hb.size
  have Fw0_0_3 := Aside0.mk (Kd.R_below Fw0_0_2.out hb)
  clear Fw0_0_2
  have Fg0_0_3 := Aside0.mk (Kd.R_below Fg0_0_2.out hb)
  clear Fg0_0_2
  clear hb
  go_wp2_with fail
  refine (markOffsetS_calls g0 (by have := HLg0.out; omega) 1 (by omega) (Btw w1 w2) (.slice Ag0_0_2 g0.length cg0_0_2) w w3 B3.out Fg0_0_3.out).mono ?_
  rintro e w4 ⟨rfl, ho, hb, hk⟩
  have z4 := hk.1
  have B4 := Aside0.mk hb
  have Fw0_0_4 := Aside0.mk (Kd.R_kept Fw0_0_3.out hk (apart (by omega)))
  clear Fw0_0_3
  have hll := HLg0.out
  obtain ⟨m4, em4⟩ : ∃ z : Int, z = 1 + 3 * (g0.length : Int) := ⟨_, rfl⟩
  rw [← em4]
  have lm4 : 0 ≤ m4 ∧ m4 ≤ 8388609 := by omega
  have dm4 : decide (m4 < 0) = false := decide_eq_false (by omega)
  have Em4 := Aside0.mk em4
  have Lm4 := Aside0.mk lm4
  have Fg0_0_4 := Aside0.mk ho
  clear Fg0_0_3
  clear hb hk ho hll em4 lm4
  go_wp2_with fail
  refine (heldOffsetS_calls g0.length (by have := HLg0.out; omega) 1 (by omega) Ag0_0_2 cg0_0_2 w4 (by have h := (readsR Fg0_0_4.out).2.2; rwa [markRowO_len] at h) (by have h := (readsR Fg0_0_4.out).2.1; rwa [markRowO_len] at h)).mono ?_
  rintro e w5 ⟨rfl, hb⟩
  have B5 := Aside0.mk (below_step B4.out hb)
  have z5 := hb.size
  have Fw0_0_5 := Aside0.mk (Kd.R_below Fw0_0_4.out hb)
  clear Fw0_0_4
  have Fg0_0_5 := Aside0.mk (Kd.R_below Fg0_0_4.out hb)
  clear Fg0_0_4
  rw [← Em4.out]
  clear hb
  go_wp2_with fail
  refine (OwnTemplateOf.own_impl a0 g0 g1 w5   Hi.out).mono ?_
  rintro e w6 ⟨v, rfl, ho, hb⟩
  have ho := Kd.R_mono ho (ok' := fun _ => True) (fun _ _ => trivial)
  have B6 := Aside0.mk (below_step B5.out hb)
  have z6 := hb.size
  obtain ⟨Ah0_0_6, ch0_0_6, rfl⟩ := Kd.R_slice ho
  have Fh0_0_6 := Aside0.mk (ivR (w := w) ho (by omega))
  clear ho
  have Fw0_0_6 := Aside0.mk (Kd.R_below Fw0_0_5.out hb)
  clear Fw0_0_5
  have Fg0_0_6 := Aside0.mk (Kd.R_below Fg0_0_5.out hb)
  clear Fg0_0_5
  clear hb
  go_wp2_with fail
  refine (eqOffsetS_calls g0 (maxLen_val (by have := HLg0.out; omega)) Ah0_0_6 Aw0_0_1 ch0_0_6 cw0_0_1 w6 (readsR Fh0_0_6.out).2.2 (readsR Fh0_0_6.out).2.1 (readsR Fw0_0_6.out).2.2 (readsR Fw0_0_6.out).2.1).mono ?_
  rintro e w7 ⟨rfl, hb⟩
  have B7 := Aside0.mk (below_step B6.out hb)
  have z7 := hb.size
  have Fw0_0_7 := Aside0.mk (Kd.R_below Fw0_0_6.out hb)
  clear Fw0_0_6
  have Fg0_0_7 := Aside0.mk (Kd.R_below Fg0_0_6.out hb)
  clear Fg0_0_6
  have Fh0_0_7 := Aside0.mk (Kd.R_below Fh0_0_6.out hb)
  clear Fh0_0_6
  clear hb
  go_wp2_with fail
  refine (heldOffsetS_calls g0.length (by have := HLg0.out; omega) 1 (by omega) Ag0_0_2 cg0_0_2 w7 (by have h := (readsR Fg0_0_7.out).2.2; rwa [markRowO_len] at h) (by have h := (readsR Fg0_0_7.out).2.1; rwa [markRowO_len] at h)).mono ?_
  rintro e w8 ⟨rfl, hb⟩
  have B8 := Aside0.mk (below_step B7.out hb)
  have z8 := hb.size
  have Fw0_0_8 := Aside0.mk (Kd.R_below Fw0_0_7.out hb)
  clear Fw0_0_7
  have Fg0_0_8 := Aside0.mk (Kd.R_below Fg0_0_7.out hb)
  clear Fg0_0_7
  have Fh0_0_8 := Aside0.mk (Kd.R_below Fh0_0_7.out hb)
  clear Fh0_0_7
  rw [← Em4.out]
  clear hb
  go_wp2_with fail
  go_ret
  exact ⟨rfl, B8.out⟩
theorem law (a0 : Int) (ga0 : (Lit.int .i64 a0).wf = true)  (w : World)  : Calls Try.prog 7 #[.int .i64 a0] w fun e w' => e = .returned (.bool true) ∧ Below w.heap.size w w' := by
  obtain ⟨⟨g0, g1⟩, hs, hi, ng0⟩ := both a0 (wf64 ga0)
  exact walk a0  w   g0 g1  ng0 hs.rounds hi
end Go.Proofs.Ytpdkackfdccedaa.WalkFnExactTemplateOf
