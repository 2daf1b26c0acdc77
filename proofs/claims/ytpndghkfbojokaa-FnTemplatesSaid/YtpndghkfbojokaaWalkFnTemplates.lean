/- The law FnTemplates, walked by hand over its callees' contracts: for all bytes it returns true. Ahead of it: what the drawing functions tell. -/
import Derived.Test.YtpndghkfbojokaaTplMath
import Derived.Test.YtpndghkfbojokaaOwnTurnTemplate
import Derived.Test.YtpndghkfbojokaaMFnTemplatesx0
import Derived.Test.YtpndghkfbojokaaMFnTemplatesx0
import Derived.Test.YtpndghkfbojokaaMFnTemplatesx0
namespace Go.Proofs.Ytpndghkfbojokaa.WalkFnTemplates
open Go.RowKit Go.Proofs.Ytpndghkfbojokaa.PFnTemplates Go.Proofs.YtpndghkfbojokaaW.PrintWords Go.Proofs.YtpndghkfbojokaaW.PrintLast Go.Proofs.YtpndghkfbojokaaW.PrintMore Go.Proofs.Ytpndghkfbojokaa.B Go.Proofs.Ytpndghkfbojokaa.SortG Go.Proofs.Ytpndghkfbojokaa.OwnTurnSort Go.Proofs.Ytpndghkfbojokaa.TplMath
set_option linter.unusedVariables false
set_option linter.unusedSimpArgs false
theorem big_eq (s t : List Int) (hs : s.length ≤ maxLen) (ht : t.length ≤ maxLen) : laws_big.f s t = some (decide (1048576 < s.length + t.length)) := by
  have hs := maxLen_le hs
  have ht := maxLen_le ht
  unfold laws_big.f
  by_cases h : (s.length : Int) > 1048576
  · rw [if_pos h]; exact congrArg some (decide_eq_true (by omega)).symm
  · rw [if_neg h, w64 (by omega) (by omega)]
    exact congrArg some (by rw [decide_eq_decide]; omega)
/-- spec.DrawIsTemplate -/
theorem drawT (s : List Int) (hs : Bytes s) : ∃ l : List S86, l.length ≤ 100 ∧ ∀ (A0 : Option Addr) (c0 : Nat) (w : World), Kd.C (Kd.int .u8) w A0 s.length s → s.length ≤ c0 →
    Calls Try.prog 72 #[.slice A0 s.length c0] w fun e w' => ∃ A c, e = .returned (.slice A l.length c) ∧ Kd.C k86 w' A l.length l ∧ l.length ≤ c ∧ Below w.heap.size w w' := by
  obtain ⟨⟨l, a1, d1⟩, hev, hl, _⟩ := tdraw_tl hs 0 0 (by omega)
  obtain ⟨k, hk⟩ := hev.rounds
  refine ⟨l, hl, fun A0 c0 w h0 e0 => ?_⟩
  have HK := Aside0.mk hk
  have H0 := Aside0.mk h0
  have hu := Try.underlying95
  clear hk h0
  go_enter Try.func72, Try.ntmps72
  go_wp2_with (first
    | ((with_reducible refine gate_dst (N := 6) rfl ?_); refine box_event ?hg (N := 6) ?hd (cs := #[.slice A0 s.length c0, .int .i64 0, .int .u64 0]) (t := 95) ?hr ?_; (case hd => rfl); (case hg => rfl); (case hr => first | (go_simp; done) | (go_simp; rfl)); intro g1 hg w6 hbox hb; have HI : Aside0 (IsS95 w w6 g1 s 0 0) := ⟨⟨A0, c0, hbox, by rw [hg]; exact Nat.le_refl _, H0.out⟩⟩; have HB := Aside0.mk hb; clear hg hbox hb))
  refine (spec_l1Cur_template.calls k g1 s 0 0 l a1 d1 w w6 HI.out HB.out HK.out).mono ?_
  rintro e w7 ⟨v, rfl, hq, _, hb, _⟩
  obtain ⟨A, c, rfl, hc1, hc2⟩ := Kd.Q_reads hq
  have HQ := Aside0.mk hc2
  have HC := Aside0.mk hc1
  have HB2 := Aside0.mk hb
  clear hq hc1 hc2 hb HI HB
  go_wp2_with fail
  go_ret
  exact ⟨A, c, rfl, HQ.out, HC.out, HB2.out⟩
/-- spec.DrawTurnTemplate -/
theorem drawTT (s : List Int) (hs : Bytes s) : ∃ l : List S86, l.length ≤ 100 ∧ ∀ (A0 : Option Addr) (c0 : Nat) (w : World), Kd.C (Kd.int .u8) w A0 s.length s → s.length ≤ c0 →
    Calls Try.prog 40 #[.slice A0 s.length c0] w fun e w' => ∃ A c, e = .returned (.slice A l.length c) ∧ Kd.C k86 w' A l.length l ∧ l.length ≤ c ∧ Below w.heap.size w w' := by
  obtain ⟨l, hl, h⟩ := drawT s hs
  refine ⟨l, hl, fun A0 c0 w h0 e0 => ?_⟩
  have HH := Aside0.mk (h A0 c0 w h0 e0)
  clear h h0 e0
  go_enter Try.func40, Try.ntmps40
  go_wp2_with fail
  refine HH.out.mono ?_
  rintro e w7 ⟨A, c, rfl, h1, h2, h3⟩
  have HQ := Aside0.mk h1
  have HC := Aside0.mk h2
  have HB2 := Aside0.mk h3
  clear h1 h2 h3 HH
  go_wp2_with fail
  go_ret
  exact ⟨A, c, rfl, HQ.out, HC.out, HB2.out⟩
/-- spec.DrawIsSteeper -/
theorem drawS (s : List Int) (hs : Bytes s) : ∃ l m : List S86, (l.length ≤ 100 ∧ m.length ≤ 100) ∧ ∀ (A0 : Option Addr) (c0 : Nat) (w : World), Kd.C (Kd.int .u8) w A0 s.length s → s.length ≤ c0 →
    Calls Try.prog 43 #[.slice A0 s.length c0] w fun e w' => ∃ A c A' c', e = .returned (.tuple #[.slice A l.length c, .slice A' m.length c']) ∧ (Kd.C k86 w' A l.length l ∧ l.length ≤ c) ∧ (Kd.C k86 w' A' m.length m ∧ m.length ≤ c') ∧ Below w.heap.size w w' := by
  obtain ⟨⟨l, a1, d1⟩, hev, hl, ha1, ha2⟩ := tdraw_tl hs 0 0 (by omega)
  obtain ⟨⟨m, a2, d2⟩, hev2, hm, _⟩ := tdraw_tl hs a1 d1 (by simp only at ha1 ha2; omega)
  obtain ⟨k, hk⟩ := hev.rounds
  obtain ⟨k2, hk2⟩ := hev2.rounds
  refine ⟨l, m, ⟨hl, hm⟩, fun A0 c0 w h0 e0 => ?_⟩
  have HK := Aside0.mk hk
  have HK2 := Aside0.mk hk2
  have H0 := Aside0.mk h0
  have hu := Try.underlying95
  clear hk hk2 h0
  go_enter Try.func43, Try.ntmps43
  go_wp2_with (first
    | ((with_reducible refine gate_dst (N := 7) rfl ?_); refine box_event ?hg (N := 7) ?hd (cs := #[.slice A0 s.length c0, .int .i64 0, .int .u64 0]) (t := 95) ?hr ?_; (case hd => rfl); (case hg => rfl); (case hr => first | (go_simp; done) | (go_simp; rfl)); intro g1 hg w6 hbox hb; have HI : Aside0 (IsS95 w w6 g1 s 0 0) := ⟨⟨A0, c0, hbox, by rw [hg]; exact Nat.le_refl _, H0.out⟩⟩; have HB := Aside0.mk hb; clear hg hbox hb))
  refine (spec_l1Cur_template.calls k g1 s 0 0 l a1 d1 w w6 HI.out HB.out HK.out).mono ?_
  rintro e w7 ⟨v, rfl, hq, hi, hb, _⟩
  have hq2 := IsS95.apartQ hi hq (by decide)
  obtain ⟨A, c, rfl, hc1, hc2⟩ := Kd.Q_reads hq
  have HQ2 := Aside0.mk hq2
  have HC := Aside0.mk hc1
  have HB2 := Aside0.mk hb
  have HI2 := Aside0.mk hi
  clear hq hq2 hc1 hc2 hb hi HI HB
  go_wp2_with fail
  refine (spec_l1Cur_template.calls k2 g1 s a1 d1 m a2 d2 w w7 HI2.out HB2.out HK2.out).mono ?_
  rintro e w8 ⟨v2, rfl, hq, _, hb, hkp⟩
  have HQ := Aside0.mk (Kd.Q_keep HQ2.out hkp (fun _ h => h.2))
  obtain ⟨A', c', rfl, hc1, hc2⟩ := Kd.Q_reads hq
  have HQ' := Aside0.mk hc2
  have HC' := Aside0.mk hc1
  have HB3 := Aside0.mk hb
  clear hq hc1 hc2 hb hkp HI2 HB2 HQ2
  go_wp2_with fail
  go_ret2
  exact ⟨A, c, A', c', rfl, ⟨(Kd.Q_reads' HQ.out).2.2, HC.out⟩, ⟨HQ'.out, HC'.out⟩, HB3.out⟩
/-- spec.DrawTemplateOf -/
theorem drawK (s : List Int) (hs : Bytes s) : ∃ k : Int, (-1 ≤ k ∧ k ≤ 6) ∧ ∀ (A0 : Option Addr) (c0 : Nat) (w : World), Kd.C (Kd.int .u8) w A0 s.length s → s.length ≤ c0 →
    Calls Try.prog 46 #[.slice A0 s.length c0] w fun e w' => e = .returned (.int .i64 k) ∧ Below w.heap.size w w' := by
  obtain ⟨⟨x, a1, d1⟩, hev, hx, _⟩ := pick_tl hs 0 0 7 (by omega) (by omega)
  obtain ⟨_, hk⟩ := hev.rounds
  simp only at hx
  have hw : wrap64 (x - 1) = x - 1 := w64 (by omega) (by omega)
  refine ⟨x - 1, by omega, fun A0 c0 w h0 e0 => ?_⟩
  obtain ⟨y, ey⟩ : ∃ y, y = x - 1 := ⟨_, rfl⟩
  have hwy : wrap64 (x - 1) = y := by rw [hw, ey]
  rw [← ey]
  clear hw
  have HK := Aside0.mk hk
  have H0 := Aside0.mk h0
  have hu := Try.underlying95
  clear hk h0 ey hx
  go_enter Try.func46, Try.ntmps46
  go_wp2_with (first
    | ((with_reducible refine gate_dst (N := 6) rfl ?_); refine box_event ?hg (N := 6) ?hd (cs := #[.slice A0 s.length c0, .int .i64 0, .int .u64 0]) (t := 95) ?hr ?_; (case hd => rfl); (case hg => rfl); (case hr => first | (go_simp; done) | (go_simp; rfl)); intro g1 hg w6 hbox hb; have HI : Aside0 (IsS95 w w6 g1 s 0 0) := ⟨⟨A0, c0, hbox, by rw [hg]; exact Nat.le_refl _, H0.out⟩⟩; have HB := Aside0.mk hb; clear hg hbox hb))
  refine (spec_l1Cur_pick.calls g1 s 0 0 7 x a1 d1 w w6 HI.out HB.out HK.out).mono ?_
  rintro e w7 ⟨rfl, _, hb, _⟩
  have HB2 := Aside0.mk hb
  clear hb HI HB
  go_wp2_with fail
  go_ret
  exact ⟨by show Ending.returned (.int .i64 (wrap64 (x - 1))) = _; rw [hwy], HB2.out⟩
/- mkwt.py's part -/
theorem both (k : Int) (hk : -9223372036854775808 ≤ k ∧ k ≤ 9223372036854775807) : ∃ r : List S86 × Bool, Ev (fun n => spec_TemplateOf.f n k) r ∧ OwnTemplateOf.tmplR k = r ∧ r.1.length ≤ 1048576 := by
  unfold OwnTemplateOf.tmplR spec_TemplateOf.f
  by_cases h : 1 ≤ k ∧ k ≤ 4
  · refine ⟨(OwnTemplateOf.tmpl k, true), ev_bindc (l1In_eq k 1 4) (ev_pos (by simpa using h) (Ev.bind (OwnTemplateOf.slStandard_ev k h) (ev_some rfl))), if_pos h, ?_⟩
    have := OwnTemplateOf.tmpl_len k
    show (OwnTemplateOf.tmpl k).length ≤ _
    omega
  · exact ⟨([], false), ev_bindc (l1In_eq k 1 4) (ev_neg (by simpa using h) (ev_some rfl)), if_neg h, by simp⟩
theorem drawn_below' {w w' : World} (h : Drawn0 w w') : Below w.heap.size w w' := by
  obtain ⟨n, rfl⟩ := h
  exact pw_below_drewN (Below.refl _ _) n
def turns (l : List S86) : Nat → List S86
  | 0 => l
  | n + 1 => srtL (turns l n)
theorem turns_ok {l : List S86} (h : tmplOk l = true) : ∀ n, tmplOk (turns l n) = true
  | 0 => h
  | n + 1 => srt_tmpl (turns_ok h n)
theorem same_l0 (l : List S86) (hl : l.length ≤ maxLen) : ∀ (d i : Nat), i + d = l.length → Ev (fun k => laws_pSameOffsets.l0 k l l (l.length : Int) (i : Int)) true := by
  have hl := maxLen_le hl
  intro d
  induction d with
  | zero =>
    intro i hi
    exact Ev.step (fun k => laws_pSameOffsets.l0.eq_2 l l l.length i k) (ev_neg (by omega) (ev_some rfl))
  | succ d ih =>
    intro i hi
    refine Ev.step (fun k => laws_pSameOffsets.l0.eq_2 l l l.length i k) ?_
    rw [w_succ (n := l.length) (by omega) (by omega)]
    exact ev_pos (by omega) (ev_pos (by omega) (ev_pos (by omega) (ev_pos (by omega) (ev_neg (by simp) (ih (i + 1) (by omega))))))
theorem same_calls (l : List S86) (hl : l.length ≤ maxLen) (A : Option Addr) (c : Nat) (A' : Option Addr) (c' : Nat) (w : World) (h1 : Kd.C k86 w A l.length l) (e1 : l.length ≤ c) (h2 : Kd.C k86 w A' l.length l) (e2 : l.length ≤ c') :
    Calls Try.prog 41 #[.slice A l.length c, .slice A' l.length c'] w fun e w' => e = .returned (.bool true) ∧ Below w.heap.size w w' := by
  have h : Ev (fun k => laws_pSameOffsets.f k l l) true := by
    unfold laws_pSameOffsets.f
    exact ev_pos rfl (same_l0 l hl l.length 0 (by omega))
  obtain ⟨k, hk⟩ := h.rounds
  exact (laws_pSameOffsets.calls k A c l A' c' l true w h1 e1 h2 e2 hk).mono fun e w' h => ⟨h.1, drawn_below' h.2⟩
set_option maxRecDepth 100000 in
theorem walk_big (s0 s1 : List Int) (q0 : s0.length ≤ maxLen) (q1 : s1.length ≤ maxLen) (hs : ¬ s0.length + s1.length ≤ 1048576) (A0 : Option Addr) (c0 : Nat) (A1 : Option Addr) (c1 : Nat) (w : World) (h0 : Kd.C (Kd.int .u8) w A0 s0.length s0) (e0 : s0.length ≤ c0) (h1 : Kd.C (Kd.int .u8) w A1 s1.length s1) (e1 : s1.length ≤ c1) :
    Calls Try.prog 9 #[.slice A0 s0.length c0, .slice A1 s1.length c1] w fun e w' => e = .returned (.bool true) ∧ Below w.heap.size w w' := by
  have hbig := big_eq s0 s1 q0 q1
  rw [decide_eq_true (by omega)] at hbig
  go_enter Try.func9, Try.ntmps9
  go_wp2_with fail
  refine (laws_big.calls A0 c0 s0 A1 c1 s1 true w h0 e0 h1 e1 hbig).mono ?_
  rintro e w1 ⟨rfl, hd⟩
  have B1 := Aside0.mk (drawn_below' hd)
  clear hd hbig
  go_wp2_with fail
  go_ret
  exact ⟨rfl, B1.out⟩
theorem u8_wf {x : Int} (h : (Lit.int .u8 x).wf = true) : 0 ≤ x ∧ x < 256 := by
  have e0 : IntKind.u8.min = 0 := rfl
  have e1 : IntKind.u8.max = 255 := rfl
  simp only [Lit.wf, Bool.and_eq_true, decide_eq_true_eq, e0, e1] at h
  omega
set_option maxHeartbeats 16000000 in
set_option maxRecDepth 100000 in
theorem walk (s0 s1 : List Int) (hs0 : Bytes s0) (hs1 : Bytes s1) (hs : s0.length + s1.length ≤ 1048576) (A0 : Option Addr) (c0 : Nat) (A1 : Option Addr) (c1 : Nat) (w : World) (h0 : Kd.C (Kd.int .u8) w A0 s0.length s0) (e0 : s0.length ≤ c0) (h1 : Kd.C (Kd.int .u8) w A1 s1.length s1) (e1 : s1.length ≤ c1) :
    Calls Try.prog 9 #[.slice A0 s0.length c0, .slice A1 s1.length c1] w fun e w' => e = .returned (.bool true) ∧ Below w.heap.size w w' := by
  obtain ⟨l, hl, dl⟩ := drawTT s0 hs0
  obtain ⟨a, b, ⟨ha, hb⟩, dab⟩ := drawS s1 hs1
  obtain ⟨k, hk, dk⟩ := drawK s1 hs1
  obtain ⟨T, ok, hT⟩ : ∃ T ok, ttR l = (T, ok) := ⟨_, _, rfl⟩
  have hok : ok = tmplOk l := by have h := hT; unfold ttR at h; cases ht : tmplOk l <;> rw [ht] at h <;> simp at h <;> simp [h]
  have hTl : T.length ≤ 100 := by have h := hT; unfold ttR at h; split at h <;> injection h with h1 h2 <;> subst h1 <;> first | (rename_i hh; rw [(srtL_ok hh).1]; exact hl) | simp
  obtain ⟨ki, hki⟩ := (IsTemplate_ev l (maxLen_val (by omega))).rounds
  rw [← hok] at hki
  obtain ⟨f0, f1, hf⟩ : ∃ f0 f1, (if (tmplOk a && tmplOk b) = true then (allHas b a, true) else (false, false)) = ((f0, f1) : Bool × Bool) := ⟨_, _, rfl⟩
  have hfl : f1 = true → f0 = true → a.length ≤ b.length := by
    intro e1 e0
    subst e1 e0
    split at hf
    · rename_i hh
      rw [Bool.and_eq_true] at hh
      injection hf with h1 _
      exact steep_len hh.1 h1
    · injection hf with h1 _
      cases h1
  obtain ⟨kis, hkis⟩ := (iSteeper_ev a b (maxLen_val (by omega)) (maxLen_val (by omega))).rounds
  obtain ⟨kss, hkss⟩ := (sSteeper_ev a b (maxLen_val (by omega)) (maxLen_val (by omega))).rounds
  rw [hf] at hkis hkss
  obtain ⟨⟨S, three⟩, hse, hsi, hsl⟩ := both k (by omega)
  obtain ⟨kst, hkst⟩ := hse.rounds
  simp only at hsl
  have hS : three = true → ttR S = (S, true) ∧ S.length ≤ 100 := by
    intro e
    subst e
    unfold OwnTemplateOf.tmplR at hsi
    split at hsi
    · rename_i hh
      injection hsi with h1 _
      subst h1
      obtain ⟨q1, q2⟩ := std_turn hh
      unfold ttR
      rw [if_pos q1, q2]
      have := OwnTemplateOf.tmpl_len k
      exact ⟨rfl, by omega⟩
    · injection hsi with _ h2
      cases h2
  have hbig := big_eq s0 s1 (maxLen_val (by omega)) (maxLen_val (by omega))
  rw [decide_eq_false (by omega)] at hbig
  have HT := Aside0.mk hT
  have HOK := Aside0.mk hok
  have HLl := Aside0.mk hl
  have HLT := Aside0.mk hTl
  have HLa := Aside0.mk ha
  have HLb := Aside0.mk hb
  have HKI := Aside0.mk hki
  have HKIS := Aside0.mk hkis
  have HKSS := Aside0.mk hkss
  have HFL := Aside0.mk hfl
  have HKST := Aside0.mk hkst
  have HSI := Aside0.mk hsi
  have HLS := Aside0.mk hsl
  have HSS := Aside0.mk hS
  have HBG := Aside0.mk hbig
  have DL := Aside0.mk dl
  have DAB := Aside0.mk dab
  have DK := Aside0.mk dk
  have H0 := Aside0.mk h0
  have E0 := Aside0.mk e0
  have H1 := Aside0.mk h1
  have E1 := Aside0.mk e1
  clear hT hok hl hTl ha hb hki hf hkis hkss hfl hse hkst hsi hsl hS hbig dl dab dk h0 e0 h1 e1 hk hs hs0 hs1
  go_enter Try.func9, Try.ntmps9
  go_wp2_with fail
  refine (laws_big.calls A0 c0 s0 A1 c1 s1 false w H0.out E0.out H1.out E1.out HBG.out).mono ?_
  rintro e w1 ⟨rfl, hd⟩
  have hb := drawn_below' hd
  clear hd
  have Bw1 := Aside0.mk hb
  have Cs0_w1 := Aside0.mk (Kd.C_below H0.out hb)
  clear H0
  have Cs1_w1 := Aside0.mk (Kd.C_below H1.out hb)
  clear H1
  clear hb
  go_wp2_with fail
  refine (DL.out A0 c0 w1 Cs0_w1.out E0.out).mono ?_
  rintro e w2 ⟨A_l, c_l, rfl, hC, hE, hb⟩
  have Cl_0 := Aside0.mk hC
  have El_0 := Aside0.mk hE
  clear hC hE
  have Bw2 := Aside0.mk (below_step Bw1.out hb)
  have Cs0_w2 := Aside0.mk (Kd.C_below Cs0_w1.out hb)
  clear Cs0_w1
  have Cs1_w2 := Aside0.mk (Kd.C_below Cs1_w1.out hb)
  clear Cs1_w1
  clear Bw1
  clear hb
  go_wp2_with fail
  refine (OwnTurnTemplate.own_impl A_l c_l l T ok w2 Cl_0.out El_0.out (by have := HLl.out; omega) HT.out).mono ?_
  rintro e w3 ⟨v_, rfl, ho, hb⟩
  obtain ⟨A_Tw3, c_Tw3, rfl⟩ := Kd.R_slice ho
  have CT_w3 := Aside0.mk (Kd.R_reads' ho).2.2
  have ET_w3 := Aside0.mk (Kd.R_reads' ho).2.1
  clear ho
  have Bw3 := Aside0.mk (below_step Bw2.out hb)
  have Cs0_w3 := Aside0.mk (Kd.C_below Cs0_w2.out hb)
  clear Cs0_w2
  have Cs1_w3 := Aside0.mk (Kd.C_below Cs1_w2.out hb)
  clear Cs1_w2
  have Cl_w3 := Aside0.mk (Kd.C_below Cl_0.out hb)
  clear Cl_0
  clear Bw2
  clear hb
  go_wp2_with fail
  refine (OwnTurnTemplate.own_spec A_l c_l l T ok w3 Cl_w3.out El_0.out (by have := HLl.out; omega) HT.out).mono ?_
  rintro e w4 ⟨v_, rfl, ho, hb⟩
  obtain ⟨A_Uw4, c_Uw4, rfl⟩ := Kd.R_slice ho
  have CU_w4 := Aside0.mk (Kd.R_reads' ho).2.2
  have EU_w4 := Aside0.mk (Kd.R_reads' ho).2.1
  clear ho
  have Bw4 := Aside0.mk (below_step Bw3.out hb)
  have Cs0_w4 := Aside0.mk (Kd.C_below Cs0_w3.out hb)
  clear Cs0_w3
  have Cs1_w4 := Aside0.mk (Kd.C_below Cs1_w3.out hb)
  clear Cs1_w3
  have Cl_w4 := Aside0.mk (Kd.C_below Cl_w3.out hb)
  clear Cl_w3
  have CT_w4 := Aside0.mk (Kd.C_below CT_w3.out hb)
  clear CT_w3
  clear Bw3
  clear hb
  go_wp2_with fail
  refine (same_calls T (maxLen_val (by have := HLT.out; omega)) A_Tw3 c_Tw3 A_Uw4 c_Uw4 w4 CT_w4.out ET_w3.out CU_w4.out EU_w4.out).mono ?_
  rintro e w5 ⟨rfl, hb⟩
  have Bw5 := Aside0.mk (below_step Bw4.out hb)
  have Cs0_w5 := Aside0.mk (Kd.C_below Cs0_w4.out hb)
  clear Cs0_w4
  have Cs1_w5 := Aside0.mk (Kd.C_below Cs1_w4.out hb)
  clear Cs1_w4
  have Cl_w5 := Aside0.mk (Kd.C_below Cl_w4.out hb)
  clear Cl_w4
  have CT_w5 := Aside0.mk (Kd.C_below CT_w4.out hb)
  clear CT_w4
  have CU_w5 := Aside0.mk (Kd.C_below CU_w4.out hb)
  clear CU_w4
  clear Bw4
  clear hb
  go_wp2_with fail
  refine (impl_IsTemplate.calls ki A_l c_l l ok w5 Cl_w5.out El_0.out HKI.out).mono ?_
  rintro e w6 ⟨rfl, hb⟩
  have Bw6 := Aside0.mk (below_step Bw5.out hb)
  have Cs0_w6 := Aside0.mk (Kd.C_below Cs0_w5.out hb)
  clear Cs0_w5
  have Cs1_w6 := Aside0.mk (Kd.C_below Cs1_w5.out hb)
  clear Cs1_w5
  have Cl_w6 := Aside0.mk (Kd.C_below Cl_w5.out hb)
  clear Cl_w5
  have CT_w6 := Aside0.mk (Kd.C_below CT_w5.out hb)
  clear CT_w5
  have CU_w6 := Aside0.mk (Kd.C_below CU_w5.out hb)
  clear CU_w5
  clear Bw5
  clear hb
  go_upto_if 59 with fail
  go_cut [] (fun wc => Aside0 (Kd.C (Kd.int .u8) wc A1 s1.length s1) ∧ Aside0 (Below w.heap.size w wc))
  case first =>
    cases ok with
    | false =>
      go_wp2
      go_meet
      case rel => exact ⟨Cs1_w6, Bw6⟩
    | true =>
      have HTS : Aside0 (T = turns l 1) := ⟨by have h := HT.out; unfold ttR at h; rw [if_pos HOK.out.symm] at h; injection h with h1 _; rw [← h1]; rfl⟩
      have HOL : Aside0 (tmplOk l = true) := ⟨HOK.out.symm⟩
      obtain ⟨x0, ex0⟩ : ∃ x0, x0 = T := ⟨_, rfl⟩
      go_wp2_with fail
      go_loopg [10, 11] 3 (fun d v10 v11 wr => ∃ (n : Nat) (A : Option Addr) (c : Nat) (x : List S86), v10 = .slice A x.length c ∧ v11 = .int .i64 (n : Int) ∧ Aside0 (n + d = 3 ∧ x = turns l (n + 1)) ∧ Aside0 (Kd.C k86 wr A x.length x) ∧ Aside0 (x.length ≤ c) ∧ Aside0 (Kd.C k86 wr A_l l.length l) ∧ Aside0 (Kd.C (Kd.int .u8) wr A1 s1.length s1) ∧ Aside0 (Below w.heap.size w wr))
      case atStart => exact ⟨0, A_Uw4, c_Uw4, T, rfl, rfl, ⟨rfl, HTS.out⟩, CU_w6, EU_w4, Cl_w6, Cs1_w6, Bw6⟩
      case round =>
        clear CT_w6 CU_w6 Cl_w6 Cs0_w6 Cs1_w6 Bw6
        obtain ⟨n, A_x, c_x, x, rfl, rfl, HN, Cx_r, Ex_r, Cl_r, Cs1_r, B_r⟩ := hrel
        have HX : Aside0 (tmplOk x = true) := ⟨by rw [HN.out.2]; exact turns_ok HOL.out _⟩
        have HLx : Aside0 (x.length ≤ 100) := ⟨by have := (tmpl_size HX.out).2; omega⟩
        cases gk with
        | zero =>
          have t1 : decide ((n : Int) < 3) = false := decide_eq_false (by have := HN.out.1; omega)
          have t1' : decide (n < 3) = false := decide_eq_false (by have := HN.out.1; omega)
          have exl : x = l := by rw [HN.out.2, show n + 1 = 4 by have := HN.out.1; omega]; exact srt4 HOL.out
          subst exl
          go_wp2_with fail
          refine (same_calls x (maxLen_val (by have := HLx.out; omega)) A_x c_x A_l c_l wr Cx_r.out Ex_r.out Cl_r.out El_0.out).mono ?_
          rintro e w7 ⟨rfl, hb⟩
          have Bw7 := Aside0.mk (below_step B_r.out hb)
          have Cx_w7 := Aside0.mk (Kd.C_below Cx_r.out hb)
          clear Cx_r
          have Cl_w7 := Aside0.mk (Kd.C_below Cl_r.out hb)
          clear Cl_r
          have Cs1_w7 := Aside0.mk (Kd.C_below Cs1_r.out hb)
          clear Cs1_r
          clear B_r
          clear hb
          go_wp2
          go_meet
          case rel => exact ⟨Cs1_w7, Bw7⟩
        | succ d =>
          have t1 : decide ((n : Int) < 3) = true := decide_eq_true (by have := HN.out.1; omega)
          have t1' : decide (n < 3) = true := decide_eq_true (by have := HN.out.1; omega)
          have HTX : Aside0 (ttR x = (srtL x, true)) := ⟨by unfold ttR; rw [if_pos HX.out]⟩
          obtain ⟨y, ey⟩ : ∃ y, y = srtL x := ⟨_, rfl⟩
          rw [← ey] at HTX
          have HY : Aside0 (y = srtL x) := ⟨ey⟩
          have HLy : Aside0 (y.length ≤ 100) := ⟨by rw [ey, (srtL_ok HX.out).1]; exact HLx.out⟩
          clear ey
          go_wp2_with fail
          refine (OwnTurnTemplate.own_impl A_x c_x x y true wr Cx_r.out Ex_r.out (by have := HLx.out; omega) HTX.out).mono ?_
          rintro e w8 ⟨v_, rfl, ho, hb⟩
          obtain ⟨A_yw8, c_yw8, rfl⟩ := Kd.R_slice ho
          have Cy_w8 := Aside0.mk (Kd.R_reads' ho).2.2
          have Ey_w8 := Aside0.mk (Kd.R_reads' ho).2.1
          clear ho
          have Bw8 := Aside0.mk (below_step B_r.out hb)
          have Cx_w8 := Aside0.mk (Kd.C_below Cx_r.out hb)
          clear Cx_r
          have Cl_w8 := Aside0.mk (Kd.C_below Cl_r.out hb)
          clear Cl_r
          have Cs1_w8 := Aside0.mk (Kd.C_below Cs1_r.out hb)
          clear Cs1_r
          clear B_r
          clear hb
          go_wp2_with fail
          refine (OwnTurnTemplate.own_spec A_x c_x x y true w8 Cx_w8.out Ex_r.out (by have := HLx.out; omega) HTX.out).mono ?_
          rintro e w9 ⟨v_, rfl, ho, hb⟩
          obtain ⟨A_zw9, c_zw9, rfl⟩ := Kd.R_slice ho
          have Cz_w9 := Aside0.mk (Kd.R_reads' ho).2.2
          have Ez_w9 := Aside0.mk (Kd.R_reads' ho).2.1
          clear ho
          have Bw9 := Aside0.mk (below_step Bw8.out hb)
          have Cx_w9 := Aside0.mk (Kd.C_below Cx_w8.out hb)
          clear Cx_w8
          have Cl_w9 := Aside0.mk (Kd.C_below Cl_w8.out hb)
          clear Cl_w8
          have Cs1_w9 := Aside0.mk (Kd.C_below Cs1_w8.out hb)
          clear Cs1_w8
          have Cy_w9 := Aside0.mk (Kd.C_below Cy_w8.out hb)
          clear Cy_w8
          clear Bw8
          clear hb
          go_wp2_with fail
          refine (same_calls y (maxLen_val (by have := HLy.out; omega)) A_yw8 c_yw8 A_zw9 c_zw9 w9 Cy_w9.out Ey_w8.out Cz_w9.out Ez_w9.out).mono ?_
          rintro e w10 ⟨rfl, hb⟩
          have Bw10 := Aside0.mk (below_step Bw9.out hb)
          have Cx_w10 := Aside0.mk (Kd.C_below Cx_w9.out hb)
          clear Cx_w9
          have Cl_w10 := Aside0.mk (Kd.C_below Cl_w9.out hb)
          clear Cl_w9
          have Cs1_w10 := Aside0.mk (Kd.C_below Cs1_w9.out hb)
          clear Cs1_w9
          have Cy_w10 := Aside0.mk (Kd.C_below Cy_w9.out hb)
          clear Cy_w9
          have Cz_w10 := Aside0.mk (Kd.C_below Cz_w9.out hb)
          clear Cz_w9
          clear Bw9
          clear hb
          go_wp2
          go_roundg d
          case measure => omega
          case rel =>
            refine ⟨n + 1, A_zw9, c_zw9, y, rfl, by rw [w64 (by have := HN.out.1; omega) (by have := HN.out.1; omega)]; rfl, ⟨by have := HN.out.1; omega, by rw [HY.out, HN.out.2]; rfl⟩, Cz_w10, Ez_w9, Cl_w10, Cs1_w10, Bw10⟩
  case rest =>
    obtain ⟨Cs1_c, B_c⟩ := hcut
    go_wp2_with fail
    refine (DAB.out A1 c1 wc Cs1_c.out E1.out).mono ?_
    rintro e w11 ⟨A_a, c_a, A_b, c_b, rfl, ⟨hC, hE⟩, ⟨hC', hE'⟩, hb⟩
    have Ca_0 := Aside0.mk hC
    have Ea_0 := Aside0.mk hE
    have Cb_0 := Aside0.mk hC'
    have Eb_0 := Aside0.mk hE'
    clear hC hE hC' hE'
    have Bw11 := Aside0.mk (below_step B_c.out hb)
    have Cs1_w11 := Aside0.mk (Kd.C_below Cs1_c.out hb)
    clear Cs1_c
    clear B_c
    clear hb
    go_wp2_with fail
    refine (impl_IsSteeper.calls kis A_a c_a a A_b c_b b f0 f1 w11 Ca_0.out Ea_0.out Cb_0.out Eb_0.out HKIS.out).mono ?_
    rintro e w12 ⟨rfl, hb⟩
    have Bw12 := Aside0.mk (below_step Bw11.out hb)
    have Cs1_w12 := Aside0.mk (Kd.C_below Cs1_w11.out hb)
    clear Cs1_w11
    have Ca_w12 := Aside0.mk (Kd.C_below Ca_0.out hb)
    clear Ca_0
    have Cb_w12 := Aside0.mk (Kd.C_below Cb_0.out hb)
    clear Cb_0
    clear Bw11
    clear hb
    go_wp2_with fail
    refine (spec_IsSteeper.calls kss A_a c_a a A_b c_b b f0 f1 w12 Ca_w12.out Ea_0.out Cb_w12.out Eb_0.out HKSS.out).mono ?_
    rintro e w13 ⟨rfl, hb⟩
    have Bw13 := Aside0.mk (below_step Bw12.out hb)
    have Cs1_w13 := Aside0.mk (Kd.C_below Cs1_w12.out hb)
    clear Cs1_w12
    have Ca_w13 := Aside0.mk (Kd.C_below Ca_w12.out hb)
    clear Ca_w12
    have Cb_w13 := Aside0.mk (Kd.C_below Cb_w12.out hb)
    clear Cb_w12
    clear Bw12
    clear hb
    go_upto_region 23 with fail
    go_cut [129] (fun v129 wc => v129 = .bool false ∧ Aside0 (Kd.C (Kd.int .u8) wc A1 s1.length s1) ∧ Aside0 (Below w.heap.size w wc))
    case first =>
      have hfl := HFL.out
      cases f1 with
      | false =>
        cases f0 with
        | false =>
          clear hfl
          go_wp2
          go_meet
          case rel => exact ⟨rfl, Cs1_w13, Bw13⟩
        | true =>
          clear hfl
          go_wp2
          go_meet
          case rel => exact ⟨rfl, Cs1_w13, Bw13⟩
      | true =>
        cases f0 with
        | false =>
          clear hfl
          go_wp2
          go_meet
          case rel => exact ⟨rfl, Cs1_w13, Bw13⟩
        | true =>
          have hle := hfl rfl rfl
          have t2 : decide ((b.length : Int) < (a.length : Int)) = false := decide_eq_false (by omega)
          have t3 : decide (b.length < a.length) = false := decide_eq_false (by omega)
          clear hle
          clear hfl
          go_wp2
          go_meet
          case rel => exact ⟨rfl, Cs1_w13, Bw13⟩
    case rest =>
      obtain ⟨rfl, Cs1_d, B_d⟩ := hcut
      go_wp2_with fail
      refine (DK.out A1 c1 wc Cs1_d.out E1.out).mono ?_
      rintro e w15 ⟨rfl, hb⟩
      have Bw15 := Aside0.mk (below_step B_d.out hb)
      have Cs1_w15 := Aside0.mk (Kd.C_below Cs1_d.out hb)
      clear Cs1_d
      clear B_d
      clear hb
      go_wp2_with fail
      refine (OwnTemplateOf.own_impl k S three w15 HSI.out).mono ?_
      rintro e w16 ⟨v_, rfl, ho, hb⟩
      obtain ⟨A_Sw16, c_Sw16, rfl⟩ := Kd.R_slice ho
      have CS_w16 := Aside0.mk (Kd.R_reads' ho).2.2
      have ES_w16 := Aside0.mk (Kd.R_reads' ho).2.1
      clear ho
      have Bw16 := Aside0.mk (below_step Bw15.out hb)
      clear Bw15
      clear hb
      go_wp2_with fail
      refine (spec_TemplateOf.calls kst k S three w16 HKST.out).mono ?_
      rintro e w17 ⟨v_, rfl, ho, hb⟩
      obtain ⟨A_Vw17, c_Vw17, rfl⟩ := Kd.R_slice ho
      have CV_w17 := Aside0.mk (Kd.R_reads' ho).2.2
      have EV_w17 := Aside0.mk (Kd.R_reads' ho).2.1
      clear ho
      have Bw17 := Aside0.mk (below_step Bw16.out hb)
      have CS_w17 := Aside0.mk (Kd.C_below CS_w16.out hb)
      clear CS_w16
      clear Bw16
      clear hb
      go_wp2_with fail
      refine (same_calls S (maxLen_val (by have := HLS.out; omega)) A_Sw16 c_Sw16 A_Vw17 c_Vw17 w17 CS_w17.out ES_w16.out CV_w17.out EV_w17.out).mono ?_
      rintro e w18 ⟨rfl, hb⟩
      have Bw18 := Aside0.mk (below_step Bw17.out hb)
      have CS_w18 := Aside0.mk (Kd.C_below CS_w17.out hb)
      clear CS_w17
      have CV_w18 := Aside0.mk (Kd.C_below CV_w17.out hb)
      clear CV_w17
      clear Bw17
      clear hb
      have hSS := HSS.out
      cases three with
      | false =>
        clear hSS
        go_wp2_with fail
        go_ret
        exact ⟨rfl, Bw18.out⟩
      | true =>
        have HTS := Aside0.mk (hSS rfl).1
        clear hSS
        go_wp2_with fail
        refine (OwnTurnTemplate.own_impl A_Sw16 c_Sw16 S S true w18 CS_w18.out ES_w16.out (by have := HLS.out; omega) HTS.out).mono ?_
        rintro e w19 ⟨v_, rfl, ho, hb⟩
        obtain ⟨A_Xw19, c_Xw19, rfl⟩ := Kd.R_slice ho
        have CX_w19 := Aside0.mk (Kd.R_reads' ho).2.2
        have EX_w19 := Aside0.mk (Kd.R_reads' ho).2.1
        clear ho
        have Bw19 := Aside0.mk (below_step Bw18.out hb)
        have CS_w19 := Aside0.mk (Kd.C_below CS_w18.out hb)
        clear CS_w18
        have CV_w19 := Aside0.mk (Kd.C_below CV_w18.out hb)
        clear CV_w18
        clear Bw18
        clear hb
        go_wp2_with fail
        refine (same_calls S (maxLen_val (by have := HLS.out; omega)) A_Xw19 c_Xw19 A_Vw17 c_Vw17 w19 CX_w19.out EX_w19.out CV_w19.out EV_w17.out).mono ?_
        rintro e w20 ⟨rfl, hb⟩
        have Bw20 := Aside0.mk (below_step Bw19.out hb)
        have CS_w20 := Aside0.mk (Kd.C_below CS_w19.out hb)
        clear CS_w19
        have CV_w20 := Aside0.mk (Kd.C_below CV_w19.out hb)
        clear CV_w19
        have CX_w20 := Aside0.mk (Kd.C_below CX_w19.out hb)
        clear CX_w19
        clear Bw19
        clear hb
        go_wp2_with fail
        go_ret
        exact ⟨rfl, Bw20.out⟩
theorem law (a0 a1 : List Int) (ha0 : a0.length ≤ maxLen) (sa0 : a0.length * 1 ≤ 140737488351232) (ga0 : ∀ x ∈ a0, (Lit.int .u8 x).wf = true) (ha1 : a1.length ≤ maxLen) (sa1 : a1.length * 1 ≤ 140737488351232) (ga1 : ∀ x ∈ a1, (Lit.int .u8 x).wf = true)
    (A0 : Option Addr) (c0 : Nat) (A1 : Option Addr) (c1 : Nat) (w : World) (h0 : Kd.C (Kd.int .u8) w A0 a0.length a0) (e0 : a0.length ≤ c0) (h1 : Kd.C (Kd.int .u8) w A1 a1.length a1) (e1 : a1.length ≤ c1) :
    Calls Try.prog 9 #[.slice A0 a0.length c0, .slice A1 a1.length c1] w fun e w' => e = .returned (.bool true) ∧ Below w.heap.size w w' := by
  by_cases hs : a0.length + a1.length ≤ 1048576
  · exact walk a0 a1 ⟨fun x hx => u8_wf (ga0 x hx), by omega⟩ ⟨fun x hx => u8_wf (ga1 x hx), by omega⟩ hs A0 c0 A1 c1 w h0 e0 h1 e1
  · exact walk_big a0 a1 ha0 ha1 hs A0 c0 A1 c1 w h0 e0 h1 e1
end Go.Proofs.Ytpndghkfbojokaa.WalkFnTemplates
