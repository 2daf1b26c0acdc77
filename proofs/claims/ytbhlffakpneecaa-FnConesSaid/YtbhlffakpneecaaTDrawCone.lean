/- What the drawing functions of the law FnCones tell: arcs, arcs with a block, and values with blocks. -/
import Derived.Test.YtbhlffakpneecaaTDrawAny
import Derived.Test.YtbhlffakpneecaaTMFnConesx5
import Derived.Test.YtbhlffakpneecaaTMFnConesx5
namespace Go.Proofs.Ytbhlffakpneecaa.DrawCone
open Go.RowKit Go.Proofs.Ytbhlffakpneecaa.PFnCones Go.Proofs.YtbhlffakpneecaaW.PrintWords Go.Proofs.YtbhlffakpneecaaW.PrintLast Go.Proofs.YtbhlffakpneecaaW.PrintMore Go.Proofs.Ytbhlffakpneecaa.B Go.Proofs.Ytbhlffakpneecaa.DrawArcs Go.Proofs.Ytbhlffakpneecaa.DrawAny
set_option linter.unusedVariables false
set_option linter.unusedSimpArgs false
theorem aMe:type_of% @Aside0.mk:=@Aside0.mk
theorem zone_0 {P:Prop} (h:P:=by rw [List.length_append, List.length_singleton]; omega):P:=h
set_option maxRecDepth 100000 in
/-- spec.DrawAreArcs -/
theorem drawAre (s : List Int) (hs : Bytes s) : ∃ (r : List (List Int)), (r.length ≤ 250 ∧ ∀ x ∈ r, x.length ≤ 250) ∧ ∀ (A0 : Option Addr) (c0 : Nat) (w : World), Kd.C (Kd.int .u8) w A0 s.length s → s.length ≤ c0 →
  Calls Try.prog 64 #[.slice A0 s.length c0] w fun e w' => ∃ A c, e = .returned (.slice A r.length c) ∧ (Kd.C kSS w' A r.length r ∧ r.length ≤ c) ∧ Below w.heap.size w w' := by
 obtain ⟨r, a1, d1, hr, ha1, hany⟩ := anyArcs_told hs 0 0 (by omega)
 refine ⟨r, hr, fun A0 c0 w h0 e0 => ?_⟩
 have HA := aMe hany
 have H0 := aMe h0
 have hu := Try.underlying61
 clear hany h0 hr ha1
 go_enter Try.func64, Try.ntmps64
 go_wp2_with (first | ((with_reducible refine gate_dst (N := 6) rfl ?_); refine box_event ?hg (N := 6) ?hd (cs := #[.slice A0 s.length c0, .int .i64 0, .int .u64 0]) (t := 61) ?hr ?_; (case hd => rfl); (case hg => rfl); (case hr => first | (go_simp; done) | (go_simp; rfl)); intro g1 hg w6 hbox hb; have HI : Aside0 (IsS61 w w6 g1 s 0 0) := ⟨⟨A0, c0, hbox, by rw [hg]; exact Nat.le_refl _, H0.out⟩⟩; have HB := aMe hb; clear hg hbox hb))
 refine (HA.out g1 w w6 HI.out HB.out).mono ?_
 rintro e w7 ⟨v, rfl, hN, hi, hb, _⟩
 obtain ⟨A, c, rfl⟩ := Kd.N_slice hN
 have HN := aMe hN
 have HB2 := aMe hb
 clear hN hb hi HI HB
 go_wp2_with fail
 go_ret
 exact ⟨A, c, rfl, ⟨(Kd.N_reads' HN.out).2.2, (Kd.N_reads' HN.out).2.1⟩, HB2.out⟩
/-- spec.DrawReducedArcs -/
theorem drawRed (s : List Int) (hs : Bytes s) : ∃ (r : List (List Int)), (r.length ≤ 250 ∧ ∀ x ∈ r, x.length ≤ 250) ∧ ∀ (A0 : Option Addr) (c0 : Nat) (w : World), Kd.C (Kd.int .u8) w A0 s.length s → s.length ≤ c0 →
  Calls Try.prog 26 #[.slice A0 s.length c0] w fun e w' => ∃ A c, e = .returned (.slice A r.length c) ∧ (Kd.C kSS w' A r.length r ∧ r.length ≤ c) ∧ Below w.heap.size w w' := by
 obtain ⟨r, hr, h⟩ := drawAre s hs
 refine ⟨r, hr, fun A0 c0 w h0 e0 => ?_⟩
 have HH := aMe (h A0 c0 w h0 e0)
 clear h h0 e0 hr
 go_enter Try.func26, Try.ntmps26
 go_wp2_with fail
 refine HH.out.mono ?_
 rintro e w7 ⟨A, c, rfl, h1, h3⟩
 have HQ := aMe h1
 have HB2 := aMe h3
 clear h1 h3 HH
 go_wp2_with fail
 go_ret
 exact ⟨A, c, rfl, HQ.out, HB2.out⟩
set_option maxRecDepth 100000 in
/-- spec.DrawConeOf -/
theorem drawCone (s : List Int) (hs : Bytes s) : ∃ (r : List (List Int)) (i : Int), (r.length ≤ 250 ∧ ∀ x ∈ r, x.length ≤ 250) ∧ ∀ (A0 : Option Addr) (c0 : Nat) (w : World), Kd.C (Kd.int .u8) w A0 s.length s → s.length ≤ c0 →
  Calls Try.prog 12 #[.slice A0 s.length c0] w fun e w' => ∃ A c, e = .returned (.tuple #[.slice A r.length c, .int .i64 i]) ∧ (Kd.C kSS w' A r.length r ∧ r.length ≤ c) ∧ Below w.heap.size w w' := by
 obtain ⟨r, a1, d1, hr, ha1, hany⟩ := anyArcs_told hs 0 0 (by omega)
 obtain ⟨⟨x, a2, d2⟩, hk2, hx0, hx1, hp2, hp2'⟩ := pick_some hs a1 d1 16 (by omega)
 simp only at hx0 hx1 hp2 hp2'
 obtain ⟨n, hn⟩ : ∃ n, n = wrap64 ((r.length : Int) + wrap64 (Int.tdiv x 15)) := ⟨_, rfl⟩
 obtain ⟨⟨y, a3, d3⟩, hk3, hy0, hy1, hp3, hp3'⟩ := pick_some hs a2 d2 n (by omega)
 simp only at hy0 hy1 hp3 hp3'
 obtain ⟨⟨z, a4, d4⟩, hk4, hz0, hz1, hp4, hp4'⟩ := pick_some hs a3 d3 24 (by omega)
 simp only at hz0 hz1
 obtain ⟨i, hi⟩ : ∃ i, i = wrap64 (y - wrap64 (Int.tdiv z 23)) := ⟨_, rfl⟩
 refine ⟨r, i, hr, fun A0 c0 w h0 e0 => ?_⟩
 have HA := aMe hany
 have H0 := aMe h0
 have HK2 := aMe hk2
 have HK3 := aMe hk3
 have HK4 := aMe hk4
 have NN := aMe hn
 have NI := aMe hi
 have hu := Try.underlying61
 clear hany h0 hr ha1 hk2 hk3 hk4 hn hi hx0 hx1 hp2 hp2' hy0 hy1 hp3 hp3' hz0 hz1 hp4 hp4'
 go_enter Try.func12, Try.ntmps12
 go_wp2_with (first | ((with_reducible refine gate_dst (N := 8) rfl ?_); refine box_event ?hg (N := 8) ?hd (cs := #[.slice A0 s.length c0, .int .i64 0, .int .u64 0]) (t := 61) ?hr ?_; (case hd => rfl); (case hg => rfl); (case hr => first | (go_simp; done) | (go_simp; rfl)); intro g1 hg w6 hbox hb; have HI : Aside0 (IsS61 w w6 g1 s 0 0) := ⟨⟨A0, c0, hbox, by rw [hg]; exact Nat.le_refl _, H0.out⟩⟩; have HB := aMe hb; clear hg hbox hb))
 have GL := aMe (IsS61.lt HI.out)
 refine (HA.out g1 w w6 HI.out HB.out).mono ?_
 rintro e w7 ⟨v, rfl, hN, hi, hb, _⟩
 obtain ⟨A, c, rfl⟩ := Kd.N_slice hN
 have HN := aMe (Kd.N_mono hN (ok' := fun k => k ≠ g1) (fun k hk => by have := GL.out; omega))
 have HI2 := aMe hi
 have HB2 := aMe hb
 clear hN hb hi HI HB
 go_wp2_with fail
 refine (spec_l1Cur_pick.calls g1 s a1 d1 16 x a2 d2 w w7 HI2.out HB2.out HK2.out).mono ?_
 rintro e w8 ⟨rfl, hi, hb, hk⟩
 have HN2 := aMe (Kd.N_keep HN.out hk (fun _ h => h))
 have HI3 := aMe hi
 have HB3 := aMe hb
 clear hi hb hk HI2 HB2 HN
 go_wp2_with fail
 rw [← NN.out]
 refine (spec_l1Cur_pick.calls g1 s a2 d2 n y a3 d3 w w8 HI3.out HB3.out HK3.out).mono ?_
 rintro e w9 ⟨rfl, hi, hb, hk⟩
 have HN := aMe (Kd.N_keep HN2.out hk (fun _ h => h))
 have HI4 := aMe hi
 have HB4 := aMe hb
 clear hi hb hk HI3 HB3 HN2
 go_wp2_with fail
 refine (spec_l1Cur_pick.calls g1 s a3 d3 24 z a4 d4 w w9 HI4.out HB4.out HK4.out).mono ?_
 rintro e w10 ⟨rfl, hi, hb, hk⟩
 have HN2 := aMe (Kd.N_keep HN.out hk (fun _ h => h))
 have HB5 := aMe hb
 clear hi hb hk HI4 HB4 HN
 go_wp2_with fail
 go_ret2
 exact ⟨A, c, by rw [NI.out]; rfl, ⟨(Kd.N_reads' HN2.out).2.2, (Kd.N_reads' HN2.out).2.1⟩, HB5.out⟩
def LisP (a n : Int) (m : Nat) (r : List Int × Int × Int) : Prop := r.1.length ≤ m ∧ a ≤ r.2.1 ∧ r.2.1 ≤ a + n
theorem LisP.up {a n b q : Int} {m m' : Nat} {r : List Int × Int × Int} (h : LisP b q m r) (hm : m ≤ m') (h1 : a ≤ b) (h2 : b + q ≤ a + n) : LisP a n m' r := by
 unfold LisP at *
 omega
theorem some_l1 (s : List Int) (n : Int) (a d : Int) : ∀ (q : Nat) (l : List Int) (x : Int), 0 ≤ x → n ≤ x + q → n ≤ 20000 → l.length + q ≤ 100000 → Tl (fun k => spec_l1Cur_some.l1 k n l x s a d) (LisP a 0 (l.length + q)) := by
 intro q
 induction q with
 | zero =>
  intro l x h0 h1 h2 h3
  exact Tl.step (fun k => spec_l1Cur_some.l1.eq_2 n l x s a d k) (Tl.neg (by omega) (Tl.now ⟨by show l.length ≤ _; omega, Int.le_refl _, by show a ≤ a + 0; omega⟩))
 | succ q ih =>
  intro l x h0 h1 h2 h3
  refine Tl.step (fun k => spec_l1Cur_some.l1.eq_2 n l x s a d k) (Tl.ite (fun c => Tl.pos (by omega) ?_) (fun c => Tl.now ⟨by show l.length ≤ _; omega, Int.le_refl _, by show a ≤ a + 0; omega⟩))
  rw [show wrap64 (x + 1) = x + 1 from w64 (by omega) (by omega)]
  exact (ih _ (x + 1) (by omega) (by omega) h2 (zone_0)).mono (fun r h => h.up (zone_0) (by omega) (by omega))
theorem some_l0 {s : List Int} (hs : Bytes s) (n : Nat) (hn : n ≤ 10001) : ∀ (q : Nat) (l : List Int) (x a d : Int), x + q = n → 0 ≤ x → l.length + q ≤ 50000 → At a (288230376151711744 - 4 * (q : Int)) → Tl (fun k => spec_l1Cur_some.l0 k (n : Int) l x s a d) (LisP a (10 + 4 * q) (l.length + q + n + 1)) := by
 intro q
 induction q with
 | zero =>
  intro l x a d h1 h0 hl ha
  refine Tl.step (fun k => spec_l1Cur_some.l0.eq_2 _ l x s a d k) (Tl.neg (by omega) (Tl.bind (pick_tl hs _ _ 24 (by omega) (by omega)) (fun r p => Tl.ite (fun c => ?_) (fun c => Tl.ite (fun c => ?_) (fun c => ?_)))))
  ·refine Tl.bind (among_tl hs _ _ _ (by simp) (by omega)) (fun r3 p3 => Tl.pos (by omega) (Tl.now ?_))
   exact ⟨zone_0, by show a ≤ r3.2.1; omega, by show r3.2.1 ≤ _; omega⟩
  ·exact (some_l1 s n _ _ n [] 0 (by omega) (by omega) (by omega) (by simp only [List.length_nil]; omega)).mono (fun r h => h.up (by simp only [List.length_nil]; omega) (by omega) (by omega))
  ·exact Tl.now ⟨by show l.length ≤ _; omega, by show a ≤ r.2.1; omega, by show r.2.1 ≤ _; omega⟩
 | succ q ih =>
  intro l x a d h1 h0 hl ha
  have hw : wrap64 (x + 1) = x + 1 := w64 (by omega) (by omega)
  refine Tl.step (fun k => spec_l1Cur_some.l0.eq_2 _ l x s a d k) (Tl.pos (by omega) (Tl.bind (one_tl hs _ _ 3 (by omega)) (fun r p => Tl.ite (fun c => Tl.pos (by omega) ?_) (fun c => ?_))))
  ·rw [hw]
   exact (ih _ (x + 1) r.2.1 r.2.2 (by omega) (by omega) (zone_0) (by omega)).mono (fun r3 h => h.up (zone_0) (by omega) (by omega))
  ·rw [hw]
   exact (ih _ (x + 1) r.2.1 r.2.2 (by omega) (by omega) (by omega) (by omega)).mono (fun r3 h => h.up (by omega) (by omega) (by omega))
theorem some_tl {s : List Int} (hs : Bytes s) (n : Nat) (hn : n ≤ 10001) (a d : Int) (ha : At a 288230376151000000) : Tl (fun k => spec_l1Cur_some.f k s a d (n : Int)) (LisP a 50000 (2 * n + 1)) := by
 unfold spec_l1Cur_some.f
 exact (some_l0 hs n hn n [] 0 a d (by omega) (by omega) (by simp only [List.length_nil]; omega) (by omega)).mono (fun r h => h.up (by simp only [List.length_nil]; omega) (by omega) (by omega))
theorem valued_l0 {s : List Int} (hs : Bytes s) (o : List (List Int)) (n : Nat) (hn : 1 ≤ n ∧ n ≤ 240) : ∀ (q i : Nat) (l : List Int) (a d : Int), i + q = n → l.length = i → At a (200000000000000000 - 4 * (q : Int)) →
  Tl (fun k => spec_l1Cur_valued.l0 k o l (n : Int) (i : Int) s a d) (fun r => r.2.1.length = n ∧ a ≤ r.2.2.1 ∧ r.2.2.1 ≤ a + 4 * q + 10) := by
 intro q
 induction q with
 | zero =>
  intro i l a d hi hl ha
  refine Tl.step (fun k => spec_l1Cur_valued.l0.eq_2 o l n i s a d k) (Tl.neg (by omega) (Tl.bind (one_tl hs a d 24 (by omega)) (fun r p => Tl.ite (fun c => ?_) (fun c => ?_))))
  ·refine Tl.bind (pick_tl hs _ _ l.length (by omega) (by omega)) (fun r2 p2 => Tl.bind (among_tl hs _ _ _ (by simp) (by omega)) (fun r3 p3 => Tl.pos (by omega) (Tl.pos (by omega) (Tl.now ?_))))
   exact ⟨by show (l.set _ _).length = n; rw [List.length_set]; omega, by show a ≤ r3.2.1; omega, by show r3.2.1 ≤ _; omega⟩
  ·exact Tl.now ⟨by show l.length = n; omega, by show a ≤ r.2.1; omega, by show r.2.1 ≤ _; omega⟩
 | succ q ih =>
  intro i l a d hi hl ha
  refine Tl.step (fun k => spec_l1Cur_valued.l0.eq_2 o l n i s a d k) (Tl.pos (by omega) (Tl.bind (pick_tl hs a d 200 (by omega) (by omega)) (fun r p => Tl.bind (among_tl hs _ _ _ (by simp) (by omega)) (fun r2 p2 => Tl.pos (by omega) ?_))))
  rw [w_succ (n := n) (by omega) (by omega)]
  exact (ih (i + 1) _ r2.2.1 r2.2.2 (by omega) (by rw [List.length_append, List.length_singleton, hl]) (by omega)).mono (fun r3 h => ⟨h.1, by omega, by omega⟩)
theorem valued_tl {s : List Int} (hs : Bytes s) (a d : Int) (ha : At a 170000000000000000) : Tl (fun k => spec_l1Cur_valued.f k s a d) (fun r => (1 ≤ r.2.1.length ∧ r.2.1.length ≤ 240) ∧ a ≤ r.2.2.1 ∧ r.2.2.1 ≤ a + 5000) := by
 unfold spec_l1Cur_valued.f
 refine Tl.bind (arcs_tl hs a d (by omega)) (fun r hr => ?_)
 have h1 := hr.1.1
 exact (valued_l0 hs r.1 r.1.length h1 r.1.length 0 [] r.2.1 r.2.2 (by omega) rfl (by omega)).mono (fun r3 h => ⟨by omega, by omega, by omega⟩)
abbrev ValPost (w : World) (v l : List Int) (e : Ending) (w' : World) : Prop := ∃ A c A' c', e = .returned (.tuple #[.slice A v.length c, .slice A' l.length c']) ∧ (Kd.C (Kd.int .i64) w' A v.length v ∧ v.length ≤ c) ∧ (Kd.C (Kd.int .i64) w' A' l.length l ∧ l.length ≤ c') ∧ Below w.heap.size w w'
set_option maxHeartbeats 16000000 in
set_option maxRecDepth 100000 in
theorem val_set (s : List Int) (hs : Bytes s) (o : List (List Int)) (v l : List Int) (a1 d1 x a2 d2 a4 d4 : Int) (z a3 d3 : Int) (hk2 : spec_l1Cur_pick.f s a1 d1 24 = some (0, a2, d2)) (hk3 : spec_l1Cur_among.f s a2 d2 [-1000000, 1000000, 1000001, -1000001] = some (z, a3, d3)) (k1 k4 : Nat) (hk1 : spec_l1Cur_valued.f k1 s 0 0 = some (o, v, a1, d1)) (hk4 : spec_l1Cur_some.f k4 s a3 d3 ((v.set 0 z).length : Int) = some (l, a4, d4)) (hv : 1 ≤ v.length ∧ v.length ≤ 240) (A0 : Option Addr) (c0 : Nat) (w : World) (h0 : Kd.C (Kd.int .u8) w A0 s.length s) (e0 : s.length ≤ c0) :
  Calls Try.prog 27 #[.slice A0 s.length c0] w (ValPost w (v.set 0 z) l) := by
 have H0 := aMe h0
 have HK1 := aMe hk1
 have HK4 := aMe hk4
 have HV := aMe hv
 have HK2 := aMe hk2
 have HK3 := aMe hk3
 clear hk2 hk3
 have hu := Try.underlying61
 clear h0 hk1 hk4 hv
 go_enter Try.func27, Try.ntmps27
 go_wp2_with (first | ((with_reducible refine gate_dst (N := 9) rfl ?_); refine box_event ?hg (N := 9) ?hd (cs := #[.slice A0 s.length c0, .int .i64 0, .int .u64 0]) (t := 61) ?hr ?_; (case hd => rfl); (case hg => rfl); (case hr => first | (go_simp; done) | (go_simp; rfl)); intro g1 hg w6 hbox hb; have HI : Aside0 (IsS61 w w6 g1 s 0 0) := ⟨⟨A0, c0, hbox, by rw [hg]; exact Nat.le_refl _, H0.out⟩⟩; have HB := aMe hb; clear hg hbox hb))
 have GL := aMe (IsS61.lt HI.out)
 refine (spec_l1Cur_valued.calls k1 g1 s 0 0 o v a1 d1 w w6 HI.out HB.out HK1.out).mono ?_
 rintro e w7 ⟨v0, v1, rfl, hN, hR, hi, hb, _⟩
 obtain ⟨gv, cv, ev, hgv, _⟩ := Kd.R_form hR (by have := HV.out; omega)
 subst ev
 obtain ⟨Ao, co, eo⟩ := Kd.N_slice hN
 subst eo
 have GV := aMe hgv
 have HR : Aside0 (Kd.R (Kd.int .i64) 3 w7 w6.heap.size (fun k => w6.heap.size ≤ k ∧ k ≠ g1) (.slice (some ⟨gv, 0, none⟩) v.length cv) v) := ⟨Kd.R_mono hR (fun k hk => ⟨hk, by have := GL.out; omega⟩)⟩
 have HI2 := aMe hi
 have HB2 := aMe hb
 have LW := aMe HB.out.size
 clear hN hR hb hi hgv HI HB
 go_wp2_with fail
 refine (spec_l1Cur_pick.calls g1 s a1 d1 24 0 a2 d2 w w7 HI2.out HB2.out HK2.out).mono ?_
 rintro e w8 ⟨rfl, hi, hb, hk⟩
 have HR2 := aMe (Kd.R_keep HR.out hk (fun _ h => h.2))
 have HI3 := aMe hi
 have HB3 := aMe hb
 clear hi hb hk HI2 HB2 HR
 have hd1 : decide (0 < (v.length : Int)) = true := decide_eq_true (by have := HV.out; omega)
 have hd2 := eq_true (show (0 : Int) < (v.length : Int) by have := HV.out; omega)
 have hd3 := eq_true (show 0 < v.length by have := HV.out; omega)
 go_wp2_with (first | ((with_reducible refine gate_dst (N := 21) rfl ?_); refine Kd.R_lit (Kd.int .i64) _ 3 ?hg (N := 21) ?hd (xs := [-1000000, 1000000, 1000001, -1000001]) (inner := [.int .i64 (-1000000), .int .i64 1000000, .int .i64 1000001, .int .i64 (-1000001)]) (ok := fun k => w8.heap.size ≤ k) (okp := fun _ => False) ?hr ?hp (fun _ hk => hk.elim) (Nat.le_refl _) (Below.refl _ _) (Nat.le_refl _) (by simp) ?_; (case hd => rfl); (case hg => rfl); (case hr => first | (go_simp; done) | (go_simp; rfl)); (case hp => exact Kd.reps_scalar [-1000000, 1000000, 1000001, -1000001]); intro vq w9 ho hb hg_ hnew_; clear hg_ hnew_; have m0_ := aMe ho; have n0_ := aMe (IsS61.below HI3.out hb); have n1_ := aMe (below_step HB3.out hb); have n2_ := aMe (Kd.R_below HR2.out hb); have GQ := aMe (IsS61.lt HI3.out); clear HI3 HB3 HR2 ho hb))
 obtain ⟨gq, cq, eq_, hgq, _⟩ := Kd.R_form m0_.out (by simp)
 subst eq_
 refine (spec_l1Cur_among.calls g1 s a2 d2 (some ⟨gq, 0, none⟩) cq [-1000000, 1000000, 1000001, -1000001] z a3 d3 w w9 n0_.out n1_.out (Kd.R_reads' m0_.out).2.2 (Kd.R_reads' m0_.out).2.1 (fun ad he _ => by injection he with he; subst he; have := GQ.out; show gq ≠ g1; omega) HK3.out).mono ?_
 rintro e wb ⟨rfl, hi, hb, hk⟩
 have HRb := aMe (Kd.R_keep n2_.out hk (fun _ h => h.2))
 have HIb := aMe hi
 have HBb := aMe hb
 clear hi hb hk n0_ n1_ n2_ m0_ hgq
 obtain ⟨hcv, hfv⟩ := Kd.R_celln 0 HRb.out (0 : Int) (by omega) (by have := HV.out; omega)
 simp only [Int.toNat_zero] at hcv hfv
 go_wp2_with fail
 have HR9 : Aside0 (Kd.R (Kd.int .i64) 3 (wb.setCell ⟨gv, 0, none⟩ (.int .i64 z)) w6.heap.size (fun k => w6.heap.size ≤ k ∧ k ≠ g1) (.slice (some ⟨gv, 0, none⟩) v.length cv) (v.set 0 z)) := ⟨Kd.R_putn HRb.out (0 : Int) z⟩
 have HI9 := aMe (IsS61.far (p := ⟨gv, 0, none⟩) HIb.out (by have := GL.out; have := GV.out; show g1 ≠ gv; omega) (.int .i64 z))
 have HB9 := aMe (below_set (g := gv) (j := 0) (v := .int .i64 z) HBb.out (Nat.le_trans LW.out GV.out))
 have el : (v.set 0 z).length = v.length := List.length_set
 rw [el] at HK4
 refine (spec_l1Cur_some.calls k4 g1 s a3 d3 (v.length : Int) l a4 d4 w _ HI9.out HB9.out HK4.out).mono ?_
 rintro e wz ⟨vl, rfl, ho, hi, hb, hkp⟩
 have HR9z := aMe (Kd.R_keep HR9.out hkp (fun _ h => h.2))
 obtain ⟨A', c', rfl⟩ := Kd.R_slice ho
 have HP := aMe ho
 have HBz := aMe hb
 clear ho hb hi hkp HI9 HB9 HR9
 go_wp2_with fail
 go_ret2
 exact ⟨some ⟨gv, 0, none⟩, cv, A', c', by rw [el]; rfl, ⟨(Kd.R_reads' HR9z.out).2.2, by have := (Kd.R_reads' HR9z.out).2.1; rw [el]; exact this⟩, ⟨(Kd.R_reads' HP.out).2.2, (Kd.R_reads' HP.out).2.1⟩, HBz.out⟩
set_option maxHeartbeats 16000000 in
set_option maxRecDepth 100000 in
theorem val_same (s : List Int) (hs : Bytes s) (o : List (List Int)) (v l : List Int) (a1 d1 x a2 d2 a4 d4 : Int) (hk2 : spec_l1Cur_pick.f s a1 d1 24 = some (x, a2, d2)) (hx : x ≠ 0 ∧ x ≠ 1) (k1 k4 : Nat) (hk1 : spec_l1Cur_valued.f k1 s 0 0 = some (o, v, a1, d1)) (hk4 : spec_l1Cur_some.f k4 s a2 d2 (v.length : Int) = some (l, a4, d4)) (hv : 1 ≤ v.length ∧ v.length ≤ 240) (A0 : Option Addr) (c0 : Nat) (w : World) (h0 : Kd.C (Kd.int .u8) w A0 s.length s) (e0 : s.length ≤ c0) :
  Calls Try.prog 27 #[.slice A0 s.length c0] w (ValPost w v l) := by
 have H0 := aMe h0
 have HK1 := aMe hk1
 have HK4 := aMe hk4
 have HV := aMe hv
 have HK2 := aMe hk2
 have x0 : (x == 0) = false := beq_eq_false_iff_ne.2 hx.1
 have x1 : (x == 1) = false := beq_eq_false_iff_ne.2 hx.2
 have x0' : decide (x = 0) = false := decide_eq_false hx.1
 have x1' : decide (x = 1) = false := decide_eq_false hx.2
 clear hk2
 have hu := Try.underlying61
 clear h0 hk1 hk4 hv
 go_enter Try.func27, Try.ntmps27
 go_wp2_with (first | ((with_reducible refine gate_dst (N := 9) rfl ?_); refine box_event ?hg (N := 9) ?hd (cs := #[.slice A0 s.length c0, .int .i64 0, .int .u64 0]) (t := 61) ?hr ?_; (case hd => rfl); (case hg => rfl); (case hr => first | (go_simp; done) | (go_simp; rfl)); intro g1 hg w6 hbox hb; have HI : Aside0 (IsS61 w w6 g1 s 0 0) := ⟨⟨A0, c0, hbox, by rw [hg]; exact Nat.le_refl _, H0.out⟩⟩; have HB := aMe hb; clear hg hbox hb))
 have GL := aMe (IsS61.lt HI.out)
 refine (spec_l1Cur_valued.calls k1 g1 s 0 0 o v a1 d1 w w6 HI.out HB.out HK1.out).mono ?_
 rintro e w7 ⟨v0, v1, rfl, hN, hR, hi, hb, _⟩
 obtain ⟨gv, cv, ev, hgv, _⟩ := Kd.R_form hR (by have := HV.out; omega)
 subst ev
 obtain ⟨Ao, co, eo⟩ := Kd.N_slice hN
 subst eo
 have GV := aMe hgv
 have HR : Aside0 (Kd.R (Kd.int .i64) 3 w7 w6.heap.size (fun k => w6.heap.size ≤ k ∧ k ≠ g1) (.slice (some ⟨gv, 0, none⟩) v.length cv) v) := ⟨Kd.R_mono hR (fun k hk => ⟨hk, by have := GL.out; omega⟩)⟩
 have HI2 := aMe hi
 have HB2 := aMe hb
 have LW := aMe HB.out.size
 clear hN hR hb hi hgv HI HB
 go_wp2_with fail
 refine (spec_l1Cur_pick.calls g1 s a1 d1 24 x a2 d2 w w7 HI2.out HB2.out HK2.out).mono ?_
 rintro e w8 ⟨rfl, hi, hb, hk⟩
 have HR2 := aMe (Kd.R_keep HR.out hk (fun _ h => h.2))
 have HI3 := aMe hi
 have HB3 := aMe hb
 clear hi hb hk HI2 HB2 HR
 have HR9 := HR2
 have HI9 := HI3
 have HB9 := HB3
 clear HR2 HI3 HB3
 go_wp2_with fail
 refine (spec_l1Cur_some.calls k4 g1 s a2 d2 (v.length : Int) l a4 d4 w _ HI9.out HB9.out HK4.out).mono ?_
 rintro e wz ⟨vl, rfl, ho, hi, hb, hkp⟩
 have HR9z := aMe (Kd.R_keep HR9.out hkp (fun _ h => h.2))
 obtain ⟨A', c', rfl⟩ := Kd.R_slice ho
 have HP := aMe ho
 have HBz := aMe hb
 clear ho hb hi hkp HI9 HB9 HR9
 go_wp2_with fail
 go_ret2
 exact ⟨_, _, A', c', rfl, ⟨(Kd.R_reads' HR9z.out).2.2, (Kd.R_reads' HR9z.out).2.1⟩, ⟨(Kd.R_reads' HP.out).2.2, (Kd.R_reads' HP.out).2.1⟩, HBz.out⟩
set_option maxHeartbeats 16000000 in
set_option maxRecDepth 100000 in
theorem val_make (s : List Int) (hs : Bytes s) (o : List (List Int)) (v l : List Int) (a1 d1 x a2 d2 a4 d4 : Int) (y a3 d3 : Int) (q : Nat) (hk2 : spec_l1Cur_pick.f s a1 d1 24 = some (1, a2, d2)) (hk3 : spec_l1Cur_pick.f s a2 d2 2 = some (y, a3, d3)) (hq : (q : Int) = 120 + y ∧ q ≤ 200) (k1 k4 : Nat) (hk1 : spec_l1Cur_valued.f k1 s 0 0 = some (o, v, a1, d1)) (hk4 : spec_l1Cur_some.f k4 s a3 d3 ((List.replicate q (0 : Int)).length : Int) = some (l, a4, d4)) (hv : 1 ≤ v.length ∧ v.length ≤ 240) (A0 : Option Addr) (c0 : Nat) (w : World) (h0 : Kd.C (Kd.int .u8) w A0 s.length s) (e0 : s.length ≤ c0) :
  Calls Try.prog 27 #[.slice A0 s.length c0] w (ValPost w (List.replicate q (0 : Int)) l) := by
 have H0 := aMe h0
 have HK1 := aMe hk1
 have HK4 := aMe hk4
 have HV := aMe hv
 have HK2 := aMe hk2
 have HK3 := aMe hk3
 have HQ := aMe hq
 have hm1 : wrap64 (120 + y) = (q : Int) := by rw [w64 (by omega) (by omega)]; omega
 have hm2 : IntKind.i64.wrap (120 + y) = (q : Int) := (i64_w _).trans hm1
 have q0 := eq_true (show 0 ≤ (q : Int) by omega)
 have q1_ : decide (0 ≤ (q : Int)) = true := decide_eq_true (by omega)
 clear hk2 hk3 hq
 have hu := Try.underlying61
 clear h0 hk1 hk4 hv
 go_enter Try.func27, Try.ntmps27
 go_wp2_with (first | ((with_reducible refine gate_dst (N := 9) rfl ?_); refine box_event ?hg (N := 9) ?hd (cs := #[.slice A0 s.length c0, .int .i64 0, .int .u64 0]) (t := 61) ?hr ?_; (case hd => rfl); (case hg => rfl); (case hr => first | (go_simp; done) | (go_simp; rfl)); intro g1 hg w6 hbox hb; have HI : Aside0 (IsS61 w w6 g1 s 0 0) := ⟨⟨A0, c0, hbox, by rw [hg]; exact Nat.le_refl _, H0.out⟩⟩; have HB := aMe hb; clear hg hbox hb))
 have GL := aMe (IsS61.lt HI.out)
 refine (spec_l1Cur_valued.calls k1 g1 s 0 0 o v a1 d1 w w6 HI.out HB.out HK1.out).mono ?_
 rintro e w7 ⟨v0, v1, rfl, hN, hR, hi, hb, _⟩
 obtain ⟨gv, cv, ev, hgv, _⟩ := Kd.R_form hR (by have := HV.out; omega)
 subst ev
 obtain ⟨Ao, co, eo⟩ := Kd.N_slice hN
 subst eo
 have GV := aMe hgv
 have HR : Aside0 (Kd.R (Kd.int .i64) 3 w7 w6.heap.size (fun k => w6.heap.size ≤ k ∧ k ≠ g1) (.slice (some ⟨gv, 0, none⟩) v.length cv) v) := ⟨Kd.R_mono hR (fun k hk => ⟨hk, by have := GL.out; omega⟩)⟩
 have HI2 := aMe hi
 have HB2 := aMe hb
 have LW := aMe HB.out.size
 clear hN hR hb hi hgv HI HB
 go_wp2_with fail
 refine (spec_l1Cur_pick.calls g1 s a1 d1 24 1 a2 d2 w w7 HI2.out HB2.out HK2.out).mono ?_
 rintro e w8 ⟨rfl, hi, hb, hk⟩
 have HR2 := aMe (Kd.R_keep HR.out hk (fun _ h => h.2))
 have HI3 := aMe hi
 have HB3 := aMe hb
 clear hi hb hk HI2 HB2 HR
 go_wp2_with fail
 refine (spec_l1Cur_pick.calls g1 s a2 d2 2 y a3 d3 w w8 HI3.out HB3.out HK3.out).mono ?_
 rintro e w9 ⟨rfl, hi, hb, hk⟩
 have HIb := aMe hi
 have HBb := aMe hb
 clear hi hb hk HI3 HB3 HR2
 go_wp2_with (first | ((with_reducible refine gate_dst (N := 29) rfl ?_); refine Kd.R_make (Kd.int .i64) _ 3 rfl (N := 29) rfl 33 _ _ rfl (q : Int) rfl rfl Try.underlying33 (.int .i64 0) 8 inf3 rfl (by decide) (by omega) 0 (ok := fun _ => True) (okp := fun _ => True) rfl (fun _ hk => hk) trivial (by omega) (by have := HQ.out; omega) (Below.refl _ _) (Nat.le_refl _) ?_; intro vb wc ho8 hb hg_ hnew_; clear hg_ hnew_; rw [Int.toNat_natCast] at ho8; have HO := aMe ho8; have HBc := aMe (below_step HBb.out hb); have HIc := aMe (IsS61.below HIb.out hb); have GC := aMe (IsS61.lt HIb.out); have HR9 : Aside0 (Kd.R (Kd.int .i64) 3 wc w9.heap.size (fun k => w9.heap.size ≤ k ∧ k ≠ g1) vb (List.replicate q (0 : Int))) := ⟨Kd.R_mono (Kd.R_bound HO.out) (fun k hk => ⟨hk.2.1, by have := hk.2.1; have := GC.out; omega⟩)⟩; obtain ⟨Am, cm, em⟩ := Kd.R_slice HR9.out; rw [List.length_replicate] at em; subst em; clear hb ho8 HIb HBb))
 have HI9 := HIc
 have HB9 := HBc
 clear HIc HBc HO
 have el : (List.replicate q (0 : Int)).length = q := List.length_replicate
 rw [el] at HK4
 clear el hm1 hm2 q0 q1_
 refine (spec_l1Cur_some.calls k4 g1 s a3 d3 (q : Int) l a4 d4 w _ HI9.out HB9.out HK4.out).mono ?_
 rintro e wz ⟨vl, rfl, ho, hi, hb, hkp⟩
 have HR9z := aMe (Kd.R_keep HR9.out hkp (fun _ h => h.2))
 obtain ⟨A', c', rfl⟩ := Kd.R_slice ho
 have HP := aMe ho
 have HBz := aMe hb
 clear ho hb hi hkp HI9 HB9 HR9
 go_wp2_with fail
 go_ret2
 have el : (List.replicate q (0 : Int)).length = q := List.length_replicate
 exact ⟨Am, cm, A', c', by rw [el]; rfl, ⟨(Kd.R_reads' HR9z.out).2.2, by have := (Kd.R_reads' HR9z.out).2.1; rw [el]; exact this⟩, ⟨(Kd.R_reads' HP.out).2.2, (Kd.R_reads' HP.out).2.1⟩, HBz.out⟩
/-- spec.DrawValueOf -/
theorem drawVal (s : List Int) (hs : Bytes s) : ∃ v l : List Int, (v.length ≤ 250 ∧ l.length ≤ 1000) ∧ ∀ (A0 : Option Addr) (c0 : Nat) (w : World), Kd.C (Kd.int .u8) w A0 s.length s → s.length ≤ c0 →
  Calls Try.prog 27 #[.slice A0 s.length c0] w (ValPost w v l) := by
 obtain ⟨⟨o, v, a1, d1⟩, hev, hv, ha1, ha1'⟩ := valued_tl hs 0 0 (by omega)
 simp only at hv ha1 ha1'
 obtain ⟨k1, hk1⟩ := hev.rounds
 obtain ⟨⟨x, a2, d2⟩, hk2, hx0, hx1, hp2, hp2'⟩ := pick_some hs a1 d1 24 (by omega)
 simp only at hx0 hx1 hp2 hp2'
 by_cases h0 : x = 0
 ·subst h0
  obtain ⟨⟨z, a3, d3⟩, hev3, hz, hp3, hp3'⟩ := among_tl hs a2 d2 [-1000000, 1000000, 1000001, -1000001] (by simp) (by omega)
  simp only at hp3 hp3'
  obtain ⟨_, hk3⟩ := hev3.rounds
  obtain ⟨⟨l, a4, d4⟩, hev4, hl, _⟩ := some_tl hs (v.set 0 z).length (by rw [List.length_set]; omega) a3 d3 (by omega)
  simp only at hl
  obtain ⟨k4, hk4⟩ := hev4.rounds
  rw [List.length_set] at hl
  exact ⟨v.set 0 z, l, ⟨by rw [List.length_set]; omega, by omega⟩, fun A0 c0 w h0 e0 => val_set s hs o v l a1 d1 0 a2 d2 a4 d4 z a3 d3 hk2 hk3 k1 k4 hk1 hk4 hv A0 c0 w h0 e0⟩
 by_cases h1 : x = 1
 ·subst h1
  obtain ⟨⟨y, a3, d3⟩, hk3, hy0, hy1, hp3, hp3'⟩ := pick_some hs a2 d2 2 (by omega)
  simp only at hy0 hy1 hp3 hp3'
  obtain ⟨q, hq⟩ := Int.eq_ofNat_of_zero_le (show 0 ≤ 120 + y by omega)
  obtain ⟨⟨l, a4, d4⟩, hev4, hl, _⟩ := some_tl hs (List.replicate q (0 : Int)).length (by rw [List.length_replicate]; omega) a3 d3 (by omega)
  simp only at hl
  obtain ⟨k4, hk4⟩ := hev4.rounds
  rw [List.length_replicate] at hl
  exact ⟨List.replicate q (0 : Int), l, ⟨by rw [List.length_replicate]; omega, by omega⟩, fun A0 c0 w h0 e0 => val_make s hs o v l a1 d1 1 a2 d2 a4 d4 y a3 d3 q hk2 hk3 (by omega) k1 k4 hk1 hk4 hv A0 c0 w h0 e0⟩
 ·obtain ⟨⟨l, a4, d4⟩, hev4, hl, _⟩ := some_tl hs v.length (by omega) a2 d2 (by omega)
  simp only at hl
  obtain ⟨k4, hk4⟩ := hev4.rounds
  exact ⟨v, l, ⟨by omega, by omega⟩, fun A0 c0 w h0' e0 => val_same s hs o v l a1 d1 x a2 d2 a4 d4 hk2 ⟨h0, h1⟩ k1 k4 hk1 hk4 hv A0 c0 w h0' e0⟩
end Go.Proofs.Ytbhlffakpneecaa.DrawCone
