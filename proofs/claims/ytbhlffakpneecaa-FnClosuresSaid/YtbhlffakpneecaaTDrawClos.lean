/- What the drawing functions of the law FnClosures tell: arcs with one list or two. -/
import Derived.Test.YtbhlffakpneecaaTDrawAny
import Derived.Test.YtbhlffakpneecaaTClosLaw
import Derived.Test.YtbhlffakpneecaaTMFnClosuresx5
import Derived.Test.YtbhlffakpneecaaTMFnClosuresx5
import Derived.Test.YtbhlffakpneecaaTMFnClosuresx0
namespace Go.Proofs.Ytbhlffakpneecaa.DrawClos
open Go.RowKit Go.Proofs.Ytbhlffakpneecaa.PFnClosures Go.Proofs.YtbhlffakpneecaaW.PrintWords Go.Proofs.YtbhlffakpneecaaW.PrintLast Go.Proofs.YtbhlffakpneecaaW.PrintMore Go.Proofs.Ytbhlffakpneecaa.B Go.Proofs.Ytbhlffakpneecaa.DrawArcs Go.Proofs.Ytbhlffakpneecaa.DrawAny Go.Proofs.Ytbhlffakpneecaa.ClosLaw
set_option linter.unusedVariables false
set_option linter.unusedSimpArgs false
theorem aMs:type_of% @Aside0.mk:=@Aside0.mk
theorem zlos_0 {P:Prop} (h:P:=by rw [List.length_append, List.length_singleton]; omega):P:=h
theorem zlos_1 {P:Prop} (h:P:=by rw [hg]; exact Nat.le_refl _):P:=h
theorem zlos_2 {P:Prop} (h:P:=by rw [List.length_append, List.length_singleton]; have := HX.out; omega):P:=h
def LisP (a n : Int) (m : Nat) (r : List Int × Int × Int) : Prop := r.1.length ≤ m ∧ a ≤ r.2.1 ∧ r.2.1 ≤ a + n
theorem LisP.up {a n b q : Int} {m m' : Nat} {r : List Int × Int × Int} (h : LisP b q m r) (hm : m ≤ m') (h1 : a ≤ b) (h2 : b + q ≤ a + n) : LisP a n m' r := by
 unfold LisP at *
 omega
theorem some_l1 (s : List Int) (n : Int) (a d : Int) : ∀ (q : Nat) (l : List Int) (x : Int), 0 ≤ x → n ≤ x + q → n ≤ 20000 → l.length + q ≤ 100000 → Tl (fun k => spec_l1Cur_some.l1 k n l x s a d) (LisP a 0 (l.length + q)) := by
 intro q
 induction q with
 | zero =>
  intro l x h0 h1 h2 h3
  exact Tl.step (fun k => spec_l1Cur_some.l1.eq_2 n l x s a d k) (Tl.neg (by omega) (Tl.now ⟨by show l.length ≤ _; omega, Int.le_refl _, by show a ≤ a + 0; omega⟩))
 | succ q ih =>
  intro l x h0 h1 h2 h3
  refine Tl.step (fun k => spec_l1Cur_some.l1.eq_2 n l x s a d k) (Tl.ite (fun c => Tl.pos (by omega) ?_) (fun c => Tl.now ⟨by show l.length ≤ _; omega, Int.le_refl _, by show a ≤ a + 0; omega⟩))
  rw [show wrap64 (x + 1) = x + 1 from w64 (by omega) (by omega)]
  exact (ih _ (x + 1) (by omega) (by omega) h2 (zlos_0)).mono (fun r h => h.up (zlos_0) (by omega) (by omega))
theorem some_l0 {s : List Int} (hs : Bytes s) (n : Nat) (hn : n ≤ 10001) : ∀ (q : Nat) (l : List Int) (x a d : Int), x + q = n → 0 ≤ x → l.length + q ≤ 50000 → At a (288230376151711744 - 4 * (q : Int)) → Tl (fun k => spec_l1Cur_some.l0 k (n : Int) l x s a d) (LisP a (10 + 4 * q) (l.length + q + n + 1)) := by
 intro q
 induction q with
 | zero =>
  intro l x a d h1 h0 hl ha
  refine Tl.step (fun k => spec_l1Cur_some.l0.eq_2 _ l x s a d k) (Tl.neg (by omega) (Tl.bind (pick_tl hs _ _ 24 (by omega) (by omega)) (fun r p => Tl.ite (fun c => ?_) (fun c => Tl.ite (fun c => ?_) (fun c => ?_)))))
  ·refine Tl.bind (among_tl hs _ _ _ (by simp) (by omega)) (fun r3 p3 => Tl.pos (by omega) (Tl.now ?_))
   exact ⟨zlos_0, by show a ≤ r3.2.1; omega, by show r3.2.1 ≤ _; omega⟩
  ·exact (some_l1 s n _ _ n [] 0 (by omega) (by omega) (by omega) (by simp only [List.length_nil]; omega)).mono (fun r h => h.up (by simp only [List.length_nil]; omega) (by omega) (by omega))
  ·exact Tl.now ⟨by show l.length ≤ _; omega, by show a ≤ r.2.1; omega, by show r.2.1 ≤ _; omega⟩
 | succ q ih =>
  intro l x a d h1 h0 hl ha
  have hw : wrap64 (x + 1) = x + 1 := w64 (by omega) (by omega)
  refine Tl.step (fun k => spec_l1Cur_some.l0.eq_2 _ l x s a d k) (Tl.pos (by omega) (Tl.bind (one_tl hs _ _ 3 (by omega)) (fun r p => Tl.ite (fun c => Tl.pos (by omega) ?_) (fun c => ?_))))
  ·rw [hw]
   exact (ih _ (x + 1) r.2.1 r.2.2 (by omega) (by omega) (zlos_0) (by omega)).mono (fun r3 h => h.up (zlos_0) (by omega) (by omega))
  ·rw [hw]
   exact (ih _ (x + 1) r.2.1 r.2.2 (by omega) (by omega) (by omega) (by omega)).mono (fun r3 h => h.up (by omega) (by omega) (by omega))
theorem some_tl {s : List Int} (hs : Bytes s) (n : Nat) (hn : n ≤ 10001) (a d : Int) (ha : At a 288230376151000000) : Tl (fun k => spec_l1Cur_some.f k s a d (n : Int)) (LisP a 50000 (2 * n + 1)) := by
 unfold spec_l1Cur_some.f
 exact (some_l0 hs n hn n [] 0 a d (by omega) (by omega) (by simp only [List.length_nil]; omega) (by omega)).mono (fun r h => h.up (by simp only [List.length_nil]; omega) (by omega) (by omega))
/-- closure of arcs: some list of bounded length -/
theorem closure_tl {s : List Int} (hs : Bytes s) (o : List (List Int)) (ho : o.length ≤ 250) (hb : ∀ x ∈ o, x.length ≤ 250) (a d : Int) (ha : At a 280000000000000000) : Tl (fun k => spec_l1Cur_closure.f k s a d o) (fun r => r.1.length ≤ 1000 ∧ a ≤ r.2.1 ∧ r.2.1 ≤ a + 60000) := by
 unfold spec_l1Cur_closure.f
 refine Tl.bind (some_tl hs o.length (by omega) a d (by omega)) (fun r hr => ?_)
 obtain ⟨h1, h2, h3⟩ := hr
 refine Tl.bind (Tl.ev (P := fun b => b = (arcsOk o && asc r.1 o.length)) (clBlocks_ev o (maxLen_val (by omega)) (fun x hx => maxLen_val (by have := hb x hx; omega)) r.1 (maxLen_val (by omega))) rfl) (fun b hb2 => Tl.ite (fun c => ?_) (fun c => ?_))
 ·subst hb2
  rw [Bool.and_eq_true] at c
  refine Tl.bind (one_tl hs _ _ 12 (by omega)) (fun r2 p2 => Tl.ite (fun c2 => ?_) (fun c2 => ?_))
  ·exact Tl.now ⟨by show r.1.length ≤ 1000; omega, by show a ≤ r2.2.1; omega, by show r2.2.1 ≤ _; omega⟩
  ·refine Tl.bind (Tl.ev (P := fun l => l = listOf (clo o (mk o.length r.1))) (clLeast_ev o (arcsOk_iff.1 c.1) r.1 (by omega) (fun x hx => asc_mem c.2 hx)) rfl) (fun l hl => Tl.now ⟨?_, by show a ≤ r2.2.1; omega, by show r2.2.1 ≤ _; omega⟩)
   subst hl
   have := listOf_len (m := clo o (mk o.length r.1))
   rw [clo_len, mk_len] at this
   show (listOf _).length ≤ 1000
   omega
 ·exact Tl.now ⟨by show r.1.length ≤ 1000; omega, by show a ≤ r.2.1; omega, by show r.2.1 ≤ _; omega⟩
abbrev TwoPost (w : World) (r : List (List Int)) (l : List Int) (e : Ending) (w' : World) : Prop := ∃ A c A' c', e = .returned (.tuple #[.slice A r.length c, .slice A' l.length c']) ∧ (Kd.C kSS w' A r.length r ∧ r.length ≤ c) ∧ (Kd.C (Kd.int .i64) w' A' l.length l ∧ l.length ≤ c') ∧ Below w.heap.size w w'
abbrev ThreePost (w : World) (r : List (List Int)) (l m : List Int) (e : Ending) (w' : World) : Prop := ∃ A c A' c' A'' c'', e = .returned (.tuple #[.slice A r.length c, .slice A' l.length c', .slice A'' m.length c'']) ∧ (Kd.C kSS w' A r.length r ∧ r.length ≤ c) ∧ (Kd.C (Kd.int .i64) w' A' l.length l ∧ l.length ≤ c') ∧ (Kd.C (Kd.int .i64) w' A'' m.length m ∧ m.length ≤ c'') ∧ Below w.heap.size w w'
set_option maxHeartbeats 8000000 in
set_option maxRecDepth 100000 in
theorem drawNext (s : List Int) (hs : Bytes s) : ∃ (r : List (List Int)) (l : List Int), (r.length ≤ 250 ∧ ∀ x ∈ r, x.length ≤ 250) ∧ l.length ≤ 1000 ∧ ∀ (A0 : Option Addr) (c0 : Nat) (w : World), Kd.C (Kd.int .u8) w A0 s.length s → s.length ≤ c0 →
  Calls Try.prog 35 #[.slice A0 s.length c0] w (TwoPost w r l) := by
 obtain ⟨r, a1, d1, hr, ha1, hany⟩ := anyArcs_told hs 0 0 (by omega)
 obtain ⟨⟨l, a2, d2⟩, hev, hl, _⟩ := closure_tl hs r hr.1 hr.2 a1 d1 (by omega)
 simp only at hl
 obtain ⟨k1, hk1⟩ := hev.rounds
 refine ⟨r, l, hr, hl, fun A0 c0 w h0 e0 => ?_⟩
 have HA := aMs hany
 have H0 := aMs h0
 have HK1 := aMs hk1
 have hu := Try.underlying61
 clear hany h0 hr ha1 hk1 hl hev
 go_enter Try.func35, Try.ntmps35
 go_wp2_with (first | ((with_reducible refine gate_dst (N := 8) rfl ?_); refine box_event ?hg (N := 8) ?hd (cs := #[.slice A0 s.length c0, .int .i64 0, .int .u64 0]) (t := 61) ?hr ?_; (case hd => rfl); (case hg => rfl); (case hr => first | (go_simp; done) | (go_simp; rfl)); intro g1 hg w6 hbox hb; have HI : Aside0 (IsS61 w w6 g1 s 0 0) := ⟨⟨A0, c0, hbox, zlos_1, H0.out⟩⟩; have HB := aMs hb; clear hg hbox hb))
 have GL := aMs (IsS61.lt HI.out)
 refine (HA.out g1 w w6 HI.out HB.out).mono ?_
 rintro e w7 ⟨v, rfl, hN, hi, hb, _⟩
 obtain ⟨A, c, rfl⟩ := Kd.N_slice hN
 have HN := aMs (Kd.N_mono hN (ok' := fun k => k ≠ g1) (fun k hk => by have := GL.out; omega))
 have HI2 := aMs hi
 have HB2 := aMs hb
 clear hN hb hi HI HB
 go_wp2_with fail
 refine (spec_l1Cur_closure.calls k1 g1 s a1 d1 A c r l a2 d2 w w7 HI2.out HB2.out (fun W_ hW => (Kd.N_reads' (Kd.N_keep HN.out hW (fun _ h => h))).2.2) (Kd.N_reads' HN.out).2.1 HK1.out).mono ?_
 rintro e w8 ⟨v, rfl, ho, hi, hb, hk⟩
 obtain ⟨A', c', rfl⟩ := Kd.R_slice ho
 have HN2 := aMs (Kd.N_keep HN.out hk (fun _ h => h))
 have HR := aMs ho
 have HB3 := aMs hb
 clear ho hi hb hk HI2 HB2 HN
 go_wp2_with fail
 go_ret2
 exact ⟨A, c, A', c', rfl, ⟨(Kd.N_reads' HN2.out).2.2, (Kd.N_reads' HN2.out).2.1⟩, ⟨(Kd.R_reads' HR.out).2.2, (Kd.R_reads' HR.out).2.1⟩, HB3.out⟩
set_option maxHeartbeats 8000000 in
set_option maxRecDepth 100000 in
theorem drawJoin (s : List Int) (hs : Bytes s) : ∃ (r : List (List Int)) (l m : List Int), (r.length ≤ 250 ∧ ∀ x ∈ r, x.length ≤ 250) ∧ (l.length ≤ 1000 ∧ m.length ≤ 1000) ∧ ∀ (A0 : Option Addr) (c0 : Nat) (w : World), Kd.C (Kd.int .u8) w A0 s.length s → s.length ≤ c0 →
  Calls Try.prog 40 #[.slice A0 s.length c0] w (ThreePost w r l m) := by
 obtain ⟨r, a1, d1, hr, ha1, hany⟩ := anyArcs_told hs 0 0 (by omega)
 obtain ⟨⟨l, a2, d2⟩, hev, hl, hp, hp'⟩ := closure_tl hs r hr.1 hr.2 a1 d1 (by omega)
 simp only at hl hp hp'
 obtain ⟨⟨m, a3, d3⟩, hev2, hm, _⟩ := closure_tl hs r hr.1 hr.2 a2 d2 (by omega)
 simp only at hm
 obtain ⟨k1, hk1⟩ := hev.rounds
 obtain ⟨k2, hk2⟩ := hev2.rounds
 refine ⟨r, l, m, hr, ⟨hl, hm⟩, fun A0 c0 w h0 e0 => ?_⟩
 have HA := aMs hany
 have H0 := aMs h0
 have HK1 := aMs hk1
 have HK2 := aMs hk2
 have hu := Try.underlying61
 clear hany h0 hr ha1 hk1 hk2 hl hm hp hp' hev hev2
 go_enter Try.func40, Try.ntmps40
 go_wp2_with (first | ((with_reducible refine gate_dst (N := 9) rfl ?_); refine box_event ?hg (N := 9) ?hd (cs := #[.slice A0 s.length c0, .int .i64 0, .int .u64 0]) (t := 61) ?hr ?_; (case hd => rfl); (case hg => rfl); (case hr => first | (go_simp; done) | (go_simp; rfl)); intro g1 hg w6 hbox hb; have HI : Aside0 (IsS61 w w6 g1 s 0 0) := ⟨⟨A0, c0, hbox, zlos_1, H0.out⟩⟩; have HB := aMs hb; clear hg hbox hb))
 have GL := aMs (IsS61.lt HI.out)
 refine (HA.out g1 w w6 HI.out HB.out).mono ?_
 rintro e w7 ⟨v, rfl, hN, hi, hb, _⟩
 obtain ⟨A, c, rfl⟩ := Kd.N_slice hN
 have HN := aMs (Kd.N_mono hN (ok' := fun k => k ≠ g1) (fun k hk => by have := GL.out; omega))
 have HI2 := aMs hi
 have HB2 := aMs hb
 clear hN hb hi HI HB
 go_wp2_with fail
 refine (spec_l1Cur_closure.calls k1 g1 s a1 d1 A c r l a2 d2 w w7 HI2.out HB2.out (fun W_ hW => (Kd.N_reads' (Kd.N_keep HN.out hW (fun _ h => h))).2.2) (Kd.N_reads' HN.out).2.1 HK1.out).mono ?_
 rintro e w8 ⟨v, rfl, ho, hi, hb, hk⟩
 have HR := aMs (IsS61.apart hi ho (by decide))
 obtain ⟨A', c', rfl⟩ := Kd.R_slice ho
 have HN2 := aMs (Kd.N_keep HN.out hk (fun _ h => h))
 have HI3 := aMs hi
 have HB3 := aMs hb
 clear ho hi hb hk HI2 HB2 HN
 go_wp2_with fail
 refine (spec_l1Cur_closure.calls k2 g1 s a2 d2 A c r m a3 d3 w w8 HI3.out HB3.out (fun W_ hW => (Kd.N_reads' (Kd.N_keep HN2.out hW (fun _ h => h))).2.2) (Kd.N_reads' HN2.out).2.1 HK2.out).mono ?_
 rintro e w9 ⟨v, rfl, ho, hi, hb, hk⟩
 obtain ⟨A'', c'', rfl⟩ := Kd.R_slice ho
 have HN3 := aMs (Kd.N_keep HN2.out hk (fun _ h => h))
 have HR2 := aMs (Kd.R_keep HR.out hk (fun _ h => h.2))
 have HP := aMs ho
 have HB4 := aMs hb
 clear ho hi hb hk HI3 HB3 HN2 HR
 go_wp2_with fail
 go_ret3
 exact ⟨A, c, A', c', A'', c'', rfl, ⟨(Kd.N_reads' HN3.out).2.2, (Kd.N_reads' HN3.out).2.1⟩, ⟨(Kd.R_reads' HR2.out).2.2, (Kd.R_reads' HR2.out).2.1⟩, ⟨(Kd.R_reads' HP.out).2.2, (Kd.R_reads' HP.out).2.1⟩, HB4.out⟩
set_option maxHeartbeats 8000000 in
set_option maxRecDepth 100000 in
theorem is_some (s : List Int) (hs : Bytes s) (r : List (List Int)) (l : List Int) (a1 d1 a2 d2 a3 d3 : Int) (k2 : Nat) (hany : ∀ (g : Nat) (w0 w : World), IsS61 w0 w g s 0 0 → Below w0.heap.size w0 w → Calls Try.prog 52 #[.pointer (some ⟨g, 0, none⟩)] w (AnyPost w0 w g s r a1 d1)) (hk1 : spec_l1Cur_one.f s a1 d1 2 = some (true, a2, d2)) (hk2 : spec_l1Cur_some.f k2 s a2 d2 (r.length : Int) = some (l, a3, d3)) (A0 : Option Addr) (c0 : Nat) (w : World) (h0 : Kd.C (Kd.int .u8) w A0 s.length s) (e0 : s.length ≤ c0) :
  Calls Try.prog 73 #[.slice A0 s.length c0] w (TwoPost w r l) := by
 have HA := aMs hany
 have H0 := aMs h0
 have HK1 := aMs hk1
 have HK2 := aMs hk2
 have hu := Try.underlying61
 clear hany h0 hk1 hk2
 go_enter Try.func73, Try.ntmps73
 go_wp2_with (first | ((with_reducible refine gate_dst (N := 8) rfl ?_); refine box_event ?hg (N := 8) ?hd (cs := #[.slice A0 s.length c0, .int .i64 0, .int .u64 0]) (t := 61) ?hr ?_; (case hd => rfl); (case hg => rfl); (case hr => first | (go_simp; done) | (go_simp; rfl)); intro g1 hg w6 hbox hb; have HI : Aside0 (IsS61 w w6 g1 s 0 0) := ⟨⟨A0, c0, hbox, zlos_1, H0.out⟩⟩; have HB := aMs hb; clear hg hbox hb))
 have GL := aMs (IsS61.lt HI.out)
 refine (HA.out g1 w w6 HI.out HB.out).mono ?_
 rintro e w7 ⟨v, rfl, hN, hi, hb, _⟩
 obtain ⟨A, c, rfl⟩ := Kd.N_slice hN
 have HN := aMs (Kd.N_mono hN (ok' := fun k => k ≠ g1) (fun k hk => by have := GL.out; omega))
 have HI2 := aMs hi
 have HB2 := aMs hb
 clear hN hb hi HI HB
 go_wp2_with fail
 refine (spec_l1Cur_one.calls g1 s a1 d1 2 true a2 d2 w w7 HI2.out HB2.out HK1.out).mono ?_
 rintro e w8 ⟨rfl, hi, hb, hk⟩
 have HN2 := aMs (Kd.N_keep HN.out hk (fun _ h => h))
 have HI3 := aMs hi
 have HB3 := aMs hb
 clear hi hb hk HI2 HB2 HN
 go_wp2_with fail
 refine (spec_l1Cur_some.calls k2 g1 s a2 d2 (r.length : Int) l a3 d3 w w8 HI3.out HB3.out HK2.out).mono ?_
 rintro e w9 ⟨v, rfl, ho, hi, hb, hk⟩
 obtain ⟨A', c', rfl⟩ := Kd.R_slice ho
 have HN3 := aMs (Kd.N_keep HN2.out hk (fun _ h => h))
 have HP := aMs ho
 have HB4 := aMs hb
 clear ho hi hb hk HI3 HB3 HN2
 go_wp2_with fail
 go_ret2
 exact ⟨A, c, A', c', rfl, ⟨(Kd.N_reads' HN3.out).2.2, (Kd.N_reads' HN3.out).2.1⟩, ⟨(Kd.R_reads' HP.out).2.2, (Kd.R_reads' HP.out).2.1⟩, HB4.out⟩
set_option maxHeartbeats 8000000 in
set_option maxRecDepth 100000 in
theorem is_clo (s : List Int) (hs : Bytes s) (r : List (List Int)) (l : List Int) (a1 d1 a2 d2 a3 d3 : Int) (k2 : Nat) (hany : ∀ (g : Nat) (w0 w : World), IsS61 w0 w g s 0 0 → Below w0.heap.size w0 w → Calls Try.prog 52 #[.pointer (some ⟨g, 0, none⟩)] w (AnyPost w0 w g s r a1 d1)) (hk1 : spec_l1Cur_one.f s a1 d1 2 = some (false, a2, d2)) (hk2 : spec_l1Cur_closure.f k2 s a2 d2 r = some (l, a3, d3)) (A0 : Option Addr) (c0 : Nat) (w : World) (h0 : Kd.C (Kd.int .u8) w A0 s.length s) (e0 : s.length ≤ c0) :
  Calls Try.prog 73 #[.slice A0 s.length c0] w (TwoPost w r l) := by
 have HA := aMs hany
 have H0 := aMs h0
 have HK1 := aMs hk1
 have HK2 := aMs hk2
 have hu := Try.underlying61
 clear hany h0 hk1 hk2
 go_enter Try.func73, Try.ntmps73
 go_wp2_with (first | ((with_reducible refine gate_dst (N := 8) rfl ?_); refine box_event ?hg (N := 8) ?hd (cs := #[.slice A0 s.length c0, .int .i64 0, .int .u64 0]) (t := 61) ?hr ?_; (case hd => rfl); (case hg => rfl); (case hr => first | (go_simp; done) | (go_simp; rfl)); intro g1 hg w6 hbox hb; have HI : Aside0 (IsS61 w w6 g1 s 0 0) := ⟨⟨A0, c0, hbox, zlos_1, H0.out⟩⟩; have HB := aMs hb; clear hg hbox hb))
 have GL := aMs (IsS61.lt HI.out)
 refine (HA.out g1 w w6 HI.out HB.out).mono ?_
 rintro e w7 ⟨v, rfl, hN, hi, hb, _⟩
 obtain ⟨A, c, rfl⟩ := Kd.N_slice hN
 have HN := aMs (Kd.N_mono hN (ok' := fun k => k ≠ g1) (fun k hk => by have := GL.out; omega))
 have HI2 := aMs hi
 have HB2 := aMs hb
 clear hN hb hi HI HB
 go_wp2_with fail
 refine (spec_l1Cur_one.calls g1 s a1 d1 2 false a2 d2 w w7 HI2.out HB2.out HK1.out).mono ?_
 rintro e w8 ⟨rfl, hi, hb, hk⟩
 have HN2 := aMs (Kd.N_keep HN.out hk (fun _ h => h))
 have HI3 := aMs hi
 have HB3 := aMs hb
 clear hi hb hk HI2 HB2 HN
 go_wp2_with fail
 refine (spec_l1Cur_closure.calls k2 g1 s a2 d2 A c r l a3 d3 w w8 HI3.out HB3.out (fun W_ hW => (Kd.N_reads' (Kd.N_keep HN2.out hW (fun _ h => h))).2.2) (Kd.N_reads' HN2.out).2.1 HK2.out).mono ?_
 rintro e w9 ⟨v, rfl, ho, hi, hb, hk⟩
 obtain ⟨A', c', rfl⟩ := Kd.R_slice ho
 have HN3 := aMs (Kd.N_keep HN2.out hk (fun _ h => h))
 have HP := aMs ho
 have HB4 := aMs hb
 clear ho hi hb hk HI3 HB3 HN2
 go_wp2_with fail
 go_ret2
 exact ⟨A, c, A', c', rfl, ⟨(Kd.N_reads' HN3.out).2.2, (Kd.N_reads' HN3.out).2.1⟩, ⟨(Kd.R_reads' HP.out).2.2, (Kd.R_reads' HP.out).2.1⟩, HB4.out⟩
theorem drawIs (s : List Int) (hs : Bytes s) : ∃ (r : List (List Int)) (l : List Int), (r.length ≤ 250 ∧ ∀ x ∈ r, x.length ≤ 250) ∧ l.length ≤ 1000 ∧ ∀ (A0 : Option Addr) (c0 : Nat) (w : World), Kd.C (Kd.int .u8) w A0 s.length s → s.length ≤ c0 →
  Calls Try.prog 73 #[.slice A0 s.length c0] w (TwoPost w r l) := by
 obtain ⟨r, a1, d1, hr, ha1, hany⟩ := anyArcs_told hs 0 0 (by omega)
 obtain ⟨⟨b, a2, d2⟩, hev, hp, hp'⟩ := one_tl hs a1 d1 2 (by omega)
 simp only at hp hp'
 obtain ⟨_, hk1⟩ := hev.rounds
 cases b with
 | true =>
  obtain ⟨⟨l, a3, d3⟩, hev2, hl, _⟩ := some_tl hs r.length (by omega) a2 d2 (by omega)
  simp only at hl
  obtain ⟨k2, hk2⟩ := hev2.rounds
  exact ⟨r, l, hr, by omega, fun A0 c0 w h0 e0 => is_some s hs r l a1 d1 a2 d2 a3 d3 k2 hany hk1 hk2 A0 c0 w h0 e0⟩
 | false =>
  obtain ⟨⟨l, a3, d3⟩, hev2, hl, _⟩ := closure_tl hs r hr.1 hr.2 a2 d2 (by omega)
  simp only at hl
  obtain ⟨k2, hk2⟩ := hev2.rounds
  exact ⟨r, l, hr, hl, fun A0 c0 w h0 e0 => is_clo s hs r l a1 d1 a2 d2 a3 d3 k2 hany hk1 hk2 A0 c0 w h0 e0⟩
theorem drawLeast (s : List Int) (hs : Bytes s) : ∃ (r : List (List Int)) (l : List Int), (r.length ≤ 250 ∧ ∀ x ∈ r, x.length ≤ 250) ∧ l.length ≤ 1000 ∧ ∀ (A0 : Option Addr) (c0 : Nat) (w : World), Kd.C (Kd.int .u8) w A0 s.length s → s.length ≤ c0 →
  Calls Try.prog 30 #[.slice A0 s.length c0] w (TwoPost w r l) := by
 obtain ⟨r, l, h1, h2, h⟩ := drawIs s hs
 refine ⟨r, l, h1, h2, fun A0 c0 w h0 e0 => ?_⟩
 have HH := aMs (h A0 c0 w h0 e0)
 clear h h0 e0 h1 h2
 go_enter Try.func30, Try.ntmps30
 go_wp2_with fail
 refine HH.out.mono ?_
 rintro e w7 ⟨A, c, A', c', rfl, h1, h2, h3⟩
 have HQ := aMs h1
 have HR := aMs h2
 have HB2 := aMs h3
 clear h1 h2 h3 HH
 go_wp2_with fail
 go_ret2
 exact ⟨A, c, A', c', rfl, HQ.out, HR.out, HB2.out⟩
/-- the drawing of CountClosures -/
abbrev CntPost (w : World) (e : Ending) (w' : World) : Prop := ∃ (r : List (List Int)), ∃ A c, e = .returned (.slice A r.length c) ∧ (r.length ≤ 250 ∧ ∀ x ∈ r, x.length ≤ 250) ∧ (Kd.C kSS w' A r.length r ∧ r.length ≤ c) ∧ Below w.heap.size w w'
set_option maxHeartbeats 16000000 in
set_option maxRecDepth 100000 in
theorem cnt_short (s : List Int) (hs : Bytes s) (r : List (List Int)) (a1 d1 a2 d2 : Int) (hr : r.length ≤ 250 ∧ ∀ x ∈ r, x.length ≤ 250) (h15 : r.length ≤ 15) (hany : ∀ (g : Nat) (w0 w : World), IsS61 w0 w g s 0 0 → Below w0.heap.size w0 w → Calls Try.prog 52 #[.pointer (some ⟨g, 0, none⟩)] w (AnyPost w0 w g s r a1 d1)) (hk1 : spec_l1Cur_one.f s a1 d1 40 = some (false, a2, d2)) (A0 : Option Addr) (c0 : Nat) (w : World) (h0 : Kd.C (Kd.int .u8) w A0 s.length s) (e0 : s.length ≤ c0) :
  Calls Try.prog 45 #[.slice A0 s.length c0] w (CntPost w) := by
 have HRB := aMs hr
 have t15 : decide (15 < (r.length : Int)) = false := decide_eq_false (by omega)
 clear hr h15
 have HA := aMs hany
 have H0 := aMs h0
 have HK1 := aMs hk1
 have hu := Try.underlying61
 clear hany h0 hk1
 go_enter Try.func45, Try.ntmps45
 go_wp2_with (first | ((with_reducible refine gate_dst (N := 9) rfl ?_); refine box_event ?hg (N := 9) ?hd (cs := #[.slice A0 s.length c0, .int .i64 0, .int .u64 0]) (t := 61) ?hr ?_; (case hd => rfl); (case hg => rfl); (case hr => first | (go_simp; done) | (go_simp; rfl)); intro g1 hg w6 hbox hb; have HI : Aside0 (IsS61 w w6 g1 s 0 0) := ⟨⟨A0, c0, hbox, zlos_1, H0.out⟩⟩; have HB := aMs hb; clear hg hbox hb))
 have GL := aMs (IsS61.lt HI.out)
 refine (HA.out g1 w w6 HI.out HB.out).mono ?_
 rintro e w7 ⟨v, rfl, hN, hi, hb, _⟩
 obtain ⟨A, c, rfl⟩ := Kd.N_slice hN
 have HN := aMs (Kd.N_mono hN (ok' := fun k => k ≠ g1) (fun k hk => by have := GL.out; omega))
 have HI2 := aMs hi
 have HB2 := aMs hb
 clear hN hb hi HI HB
 go_wp2_with fail
 refine (spec_l1Cur_one.calls g1 s a1 d1 40 false a2 d2 w w7 HI2.out HB2.out HK1.out).mono ?_
 rintro e w8 ⟨rfl, hi, hb, hk⟩
 have HN2 := aMs (Kd.N_keep HN.out hk (fun _ h => h))
 have HI3 := aMs hi
 have HB3 := aMs hb
 clear hi hb hk HI2 HB2 HN
 go_wp2_with fail
 go_ret
 exact ⟨r, A, c, rfl, HRB.out, ⟨(Kd.N_reads' HN2.out).2.2, (Kd.N_reads' HN2.out).2.1⟩, HB3.out⟩
set_option maxHeartbeats 16000000 in
set_option maxRecDepth 100000 in
theorem cnt_whole (s : List Int) (hs : Bytes s) (r : List (List Int)) (a1 d1 a2 d2 a3 d3 : Int) (hr : r.length ≤ 250 ∧ ∀ x ∈ r, x.length ≤ 250) (h15 : 15 < r.length) (hany : ∀ (g : Nat) (w0 w : World), IsS61 w0 w g s 0 0 → Below w0.heap.size w0 w → Calls Try.prog 52 #[.pointer (some ⟨g, 0, none⟩)] w (AnyPost w0 w g s r a1 d1)) (hk1 : spec_l1Cur_one.f s a1 d1 40 = some (false, a2, d2)) (hk2 : spec_l1Cur_one.f s a2 d2 30 = some (true, a3, d3)) (A0 : Option Addr) (c0 : Nat) (w : World) (h0 : Kd.C (Kd.int .u8) w A0 s.length s) (e0 : s.length ≤ c0) :
  Calls Try.prog 45 #[.slice A0 s.length c0] w (CntPost w) := by
 have HRB := aMs hr
 have H15 := aMs h15
 have HK2 := aMs hk2
 have t15 : decide (15 < (r.length : Int)) = true := decide_eq_true (by omega)
 clear hr h15 hk2
 have HA := aMs hany
 have H0 := aMs h0
 have HK1 := aMs hk1
 have hu := Try.underlying61
 clear hany h0 hk1
 go_enter Try.func45, Try.ntmps45
 go_wp2_with (first | ((with_reducible refine gate_dst (N := 9) rfl ?_); refine box_event ?hg (N := 9) ?hd (cs := #[.slice A0 s.length c0, .int .i64 0, .int .u64 0]) (t := 61) ?hr ?_; (case hd => rfl); (case hg => rfl); (case hr => first | (go_simp; done) | (go_simp; rfl)); intro g1 hg w6 hbox hb; have HI : Aside0 (IsS61 w w6 g1 s 0 0) := ⟨⟨A0, c0, hbox, zlos_1, H0.out⟩⟩; have HB := aMs hb; clear hg hbox hb))
 have GL := aMs (IsS61.lt HI.out)
 refine (HA.out g1 w w6 HI.out HB.out).mono ?_
 rintro e w7 ⟨v, rfl, hN, hi, hb, _⟩
 obtain ⟨A, c, rfl⟩ := Kd.N_slice hN
 have HN := aMs (Kd.N_mono hN (ok' := fun k => k ≠ g1) (fun k hk => by have := GL.out; omega))
 have HI2 := aMs hi
 have HB2 := aMs hb
 clear hN hb hi HI HB
 go_wp2_with fail
 refine (spec_l1Cur_one.calls g1 s a1 d1 40 false a2 d2 w w7 HI2.out HB2.out HK1.out).mono ?_
 rintro e w8 ⟨rfl, hi, hb, hk⟩
 have HN2 := aMs (Kd.N_keep HN.out hk (fun _ h => h))
 have HI3 := aMs hi
 have HB3 := aMs hb
 clear hi hb hk HI2 HB2 HN
 go_wp2_with fail
 refine (spec_l1Cur_one.calls g1 s a2 d2 30 true a3 d3 w w8 HI3.out HB3.out HK2.out).mono ?_
 rintro e w9 ⟨rfl, hi, hb, hk⟩
 have HN3 := aMs (Kd.N_keep HN2.out hk (fun _ h => h))
 have HB4 := aMs hb
 clear hi hb hk HI3 HB3 HN2
 go_wp2_with fail
 go_ret
 exact ⟨r, A, c, rfl, HRB.out, ⟨(Kd.N_reads' HN3.out).2.2, (Kd.N_reads' HN3.out).2.1⟩, HB4.out⟩
set_option maxHeartbeats 16000000 in
set_option maxRecDepth 100000 in
theorem cnt_cut (s : List Int) (hs : Bytes s) (r : List (List Int)) (a1 d1 a2 d2 a3 d3 : Int) (hr : r.length ≤ 250 ∧ ∀ x ∈ r, x.length ≤ 250) (h15 : 15 < r.length) (hany : ∀ (g : Nat) (w0 w : World), IsS61 w0 w g s 0 0 → Below w0.heap.size w0 w → Calls Try.prog 52 #[.pointer (some ⟨g, 0, none⟩)] w (AnyPost w0 w g s r a1 d1)) (hk1 : spec_l1Cur_one.f s a1 d1 40 = some (false, a2, d2)) (hk2 : spec_l1Cur_one.f s a2 d2 30 = some (false, a3, d3)) (A0 : Option Addr) (c0 : Nat) (w : World) (h0 : Kd.C (Kd.int .u8) w A0 s.length s) (e0 : s.length ≤ c0) :
  Calls Try.prog 45 #[.slice A0 s.length c0] w (CntPost w) := by
 have HRB := aMs hr
 have H15 := aMs h15
 have HK2 := aMs hk2
 have t15 : decide (15 < (r.length : Int)) = true := decide_eq_true (by omega)
 clear hr h15 hk2
 have HA := aMs hany
 have H0 := aMs h0
 have HK1 := aMs hk1
 have hu := Try.underlying61
 clear hany h0 hk1
 go_enter Try.func45, Try.ntmps45
 go_wp2_with (first | ((with_reducible refine gate_dst (N := 9) rfl ?_); refine box_event ?hg (N := 9) ?hd (cs := #[.slice A0 s.length c0, .int .i64 0, .int .u64 0]) (t := 61) ?hr ?_; (case hd => rfl); (case hg => rfl); (case hr => first | (go_simp; done) | (go_simp; rfl)); intro g1 hg w6 hbox hb; have HI : Aside0 (IsS61 w w6 g1 s 0 0) := ⟨⟨A0, c0, hbox, zlos_1, H0.out⟩⟩; have HB := aMs hb; clear hg hbox hb))
 have GL := aMs (IsS61.lt HI.out)
 refine (HA.out g1 w w6 HI.out HB.out).mono ?_
 rintro e w7 ⟨v, rfl, hN, hi, hb, _⟩
 obtain ⟨A, c, rfl⟩ := Kd.N_slice hN
 have HN := aMs (Kd.N_mono hN (ok' := fun k => k ≠ g1) (fun k hk => by have := GL.out; omega))
 have HI2 := aMs hi
 have HB2 := aMs hb
 clear hN hb hi HI HB
 go_wp2_with fail
 refine (spec_l1Cur_one.calls g1 s a1 d1 40 false a2 d2 w w7 HI2.out HB2.out HK1.out).mono ?_
 rintro e w8 ⟨rfl, hi, hb, hk⟩
 have HN2 := aMs (Kd.N_keep HN.out hk (fun _ h => h))
 have HI3 := aMs hi
 have HB3 := aMs hb
 clear hi hb hk HI2 HB2 HN
 go_wp2_with fail
 refine (spec_l1Cur_one.calls g1 s a2 d2 30 false a3 d3 w w8 HI3.out HB3.out HK2.out).mono ?_
 rintro e w9 ⟨rfl, hi, hb, hk⟩
 have HN3 := aMs (Kd.N_keep HN2.out hk (fun _ h => h))
 have HB4 := aMs hb
 clear hi hb hk HI3 HB3 HN2
 have hcap := (Kd.N_reads' HN3.out).2.1
 have t16 : decide ((15 : Int) ≤ (c : Int)) = true := decide_eq_true (by have := H15.out; omega)
 have t17 := eq_true (show (15 : Int) ≤ (c : Int) by have := H15.out; omega)
 have t18 := eq_true (show 15 ≤ c by have := H15.out; omega)
 have HCAP := aMs hcap
 clear hcap
 go_wp2_with fail
 go_ret
 have e15 : (r.take 15).length = 15 := by rw [List.length_take]; have := H15.out; omega
 have hT := Kd.N_take (m := 15) HN3.out (by have := H15.out; omega)
 have hC := (Kd.N_reads' hT).2.2
 rw [e15] at hC
 exact ⟨r.take 15, A, c, by rw [e15]; rfl, ⟨by rw [e15]; omega, fun x hx => HRB.out.2 x (List.mem_of_mem_take hx)⟩, ⟨by rw [e15]; exact hC, by rw [e15]; have := H15.out; have := HCAP.out; omega⟩, HB4.out⟩
set_option maxHeartbeats 16000000 in
set_option maxRecDepth 100000 in
theorem cnt_loop (s : List Int) (hs : Bytes s) (r : List (List Int)) (a1 d1 a2 d2 y a3 d3 : Int) (n : Nat) (hn : (n : Int) = 20 + y ∧ n ≤ 30) (ha3 : At a3 10000) (hany : ∀ (g : Nat) (w0 w : World), IsS61 w0 w g s 0 0 → Below w0.heap.size w0 w → Calls Try.prog 52 #[.pointer (some ⟨g, 0, none⟩)] w (AnyPost w0 w g s r a1 d1)) (hk1 : spec_l1Cur_one.f s a1 d1 40 = some (true, a2, d2)) (hk2 : spec_l1Cur_pick.f s a2 d2 2 = some (y, a3, d3)) (A0 : Option Addr) (c0 : Nat) (w : World) (h0 : Kd.C (Kd.int .u8) w A0 s.length s) (e0 : s.length ≤ c0) :
  Calls Try.prog 45 #[.slice A0 s.length c0] w (CntPost w) := by
 have HQ := aMs hn
 have HA3 := aMs ha3
 have HK2 := aMs hk2
 have hm1 : wrap64 (20 + y) = (n : Int) := by rw [w64 (by omega) (by omega)]; omega
 have hm2 : IntKind.i64.wrap (20 + y) = (n : Int) := (i64_w _).trans hm1
 clear hn ha3 hk2
 have HA := aMs hany
 have H0 := aMs h0
 have HK1 := aMs hk1
 have hu := Try.underlying61
 clear hany h0 hk1
 go_enter Try.func45, Try.ntmps45
 go_wp2_with (first | ((with_reducible refine gate_dst (N := 9) rfl ?_); refine box_event ?hg (N := 9) ?hd (cs := #[.slice A0 s.length c0, .int .i64 0, .int .u64 0]) (t := 61) ?hr ?_; (case hd => rfl); (case hg => rfl); (case hr => first | (go_simp; done) | (go_simp; rfl)); intro g1 hg w6 hbox hb; have HI : Aside0 (IsS61 w w6 g1 s 0 0) := ⟨⟨A0, c0, hbox, zlos_1, H0.out⟩⟩; have HB := aMs hb; clear hg hbox hb))
 have GL := aMs (IsS61.lt HI.out)
 refine (HA.out g1 w w6 HI.out HB.out).mono ?_
 rintro e w7 ⟨v, rfl, hN, hi, hb, _⟩
 obtain ⟨A, c, rfl⟩ := Kd.N_slice hN
 have HN := aMs (Kd.N_mono hN (ok' := fun k => k ≠ g1) (fun k hk => by have := GL.out; omega))
 have HI2 := aMs hi
 have HB2 := aMs hb
 clear hN hb hi HI HB
 go_wp2_with fail
 refine (spec_l1Cur_one.calls g1 s a1 d1 40 true a2 d2 w w7 HI2.out HB2.out HK1.out).mono ?_
 rintro e w8 ⟨rfl, hi, hb, hk⟩
 have HN2 := aMs (Kd.N_keep HN.out hk (fun _ h => h))
 have HI3 := aMs hi
 have HB3 := aMs hb
 clear hi hb hk HI2 HB2 HN
 go_wp2_with fail
 refine (spec_l1Cur_pick.calls g1 s a2 d2 2 y a3 d3 w w8 HI3.out HB3.out HK2.out).mono ?_
 rintro e w9 ⟨rfl, hi, hb, hk⟩
 have HI4 := aMs hi
 have HB4 := aMs hb
 have G1 := aMs (IsS61.ge hi)
 clear hi hb hk HI3 HB3 HN2
 go_wp2_with fail
 clear hm1 hm2
 go_loopg [4] n (fun d v4 wr => ∃ (rows : List (List Int)) (po sd : Int), Aside0 ((rows.length + d = n ∧ At po (20000 - 10 * (d : Int))) ∧ ∀ x ∈ rows, x.length ≤ 1) ∧ Aside0 (Kd.N kSS 33 wr w.heap.size (fun k => w.heap.size ≤ k ∧ k ≠ g1) v4 rows) ∧ Aside0 (IsS61 w wr g1 s po sd) ∧ Aside0 (Below w.heap.size w wr))
 case atStart => exact ⟨[], a3, d3, ⟨⟨by simp, by have := HA3.out; have := HQ.out; omega⟩, by simp⟩, ⟨Kd.N_nil _ _ _ _ _⟩, HI4, HB4⟩
 case round =>
  clear HI4 HB4
  obtain ⟨rows, po, sd, HX, HNr, HIr, HBr⟩ := hrel
  obtain ⟨Ar, cr, ev⟩ := Kd.N_slice HNr.out
  subst ev
  cases gk with
  | zero =>
   have tl : decide ((rows.length : Int) < (n : Int)) = false := decide_eq_false (by have := HX.out; omega)
   have tl' : decide (rows.length < n) = false := decide_eq_false (by have := HX.out; omega)
   go_wp2_with fail
   go_ret
   exact ⟨rows, Ar, cr, rfl, ⟨by have := HX.out; have := HQ.out; omega, fun x hx => by have := HX.out.2 x hx; omega⟩, ⟨(Kd.N_reads' HNr.out).2.2, (Kd.N_reads' HNr.out).2.1⟩, HBr.out⟩
  | succ d =>
   have tl : decide ((rows.length : Int) < (n : Int)) = true := decide_eq_true (by have := HX.out; omega)
   have tl' : decide (rows.length < n) = true := decide_eq_true (by have := HX.out; omega)
   by_cases h0 : rows.length = 0
   ·have tz : decide (0 < (rows.length : Int)) = false := decide_eq_false (by omega)
    have tz' : decide (0 < rows.length) = false := decide_eq_false (by omega)
    have HP : Aside0 (po ≤ po ∧ po ≤ po + 2) := ⟨by omega⟩
    clear h0
    have HR6 : Aside0 (Kd.R (Kd.int .i64) 3 wr w.heap.size (fun k => (w.heap.size ≤ k ∧ k ≠ g1) ∧ some k ≠ (Value.slice Ar rows.length cr).ownBlock) (.slice none 0 0) ([] : List Int)) := ⟨Kd.R_nil _ _ _ _ _⟩
    go_wp2_with (first | ((with_reducible refine gate_builtin (b := .append) (xs := #[.tmp 34, .tmp 36]) rfl ?_); at_builtin; refine Kd.N_append kSS (w0 := w) w.heap.size rfl (.tmp 34) (.tmp 36) 22 33 (.slice none 0 0) 24 rfl Try.underlying22 inf24 rfl (by decide) (by omega) (.slice Ar rows.length cr) rows ([] : List Int) [.slice none 0 0] (fun k => w.heap.size ≤ k ∧ k ≠ g1) (fun k => (w.heap.size ≤ k ∧ k ≠ g1) ∧ some k ≠ (Value.slice Ar rows.length cr).ownBlock) rfl rfl ?aP (fun _ hk => hk) ?aF ?aO ?aB ?aS ?aL ?_; (case aP => exact Kd.FK_slice_mk (Kd.R_reads' HR6.out).2.1 (Kd.R_F HR6.out)); (case aF => exact fun k hk => ⟨Nat.le_trans HBr.out.size hk, IsS61.fresh HIr.out k hk⟩); (case aO => exact HNr.out); (case aB => exact HBr.out); (case aS => exact HBr.out.size); (case aL => have := HX.out; have := HQ.out; omega); intro v8 wn ho hb hg hat; have n0_ := aMs (IsS61.grown HIr.out hg (IsS61.own_neN HIr.out HNr.out (by decide))); have n1_ := aMs hb; have n2_ := aMs ho; clear ho hb hg hat HNr HIr HBr HR6))
    go_roundg d
    case measure => omega
    case rel => exact ⟨rows ++ [([] : List Int)], po, sd, ⟨⟨zlos_2, by have := HP.out; have := HX.out; omega⟩, fun y hy => by
     rw [List.mem_append, List.mem_singleton] at hy
     rcases hy with hy | hy
     ·exact HX.out.2 y hy
     ·subst hy; simp⟩, n2_, n0_, n1_⟩
   ·have tz : decide (0 < (rows.length : Int)) = true := decide_eq_true (by omega)
    have tz' : decide (0 < rows.length) = true := decide_eq_true (by omega)
    obtain ⟨⟨b, po2, sd2⟩, hev, hp, hp'⟩ := one_tl hs po sd 2 (by have := HX.out; omega)
    simp only at hp hp'
    obtain ⟨_, hkb⟩ := hev.rounds
    have HP := aMs (And.intro hp hp')
    have HKB := aMs hkb
    obtain ⟨x, hx⟩ : ∃ x, x = wrap64 ((rows.length : Int) - 1) := ⟨_, rfl⟩
    have hx1 := hx.symm
    have hx2 : IntKind.i64.wrap ((rows.length : Int) - 1) = x := (i64_w _).trans hx1
    clear hev hp hp' hkb hx h0
    go_wp2_with fail
    refine (spec_l1Cur_one.calls g1 s po sd 2 b po2 sd2 w wr HIr.out HBr.out HKB.out).mono ?_
    rintro e wy ⟨rfl, hi, hb, hk⟩
    have n0_ := aMs (Kd.N_keep HNr.out hk (fun _ h => h.2))
    have n1_ := aMs hi
    have n2_ := aMs hb
    clear HNr HIr HBr hi hb hk
    have HNr := n0_
    have HIr := n1_
    have HBr := n2_
    clear n0_ n1_ n2_
    cases b with
    | false =>
     have HR6 : Aside0 (Kd.R (Kd.int .i64) 3 wy w.heap.size (fun k => (w.heap.size ≤ k ∧ k ≠ g1) ∧ some k ≠ (Value.slice Ar rows.length cr).ownBlock) (.slice none 0 0) ([] : List Int)) := ⟨Kd.R_nil _ _ _ _ _⟩
     go_wp2_with (first | ((with_reducible refine gate_builtin (b := .append) (xs := #[.tmp 34, .tmp 36]) rfl ?_); at_builtin; refine Kd.N_append kSS (w0 := w) w.heap.size rfl (.tmp 34) (.tmp 36) 22 33 (.slice none 0 0) 24 rfl Try.underlying22 inf24 rfl (by decide) (by omega) (.slice Ar rows.length cr) rows ([] : List Int) [.slice none 0 0] (fun k => w.heap.size ≤ k ∧ k ≠ g1) (fun k => (w.heap.size ≤ k ∧ k ≠ g1) ∧ some k ≠ (Value.slice Ar rows.length cr).ownBlock) rfl rfl ?aP (fun _ hk => hk) ?aF ?aO ?aB ?aS ?aL ?_; (case aP => exact Kd.FK_slice_mk (Kd.R_reads' HR6.out).2.1 (Kd.R_F HR6.out)); (case aF => exact fun k hk => ⟨Nat.le_trans HBr.out.size hk, IsS61.fresh HIr.out k hk⟩); (case aO => exact HNr.out); (case aB => exact HBr.out); (case aS => exact HBr.out.size); (case aL => have := HX.out; have := HQ.out; omega); intro v8 wn ho hb hg hat; have n0_ := aMs (IsS61.grown HIr.out hg (IsS61.own_neN HIr.out HNr.out (by decide))); have n1_ := aMs hb; have n2_ := aMs ho; clear ho hb hg hat HNr HIr HBr HR6))
     go_roundg d
     case measure => omega
     case rel => exact ⟨rows ++ [([] : List Int)], po2, sd2, ⟨⟨zlos_2, by have := HP.out; have := HX.out; omega⟩, fun y hy => by
      rw [List.mem_append, List.mem_singleton] at hy
      rcases hy with hy | hy
      ·exact HX.out.2 y hy
      ·subst hy; simp⟩, n2_, n0_, n1_⟩
    | true =>
     go_wp2_with (first | ((with_reducible refine gate_builtin (b := .append) (xs := #[.tmp 28, .tmp 32]) rfl ?_); at_builtin; refine Kd.R_append (Kd.int .i64) (w0 := w) w.heap.size rfl (.tmp 28) (.tmp 32) 33 3 (.int .i64 0) 8 rfl Try.underlying33 inf3 rfl (by decide) (by omega) (.slice none 0 0) [] x [.int .i64 x] (fun k => (w.heap.size ≤ k ∧ k ≠ g1) ∧ some k ≠ (Value.slice Ar rows.length cr).ownBlock) (fun _ => False) rfl rfl ?aP (fun _ hk => hk.elim) ?aF ?aO ?aB ?aS ?aL ?_; (case aP => exact rfl); (case aF => exact fun k hk => ⟨⟨Nat.le_trans HBr.out.size hk, IsS61.fresh HIr.out k hk⟩, fun e_ => by have := Kd.N_lt HNr.out k e_.symm; omega⟩); (case aO => exact Kd.R_nil _ _ _ _ _); (case aB => exact HBr.out); (case aS => exact HBr.out.size); (case aL => simp); intro v7 wz ho hb hg hat; have n0_ := aMs (Kd.N_grown HNr.out hg (fun k _ => by simp [Value.ownBlock])); have n1_ := aMs (IsS61.grown HIr.out hg (by simp [Value.ownBlock])); have n2_ := aMs hb; obtain ⟨A6, c6, e6⟩ := Kd.R_slice ho; replace e6 : v7 = .slice A6 1 c6 := e6; subst e6; have HR6 : Aside0 (Kd.R (Kd.int .i64) 3 wz w.heap.size (fun k => (w.heap.size ≤ k ∧ k ≠ g1) ∧ some k ≠ (Value.slice Ar rows.length cr).ownBlock) (.slice A6 1 c6) [x]) := ⟨ho⟩; clear ho hb hg hat HNr HIr HBr; have HNr := n0_; have HIr := n1_; have HBr := n2_; clear n0_ n1_ n2_) | ((with_reducible refine gate_builtin (b := .append) (xs := #[.tmp 34, .tmp 36]) rfl ?_); at_builtin; refine Kd.N_append kSS (w0 := w) w.heap.size rfl (.tmp 34) (.tmp 36) 22 33 (.slice none 0 0) 24 rfl Try.underlying22 inf24 rfl (by decide) (by omega) (.slice Ar rows.length cr) rows [x] [.slice A6 1 c6] (fun k => w.heap.size ≤ k ∧ k ≠ g1) (fun k => (w.heap.size ≤ k ∧ k ≠ g1) ∧ some k ≠ (Value.slice Ar rows.length cr).ownBlock) rfl rfl ?aP (fun _ hk => hk) ?aF ?aO ?aB ?aS ?aL ?_; (case aP => exact Kd.FK_slice_mk (Kd.R_reads' HR6.out).2.1 (Kd.R_F HR6.out)); (case aF => exact fun k hk => ⟨Nat.le_trans HBr.out.size hk, IsS61.fresh HIr.out k hk⟩); (case aO => exact HNr.out); (case aB => exact HBr.out); (case aS => exact HBr.out.size); (case aL => have := HX.out; have := HQ.out; omega); intro v8 wn ho hb hg hat; have n0_ := aMs (IsS61.grown HIr.out hg (IsS61.own_neN HIr.out HNr.out (by decide))); have n1_ := aMs hb; have n2_ := aMs ho; clear ho hb hg hat HNr HIr HBr HR6))
     go_roundg d
     case measure => omega
     case rel => exact ⟨rows ++ [[x]], po2, sd2, ⟨⟨zlos_2, by have := HP.out; have := HX.out; omega⟩, fun y hy => by
      rw [List.mem_append, List.mem_singleton] at hy
      rcases hy with hy | hy
      ·exact HX.out.2 y hy
      ·subst hy; simp⟩, n2_, n0_, n1_⟩
/-- spec.DrawCountClosures -/
theorem drawCount (s : List Int) (hs : Bytes s) : ∀ (A0 : Option Addr) (c0 : Nat) (w : World), Kd.C (Kd.int .u8) w A0 s.length s → s.length ≤ c0 →
  Calls Try.prog 45 #[.slice A0 s.length c0] w (CntPost w) := by
 intro A0 c0 w h0 e0
 obtain ⟨r, a1, d1, hr, ha1, hany⟩ := anyArcs_told hs 0 0 (by omega)
 obtain ⟨⟨b, a2, d2⟩, hev, hp, hp'⟩ := one_tl hs a1 d1 40 (by omega)
 simp only at hp hp'
 obtain ⟨_, hk1⟩ := hev.rounds
 cases b with
 | true =>
  obtain ⟨⟨y, a3, d3⟩, hk2, hy0, hy1, hp3, hp3'⟩ := pick_some hs a2 d2 2 (by omega)
  simp only at hy0 hy1 hp3 hp3'
  obtain ⟨n, hn⟩ := Int.eq_ofNat_of_zero_le (show 0 ≤ 20 + y by omega)
  exact cnt_loop s hs r a1 d1 a2 d2 y a3 d3 n (by omega) (by omega) hany hk1 hk2 A0 c0 w h0 e0
 | false =>
  by_cases h15 : 15 < r.length
  ·obtain ⟨⟨b3, a3, d3⟩, hev2, _⟩ := one_tl hs a2 d2 30 (by omega)
   obtain ⟨_, hk2⟩ := hev2.rounds
   cases b3 with
   | true => exact cnt_whole s hs r a1 d1 a2 d2 a3 d3 hr h15 hany hk1 hk2 A0 c0 w h0 e0
   | false => exact cnt_cut s hs r a1 d1 a2 d2 a3 d3 hr h15 hany hk1 hk2 A0 c0 w h0 e0
  ·exact cnt_short s hs r a1 d1 a2 d2 hr (by omega) hany hk1 A0 c0 w h0 e0
end Go.Proofs.Ytbhlffakpneecaa.DrawClos
