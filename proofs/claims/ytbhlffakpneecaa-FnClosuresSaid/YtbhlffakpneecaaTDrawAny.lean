/- What anyArcs tells: rows of bounded lengths; by hand. -/
import Derived.Test.YtbhlffakpneecaaTDrawArcs
import Derived.Test.YtbhlffakpneecaaTWKept
namespace Go.Proofs.Ytbhlffakpneecaa.DrawAny
open Go.RowKit Go.Proofs.Ytbhlffakpneecaa.PFnClosures Go.Proofs.YtbhlffakpneecaaW.PrintWords Go.Proofs.YtbhlffakpneecaaW.PrintLast Go.Proofs.YtbhlffakpneecaaW.PrintMore Go.Proofs.Ytbhlffakpneecaa.B Go.Proofs.Ytbhlffakpneecaa.DrawArcs
set_option linter.unusedVariables false
set_option linter.unusedSimpArgs false
theorem aMy:type_of% @Aside0.mk:=@Aside0.mk
theorem uAy:type_of% @List.setIfInBounds_toArray.{0}:=@List.setIfInBounds_toArray.{0}
theorem uBy:type_of% @List.set_cons_zero.{0}:=@List.set_cons_zero.{0}
theorem uCy:type_of% @List.set_cons_succ.{0}:=@List.set_cons_succ.{0}
abbrev kSS : Kd (List Int) := Kd.slice 3 (Kd.int .i64)
theorem inf3 : (Try.prog.info? 3).map (fun i => (i.zero, i.size, i.bytes)) = some (some (.int .i64 0), 1, 8) := by kernel_rfl
theorem inf24 : (Try.prog.info? 33).map (fun i => (i.zero, i.size, i.bytes)) = some (some (.slice none 0 0), 1, 24) := by kernel_rfl
/-- Row i, lent: its value, its own region, and what becomes of all rows once it has been appended to and laid back. -/
theorem row_push {W : World} {b g n cap : Nat} {ok : Nat → Prop} {rows : List (List Int)} (h : Kd.S kSS 33 W b ok (.slice (some ⟨g, 0, none⟩) n cap) rows) (i : Int) (h0 : 0 ≤ i) (h1 : i < n) (hfresh : ∀ k, W.heap.size ≤ k → ok k) :
  ∃ v : Value, W.cell? ⟨g, i.toNat, none⟩ = some v ∧ W.frozen? ⟨g, i.toNat, none⟩ = false ∧ (∃ oki : Nat → Prop, (∀ k, oki k → ok k ∧ k ≠ g) ∧ Kd.R (Kd.int .i64) 3 W b oki v (rows.getD i.toNat [])) ∧
   ∀ (W1 : World) (v1 : Value) (x : List Int), (∀ k, ok k → k < W.heap.size → some k ≠ v.ownBlock → W1.heap[k]? = W.heap[k]?) → (v1.ownBlock = v.ownBlock ∨ ∃ k, v1.ownBlock = some k ∧ W.heap.size ≤ k) → Kd.R (Kd.int .i64) 3 W1 b (fun _ => True) v1 x →
    W1.cell? ⟨g, i.toNat, none⟩ = some v ∧ W1.frozen? ⟨g, i.toNat, none⟩ = false ∧ Kd.S kSS 33 (W1.setCell ⟨g, i.toNat, none⟩ v1) b ok (.slice (some ⟨g, 0, none⟩) n cap) (rows.set i.toNat x) := by
 have hgl : g < W.heap.size := Kd.R_lt (Kd.S_R h) g rfl
 have hS : Kd.S kSS 33 W b (fun k => ok k ∧ ¬ (fun k => W.heap.size ≤ k) k) (.slice (some ⟨g, 0, none⟩) n cap) rows := Kd.S_mono (Kd.S_bound h) (fun k hk => ⟨hk.1, by have := hk.2.2.1; show ¬ W.heap.size ≤ k; omega⟩)
 obtain ⟨oki, c, hcl, hM, hcc, hfr, hoki, hH⟩ := Kd.S_elem hS [] i h0 h1
 obtain ⟨v, rfl, hR⟩ := hM
 have hcc0 := hcc 0 _ rfl
 have hfr0 := hfr 0
 simp only [show kSS.sz = 1 from rfl, Nat.mul_one, Nat.add_zero] at hcc0 hfr0
 refine ⟨v, hcc0, hfr0, ⟨oki, fun k hk => ⟨(hoki k hk).1.1, (hoki k hk).2⟩, hR⟩, ?_⟩
 intro W1 v1 x hg hat hx
 have hne : some g ≠ v.ownBlock := fun e => (hoki g (hR.1 g e.symm)).2 rfl
 have hcell : W1.cell? ⟨g, i.toNat, none⟩ = W.cell? ⟨g, i.toNat, none⟩ := World.cell?_of_block (hg g ((Kd.S_R h).1 g rfl) hgl hne)
 have hfroz : W1.frozen? ⟨g, i.toNat, none⟩ = W.frozen? ⟨g, i.toNat, none⟩ := World.frozen?_of_block (hg g ((Kd.S_R h).1 g rfl) hgl hne)
 have hH1 := Kd.H_step hH (w1 := W1) (fun k hk1 hk2 hk3 => hg k hk1.1 hk3 (fun e => hk2 (hR.1 k e.symm)))
 have hP := Kd.S_seg hH1 h0 h1 (seg := [v1]) (j := 0) (show 1 ≤ 1 from by decide) (x' := x) (Kd.M_row (Kd.R_mono (Kd.R_tight rfl hx) (ok' := fun k => some k = v1.ownBlock) (fun k hk => hk)))
  (fun k hk => by
   rcases hat with h | ⟨k2, h, h2⟩
   ·exact Or.inl (hR.1 k (by rw [← h]; exact hk.symm))
   ·rw [h] at hk
    injection hk with hk
    subst hk
    exact Or.inr h2)
  (fun k hk => ⟨hfresh k hk, by have : W.heap.size ≤ k := hk; omega⟩)
 simp only [show kSS.sz = 1 from rfl, Nat.mul_one, Nat.add_zero] at hP
 exact ⟨by rw [hcell]; exact hcc0, by rw [hfroz]; exact hfr0, hP.1⟩
def spec_l1Cur_anyArcs_T6 : Bool × List (List Nat × List Nat) := (true, [([], []), ([], []), ([], []), ([], []), ([2, 3], [2, 3]), ([4], [4]), ([], []), ([], []), ([7], [7]), ([6, 8], [6, 8]), ([9], [9]), ([5, 10, 9], [5, 10]), ([0, 1, 0, 1, 2, 3, 4, 5, 6, 7, 8, 9, 10, 11], [0, 1]), ([12, 11, 11, 0, 1, 2, 3, 4, 5, 6, 7, 8, 9, 10, 11], [11, 12])])
def spec_l1Cur_anyArcs_B6 : List Nat := [0, 0, 0, 0, 12, 28, 0, 0, 128, 448, 960, 2044, 4095, 8191]
theorem spec_l1Cur_anyArcs_tab6 : rtab .any (opsOf Try.f52 6) = spec_l1Cur_anyArcs_T6 := by kernel_rfl
theorem spec_l1Cur_anyArcs_bits6 : waitsOk spec_l1Cur_anyArcs_T6.2 spec_l1Cur_anyArcs_B6 = true := by kernel_rfl
abbrev AnyPost (w0 w : World) (g : Nat) (s : List Int) (r : List (List Int)) (a1 d1 : Int) (e : Ending) (w' : World) : Prop :=
 ∃ v : Value, e = .returned v ∧ Kd.N kSS 33 w' w.heap.size (fun k => w.heap.size ≤ k) v r ∧ IsS61 w0 w' g s a1 d1 ∧ Below w0.heap.size w0 w' ∧ KeepBut w w' g none
set_option maxHeartbeats 16000000 in
set_option maxRecDepth 100000 in
theorem any_row (s : List Int) (hs : Bytes s) (a d p1 q1 p2 q2 p3 q3 p4 q4 y z : Int) (o : List (List Int)) (k1 : Nat) (hk1 : spec_l1Cur_arcs.f k1 s a d = some (o, p1, q1)) (hk2 : spec_l1Cur_pick.f s p1 q1 30 = some (0, p2, q2)) (hk3 : spec_l1Cur_pick.f s p2 q2 (o.length : Int) = some (y, p3, q3)) (hk4 : spec_l1Cur_among.f s p3 q3 [y, -1, 0] = some (z, p4, q4))
  (ho : 1 ≤ o.length ∧ o.length ≤ 240) (hb : ∀ x ∈ o, x.length ≤ 240) (hy : 0 ≤ y ∧ y < o.length) (g : Nat) (w0 w : World) (hI : IsS61 w0 w g s a d) (hB : Below w0.heap.size w0 w) :
  Calls Try.prog 52 #[.pointer (some ⟨g, 0, none⟩)] w (AnyPost w0 w g s (o.set y.toNat (o.getD y.toNat [] ++ [z])) p4 q4) := by
 have GL := aMy (IsS61.lt hI)
 have HL := aMy hB.size
 have HI := aMy hI
 have HB := aMy hB
 have HK1 := aMy hk1
 have HK2 := aMy hk2
 have HK3 := aMy hk3
 have HK4 := aMy hk4
 have HO := aMy ho
 have HY := aMy hy
 have HBD := aMy hb
 clear hI hB hk1 hk2 hk3 hk4 ho hy hb
 go_enter Try.func52, Try.ntmps52
 go_wp2_with fail
 refine (spec_l1Cur_arcs.callsS k1 g s a d o p1 q1 w0 w HI.out HB.out HK1.out).mono ?_
 rintro e w1 ⟨v, rfl, hS, hi, hb, hk⟩
 obtain ⟨go, co, ev, hgo, _⟩ := Kd.R_form (Kd.S_R hS) (by have := HO.out; omega)
 subst ev
 have HS : Aside0 (Kd.S kSS 33 w1 w.heap.size (fun k => w.heap.size ≤ k ∧ k ≠ g) (.slice (some ⟨go, 0, none⟩) o.length co) o) := ⟨Kd.S_mono hS (fun k hk => ⟨hk, by have := GL.out; omega⟩)⟩
 have GO := aMy hgo
 have HI1 := aMy hi
 have HB1 := aMy hb
 have HP1 := aMy hk
 clear hS hi hb hk hgo HI HB
 go_wp2_with fail
 refine (spec_l1Cur_pick.calls g s p1 q1 30 0 p2 q2 w0 w1 HI1.out HB1.out HK2.out).mono ?_
 rintro e w2 ⟨rfl, hi, hb, hk⟩
 have n0_ := aMy (Kd.S_keep HS.out hk (fun k h => h.2))
 have HI2 := aMy hi
 have HB2 := aMy hb
 have HP2 := aMy (KeepBut.trans HP1.out hk (.inl rfl))
 clear HS hi hb hk HI1 HB1 HP1
 have HS := n0_
 clear n0_
 go_wp2_with fail
 refine (spec_l1Cur_pick.calls g s p2 q2 (o.length : Int) y p3 q3 w0 w2 HI2.out HB2.out HK3.out).mono ?_
 rintro e w3 ⟨rfl, hi, hb, hk⟩
 have n0_ := aMy (Kd.S_keep HS.out hk (fun k h => h.2))
 have HI3 := aMy hi
 have HB3 := aMy hb
 have HP3 := aMy (KeepBut.trans HP2.out hk (.inl rfl))
 clear HS hi hb hk HI2 HB2 HP2
 have HS := n0_
 clear n0_
 have y0 := HY.out.1
 have y1 := HY.out.2
 have hd0 : decide (0 ≤ y) = true := decide_eq_true y0
 have hd1 : decide (y < (o.length : Int)) = true := decide_eq_true y1
 go_wp2_with fail
 have HS := aMy (Kd.S_drew HS.out)
 have HI := aMy (IsS61.drew HI3.out)
 have HB := aMy (below_drew1 HB3.out)
 have HP := aMy (keep_drew HP3.out)
 clear HI3 HB3 HP3
 obtain ⟨vr_, hcr, hfr, ⟨oki, hoki, hrr⟩, hrp⟩ := row_push HS.out y HY.out.1 HY.out.2 (fun k hk => ⟨Nat.le_trans (keep_size HP.out) hk, IsS61.fresh HI.out k hk⟩)
 have HRR := aMy hrr
 have HRP := aMy hrp
 have HOK := aMy hoki
 clear hrr hrp hoki
 refine start_ (n := 14) (S := fun w' => w'.cell? ⟨go, y.toNat, none⟩ = some (vr_)) (ds := [13]) #[false, false, false, false, false, false, false, false, false, false, false, false, false, false] (by kernel_rfl) rfl rfl (hcr) (fun hHeld => ?_)
 refine with_tabW spec_l1Cur_anyArcs_tab6 spec_l1Cur_anyArcs_bits6 (fun HT_ HW_ => ?_)
 generalize w3.drew = w4 at HS HI HB HP hcr hfr HRR HRP hHeld ⊢
 refine pure_ (i := 0) (N := some 17) (v := ?_) (a' := ?_) #[true, false, false, false, false, false, false, false, false, false, false, false, false, false] rfl rfl (any_of HT_.out (by kernel_rfl)) (fun _ _ _ h => h) (Or.inl ⟨by rfl, ?_⟩) ?_ ?_
 rotate_left
 ·intro w'
  go_simp
  with_reducible rfl
 rotate_left
 ·simp only [Act.put, uAy, uBy, uCy, i64_w, i32_w]
  rfl
 refine pure_ (i := 1) (N := some 18) (v := ?_) (a' := ?_) #[true, true, false, false, false, false, false, false, false, false, false, false, false, false] rfl rfl (any_of HT_.out (by kernel_rfl)) (fun _ _ _ h => h) (Or.inl ⟨by rfl, ?_⟩) ?_ ?_
 rotate_left
 ·intro w'
  go_simp
  with_reducible rfl
 rotate_left
 ·simp only [Act.put, uAy, uBy, uCy, i64_w, i32_w]
  rfl
 refine pure_ (i := 2) (N := some 19) (v := ?_) (a' := ?_) #[true, true, true, false, false, false, false, false, false, false, false, false, false, false] rfl rfl (any_of HT_.out (by kernel_rfl)) (fun _ _ _ h => h) (Or.inl ⟨by rfl, ?_⟩) ?_ ?_
 rotate_left
 ·intro w'
  go_simp
  with_reducible rfl
 rotate_left
 ·simp only [Act.put, uAy, uBy, uCy, i64_w, i32_w]
  rfl
 refine pure_ (i := 3) (N := some 20) (v := ?_) (a' := ?_) #[true, true, true, true, false, false, false, false, false, false, false, false, false, false] rfl rfl (any_of HT_.out (by kernel_rfl)) (fun _ _ _ h => h) (Or.inl ⟨by rfl, ?_⟩) ?_ ?_
 rotate_left
 ·intro w'
  go_simp
  with_reducible rfl
 rotate_left
 ·simp only [Act.put, uAy, uBy, uCy, i64_w, i32_w]
  rfl
 refine pure_ (i := 4) (N := some 21) (v := ?_) (a' := ?_) #[true, true, true, true, true, false, false, false, false, false, false, false, false, false] rfl rfl (any_of HT_.out (by kernel_rfl)) (fun _ _ _ h => h) (Or.inl ⟨by rfl, ?_⟩) ?_ ?_
 rotate_left
 ·intro w'
  go_simp
  with_reducible rfl
 rotate_left
 ·simp only [Act.put, uAy, uBy, uCy, i64_w, i32_w]
  rfl
 refine pure_ (i := 6) (N := some 23) (v := ?_) (a' := ?_) #[true, true, true, true, true, false, true, false, false, false, false, false, false, false] rfl rfl (any_of HT_.out (by kernel_rfl)) (fun _ _ _ h => h) (Or.inl ⟨by rfl, ?_⟩) ?_ ?_
 rotate_left
 ·intro w'
  go_simp
  with_reducible rfl
 rotate_left
 ·simp only [Act.put, uAy, uBy, uCy, i64_w, i32_w]
  rfl
 refine pure_ (i := 7) (N := some 24) (v := ?_) (a' := ?_) #[true, true, true, true, true, false, true, true, false, false, false, false, false, false] rfl rfl (any_of HT_.out (by kernel_rfl)) (fun _ _ _ h => h) (Or.inl ⟨by rfl, ?_⟩) ?_ ?_
 rotate_left
 ·intro w'
  go_simp
  with_reducible rfl
 rotate_left
 ·simp only [Act.put, uAy, uBy, uCy, i64_w, i32_w]
  rfl
 refine take_ (i := 5) (N := some 22) (v := ?_) (a' := ?_) #[true, true, true, true, true, true, true, true, false, false, false, false, false, false] rfl rfl (take_ofW HT_.out HW_.out (by kernel_rfl)) (fun _ _ _ h => h) (Or.inl ⟨by rfl, ?_⟩) hHeld ?_ ?_
 rotate_left
 ·intro w' s0
  go_simp
  with_reducible rfl
 rotate_left
 ·simp only [Act.put, uAy, uBy, uCy, i64_w, i32_w]
  rfl
 refine one_ (i := 8) (N := some 25) #[true, true, true, true, true, true, true, true, true, false, false, false, false, false] rfl rfl (one_of HT_.out (by kernel_rfl)) (by decide) (fun K hK => ?_)
 refine Kd.R_lit_step (Kd.int .i64) _ 3 (by rfl) (N := 25) rfl (xs := [y, -1, 0]) (inner := [.int .i64 y, .int .i64 (-1), .int .i64 0]) (ok := fun k => w4.heap.size ≤ k) (okp := fun _ => False) ?hr (Kd.reps_scalar [y, -1, 0]) (fun _ hk => hk.elim) (Nat.le_refl _) (Below.refl _ _) (Nat.le_refl _) (by simp) ?_
 (case hr => first | (go_simp; done) | (go_simp; rfl))
 intro vN wn hon hbn hgn_ hnn_
 obtain ⟨gn, cn, eN, gbn, _, _, _⟩ := Kd.R_form hon (by simp)
 subst eN
 have HNW := aMy hon
 have HBN := aMy hbn
 have GN : Aside0 (gn ≠ g) := ⟨by have := IsS61.lt HI.out; omega⟩
 have n0_ := aMy (IsS61.below HI.out hbn)
 have n1_ := aMy (below_step HB.out hbn)
 clear HI HB hon hbn hgn_ hnn_ gbn
 have HI := n0_
 have HB := n1_
 clear n0_ n1_
 have hcr2 := (HBN.out.cell (World.block_lt_of_cell? w4 _ hcr)).trans hcr
 refine hK.out _ _ hcr2 (fun hHeld => ?_)
 clear hK K
 refine norm_ (a' := ?_) ?_ ?_
 rotate_left
 ·show Act.put _ (some 25) _ = _
  simp only [Act.put, uAy, uBy, uCy, i64_w, i32_w]
  rfl
 refine one_ (i := 9) (N := some 26) #[true, true, true, true, true, true, true, true, true, true, false, false, false, false] rfl rfl (one_of HT_.out (by kernel_rfl)) (by decide) (fun K hK => ?_)
 refine goes_ Try.func66 (by kernel_rfl) rfl #[.pointer (some ⟨g, 0, none⟩), .slice (some ⟨gn, 0, none⟩) 3 cn] (by rfl) rfl rfl (by (try simp only [List.map_toArray, List.map_cons, List.map_nil]); first | done | rfl | (simp only [List.length_drop, List.length_take]; rfl)) ?_
 refine (spec_l1Cur_among.calls g s p3 q3 (some ⟨gn, 0, none⟩) cn [y, -1, 0] z p4 q4 w0 wn HI.out HB.out (Kd.R_reads' HNW.out).2.2 (Kd.R_reads' HNW.out).2.1 (fun ad he _ => by injection he with he; subst he; exact GN.out) HK4.out).mono ?_
 rintro e w5 ⟨rfl, hi, hb, hk⟩
 refine ⟨_, rfl, ?_⟩
 have GLW : Aside0 (w4.heap.size ≤ wn.heap.size) := ⟨HBN.out.size⟩
 have n0_ : Aside0 (∀ k, k < w4.heap.size → k ≠ g → w5.heap[k]? = w4.heap[k]?) := ⟨fun k h1 h2 => (hk.2 k (Nat.lt_of_lt_of_le h1 GLW.out) h2 (by simp)).trans (HBN.out.block k h1)⟩
 have n1_ : Aside0 (w4.heap.size ≤ w5.heap.size) := ⟨Nat.le_trans GLW.out hk.1⟩
 have n2_ := aMy hi
 have n3_ := aMy hb
 clear HI HB HNW HBN GN GLW hcr2 hi hb hk
 have HW5 := n0_
 have HZ5 := n1_
 have HI := n2_
 have HB := n3_
 clear n0_ n1_ n2_ n3_
 have GOG : Aside0 (go ≠ g) := ⟨(Kd.S_R HS.out).1 go rfl |>.2⟩
 have GOL : Aside0 (go < w4.heap.size) := ⟨World.block_lt_of_cell? w4 _ hcr⟩
 have hcr3 : w5.cell? ⟨go, y.toNat, none⟩ = some vr_ := (World.cell?_of_block (HW5.out go GOL.out GOG.out)).trans hcr
 refine hK.out _ _ hcr3 (fun hHeld => ?_)
 clear hK K
 refine one_ (i := 10) (N := some 27) #[true, true, true, true, true, true, true, true, true, true, true, false, false, false] rfl rfl (one_of HT_.out (by kernel_rfl)) (by decide) (fun K hK => ?_)
 refine Kd.R_lit_step (Kd.int .i64) _ 3 (by rfl) (N := 27) rfl (xs := [z]) (inner := [.int .i64 z]) (ok := fun k => w5.heap.size ≤ k) (okp := fun _ => False) ?hr (Kd.reps_scalar [z]) (fun _ hk => hk.elim) (Nat.le_refl _) (Below.refl _ _) (Nat.le_refl _) (by simp) ?_
 (case hr => first | (go_simp; done) | (go_simp; rfl))
 intro vM wm hom hbm hgm_ hnm_
 obtain ⟨gm, cm, eM, gbm, _, _, _⟩ := Kd.R_form hom (by simp)
 subst eM
 have HMW := aMy hom
 have n0_ : Aside0 (∀ k, k < w4.heap.size → k ≠ g → wm.heap[k]? = w4.heap[k]?) := ⟨fun k h1 h2 => (hbm.block k (Nat.lt_of_lt_of_le h1 HZ5.out)).trans (HW5.out k h1 h2)⟩
 have n1_ : Aside0 (w4.heap.size ≤ wm.heap.size) := ⟨Nat.le_trans HZ5.out hbm.size⟩
 have n2_ := aMy (IsS61.below HI.out hbm)
 have n3_ := aMy (below_step HB.out hbm)
 clear HI HB HW5 HZ5 hom hbm hgm_ hnm_ gbm hcr3
 have HWM := n0_
 have HZM := n1_
 have HI := n2_
 have HB := n3_
 clear n0_ n1_ n2_ n3_
 have HRM : Aside0 (Kd.R (Kd.int .i64) 3 wm w.heap.size oki vr_ (o.getD y.toNat [])) := ⟨Kd.R_step HRR.out (fun k hk hlt => HWM.out k hlt ((HOK.out k hk).1.2))⟩
 have hcr4 : wm.cell? ⟨go, y.toNat, none⟩ = some vr_ := (World.cell?_of_block (HWM.out go GOL.out GOG.out)).trans hcr
 refine hK.out _ _ hcr4 (fun hHeld => ?_)
 clear hK K
 refine norm_ (a' := ?_) ?_ ?_
 rotate_left
 ·show Act.put _ (some 27) _ = _
  simp only [Act.put, uAy, uBy, uCy, i64_w, i32_w]
  rfl
 refine one_ (i := 11) (N := some 28) #[true, true, true, true, true, true, true, true, true, true, true, true, false, false] rfl rfl (one_of HT_.out (by kernel_rfl)) (by decide) (fun K hK => ?_)
 refine Kd.R_append_rows_step (Kd.int .i64) (Rr := (Kd.int .i64).K wm) (w0 := wm) w.heap.size (by rfl) (.tmp 22) (.tmp 27) 33 3 (.int .i64 0) 8 rfl Try.underlying33 inf3 rfl (by decide) (by omega) vr_ (o.getD y.toNat []) [z] (some ⟨gm, 0, none⟩) 1 cm (fun _ => True) (fun _ => False) (by rfl) (by rfl) (Kd.R_mono HRM.out (fun _ _ => trivial)) (Kd.R_reads' HMW.out).2.2 (fun _ _ h => h) (fun _ hk => hk.elim) (fun _ _ => trivial) (Below.refl _ _) (Nat.le_trans (keep_size HP.out) HZM.out) ?hl ?_
 (case hl => have h1_ := HBD.out _ (getD_mem (z := []) (show y.toNat < o.length by have := HY.out; omega)); have h2_ : ([z] : List Int).length = 1 := rfl; omega)
 intro v1 w7 ho1 hb1 hg1 hat1
 obtain ⟨Ad_, cd_, ev1⟩ := Kd.R_slice ho1
 generalize List.length (_ ++ _) = md_ at ev1
 subst ev1
 have hrb : ∀ k, vr_.ownBlock = some k → oki k := fun k hk => HRR.out.1 k hk
 have hgv : some g ≠ vr_.ownBlock := fun e_ => (HOK.out g (hrb g e_.symm)).1.2 rfl
 obtain ⟨hcp, hfp, hS1⟩ := HRP.out w7 (Value.slice Ad_ md_ cd_) (o.getD y.toNat [] ++ [z]) (fun k h0_ h1_ h2_ => (hg1.block k (Nat.lt_of_lt_of_le h1_ HZM.out) h2_).trans (HWM.out k h1_ h0_.2)) (hat1.elim (fun h => Or.inl h) (fun ⟨k, h1_, h2_⟩ => Or.inr ⟨k, h1_, Nat.le_trans HZM.out h2_⟩)) (Kd.R_mono ho1 (fun _ _ => trivial))
 have HS1 := aMy hS1
 refine hK.out _ _ hcp (fun hHeld => ?_)
 clear hK K
 refine norm_ (a' := ?_) ?_ ?_
 rotate_left
 ·show Act.put _ (some 28) _ = _
  simp only [Act.put, uAy, uBy, uCy, i64_w, i32_w]
  rfl
 refine pure_ (i := 12) (N := some 29) (v := ?_) (a' := ?_) #[true, true, true, true, true, true, true, true, true, true, true, true, true, false] rfl rfl (any_of HT_.out (by kernel_rfl)) (fun _ _ _ h => h) (Or.inl ⟨by rfl, ?_⟩) ?_ ?_
 rotate_left
 ·intro w'
  go_simp
  with_reducible rfl
 rotate_left
 ·simp only [Act.put, uAy, uBy, uCy, i64_w, i32_w]
  rfl
 refine last_ (i := 13) (N := none) #[true, true, true, true, true, true, true, true, true, true, true, true, true, true] rfl rfl (one_of HT_.out (by kernel_rfl)) (by decide) (fun K hK => ?_)
 refine skip_ (w1 := ?_) (by rfl) rfl ?_ ?_
 rotate_left
 ·go_simp
  rfl
 refine hK.out _ _ ?_
 clear hK K
 refine done_ (done_of HT_.out (by kernel_rfl)) ?_
 go_wp2_with fail
 go_ret
 have KP : KeepBut w wm g none := ⟨Nat.le_trans (keep_size HP.out) HZM.out, fun k h1 h2 h3 => (HWM.out k (Nat.lt_of_lt_of_le h1 (keep_size HP.out)) h2).trans (HP.out.2 k h1 h2 h3)⟩
 have KQ : KeepBut w w7 g none := ⟨Nat.le_trans KP.1 hb1.size, fun k h1 h2 h3 => (hb1.block k h1).trans (KP.2 k h1 h2 h3)⟩
 have e1 : (o.set y.toNat (o.getD y.toNat [] ++ [z])).length = o.length := List.length_set
 exact ⟨_, rfl, Kd.N_mono (Kd.S_N HS1.out) (fun k h => h.1), IsS61.far (IsS61.grown HI.out hg1 hgv) (fun e_ => GOG.out e_.symm) _, below_set (below_weaken HB.out HL.out hb1) (Nat.le_trans HL.out GO.out), keep_far KQ GO.out _⟩
theorem replicate_rows (q : Nat) : ∀ x ∈ List.replicate q ([] : List Int), x.length ≤ 250 := by
 intro x hx
 rw [List.eq_of_mem_replicate hx]; simp
set_option maxHeartbeats 16000000 in
set_option maxRecDepth 100000 in
theorem any_make (s : List Int) (hs : Bytes s) (a d p1 q1 p2 q2 p3 q3 y : Int) (q : Nat) (o : List (List Int)) (k1 : Nat) (hk1 : spec_l1Cur_arcs.f k1 s a d = some (o, p1, q1)) (hk2 : spec_l1Cur_pick.f s p1 q1 30 = some (1, p2, q2)) (hk3 : spec_l1Cur_pick.f s p2 q2 2 = some (y, p3, q3))
  (hq : (q : Int) = 120 + y ∧ q ≤ 200) (ho : o.length ≤ 240) (g : Nat) (w0 w : World) (hI : IsS61 w0 w g s a d) (hB : Below w0.heap.size w0 w) :
  Calls Try.prog 52 #[.pointer (some ⟨g, 0, none⟩)] w (AnyPost w0 w g s (List.replicate q []) p3 q3) := by
 have HI := aMy hI
 have HB := aMy hB
 have HK1 := aMy hk1
 have HK2 := aMy hk2
 have HK3 := aMy hk3
 have HQ := aMy hq
 have HO := aMy ho
 have hm1 : wrap64 (120 + y) = (q : Int) := by rw [w64 (by omega) (by omega)]; omega
 have hm2 : IntKind.i64.wrap (120 + y) = (q : Int) := (i64_w _).trans hm1
 have q0 := eq_true (show 0 ≤ (q : Int) by omega)
 have q1_ : decide (0 ≤ (q : Int)) = true := decide_eq_true (by omega)
 have q2_ : decide ((q : Int).toNat ≤ 11728124029610) = true := decide_eq_true (by omega)
 have q3_ := eq_true (show (q : Int).toNat ≤ 11728124029610 by omega)
 clear hI hB hk1 hk2 hk3 hq ho
 go_enter Try.func52, Try.ntmps52
 go_wp2_with fail
 refine (spec_l1Cur_arcs.callsS k1 g s a d o p1 q1 w0 w HI.out HB.out HK1.out).mono ?_
 rintro e w1 ⟨v, rfl, hS, hi, hb, hk⟩
 obtain ⟨Ao, co, ev⟩ := Kd.S_slice hS
 subst ev
 have HI1 := aMy hi
 have HB1 := aMy hb
 have HP1 := aMy hk
 clear hS hi hb hk HI HB
 go_wp2_with fail
 refine (spec_l1Cur_pick.calls g s p1 q1 30 1 p2 q2 w0 w1 HI1.out HB1.out HK2.out).mono ?_
 rintro e w2 ⟨rfl, hi, hb, hk⟩
 have HI2 := aMy hi
 have HB2 := aMy hb
 have HP2 := aMy (KeepBut.trans HP1.out hk (.inl rfl))
 clear hi hb hk HI1 HB1 HP1
 go_wp2_with fail
 refine (spec_l1Cur_pick.calls g s p2 q2 2 y p3 q3 w0 w2 HI2.out HB2.out HK3.out).mono ?_
 rintro e w3 ⟨rfl, hi, hb, hk⟩
 have HI3 := aMy hi
 have HB3 := aMy hb
 have HP3 := aMy (KeepBut.trans HP2.out hk (.inl rfl))
 clear hi hb hk HI2 HB2 HP2
 go_wp2_with (first | ((with_reducible refine gate_dst (N := 35) rfl ?_); refine Kd.S_make kSS _ 33 rfl (N := 35) rfl 22 _ _ rfl (q : Int) rfl rfl Try.underlying22 (.slice none 0 0) 24 inf24 rfl (by decide) (by omega) [] (ok := fun _ => True) (okp := fun _ => True) ⟨_, rfl, Kd.R_nil _ _ _ _ _⟩ (fun _ hk => hk) trivial (by omega) (by have := HQ.out; omega) (Below.refl _ _) (Nat.le_refl _) ?_; intro v1 w4 ho hb hg_ hnew_; clear hg_ hnew_; have HS := aMy ho; have HB4 := aMy hb; clear ho hb))
 go_ret
 have e1 : ((q : Nat) : Int).toNat = q := Int.toNat_natCast q
 refine ⟨_, rfl, ?_, IsS61.below HI3.out HB4.out, below_step HB3.out HB4.out, KeepBut.trans HP3.out (KeepBut.of_below HB4.out g none) (.inl rfl)⟩
 have h := HS.out
 rw [e1] at h
 exact Kd.N_lower (Kd.N_mono (Kd.S_N (Kd.S_bound h)) (fun k hk => Nat.le_trans (keep_size HP3.out) hk.2.1)) (keep_size HP3.out)
set_option maxHeartbeats 16000000 in
set_option maxRecDepth 100000 in
theorem any_nil (s : List Int) (hs : Bytes s) (a d p1 q1 p2 q2 : Int) (o : List (List Int)) (k1 : Nat) (hk1 : spec_l1Cur_arcs.f k1 s a d = some (o, p1, q1)) (hk2 : spec_l1Cur_pick.f s p1 q1 30 = some (2, p2, q2))
  (ho : o.length ≤ 240) (g : Nat) (w0 w : World) (hI : IsS61 w0 w g s a d) (hB : Below w0.heap.size w0 w) :
  Calls Try.prog 52 #[.pointer (some ⟨g, 0, none⟩)] w (AnyPost w0 w g s [] p2 q2) := by
 have GL := aMy (IsS61.lt hI)
 have HI := aMy hI
 have HB := aMy hB
 have HK1 := aMy hk1
 have HK2 := aMy hk2
 have HO := aMy ho
 clear hI hB hk1 hk2 ho
 go_enter Try.func52, Try.ntmps52
 go_wp2_with fail
 refine (spec_l1Cur_arcs.callsS k1 g s a d o p1 q1 w0 w HI.out HB.out HK1.out).mono ?_
 rintro e w1 ⟨v, rfl, hS, hi, hb, hk⟩
 obtain ⟨Ao, co, ev⟩ := Kd.S_slice hS
 subst ev
 have HN := aMy (Kd.N_mono (Kd.S_N hS) (ok' := fun k => w.heap.size ≤ k ∧ k ≠ g) (fun k hk => ⟨hk, by have := GL.out; omega⟩))
 have HI1 := aMy hi
 have HB1 := aMy hb
 have HP1 := aMy hk
 clear hS hi hb hk HI HB
 go_wp2_with fail
 refine (spec_l1Cur_pick.calls g s p1 q1 30 2 p2 q2 w0 w1 HI1.out HB1.out HK2.out).mono ?_
 rintro e w2 ⟨rfl, hi, hb, hk⟩
 have HN2 := aMy (Kd.N_keep HN.out hk (fun _ h => h.2))
 have HI2 := aMy hi
 have HB2 := aMy hb
 have HP2 := aMy (KeepBut.trans HP1.out hk (.inl rfl))
 clear hi hb hk HI1 HB1 HP1 HN
 go_wp2_with fail
 go_ret
 exact ⟨_, rfl, Kd.N_nil _ _ _ _ _, HI2.out, HB2.out, HP2.out⟩
set_option maxHeartbeats 16000000 in
set_option maxRecDepth 100000 in
theorem any_same (s : List Int) (hs : Bytes s) (a d p1 q1 p2 q2 x : Int) (o : List (List Int)) (k1 : Nat) (hk1 : spec_l1Cur_arcs.f k1 s a d = some (o, p1, q1)) (hk2 : spec_l1Cur_pick.f s p1 q1 30 = some (x, p2, q2))
  (hx : x ≠ 0 ∧ x ≠ 1) (h2 : x ≠ 2) (ho : o.length ≤ 240) (g : Nat) (w0 w : World) (hI : IsS61 w0 w g s a d) (hB : Below w0.heap.size w0 w) :
  Calls Try.prog 52 #[.pointer (some ⟨g, 0, none⟩)] w (AnyPost w0 w g s o p2 q2) := by
 have GL := aMy (IsS61.lt hI)
 have HI := aMy hI
 have HB := aMy hB
 have HK1 := aMy hk1
 have HK2 := aMy hk2
 have HO := aMy ho
 have x0 : (x == 0) = false := beq_eq_false_iff_ne.2 hx.1
 have x1 : (x == 1) = false := beq_eq_false_iff_ne.2 hx.2
 have x0' : decide (x = 0) = false := decide_eq_false hx.1
 have x1' : decide (x = 1) = false := decide_eq_false hx.2
 have x2 : (x == 2) = false := beq_eq_false_iff_ne.2 h2
 have x2' : decide (x = 2) = false := decide_eq_false h2
 clear hI hB hk1 hk2 ho
 go_enter Try.func52, Try.ntmps52
 go_wp2_with fail
 refine (spec_l1Cur_arcs.callsS k1 g s a d o p1 q1 w0 w HI.out HB.out HK1.out).mono ?_
 rintro e w1 ⟨v, rfl, hS, hi, hb, hk⟩
 obtain ⟨Ao, co, ev⟩ := Kd.S_slice hS
 subst ev
 have HN := aMy (Kd.N_mono (Kd.S_N hS) (ok' := fun k => w.heap.size ≤ k ∧ k ≠ g) (fun k hk => ⟨hk, by have := GL.out; omega⟩))
 have HI1 := aMy hi
 have HB1 := aMy hb
 have HP1 := aMy hk
 clear hS hi hb hk HI HB
 go_wp2_with fail
 refine (spec_l1Cur_pick.calls g s p1 q1 30 x p2 q2 w0 w1 HI1.out HB1.out HK2.out).mono ?_
 rintro e w2 ⟨rfl, hi, hb, hk⟩
 have HN2 := aMy (Kd.N_keep HN.out hk (fun _ h => h.2))
 have HI2 := aMy hi
 have HB2 := aMy hb
 have HP2 := aMy (KeepBut.trans HP1.out hk (.inl rfl))
 clear hi hb hk HI1 HB1 HP1 HN
 go_wp2_with fail
 go_ret
 exact ⟨_, rfl, Kd.N_mono HN2.out (fun k h => h.1), HI2.out, HB2.out, HP2.out⟩
/-- anyArcs: rows of bounded lengths -/
theorem anyArcs_told {s : List Int} (hs : Bytes s) (a d : Int) (ha : At a 170000000000000000) : ∃ (r : List (List Int)) (a1 d1 : Int), (r.length ≤ 250 ∧ ∀ x ∈ r, x.length ≤ 250) ∧ (a ≤ a1 ∧ a1 ≤ a + 3000) ∧
  ∀ (g : Nat) (w0 w : World), IsS61 w0 w g s a d → Below w0.heap.size w0 w → Calls Try.prog 52 #[.pointer (some ⟨g, 0, none⟩)] w (AnyPost w0 w g s r a1 d1) := by
 obtain ⟨⟨o, p1, q1⟩, hev, ⟨hR, hRB⟩, hp1, hp1'⟩ := arcs_tl hs a d (by omega)
 simp only at hR hRB hp1 hp1'
 obtain ⟨k1, hk1⟩ := hev.rounds
 obtain ⟨⟨x, p2, q2⟩, hk2, hx0, hx1, hp2, hp2'⟩ := pick_some hs p1 q1 30 (by omega)
 simp only at hx0 hx1 hp2 hp2'
 by_cases h0 : x = 0
 ·subst h0
  obtain ⟨⟨y, p3, q3⟩, hk3, hy0, hy1, hp3, hp3'⟩ := pick_some hs p2 q2 (o.length : Int) (by omega)
  simp only at hy0 hy1 hp3 hp3'
  obtain ⟨⟨z, p4, q4⟩, hev4, hz, hp4, hp4'⟩ := among_tl hs p3 q3 [y, -1, 0] (by simp) (by omega)
  simp only at hp4 hp4'
  obtain ⟨_, hk4⟩ := hev4.rounds
  refine ⟨o.set y.toNat (o.getD y.toNat [] ++ [z]), p4, q4, ⟨by rw [List.length_set]; omega, fun x hx => ?_⟩, by omega, fun g w0 w hI hB => any_row s hs a d p1 q1 p2 q2 p3 q3 p4 q4 y z o k1 hk1 hk2 hk3 hk4 hR hRB (by omega) g w0 w hI hB⟩
  rcases List.mem_or_eq_of_mem_set hx with h | h
  ·have := hRB x h; omega
  ·subst h
   rw [List.length_append, List.length_singleton]
   have := hRB _ (getD_mem (z := []) (show y.toNat < o.length by omega)); omega
 by_cases h1 : x = 1
 ·subst h1
  obtain ⟨⟨y, p3, q3⟩, hk3, hy0, hy1, hp3, hp3'⟩ := pick_some hs p2 q2 2 (by omega)
  simp only at hy0 hy1 hp3 hp3'
  obtain ⟨q, hq⟩ := Int.eq_ofNat_of_zero_le (show 0 ≤ 120 + y by omega)
  exact ⟨List.replicate q [], p3, q3, ⟨by rw [List.length_replicate]; omega, replicate_rows q⟩, by omega, fun g w0 w hI hB => any_make s hs a d p1 q1 p2 q2 p3 q3 y q o k1 hk1 hk2 hk3 (by omega) (by omega) g w0 w hI hB⟩
 by_cases h2 : x = 2
 ·subst h2
  exact ⟨[], p2, q2, by simp, by omega, fun g w0 w hI hB => any_nil s hs a d p1 q1 p2 q2 o k1 hk1 hk2 (by omega) g w0 w hI hB⟩
 ·exact ⟨o, p2, q2, ⟨by omega, fun x hx => by have := hRB x hx; omega⟩, by omega, fun g w0 w hI hB => any_same s hs a d p1 q1 p2 q2 x o k1 hk1 hk2 ⟨h0, h1⟩ h2 (by omega) g w0 w hI hB⟩
end Go.Proofs.Ytbhlffakpneecaa.DrawAny
