/- The contract of run of impl's residual network, by hand: it does what runL says. -/
import Derived.Test.YtomfjhpiemipkaaTOwnFrom
namespace Go.Proofs.Ytomfjhpiemipkaa.OwnRunI
open Go.RowKit Go.Proofs.YtomfjhpiemipkaaW.PrintWords Go.Proofs.YtomfjhpiemipkaaW.PrintLast Go.Proofs.YtomfjhpiemipkaaW.PrintMore Go.Proofs.Ytomfjhpiemipkaa.B Go.Proofs.Ytomfjhpiemipkaa.Flow Go.Proofs.Ytomfjhpiemipkaa.OwnPush Go.Proofs.Ytomfjhpiemipkaa.OwnLevels Go.Proofs.Ytomfjhpiemipkaa.OwnFrom
set_option linter.unusedVariables false
set_option linter.unusedSimpArgs false
abbrev S1 (p : Nat) (Al : Option Addr) (L cl : Nat) : Nat → Prop := fun k => k = p ∨ some k = (Value.slice Al L cl).ownBlock
/-- The residual network at block p: for as long as only its block and the row of what is left are written. -/
structure IObj (w : World) (p n L : Nat) (Ae : Addr) (At Al : Option Addr) (ce ct cl : Nat) (adj : List (List Int)) (tos : List Int) : Prop where
 E : ∀ W, Kept w W (S1 p Al L cl) → Kd.C kRows W (some Ae) n adj
 T : ∀ W, Kept w W (S1 p Al L cl) → Kd.C (Kd.int .i64) W At L tos
 cap : n ≤ ce ∧ L ≤ ct
 sep : some p ≠ (Value.slice Al L cl).ownBlock
 lt : p < w.heap.size
abbrev IBlk (W : World) (p n L : Nat) (Ae : Addr) (At Al : Option Addr) (ce ct cl : Nat) (vV vX : Value) : Prop := W.heap[p]? = some (.cells #[.slice (some Ae) n ce, .slice At L ct, .slice Al L cl, vV, vX] 195 (0, 0))
def impl_residual_run_T2 : Bool × List (List Nat × List Nat) := (true, [([], []), ([0], [0]), ([], []), ([2], [2]), ([3], [3]), ([4], [4]), ([5], [5]), ([6], [6]), ([1, 7], [1, 7]), ([8], [8])])
def impl_residual_run_B2 : List Nat := [0, 1, 0, 4, 12, 28, 60, 124, 255, 511]
theorem impl_residual_run_tab2 : rtab .any (opsOf Try.f146 2) = impl_residual_run_T2 := by kernel_rfl
theorem impl_residual_run_bits2 : waitsOk impl_residual_run_T2.2 impl_residual_run_B2 = true := by kernel_rfl
set_option maxHeartbeats 8000000 in
set_option maxRecDepth 100000 in
theorem run_callsI {n m L : Nat} {tos l0 : List Int} {adj : List (List Int)} {w : World} {p : Nat} {Ae : Addr} {At Al : Option Addr} {ce ct cl : Nat} {vV vX : Value}
  (N : Net n m tos adj) (hn : n ≤ 130) (hm : m ≤ 8000) (hL : L = 2 * m) (O : IObj w p n L Ae At Al ce ct cl adj tos) (hb : IBlk w p n L Ae At Al ce ct cl vV vX) (hl : Kd.R (Kd.int .i64) 3 w 0 (fun k => some k = (Value.slice Al L cl).ownBlock) (.slice Al L cl) l0)
  (hF : Flows n m tos l0 ((n : Int) - 1) 0 l0) (k : Nat) (r : Int × List Int × List Int) (h : runL n tos adj ((n : Int) - 1) 1152921504606846976 k 0 l0 = some r) :
  Calls Try.prog 146 #[.pointer (some ⟨p, 0, none⟩)] w fun e w' => e = .returned (.int .i64 r.1) ∧ Kp w w' (S1 p Al L cl) ∧ (∃ vV' vX' : Value, IBlk w' p n L Ae At Al ce ct cl vV' vX') ∧ Kd.R (Kd.int .i64) 3 w' 0 (fun k => some k = (Value.slice Al L cl).ownBlock) (.slice Al L cl) r.2.1 := by
 have hu97 := Try.underlying195
 have hn2 := N.nd
 have NN := Aside0.mk N
 have OO := Aside0.mk O
 have BK := Aside0.mk hb
 have HB0 := Aside0.mk (And.intro (And.intro hn hm) hL)
 have HN2 := Aside0.mk hn2
 have HH := Aside0.mk h
 have HFL := Aside0.mk hF
 have HL := Aside0.mk hl
 have HK := Aside0.mk (Kp.refl w (S1 p Al L cl))
 obtain ⟨snk, esn⟩ : ∃ z : Int, z = (n : Int) - 1 := ⟨_, rfl⟩
 have hw : wrap64 ((n : Int) - 1) = snk := by rw [w64 (by omega) (by omega), esn]
 have HSN := Aside0.mk esn
 have q0 := eq_true (show 0 ≤ snk by omega)
 have q1 := eq_true (show snk < (n : Int) by omega)
 have n0 := eq_true (show 0 ≤ (n : Int) by omega)
 have n1 : decide (0 ≤ (n : Int)) = true := decide_eq_true (by omega)
 have n2 : decide ((n : Int).toNat ≤ 35184372088832) = true := decide_eq_true (by omega)
 have n3 := eq_true (show (n : Int).toNat ≤ 35184372088832 by omega)
 clear N O hn hm hL hn2 h hF hl hb esn
 go_enter Try.func146, Try.ntmps146
 go_wp2_with fail
 go_loopg [3] (k) (fun q v3 wr => ∃ (s : Int) (lf : List Int) (vV vX : Value), v3 = .int .i64 s ∧ Aside0 (runL n tos adj ((n : Int) - 1) 1152921504606846976 q s lf = some r) ∧ Aside0 (Flows n m tos l0 ((n : Int) - 1) s lf) ∧ Aside0 (Kp w wr (S1 p Al L cl)) ∧ Aside0 (IBlk wr p n L Ae At Al ce ct cl vV vX) ∧ Aside0 (Kd.R (Kd.int .i64) 3 wr 0 (fun k => some k = (Value.slice Al L cl).ownBlock) (.slice Al L cl) lf))
 case atStart => exact ⟨0, l0, vV, vX, rfl, HH, HFL, HK, BK, HL⟩
 case round =>
  clear HH HFL HK HL BK
  obtain ⟨s, lf, vV, vX, rfl, HH, HFL, HK, BK, HL⟩ := hrel
  cases gk with
  | zero => have := HH.out; cases this
  | succ q =>
   have h := HH.out
   unfold runL at h
   obtain ⟨d, hd, h2⟩ := Option.bind_eq_some_iff.1 h
   have HD0 := Aside0.mk hd
   have HR := Aside0.mk h2
   have LV := Aside0.mk (bfs_told NN.out q _ _ _ hd (lev0 NN.out (by omega) (by have := HN2.out; omega)).1)
   obtain ⟨ds, eds⟩ : ∃ z, z = rd d snk := ⟨_, rfl⟩
   have HDS := Aside0.mk eds
   obtain ⟨bv, ebv⟩ : ∃ z, z = decide (0 ≤ ds) := ⟨_, rfl⟩
   have HBV := Aside0.mk ebv
   clear h hd h2 eds ebv
   go_wp2_with fail
   have HK := Aside0.mk (Kp.drew HK.out)
   have BK : Aside0 (IBlk wr.drew p n L Ae At Al ce ct cl vV vX) := ⟨blk_drew BK.out⟩
   have HL := Aside0.mk (Kd.R_drew HL.out)
   have hc0 := (blk_cell BK.out 0).trans (show _ = some _ from rfl)
   refine start_ (n := 10) (S := fun w' => w'.cell? ⟨p, 0, none⟩ = some (.slice (some Ae) n ce)) (ds := [9]) (fl 10 0) (by kernel_rfl) rfl rfl (hc0) (fun hHeld => ?_)
   refine with_tabW impl_residual_run_tab2 impl_residual_run_bits2 (fun HT_ HW_ => ?_)
   generalize wr.drew = wa at HK BK HL hHeld ⊢
   refine wp_in [(0, 5, 1, 0), (2, 7, 5, 0), (3, 8, 13, 0), (4, 9, 29, 0), (5, 10, 61, 1), (6, 11, 125, 0), (7, 12, 253, 0)] 10 ?_
   iterate 7 (first | (refine pn_ (oi := ?_) (v := ?_) (a' := ?_) HT_.out ?_ ?_ ?_ ?_ ?_ ?_ ?_ ?_; rotate_left 3; rfl; rfl; kernel_rfl; exact fun _ _ _ h => h; rfl; intro w'; go_simp; with_reducible rfl; simp only [Act.put, List.setIfInBounds_toArray, List.set_cons_zero, List.set_cons_succ, i64_w, i32_w]; rfl) | (refine tn_ (oi := ?_) (v := ?_) (a' := ?_) HT_.out HW_.out hHeld ?_ ?_ ?_ ?_ ?_ ?_ ?_ ?_; rotate_left 3; rfl; rfl; kernel_rfl; exact fun _ _ _ h => h; rfl; intro w' s0; go_simp; with_reducible rfl; simp only [Act.put, List.setIfInBounds_toArray, List.set_cons_zero, List.set_cons_succ, i64_w, i32_w]; rfl))
   refine wp_out ?_
   refine one_ (i := 1) (N := some 6) (fl 10 255) rfl rfl (one_of HT_.out (by kernel_rfl)) (by decide) (fun K hK => ?_)
   refine goes_ Try.func148 (by kernel_rfl) rfl #[.pointer (some ⟨p, 0, none⟩)] (by rfl) rfl rfl (by (try simp only [List.map_toArray, List.map_cons, List.map_nil]); first | done | rfl | (simp only [List.length_drop, List.length_take]; rfl)) ?_
   refine (from_calls NN.out HB0.out.1.1 HB0.out.1.2 HB0.out.2 HFL.out.good BK.out (fun W hW => OO.out.E W (HK.out.1.then_ hW (fun k hk => Or.inl (Or.inl hk)))) (fun W hW => OO.out.T W (HK.out.1.then_ hW (fun k hk => Or.inl (Or.inl hk)))) (fun W hW => by have h := Kd.C_kept_own HL.out (fun k hk e => OO.out.sep (by rw [← e]; exact hk)) W hW; exact h) q d HD0.out).mono ?_
   rintro e w1 ⟨gi, ci, gv, cv, rfl, hI, hV, hB, hgn, hKp⟩
   refine ⟨_, rfl, ?_⟩
   have n0_ : Aside0 (Kp w w1 (S1 p Al L cl)) := ⟨HK.out.then_ hKp (fun k hk => Or.inl (Or.inl hk))⟩
   have n1_ := Aside0.mk (Kd.R_kept HL.out hKp.1 (fun k hk e => OO.out.sep (by rw [← e]; exact hk)))
   have HGV := Aside0.mk (Kd.R_base hV gv rfl)
   have HGL := Aside0.mk (fun (k : Nat) (hk : some k = (Value.slice Al L cl).ownBlock) => show k ≠ gv by have h1_ := Kd.R_lt HL.out k hk.symm; have h2_ := HGV.out; omega)
   have HGW : Aside0 (w.heap.size ≤ gv) := ⟨Nat.le_trans HK.out.1.1 HGV.out⟩
   clear HK BK HL
   have HK := n0_
   have HL := n1_
   have BK : Aside0 (IBlk w1 p n L Ae At Al ce ct cl (.slice (some ⟨gv, 0, none⟩) n cv) vX) := ⟨hB⟩
   have HV := Aside0.mk hV
   obtain ⟨hcz, hfz⟩ := Kd.R_celln false hI snk (of_eq_true q0) (of_eq_true q1)
   rw [inB_at d snk (of_eq_true q0) (by rw [LV.out.len]; exact of_eq_true q1), ← HDS.out, ← HBV.out] at hcz
   have hc0 := (blk_cell BK.out 0).trans (show _ = some _ from rfl)
   clear n0_ n1_ hI hV hB hgn hKp hfz
   refine hK.out _ _ hc0 (fun hHeld => ?_)
   clear hK K
   refine wp_in [(8, 13, 511, 0)] 10 ?_
   iterate 1 ((refine pn_ (oi := ?_) (v := ?_) (a' := ?_) HT_.out ?_ ?_ ?_ ?_ ?_ ?_ ?_ ?_; rotate_left 3; rfl; rfl; kernel_rfl; exact fun _ _ _ h => h; rfl; intro w'; go_simp; with_reducible rfl; simp only [Act.put, List.setIfInBounds_toArray, List.set_cons_zero, List.set_cons_succ, i64_w, i32_w]; rfl))
   refine wp_out ?_
   refine last_ (i := 9) (N := some 14) (fl 10 1023) rfl rfl (one_of HT_.out (by kernel_rfl)) (by decide) (fun K hK => ?_)
   refine value_ (w1 := ?_) (v := ?_) (by rfl) rfl ?_ ?_
   rotate_left 2
   ·go_simp
    constructor
    ·rfl
    ·rfl
   refine hK.out _ _ ?_
   clear hK K
   refine norm_ (a' := ?_) ?_ ?_
   rotate_left
   ·show Act.put _ (some 14) _ = _
    simp only [Act.put, List.setIfInBounds_toArray, List.set_cons_zero, List.set_cons_succ, i64_w, i32_w]
    rfl
   refine done_ (done_of HT_.out (by kernel_rfl)) ?_
   clear hcz
   by_cases z1 : ds < 0
   ·have t1 : bv = false := by rw [HBV.out]; exact decide_eq_false (by omega)
    subst t1
    have h := HR.out
    rw [if_pos (by rw [← HSN.out, ← HDS.out]; exact z1)] at h
    injection h with h
    subst h
    clear z1
    go_wp2_with fail
    go_ret
    exact ⟨rfl, HK.out, ⟨_, _, BK.out⟩, HL.out⟩
   ·have t1 : bv = true := by rw [HBV.out]; exact decide_eq_true (by omega)
    subst t1
    have h := HR.out
    rw [if_neg (by rw [← HSN.out, ← HDS.out]; exact z1)] at h
    obtain ⟨r1, hp1, h2⟩ := Option.bind_eq_some_iff.1 h
    have HP1 := Aside0.mk hp1
    have HR2 := Aside0.mk h2
    clear h h2 hp1
    have hF := HFL.out
    have hm0 : 0 < m := by
     -- the sink is reached: there is an edge
     rcases Nat.eq_zero_or_pos m with h0 | h0
     ·exfalso
      subst h0
      obtain ⟨u, e, a1, a2, a3⟩ := LV.out.pred ((n : Int) - 1) (by have := HN2.out; omega) (by omega) (by
       by_cases h : 0 < rd d ((n : Int) - 1)
       ·exact h
       ·have h3 := LV.out.zero ((n : Int) - 1) (by have := HN2.out; omega) (by omega) (by have h4 := HDS.out; rw [HSN.out] at h4; omega)
        have := HN2.out; omega)
      have := NN.out.row u a1.1 a1.2 e a2
      omega
     ·exact h0
    obtain ⟨gl, cl', el, gb, gl_, cl_, HG_⟩ := Kd.R_form HL.out (by rw [hF.good.1]; omega)
    injection el with el elL elc
    subst el
    subst elc
    have HGLl := Aside0.mk gl_
    have HSG : Aside0 (∀ k : Nat, (some k = (Value.slice (some ⟨gl, 0, none⟩) L cl).ownBlock) = (k = gl)) := ⟨fun k => propext ⟨fun h => Option.some.inj h, fun h => congrArg some h⟩⟩
    have HGVL := Aside0.mk (Kd.R_lt HV.out gv rfl)
    have HKS := Aside0.mk HK.out.1.1
    have HLP : Aside0 (0 < L) := ⟨by have := HB0.out.2; omega⟩
    clear z1 gb gl_ cl_ HG_ elL hF hm0
    go_wp2_with (first | ((with_reducible refine gate_dst (N := 21) rfl ?_); refine Kd.R_make (Kd.int .i64) _ 3 rfl (N := 21) rfl 24 _ _ rfl (n : Int) rfl rfl Try.underlying24 (.int .i64 0) 8 inf3 rfl (by decide) (by omega) 0 (ok := fun _ => True) (okp := fun _ => True) rfl (fun _ hk => hk) trivial (of_decide_eq_true (by first | (with_reducible assumption) | assumption)) (Nat.le_trans (Nat.mul_le_mul_right _ (of_decide_eq_true (by first | (with_reducible assumption) | assumption) : (n : Int).toNat ≤ 35184372088832)) (by omega)) (Below.refl _ _) (Nat.le_refl _) ?_; intro vb w7 ho8 hb hg_ hnew_; clear hg_ hnew_; rw [Int.toNat_natCast] at ho8; obtain ⟨gx, cx, eo, gb, gl_, cl_, HG_⟩ := Kd.R_form ho8 (by rw [List.length_replicate]; have := HN2.out; omega); rw [List.length_replicate] at eo; subst eo; have HGX := Aside0.mk gb; have n0_ := Aside0.mk (HK.out.below hb); have n1_ := Aside0.mk (Kd.R_below HL.out hb); have n2_ := Aside0.mk (Kd.R_below HV.out hb); have n3_ := Aside0.mk ho8; have n4_ := Aside0.mk (blk_below BK.out hb); have hc4 := (blk_cell n4_.out 4).trans (show _ = some _ from rfl); have hf4 := blk_frozen n4_.out 4; have HXL := Aside0.mk gl_; clear HK HL HV BK; have HK := n0_; have HL := n1_; have HV := n2_; have HX := n3_; have BK := n4_; clear n0_ n1_ n2_ n3_ n4_ gb gl_ cl_ HG_ hb ho8))
    clear hc0 hc4 hf4
    have hgx := HGX.out
    have hks := HKS.out
    have hgll := HGLl.out
    have hsep := OO.out.sep
    have hplt := Nat.lt_of_lt_of_le OO.out.lt HKS.out
    have hgv := HGL.out gl rfl
    have hgvl := HGVL.out
    have hpgv : p ≠ gv := by have h1_ := OO.out.lt; have h2_ := HGW.out; omega
    have n0_ := Aside0.mk (Kp.setCell (p := ⟨p, 4, none⟩) HK.out (Or.inl (Or.inl rfl)) (.slice (some ⟨gx, 0, none⟩) n cx))
    have n1_ := Aside0.mk (Kd.R_far (p := ⟨p, 4, none⟩) HL.out (fun k hk e => hsep (by replace e : k = p := e; rw [← e]; exact hk)) (.slice (some ⟨gx, 0, none⟩) n cx))
    have n2_ := Aside0.mk (Kd.R_far (p := ⟨p, 4, none⟩) HV.out (fun k hk e => hpgv (by replace e : k = p := e; rw [← hk]; exact e.symm)) (.slice (some ⟨gx, 0, none⟩) n cx))
    have n3_ := Aside0.mk (Kd.R_far (p := ⟨p, 4, none⟩) (Kd.R_mono (Kd.R_tight rfl HX.out) (ok' := fun k => k = gx) (fun k hk => Option.some.inj hk)) (fun k hk e => by rw [hk] at e; replace e : gx = p := e; omega) (.slice (some ⟨gx, 0, none⟩) n cx))
    have n4_ : Aside0 (IBlk (w7.setCell ⟨p, 4, none⟩ (.slice (some ⟨gx, 0, none⟩) n cx)) p n L Ae At (some ⟨gl, 0, none⟩) ce ct cl (.slice (some ⟨gv, 0, none⟩) n cv) (.slice (some ⟨gx, 0, none⟩) n cx)) := ⟨blk_put BK.out 4 _ rfl⟩
    clear HK HL HV HX BK
    generalize w7.setCell ⟨p, 4, none⟩ (.slice (some ⟨gx, 0, none⟩) n cx) = w8 at n0_ n1_ n2_ n3_ n4_ ⊢
    have hK7 := n0_.out
    have hBK := n4_.out
    have hsub : ∀ W, Kp w8 W (fun k => k = gl ∨ k = gx) → Kp w W (S1 p (some ⟨gl, 0, none⟩) L cl) := fun W hW => hK7.then_ hW (fun k hk => hk.elim (fun h => Or.inl (Or.inr (congrArg some h))) (fun h => Or.inr (by omega)))
    have HSUB := Aside0.mk hsub
    obtain ⟨at_, eA, _⟩ := Kd.at_int (OO.out.T w (Kept.refl _ _)) 0 (Int.le_refl 0) (by have := HLP.out; omega)
    subst eA
    have RES : Aside0 (Res w8 p n L Ae at_ ⟨gv, 0, none⟩ ce ct cl cv cx gl gx adj tos (lvB d)) := ⟨{ blk := fun W hW => blk_kept hBK hW.1 (fun h => by rcases h with h | h; exact hsep (congrArg some h); omega), E := fun W hW => OO.out.E W (hsub W hW).1, T := fun W hW => OO.out.T W (hsub W hW).1, V := fun W hW => Kd.C_kept_own n2_.out (fun k hk h => by rw [hk] at h; rcases h with h | h <;> omega) W hW.1, sep := ⟨⟨by omega, fun h => hsep (congrArg some h)⟩, by omega⟩, cap := ⟨⟨OO.out.cap.1, OO.out.cap.2⟩, (Kd.R_reads' n2_.out).2.1⟩ }⟩
    have HX0 : Aside0 (RI 0 w8 gx n cx (List.replicate n 0)) := ⟨Kd.R_lower n3_.out (Nat.zero_le _)⟩
    have HL0 : Aside0 (RI 0 w8 gl L cl lf) := ⟨Kd.R_mono n1_.out (fun k hk => Option.some.inj hk)⟩
    clear hK7 hgx hks hsub hgll hplt hsep hgv hgvl hpgv n0_ n1_ n2_ n3_ n4_ hBK
    have HK7 := Aside0.mk (Kp.refl w8 (fun k => k = gl ∨ k = gx))
    go_loopg [3] (q) (fun c v3 w2 => ∃ (s2 : Int) (lf2 nx : List Int), v3 = .int .i64 s2 ∧ Aside0 (pushes tos adj d ((n : Int) - 1) 1152921504606846976 c s2 lf2 nx = some r1) ∧ Aside0 (Flows n m tos l0 ((n : Int) - 1) s2 lf2) ∧ Aside0 (NextOk n adj nx) ∧ Aside0 (Kp w8 w2 (fun k => k = gl ∨ k = gx)) ∧ Aside0 (RI 0 w2 gl L cl lf2) ∧ Aside0 (RI 0 w2 gx n cx nx))
    case atStart => exact ⟨s, lf, List.replicate n 0, rfl, HP1, HFL, ⟨rep_ok⟩, HK7, HL0, HX0⟩
    case round =>
     clear HK7 HL0 HX0 HP1 HFL
     obtain ⟨s2, lf2, nx, rfl, HP1, HFL, HNX, HK7, HL0, HX0⟩ := hrel
     cases gk with
     | zero => have := HP1.out; cases this
     | succ c =>
      have h := HP1.out
      unfold pushes at h
      obtain ⟨r2, hpl, h2⟩ := Option.bind_eq_some_iff.1 h
      have hn2 := HN2.out
      have hpl2 : (if (0 : Int) = (n : Int) - 1 then some (1152921504606846976, lf2, nx) else pushL tos adj d ((n : Int) - 1) c 0 1152921504606846976 lf2 nx) = some r2 := by rw [if_neg (by omega)]; exact hpl
      have q9 := push_told NN.out c 0 1152921504606846976 lf2 nx r2 hpl (by omega) (by omega) (by omega) (by omega) HFL.out.good HNX.out
      have hfl2 := flows_push (by omega) HFL.out q9
      have HPL := Aside0.mk hpl2
      have HF2 := Aside0.mk hfl2
      have HNX2 := Aside0.mk q9.nxt
      have H2 := Aside0.mk h2
      clear h h2 hpl hpl2 q9 hfl2 hn2
      go_wp2_with fail
      refine (push_calls (b := 0) NN.out HB0.out.1.1 HB0.out.1.2 HB0.out.2 (fun v v0 v1 => by have h1 := LV.out.lo v v0 v1; have h2 := LV.out.hi v v0 v1; have h3 := HB0.out.1.1; omega) (fun v v0 v1 => lvB_at d v v0 (by rw [LV.out.len]; exact v1)) RES.out c 0 1152921504606846976 lf2 nx r2 _ HPL.out (by omega) (by have := HN2.out; omega) (by have := LV.out.src; omega) (by omega) (by omega) HFL.out.good HNX.out HK7.out HL0.out HX0.out).mono ?_
      rintro e w3 ⟨rfl, hk3, hl3, hx3⟩
      clear HK7 HL0 HX0
      have HK7 := Aside0.mk hk3
      have HL0 := Aside0.mk hl3
      have HX0 := Aside0.mk hx3
      clear hk3 hl3 hx3
      obtain ⟨s3, lf3, nx3⟩ := r2
      by_cases z2 : s3 = 0
      ·have t2 : (s3 == 0) = true := beq_iff_eq.mpr z2
       have h2 := H2.out
       rw [if_pos z2] at h2
       injection h2 with h2
       subst h2
       have Z2 := Aside0.mk z2
       clear z2
       go_wp2_with fail
       go_roundg q
       case measure => omega
       case rel =>
        have hf2 := HF2.out
        replace hf2 : Flows n m tos l0 ((n : Int) - 1) (s2 + s3) lf3 := hf2
        rw [Z2.out, Int.add_zero] at hf2
        exact ⟨s2, lf3, _, _, rfl, HR2, ⟨hf2⟩, ⟨HSUB.out _ HK7.out⟩, ⟨RES.out.blk _ HK7.out⟩, ⟨Kd.R_mono HL0.out (fun k hk => congrArg some hk)⟩⟩
      ·have t2 : (s3 == 0) = false := beq_eq_false_iff_ne.mpr z2
       have h2 := H2.out
       rw [if_neg z2] at h2
       have H22 := Aside0.mk h2
       clear z2 h2
       go_wp2_with fail
       go_roundg c
       case measure => omega
       case rel =>
        have hbd := flows_bd HF2.out
        have hbd2 : -(1000000000 * (m : Int)) ≤ s2 + s3 := by
         rw [← HF2.out.val]
         refine (ex_bd ?_).1
         intro k k0 k1
         have h1 := HF2.out.good.2 (2 * k + 1) (by omega) (by omega)
         have h2 := par_bd (m := m) (e := 2 * k + 1) (by omega) (by omega)
         have h3 := HF2.out.good.2 _ h2.1 h2.2
         omega
        have hm := HB0.out.1.2
        replace hbd : s2 + s3 ≤ 1000000000 * (m : Int) := hbd
        exact ⟨s2 + s3, lf3, nx3, by rw [w64 (by omega) (by omega)], H22, HF2, HNX2, HK7, HL0, HX0⟩
end Go.Proofs.Ytomfjhpiemipkaa.OwnRunI
