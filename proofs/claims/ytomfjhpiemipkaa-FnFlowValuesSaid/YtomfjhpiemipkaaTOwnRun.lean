/- The contract of run of spec's state, by hand: it does what runL says. -/
import Derived.Test.YtomfjhpiemipkaaTOwnPushS
import Derived.Test.YtomfjhpiemipkaaTOwnLevels
namespace Go.Proofs.Ytomfjhpiemipkaa.OwnRun
open Go.RowKit Go.Proofs.YtomfjhpiemipkaaW.PrintWords Go.Proofs.YtomfjhpiemipkaaW.PrintLast Go.Proofs.YtomfjhpiemipkaaW.PrintMore Go.Proofs.Ytomfjhpiemipkaa.B Go.Proofs.Ytomfjhpiemipkaa.Flow Go.Proofs.Ytomfjhpiemipkaa.OwnPush Go.Proofs.Ytomfjhpiemipkaa.OwnPushS Go.Proofs.Ytomfjhpiemipkaa.OwnLevels
set_option linter.unusedVariables false
set_option linter.unusedSimpArgs false
/-- The state at block p: for as long as only the row of what is left is written. -/
structure StObj (w : World) (p n L : Nat) (Ae : Addr) (At Al : Option Addr) (ce ct cl : Nat) (adj : List (List Int)) (tos : List Int) : Prop where
 blk : ∀ W, Kp w W (fun k => some k = (Value.slice Al L cl).ownBlock) → W.heap[p]? = some (.cells #[.int .i64 n, .slice At L ct, .slice Al L cl, .slice (some Ae) n ce] 198 (0, 0))
 E : ∀ W, Kp w W (fun k => some k = (Value.slice Al L cl).ownBlock) → Kd.C kRows W (some Ae) n adj
 T : ∀ W, Kp w W (fun k => some k = (Value.slice Al L cl).ownBlock) → Kd.C (Kd.int .i64) W At L tos
 cap : n ≤ ce ∧ L ≤ ct
 sep : some p ≠ (Value.slice Al L cl).ownBlock
set_option maxHeartbeats 8000000 in
set_option maxRecDepth 100000 in
theorem run_calls {n m L : Nat} {tos l0 : List Int} {adj : List (List Int)} {w : World} {p : Nat} {Ae : Addr} {At Al : Option Addr} {ce ct cl : Nat}
  (N : Net n m tos adj) (hn : n ≤ 130) (hm : m ≤ 8000) (hL : L = 2 * m) (O : StObj w p n L Ae At Al ce ct cl adj tos) (hl : Kd.R (Kd.int .i64) 3 w 0 (fun k => some k = (Value.slice Al L cl).ownBlock) (.slice Al L cl) l0)
  (hF : Flows n m tos l0 ((n : Int) - 1) 0 l0) (k : Nat) (r : Int × List Int × List Int) (h : runL n tos adj ((n : Int) - 1) 1125899906842624 k 0 l0 = some r) :
  Calls Try.prog 187 #[.pointer (some ⟨p, 0, none⟩)] w fun e w' => e = .returned (.int .i64 r.1) ∧ Kp w w' (fun k => some k = (Value.slice Al L cl).ownBlock) ∧ Kd.R (Kd.int .i64) 3 w' 0 (fun k => some k = (Value.slice Al L cl).ownBlock) (.slice Al L cl) r.2.1 := by
 have hu115 := Try.underlying198
 have hn2 := N.nd
 have NN := Aside0.mk N
 have OO := Aside0.mk O
 have HB0 := Aside0.mk (And.intro (And.intro hn hm) hL)
 have HN2 := Aside0.mk hn2
 have HH := Aside0.mk h
 have HFL := Aside0.mk hF
 have HL := Aside0.mk hl
 have HK := Aside0.mk (Kp.refl w (fun k => some k = (Value.slice Al L cl).ownBlock))
 obtain ⟨snk, esn⟩ : ∃ z : Int, z = (n : Int) - 1 := ⟨_, rfl⟩
 have hw : wrap64 ((n : Int) - 1) = snk := by rw [w64 (by omega) (by omega), esn]
 have HSN := Aside0.mk esn
 have q0 := eq_true (show 0 ≤ snk by omega)
 have q1 := eq_true (show snk < (n : Int) by omega)
 have n0 := eq_true (show 0 ≤ (n : Int) by omega)
 have n1 : decide (0 ≤ (n : Int)) = true := decide_eq_true (by omega)
 have n2 : decide ((n : Int).toNat ≤ 35184372088832) = true := decide_eq_true (by omega)
 have n3 := eq_true (show (n : Int).toNat ≤ 35184372088832 by omega)
 clear N O hn hm hL hn2 h hF hl esn
 go_enter Try.func187, Try.ntmps187
 go_wp2_with fail
 go_loopg [3] (k) (fun q v3 wr => ∃ (s : Int) (lf : List Int), v3 = .int .i64 s ∧ Aside0 (runL n tos adj ((n : Int) - 1) 1125899906842624 q s lf = some r) ∧ Aside0 (Flows n m tos l0 ((n : Int) - 1) s lf) ∧ Aside0 (Kp w wr (fun k => some k = (Value.slice Al L cl).ownBlock)) ∧ Aside0 (Kd.R (Kd.int .i64) 3 wr 0 (fun k => some k = (Value.slice Al L cl).ownBlock) (.slice Al L cl) lf))
 case atStart => exact ⟨0, l0, rfl, HH, HFL, HK, HL⟩
 case round =>
  clear HH HFL HK HL
  obtain ⟨s, lf, rfl, HH, HFL, HK, HL⟩ := hrel
  cases gk with
  | zero => have := HH.out; cases this
  | succ q =>
   have h := HH.out
   unfold runL at h
   obtain ⟨d, hd, h2⟩ := Option.bind_eq_some_iff.1 h
   have HD0 := Aside0.mk hd
   have HR := Aside0.mk h2
   have LV := Aside0.mk (bfs_told NN.out q _ _ _ hd (lev0 NN.out (by omega) (by have := HN2.out; omega)).1)
   clear h hd h2
   go_wp2_with fail
   refine (levels_calls NN.out HB0.out.1.1 HB0.out.1.2 HB0.out.2 HFL.out.good (OO.out.blk _ HK.out) (OO.out.E _ HK.out) (OO.out.T _ HK.out) (by have h := (Kd.R_reads' HL.out).2.2; rwa [← (Kd.R_reads' HL.out).1] at h) q d HD0.out).mono ?_
   rintro e w1 ⟨v, rfl, hv, hb⟩
   obtain ⟨gd, cd, eo, gb, gl_, cl_, HG_⟩ := Kd.R_form hv (by rw [LV.out.len]; have := HN2.out; omega)
   rw [LV.out.len] at eo
   subst eo
   have HD := Aside0.mk (Kd.R_mono (Kd.R_tight rfl hv) (ok' := fun k => k = gd) (fun k hk => Option.some.inj hk))
   have n0_ := Aside0.mk (HK.out.below hb)
   have n1_ := Aside0.mk (Kd.R_below HL.out hb)
   have HGD := Aside0.mk (Nat.le_trans HK.out.1.1 gb)
   have HGL := Aside0.mk (fun (k : Nat) (hk : some k = (Value.slice Al L cl).ownBlock) => show k ≠ gd by have := Kd.R_lt HL.out k hk.symm; omega)
   clear HK HL
   have HK := n0_
   have HL := n1_
   clear n0_ n1_ hb hv gb gl_ cl_ HG_
   obtain ⟨ds, eds⟩ : ∃ z, z = rd d snk := ⟨_, rfl⟩
   have HDS := Aside0.mk eds
   obtain ⟨hcz, hfz⟩ := Kd.R_celln 0 HD.out snk (of_eq_true q0) (of_eq_true q1)
   rw [show rdOf 0 d snk = ds from eds.symm] at hcz
   have hc0 := (blk_cell (OO.out.blk _ HK.out) 0).trans (show _ = some _ from rfl)
   clear eds
   by_cases z1 : ds < 0
   ·have t1 : decide (ds < 0) = true := decide_eq_true z1
    have h := HR.out
    rw [if_pos (by rw [← HSN.out, ← HDS.out]; exact z1)] at h
    injection h with h
    subst h
    clear z1
    go_wp2_with fail
    go_ret
    exact ⟨rfl, HK.out, HL.out⟩
   ·have t1 : decide (ds < 0) = false := decide_eq_false z1
    have h := HR.out
    rw [if_neg (by rw [← HSN.out, ← HDS.out]; exact z1)] at h
    obtain ⟨r1, hp1, h2⟩ := Option.bind_eq_some_iff.1 h
    have HP1 := Aside0.mk hp1
    have HR2 := Aside0.mk h2
    clear h h2 hp1
    have hF := HFL.out
    have hm0 : 0 < m := by
     -- the sink is reached: there is an edge
     rcases Nat.eq_zero_or_pos m with h0 | h0
     ·exfalso
      subst h0
      obtain ⟨u, e, a1, a2, a3⟩ := LV.out.pred ((n : Int) - 1) (by have := HN2.out; omega) (by omega) (by
       by_cases h : 0 < rd d ((n : Int) - 1)
       ·exact h
       ·have h3 := LV.out.zero ((n : Int) - 1) (by have := HN2.out; omega) (by omega) (by have h4 := HDS.out; rw [HSN.out] at h4; omega)
        have := HN2.out; omega)
      have := NN.out.row u a1.1 a1.2 e a2
      omega
     ·exact h0
    obtain ⟨gl, cl', el, gb, gl_, cl_, HG_⟩ := Kd.R_form HL.out (by rw [hF.good.1]; omega)
    injection el with el elL elc
    subst el
    subst elc
    have HGLl := Aside0.mk gl_
    have HSG : Aside0 (∀ k : Nat, (some k = (Value.slice (some ⟨gl, 0, none⟩) L cl).ownBlock) = (k = gl)) := ⟨fun k => propext ⟨fun h => Option.some.inj h, fun h => congrArg some h⟩⟩
    have HGW := Aside0.mk (Kd.R_lt HD.out gd rfl)
    have HKS := Aside0.mk HK.out.1.1
    have HLP : Aside0 (0 < L) := ⟨by have := HB0.out.2; omega⟩
    clear z1 gb gl_ cl_ HG_ elL hF hm0
    go_wp2_with (first | ((with_reducible refine gate_dst (N := 23) rfl ?_); refine Kd.R_make (Kd.int .i64) _ 3 rfl (N := 23) rfl 24 _ _ rfl (n : Int) rfl rfl Try.underlying24 (.int .i64 0) 8 inf3 rfl (by decide) (by omega) 0 (ok := fun _ => True) (okp := fun _ => True) rfl (fun _ hk => hk) trivial (of_decide_eq_true (by first | (with_reducible assumption) | assumption)) (Nat.le_trans (Nat.mul_le_mul_right _ (of_decide_eq_true (by first | (with_reducible assumption) | assumption) : (n : Int).toNat ≤ 35184372088832)) (by omega)) (Below.refl _ _) (Nat.le_refl _) ?_; intro vb w7 ho8 hb hg_ hnew_; clear hg_ hnew_; rw [Int.toNat_natCast] at ho8; obtain ⟨gx, cx, eo, gb, gl_, cl_, HG_⟩ := Kd.R_form ho8 (by rw [List.length_replicate]; have := HN2.out; omega); rw [List.length_replicate] at eo; subst eo; have HGX := Aside0.mk gb; have n0_ := Aside0.mk (HK.out.below hb); have n1_ := Aside0.mk (Kd.R_below HL.out hb); have n2_ := Aside0.mk (Kd.R_below HD.out hb); have n3_ := Aside0.mk ho8; clear HK HL HD; have HK := n0_; have HL := n1_; have HD := n2_; have HX := n3_; clear n0_ n1_ n2_ n3_ gb gl_ cl_ HG_ hb ho8))
    clear hcz hfz hc0 t1
    have hK7 := HK.out
    have hgx := HGX.out
    have hks := HKS.out
    have hsub : ∀ W, Kp w7 W (fun k => k = gl ∨ k = gx) → Kp w W (fun k => some k = (Value.slice (some ⟨gl, 0, none⟩) L cl).ownBlock) := fun W hW => hK7.then_ hW (fun k hk => hk.elim (fun h => Or.inl (congrArg some h)) (fun h => Or.inr (by omega)))
    have HSUB := Aside0.mk hsub
    have hgll := HGLl.out
    have hplt := blk_lt (OO.out.blk w (Kp.refl _ _))
    have hsep := OO.out.sep
    have hgd := HGL.out gl rfl
    have hgdx := HGW.out
    obtain ⟨at_, eA, _⟩ := Kd.at_int (OO.out.T w (Kp.refl _ _)) 0 (Int.le_refl 0) (by have := HLP.out; omega)
    subst eA
    have RES : Aside0 (ResS w7 p n L Ae at_ ⟨gd, 0, none⟩ ce ct cl cd cx gl gx adj tos d) := ⟨{ blk := fun W hW => OO.out.blk W (hsub W hW), E := fun W hW => OO.out.E W (hsub W hW), T := fun W hW => OO.out.T W (hsub W hW), V := fun W hW => Kd.C_kept_own HD.out (fun k hk h => by rw [hk] at h; rcases h with h | h <;> omega) W hW.1, sep := ⟨⟨by omega, fun h => hsep (congrArg some h)⟩, by omega⟩, cap := ⟨⟨OO.out.cap.1, OO.out.cap.2⟩, (Kd.R_reads' HD.out).2.1⟩ }⟩
    have HX0 : Aside0 (RI 0 w7 gx n cx (List.replicate n 0)) := ⟨Kd.R_mono (Kd.R_tight rfl (Kd.R_lower HX.out (Nat.zero_le _))) (fun k hk => Option.some.inj hk)⟩
    have HL0 : Aside0 (RI 0 w7 gl L cl lf) := ⟨Kd.R_mono HL.out (fun k hk => Option.some.inj hk)⟩
    clear hK7 hgx hks hsub hgll hplt hsep hgd hgdx HX HL HD HK
    have HK7 := Aside0.mk (Kp.refl w7 (fun k => k = gl ∨ k = gx))
    go_loopg [3] (q) (fun c v3 w2 => ∃ (s2 : Int) (lf2 nx : List Int), v3 = .int .i64 s2 ∧ Aside0 (pushes tos adj d ((n : Int) - 1) 1125899906842624 c s2 lf2 nx = some r1) ∧ Aside0 (Flows n m tos l0 ((n : Int) - 1) s2 lf2) ∧ Aside0 (NextOk n adj nx) ∧ Aside0 (Kp w7 w2 (fun k => k = gl ∨ k = gx)) ∧ Aside0 (RI 0 w2 gl L cl lf2) ∧ Aside0 (RI 0 w2 gx n cx nx))
    case atStart => exact ⟨s, lf, List.replicate n 0, rfl, HP1, HFL, ⟨rep_ok⟩, HK7, HL0, HX0⟩
    case round =>
     clear HK7 HL0 HX0 HP1 HFL
     obtain ⟨s2, lf2, nx, rfl, HP1, HFL, HNX, HK7, HL0, HX0⟩ := hrel
     cases gk with
     | zero => have := HP1.out; cases this
     | succ c =>
      have h := HP1.out
      unfold pushes at h
      obtain ⟨r2, hpl, h2⟩ := Option.bind_eq_some_iff.1 h
      have hn2 := HN2.out
      have hpl2 : (if (0 : Int) = (n : Int) - 1 then some (1125899906842624, lf2, nx) else pushL tos adj d ((n : Int) - 1) c 0 1125899906842624 lf2 nx) = some r2 := by rw [if_neg (by omega)]; exact hpl
      have q9 := push_told NN.out c 0 1125899906842624 lf2 nx r2 hpl (by omega) (by omega) (by omega) (by omega) HFL.out.good HNX.out
      have hfl2 := flows_push (by omega) HFL.out q9
      have HPL := Aside0.mk hpl2
      have HF2 := Aside0.mk hfl2
      have HNX2 := Aside0.mk q9.nxt
      have H2 := Aside0.mk h2
      clear h h2 hpl hpl2 q9 hfl2 hn2
      go_wp2_with fail
      refine (push_callsS (b := 0) NN.out HB0.out.1.1 HB0.out.1.2 HB0.out.2 (fun v v0 v1 => by have h1 := LV.out.lo v v0 v1; have h2 := LV.out.hi v v0 v1; have h3 := HB0.out.1.1; omega) (fun v v0 v1 => rfl) RES.out c 0 1125899906842624 lf2 nx r2 _ HPL.out (by omega) (by have := HN2.out; omega) (by have := LV.out.src; omega) (by omega) (by omega) HFL.out.good HNX.out HK7.out HL0.out HX0.out).mono ?_
      rintro e w3 ⟨rfl, hk3, hl3, hx3⟩
      clear HK7 HL0 HX0
      have HK7 := Aside0.mk hk3
      have HL0 := Aside0.mk hl3
      have HX0 := Aside0.mk hx3
      clear hk3 hl3 hx3
      obtain ⟨s3, lf3, nx3⟩ := r2
      by_cases z2 : s3 = 0
      ·have t2 : (s3 == 0) = true := beq_iff_eq.mpr z2
       have h2 := H2.out
       rw [if_pos z2] at h2
       injection h2 with h2
       subst h2
       have Z2 := Aside0.mk z2
       clear z2
       go_wp2_with fail
       go_roundg q
       case measure => omega
       case rel =>
        have hf2 := HF2.out
        replace hf2 : Flows n m tos l0 ((n : Int) - 1) (s2 + s3) lf3 := hf2
        rw [Z2.out, Int.add_zero] at hf2
        exact ⟨s2, lf3, rfl, HR2, ⟨hf2⟩, ⟨HSUB.out _ HK7.out⟩, ⟨Kd.R_mono HL0.out (fun k hk => congrArg some hk)⟩⟩
      ·have t2 : (s3 == 0) = false := beq_eq_false_iff_ne.mpr z2
       have h2 := H2.out
       rw [if_neg z2] at h2
       have H22 := Aside0.mk h2
       clear z2 h2
       go_wp2_with fail
       go_roundg c
       case measure => omega
       case rel =>
        have hbd := flows_bd HF2.out
        have hbd2 : -(1000000000 * (m : Int)) ≤ s2 + s3 := by
         rw [← HF2.out.val]
         refine (ex_bd ?_).1
         intro k k0 k1
         have h1 := HF2.out.good.2 (2 * k + 1) (by omega) (by omega)
         have h2 := par_bd (m := m) (e := 2 * k + 1) (by omega) (by omega)
         have h3 := HF2.out.good.2 _ h2.1 h2.2
         omega
        have hm := HB0.out.1.2
        replace hbd : s2 + s3 ≤ 1000000000 * (m : Int) := hbd
        exact ⟨s2 + s3, lf3, nx3, by rw [w64 (by omega) (by omega)], H22, HF2, HNX2, HK7, HL0, HX0⟩
end Go.Proofs.Ytomfjhpiemipkaa.OwnRun
