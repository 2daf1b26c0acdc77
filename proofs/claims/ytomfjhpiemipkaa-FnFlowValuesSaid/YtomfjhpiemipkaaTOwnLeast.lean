/- The contract of spec.mfLeast, by hand. -/
import Derived.Test.YtomfjhpiemipkaaTOwnValue
namespace Go.Proofs.Ytomfjhpiemipkaa.OwnLeast
open Go.RowKit Go.Proofs.Ytomfjhpiemipkaa.PFnFlowValues Go.Proofs.YtomfjhpiemipkaaW.PrintWords Go.Proofs.YtomfjhpiemipkaaW.PrintLast Go.Proofs.YtomfjhpiemipkaaW.PrintMore Go.Proofs.Ytomfjhpiemipkaa.B Go.Proofs.Ytomfjhpiemipkaa.Flow Go.Proofs.Ytomfjhpiemipkaa.OwnPush Go.Proofs.Ytomfjhpiemipkaa.OwnLevels Go.Proofs.Ytomfjhpiemipkaa.OwnRun Go.Proofs.Ytomfjhpiemipkaa.OwnRows Go.Proofs.Ytomfjhpiemipkaa.OwnStart Go.Proofs.Ytomfjhpiemipkaa.OwnNet Go.Proofs.Ytomfjhpiemipkaa.OwnValue
set_option linter.unusedVariables false
set_option linter.unusedSimpArgs false
/-- the nodes that are reached -/
def cutAt (d : List Int) (o : List Int) (j : Nat) : List Int := if 0 ≤ d.getD j 0 then o ++ [(j : Int)] else o
def cutL (d : List Int) : List Int := foldR (cutAt d) 0 d.length []
theorem cutAt_len (d : List Int) (i : Nat) : (foldR (cutAt d) 0 i []).length ≤ i := by
 induction i with
 | zero => rw [foldR_end (Nat.le_refl _)]; exact Nat.le_refl _
 | succ i ih =>
  rw [foldR_last (Nat.zero_le _)]
  unfold cutAt
  split
  ·rw [List.length_append]; show _ + 1 ≤ _; exact Nat.succ_le_succ ih
  ·exact Nat.le_succ_of_le ih
theorem run_bfs {n : Nat} {tos : List Int} {adj : List (List Int)} {snk big : Int} : ∀ (k : Nat) (val : Int) (left : List Int) (r : Int × List Int × List Int), runL n tos adj snk big k val left = some r → ∃ k', bfsL tos adj r.2.1 k' (d0 n 0) [0] = some r.2.2 := by
 intro k
 induction k with
 | zero => intro val left r h; cases h
 | succ k ih =>
  intro val left r h
  unfold runL at h
  obtain ⟨d, hd, h2⟩ := Option.bind_eq_some_iff.1 h
  by_cases c : rd d snk < 0
  ·rw [if_pos c] at h2
   injection h2 with h2
   subst h2
   exact ⟨k, hd⟩
  ·rw [if_neg c] at h2
   obtain ⟨r1, _, h3⟩ := Option.bind_eq_some_iff.1 h2
   exact ih _ _ _ h3
set_option maxHeartbeats 8000000 in
set_option maxRecDepth 100000 in
theorem least_calls (n : Nat) (A : Option Addr) (c : Nat) (l : List S99) (w : World) (h1 : Kd.C k99 w A l.length l) (e1 : l.length ≤ c) (hn : 2 ≤ n ∧ n ≤ 130) (hl : l.length ≤ 8000) (hE : ∀ j, j < l.length → edgeOk n (l.getD j z99)) (r : Int × List Int × List Int) (hr : Ran n l r) :
  Calls Try.prog 150 #[.int .i64 n, .slice A l.length c] w fun e w' => ∃ v : Value, e = .returned v ∧ Kd.R (Kd.int .i64) 3 w' w.heap.size (fun _ => True) v (cutL r.2.2) ∧ Below w.heap.size w w' := by
 obtain ⟨k, hk⟩ := hr
 obtain ⟨k2, hk2⟩ := run_bfs k _ _ _ hk
 have N := net_of n l hn.1 hE
 have hT := run_told N (by omega) (by omega) k 0 (leftL l) r hk (flows_of n l hE)
 have H1 := Aside0.mk h1
 have E1 := Aside0.mk e1
 have HN := Aside0.mk hn
 have HL := Aside0.mk hl
 have HE := Aside0.mk hE
 have HK := Aside0.mk hk
 have HK2 := Aside0.mk hk2
 have NN := Aside0.mk N
 have HGD := Aside0.mk hT.1.good
 have HDL := Aside0.mk hT.2.1.len
 clear h1 e1 hn hl hE hk hk2 N hT
 go_enter Try.func150, Try.ntmps150
 go_wp2_with fail
 refine (start_calls n A c l w H1.out E1.out HN.out HL.out HE.out).mono ?_
 rintro e w1 ⟨p, gf, cf, vT, vL, rfl, hpw, hb, hT, hL, hS, hB⟩
 obtain ⟨At, Al, ct, cl, rfl, rfl, hO, hR⟩ := obj_of hb hT hL hS
 have HO := Aside0.mk hO
 have HR := Aside0.mk hR
 have HB := Aside0.mk hB
 have HBL := Aside0.mk (Kd.R_base hL)
 clear hb hT hL hS hB hO hR hpw
 go_wp2_with fail
 refine (run_calls NN.out HN.out.2 HL.out rfl HO.out HR.out (flows_of n l HE.out) k r HK.out).mono ?_
 rintro e w2 ⟨rfl, hk2, hr2⟩
 have HKP := Aside0.mk hk2
 have HB2 := Aside0.mk (Kp.whole HB.out hk2 (fun k hk => HBL.out k hk.symm))
 have HR2 := Aside0.mk hr2
 clear hk2 hr2
 go_wp2_with fail
 refine (levels_calls NN.out HN.out.2 HL.out rfl HGD.out (HO.out.blk _ HKP.out) (HO.out.E _ HKP.out) (HO.out.T _ HKP.out) (by have h := (Kd.R_reads' HR2.out).2.2; rwa [← (Kd.R_reads' HR2.out).1] at h) k2 r.2.2 HK2.out).mono ?_
 rintro e w3 ⟨v, rfl, hv, hb⟩
 obtain ⟨gd, cd, eo, gb, gl_, _, _⟩ := Kd.R_form hv (by rw [HDL.out]; have := HN.out; omega)
 rw [HDL.out] at eo
 subst eo
 have HD := Aside0.mk hv
 have HB3 := Aside0.mk (below_step HB2.out hb)
 have HGD2 := Aside0.mk (Nat.le_trans HB2.out.size gb)
 clear hv hb gb gl_
 obtain ⟨d, ed⟩ : ∃ z, z = r.2.2 := ⟨_, rfl⟩
 rw [← ed] at HD HDL
 have ED := Aside0.mk ed
 clear ed HK HK2 HGD HKP HR2 HR HO HBL
 have HD := Aside0.mk (Kd.R_mono (Kd.R_tight rfl (Kd.R_lower HD.out HB2.out.size)) (ok' := fun k => k = gd) (fun k hk => Option.some.inj hk))
 go_wp2_with fail
 go_loopg [6, 17] (n) (fun q v6 v17 wr => ∃ (i : Int), v17 = .int .i64 i ∧ Aside0 (0 ≤ i ∧ i + q = n) ∧ Aside0 (Kd.R (Kd.int .i64) 3 wr w.heap.size (fun k => k = gd ∧ some k ≠ v6.ownBlock) (.slice (some ⟨gd, 0, none⟩) n cd) d) ∧ Aside0 (Kd.R (Kd.int .i64) 3 wr w.heap.size (fun k => k ≠ gd) v6 (foldR (cutAt d) 0 i.toNat [])) ∧ Aside0 (Below w.heap.size w wr))
 case atStart => exact ⟨0, rfl, ⟨by omega⟩, ⟨Kd.R_mono HD.out (fun k hk => ⟨hk, by simp [Value.ownBlock]⟩)⟩, ⟨by rw [show (0 : Int).toNat = 0 from rfl, foldR_end (Nat.le_refl _)]; exact Kd.R_nil _ _ _ _ _⟩, HB3⟩
 case round =>
  clear HD HB HB2 HB3
  obtain ⟨i, rfl, HI, HD, HO, HB⟩ := hrel
  have hi := HI.out
  cases gk with
  | zero =>
   have t1 : decide (i < (n : Int)) = false := decide_eq_false (by omega)
   have ei : i.toNat = n := by omega
   rw [ei] at HO
   clear hi ei
   go_wp2_with fail
   go_ret
   exact ⟨_, rfl, Kd.R_mono (by rw [← ED.out]; unfold cutL; rw [HDL.out]; exact HO.out) (fun _ _ => trivial), HB.out⟩
  | succ q =>
   have t1 : decide (i < (n : Int)) = true := decide_eq_true (by omega)
   have q0 := eq_true hi.1
   have q1 := eq_true (show i < (n : Int) by omega)
   obtain ⟨x, ex⟩ : ∃ z, z = rd d i := ⟨_, rfl⟩
   have EX : Aside0 (x = d.getD i.toNat 0) := ⟨ex⟩
   obtain ⟨hcd, hfd⟩ := Kd.R_celln 0 HD.out i hi.1 (by omega)
   rw [show rdOf 0 d i = x from ex.symm] at hcd
   have HLN := Aside0.mk (cutAt_len d i.toNat)
   have hi130 : i ≤ 130 := by have := HN.out; omega
   have HI130 := Aside0.mk hi130
   obtain ⟨A6, c6, e6⟩ := Kd.R_slice HO.out
   obtain ⟨m6, em6⟩ : ∃ z, z = (foldR (cutAt d) 0 i.toNat []).length := ⟨_, rfl⟩
   rw [← em6] at e6
   subst e6
   clear ex hi em6 hi130
   by_cases z : 0 ≤ x
   ·have t2 : decide (0 ≤ x) = true := decide_eq_true z
    have t3 : decide (x < 0) = false := decide_eq_false (by omega)
    have Z := Aside0.mk z
    clear z
    go_wp2_with (first | ((with_reducible refine gate_builtin (b := .append) (xs := #[.tmp 24, .tmp 26]) rfl ?_); at_builtin; refine Kd.R_append (Kd.int .i64) (w0 := w) w.heap.size rfl (.tmp 24) (.tmp 26) 24 3 (.int .i64 0) 8 rfl Try.underlying24 inf3 rfl (by decide) (by omega) (.slice A6 m6 c6) (foldR (cutAt d) 0 i.toNat []) i [.int .i64 i] (fun k => k ≠ gd) (fun _ => False) rfl rfl ?aP (fun _ hk => hk.elim) ?aF ?aO ?aB ?aS ?aL ?_; (case aP => exact rfl); (case aB => exact HB.out); (case aF => exact (fun k hk => by have h1_ := Kd.R_lt HD.out gd rfl; omega)); (case aO => exact HO.out); (case aS => exact (below_size HB.out)); (case aL => have h1_ := HLN.out; have h2_ := HI130.out; omega); intro v229 w10 ho hb hg hat; have n0_ := Aside0.mk hb; have n1_ := Aside0.mk ho; have n2_ := Aside0.mk (Kd.R_after HD.out hg hat); clear HB HO HD; have HB := n0_; have HO := n1_; have HD := n2_; clear n0_ n1_ n2_; clear ho hb hg hat hcd hfd))
    go_roundg q
    case measure => omega
    case rel =>
     have hi := HI.out
     have h130 := HI130.out
     refine ⟨i + 1, by rw [w64 (by omega) (by omega)], ⟨by omega⟩, HD, ⟨?_⟩, HB⟩
     rw [show (i + 1).toNat = i.toNat + 1 by omega, foldR_last (Nat.zero_le _)]
     show Kd.R (Kd.int .i64) 3 _ _ _ _ (cutAt d (foldR (cutAt d) 0 i.toNat []) i.toNat)
     unfold cutAt
     rw [← EX.out, if_pos Z.out, show ((i.toNat : Nat) : Int) = i by omega]
     exact HO.out
   ·have t2 : decide (0 ≤ x) = false := decide_eq_false z
    have t3 : decide (x < 0) = true := decide_eq_true (by omega)
    have Z := Aside0.mk z
    clear z
    go_wp2_with fail
    go_roundg q
    case measure => omega
    case rel =>
     have hi := HI.out
     have h130 := HI130.out
     refine ⟨i + 1, by rw [w64 (by omega) (by omega)], ⟨by omega⟩, HD, ⟨?_⟩, HB⟩
     rw [show (i + 1).toNat = i.toNat + 1 by omega, foldR_last (Nat.zero_le _)]
     show Kd.R (Kd.int .i64) 3 _ _ _ _ (cutAt d (foldR (cutAt d) 0 i.toNat []) i.toNat)
     unfold cutAt
     rw [← EX.out, if_neg (by have := Z.out; omega)]
     exact HO.out
end Go.Proofs.Ytomfjhpiemipkaa.OwnLeast
