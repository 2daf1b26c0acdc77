/- The contract of spec.mfValue, by hand. -/
import Derived.Test.YtomfjhpiemipkaaTOwnStart
import Derived.Test.YtomfjhpiemipkaaTOwnNet
namespace Go.Proofs.Ytomfjhpiemipkaa.OwnValue
open Go.RowKit Go.Proofs.Ytomfjhpiemipkaa.PFnFlowValues Go.Proofs.YtomfjhpiemipkaaW.PrintWords Go.Proofs.YtomfjhpiemipkaaW.PrintLast Go.Proofs.YtomfjhpiemipkaaW.PrintMore Go.Proofs.Ytomfjhpiemipkaa.B Go.Proofs.Ytomfjhpiemipkaa.Flow Go.Proofs.Ytomfjhpiemipkaa.OwnPush Go.Proofs.Ytomfjhpiemipkaa.OwnLevels Go.Proofs.Ytomfjhpiemipkaa.OwnRun Go.Proofs.Ytomfjhpiemipkaa.OwnRows Go.Proofs.Ytomfjhpiemipkaa.OwnStart Go.Proofs.Ytomfjhpiemipkaa.OwnNet
set_option linter.unusedVariables false
set_option linter.unusedSimpArgs false
/-- What a run over the network's edges leaves: the value, what is left, the levels. -/
def Ran (n : Nat) (l : List S99) (r : Int × List Int × List Int) : Prop := ∃ k, runL n (tosL l) (adjL l n l.length) ((n : Int) - 1) 1125899906842624 k 0 (leftL l) = some r
theorem ran_ends (n : Nat) (l : List S99) (hn : 2 ≤ n) (hE : ∀ j, j < l.length → edgeOk n (l.getD j z99)) : ∃ r, Ran n l r := by
  obtain ⟨r, hr⟩ := run_ends (big := 1125899906842624) (net_of n l hn hE) (by omega) (by omega) (by omega) (by omega) (1000000000 * l.length + 1) 0 (leftL l) (by omega) (flows_of n l hE)
  exact ⟨r, hr.rounds⟩
/-- What mfStart leaves is a state as run needs it. -/
theorem obj_of {n : Nat} {l : List S99} {w' : World} {b p gf cf : Nat} {vT vL : Value} (hb : w'.heap[p]? = some (.cells #[.int .i64 n, vT, vL, .slice (some ⟨gf, 0, none⟩) n cf] 198 (0, 0)))
    (hT : Kd.R (Kd.int .i64) 3 w' b (fun k => k ≠ p ∧ some k ≠ vL.ownBlock) vT (tosL l)) (hL : Kd.R (Kd.int .i64) 3 w' b (fun k => k ≠ p ∧ some k ≠ vT.ownBlock) vL (leftL l)) (hS : Kd.S kRows 24 w' b (fun k => (k ≠ p ∧ some k ≠ vL.ownBlock) ∧ some k ≠ vT.ownBlock) (.slice (some ⟨gf, 0, none⟩) n cf) (adjL l n l.length)) :
    ∃ (At Al : Option Addr) (ct cl : Nat), vT = .slice At (2 * l.length) ct ∧ vL = .slice Al (2 * l.length) cl ∧ StObj w' p n (2 * l.length) ⟨gf, 0, none⟩ At Al cf ct cl (adjL l n l.length) (tosL l) ∧ Kd.R (Kd.int .i64) 3 w' 0 (fun k => some k = (Value.slice Al (2 * l.length) cl).ownBlock) (.slice Al (2 * l.length) cl) (leftL l) := by
  obtain ⟨At, ct, rfl⟩ := Kd.R_slice hT
  obtain ⟨Al, cl, rfl⟩ := Kd.R_slice hL
  rw [tosL_len] at hT hb hL hS ⊢
  rw [leftL_len] at hT hb hL hS ⊢
  refine ⟨At, Al, ct, cl, rfl, rfl, ⟨?_, ?_, ?_, ⟨(Kd.S_reads' hS).2.1, (Kd.R_reads' hT).2.1⟩, ?_⟩, Kd.R_lower (Kd.R_mono (Kd.R_tight rfl hL) (fun k hk => hk)) (Nat.zero_le _)⟩
  · intro W hk
    exact blk_kept hb hk.1 (fun e => (hL.1 p e.symm).1 rfl)
  · intro W hk
    have h := (Kd.S_reads' (Kd.S_kept hS hk.1 (fun k h1 h2 => h1.1.2 h2))).2.2
    rwa [adjL_len] at h
  · intro W hk
    have h := (Kd.R_reads' (Kd.R_kept hT hk.1 (fun k h1 h2 => h1.2 h2))).2.2
    rwa [tosL_len] at h
  · intro e
    exact (hL.1 p e.symm).1 rfl
set_option maxHeartbeats 4000000 in
set_option maxRecDepth 100000 in
theorem value_calls (n : Nat) (A : Option Addr) (c : Nat) (l : List S99) (w : World) (h1 : Kd.C k99 w A l.length l) (e1 : l.length ≤ c) (hn : 2 ≤ n ∧ n ≤ 130) (hl : l.length ≤ 8000) (hE : ∀ j, j < l.length → edgeOk n (l.getD j z99)) (r : Int × List Int × List Int) (hr : Ran n l r) :
    Calls Try.prog 140 #[.int .i64 n, .slice A l.length c] w fun e w' => e = .returned (.int .i64 r.1) ∧ Below w.heap.size w w' := by
  obtain ⟨k, hk⟩ := hr
  have H1 := Aside0.mk h1
  have E1 := Aside0.mk e1
  have HN := Aside0.mk hn
  have HL := Aside0.mk hl
  have HE := Aside0.mk hE
  have HK := Aside0.mk hk
  clear h1 e1 hn hl hE hk
  go_enter Try.func140, Try.ntmps140
  go_wp2_with fail
  refine (start_calls n A c l w H1.out E1.out HN.out HL.out HE.out).mono ?_
  rintro e w1 ⟨p, gf, cf, vT, vL, rfl, hpw, hb, hT, hL, hS, hB⟩
  have hpl : w.heap.size ≤ gf := Kd.S_base hS gf rfl
  obtain ⟨At, Al, ct, cl, rfl, rfl, hO, hR⟩ := obj_of hb hT hL hS
  have hbl : ∀ k, (Value.slice Al (2 * l.length) cl).ownBlock = some k → w.heap.size ≤ k := Kd.R_base hL
  have HO := Aside0.mk hO
  have HR := Aside0.mk hR
  have HB := Aside0.mk hB
  have HBL := Aside0.mk hbl
  clear hb hT hL hS hB hO hR hbl hpl hpw
  go_wp2_with fail
  refine (run_calls (net_of n l HN.out.1 HE.out) HN.out.2 HL.out rfl HO.out HR.out (flows_of n l HE.out) k r HK.out).mono ?_
  rintro e w2 ⟨rfl, hk2, _⟩
  have HK2 := Aside0.mk hk2
  clear hk2
  go_wp2_with fail
  go_ret
  exact ⟨rfl, Kp.whole HB.out HK2.out (fun k hk => HBL.out k hk.symm)⟩
end Go.Proofs.Ytomfjhpiemipkaa.OwnValue
