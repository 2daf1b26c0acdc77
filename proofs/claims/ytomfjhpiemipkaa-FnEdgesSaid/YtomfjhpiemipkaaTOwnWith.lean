/- The contracts of spec.mfWith and impl.flowWith, by hand: a run over the edges with one capacity changed. -/
import Derived.Test.YtomfjhpiemipkaaTOwnValue
import Derived.Test.YtomfjhpiemipkaaTOwnStartI
import Derived.Test.YtomfjhpiemipkaaTOwnRunI
namespace Go.Proofs.Ytomfjhpiemipkaa.OwnWith
open Go.RowKit Go.Proofs.Ytomfjhpiemipkaa.PFnEdges Go.Proofs.YtomfjhpiemipkaaW.PrintWords Go.Proofs.YtomfjhpiemipkaaW.PrintLast Go.Proofs.YtomfjhpiemipkaaW.PrintMore Go.Proofs.Ytomfjhpiemipkaa.B Go.Proofs.Ytomfjhpiemipkaa.Flow Go.Proofs.Ytomfjhpiemipkaa.OwnPush Go.Proofs.Ytomfjhpiemipkaa.OwnLevels Go.Proofs.Ytomfjhpiemipkaa.OwnRun Go.Proofs.Ytomfjhpiemipkaa.OwnRows Go.Proofs.Ytomfjhpiemipkaa.OwnNet Go.Proofs.Ytomfjhpiemipkaa.OwnValue Go.Proofs.Ytomfjhpiemipkaa.OwnRunI
set_option linter.unusedVariables false
set_option linter.unusedSimpArgs false
theorem infE : (Try.prog.info? 99).map (fun i => (i.zero, i.size, i.bytes)) = some (some (.agg #[(.int .i64 0), (.int .i64 0), (.int .i64 0)]), 3, 24) := by kernel_rfl
theorem below_step2 {B : Nat} {w w1 w2 : World} (h : Below B w w1) (k : Below B w1 w2) : Below B w w2 := ⟨k.os.trans h.os, k.tape.trans h.tape, k.output.trans h.output, Nat.le_trans h.size k.size, fun i hi => (k.block i hi).trans (h.block i hi)⟩
def setCap (l : List S99) (k ch : Int) : List S99 := l.set k.toNat ⟨(l.getD k.toNat z99).f0, (l.getD k.toNat z99).f1, (l.getD k.toNat z99).f2 + ch⟩
theorem setCap_len (l : List S99) (k ch : Int) : (setCap l k ch).length = l.length := by unfold setCap; rw [List.length_set]
theorem setCap_at (l : List S99) (k ch : Int) (j : Nat) (hj : j < l.length) : (setCap l k ch).getD j z99 = if k.toNat = j then ⟨(l.getD j z99).f0, (l.getD j z99).f1, (l.getD j z99).f2 + ch⟩ else l.getD j z99 := by
  unfold setCap
  rw [List.getD_eq_getElem?_getD, List.getElem?_set]
  by_cases h : k.toNat = j
  · subst h; rw [if_pos rfl, if_pos hj, if_pos rfl]; rfl
  · rw [if_neg h, if_neg h, ← List.getD_eq_getElem?_getD]
/-- What newResidual leaves is a residual network as run needs it. -/
theorem obj_ofI {n : Nat} {l : List S99} {w' : World} {b p gf cf : Nat} {vT vL : Value} (hb : w'.heap[p]? = some (.cells #[.slice (some ⟨gf, 0, none⟩) n cf, vT, vL, .slice none 0 0, .slice none 0 0] 195 (0, 0)))
    (hT : Kd.R (Kd.int .i64) 3 w' b (fun k => k ≠ p ∧ some k ≠ vL.ownBlock) vT (tosL l)) (hL : Kd.R (Kd.int .i64) 3 w' b (fun k => k ≠ p ∧ some k ≠ vT.ownBlock) vL (leftL l)) (hS : Kd.S kRows 24 w' b (fun k => (k ≠ p ∧ some k ≠ vL.ownBlock) ∧ some k ≠ vT.ownBlock) (.slice (some ⟨gf, 0, none⟩) n cf) (adjL l n l.length)) :
    ∃ (At Al : Option Addr) (ct cl : Nat), vT = .slice At (2 * l.length) ct ∧ vL = .slice Al (2 * l.length) cl ∧ IObj w' p n (2 * l.length) ⟨gf, 0, none⟩ At Al cf ct cl (adjL l n l.length) (tosL l) ∧ Kd.R (Kd.int .i64) 3 w' 0 (fun k => some k = (Value.slice Al (2 * l.length) cl).ownBlock) (.slice Al (2 * l.length) cl) (leftL l) := by
  obtain ⟨At, ct, rfl⟩ := Kd.R_slice hT
  obtain ⟨Al, cl, rfl⟩ := Kd.R_slice hL
  rw [tosL_len] at hT hb hL hS ⊢
  rw [leftL_len] at hT hb hL hS ⊢
  refine ⟨At, Al, ct, cl, rfl, rfl, ⟨?_, ?_, ⟨(Kd.S_reads' hS).2.1, (Kd.R_reads' hT).2.1⟩, ?_, blk_lt hb⟩, Kd.R_lower (Kd.R_mono (Kd.R_tight rfl hL) (fun k hk => hk)) (Nat.zero_le _)⟩
  · intro W hk
    have h := (Kd.S_reads' (Kd.S_kept hS hk (fun k h1 h2 => h2.elim (fun e => h1.1.1 e) (fun e => h1.1.2 e)))).2.2
    rwa [adjL_len] at h
  · intro W hk
    have h := (Kd.R_reads' (Kd.R_kept hT hk (fun k h1 h2 => h2.elim (fun e => h1.1 e) (fun e => h1.2 e)))).2.2
    rwa [tosL_len] at h
  · intro e
    exact (hL.1 p e.symm).1 rfl
set_option maxHeartbeats 8000000 in
set_option maxRecDepth 100000 in
theorem withS_calls (n : Nat) (A : Option Addr) (c : Nat) (l : List S99) (w : World) (k ch : Int) (h1 : Kd.C k99 w A l.length l) (e1 : l.length ≤ c) (hn : 2 ≤ n ∧ n ≤ 130) (hl : l.length ≤ 8000) (hk : 0 ≤ k ∧ k < l.length) (hE : ∀ j, j < (setCap l k ch).length → edgeOk n ((setCap l k ch).getD j z99)) (r : Int × List Int × List Int) (hr : Ran n (setCap l k ch) r) :
    Calls Try.prog 139 #[.int .i64 n, .slice A l.length c, .int .i64 k, .int .i64 ch] w fun e w' => e = .returned (.int .i64 r.1) ∧ Below w.heap.size w w' := by
  have hu68 := Try.underlying99
  have hck := hE k.toNat (by rw [setCap_len]; omega)
  rw [setCap_at l k ch k.toNat (by omega), if_pos rfl] at hck
  obtain ⟨x, ex⟩ : ∃ x, x = l.getD k.toNat z99 := ⟨_, rfl⟩
  rw [← ex] at hck
  have EX := Aside0.mk ex
  have hw : wrap64 (x.f2 + ch) = x.f2 + ch := w64 (by have h := hck.2.2.2.2; replace h : 0 ≤ x.f2 + ch ∧ x.f2 + ch ≤ 1000000000 := h; omega) (by have h := hck.2.2.2.2; replace h : 0 ≤ x.f2 + ch ∧ x.f2 + ch ≤ 1000000000 := h; omega)
  have H1 := Aside0.mk h1
  have E1 := Aside0.mk e1
  have HN := Aside0.mk hn
  have HL := Aside0.mk hl
  have HE := Aside0.mk hE
  have HR := Aside0.mk hr
  have HK := Aside0.mk hk
  have HB := Aside0.mk (Below.refl w.heap.size w)
  have q0 := eq_true hk.1
  have q1 := eq_true hk.2
  clear h1 e1 hn hl hE hr hk hck ex
  go_enter Try.func139, Try.ntmps139
  go_wp2_with (first
    | ((with_reducible refine gate_dst (N := 10) rfl ?_); refine Kd.R_lit k99 _ 99 ?hg (N := 10) ?hd (xs := ([] : List S99)) (inner := []) (ok := fun _ => True) (okp := fun _ => True) ?hr ?hp (fun _ hk => hk) trivial (Below.refl _ _) (Nat.le_refl _) (by simp) ?_; (case hd => rfl); (case hg => rfl); (case hr => first | (go_simp; done) | (go_simp; rfl)); (case hp => exact (Reps.none _ _)); intro v0 w1 ho hb hg_ hnew_; clear hg_ hnew_; have n0_ := Aside0.mk ho; have n1_ := Aside0.mk (below_step HB.out hb); clear HB; have HO := n0_; have HB := n1_; clear n0_ n1_ ho hb)
    | ((with_reducible refine gate_builtin (b := .append) (xs := #[.tmp 10, .tmp 11]) rfl ?_); at_builtin; refine Kd.R_append_rows k99 (Rr := (k99).K w1) (w0 := w1) w.heap.size rfl (.tmp 10) (.tmp 11) 89 99 (.agg #[(.int .i64 0), (.int .i64 0), (.int .i64 0)]) 24 rfl Try.underlying89 infE rfl (by decide) (by omega) v0 [] l A l.length c (fun _ => True) (fun _ => False) rfl rfl ?aO ?aR ?aK (fun _ hk => hk.elim) (fun _ _ => trivial) (Below.refl _ _) ?aS ?aL ?_; (case aO => exact HO.out); (case aR => exact Kd.C_below H1.out HB.out); (case aK => exact fun y cs h => by obtain rfl := k99_open h; exact k99_mkM _ _ _ y); (case aS => exact below_size HB.out); (case aL => have h1_ := HL.out; simp; omega); intro v1 w2 ho hb hg_ hat_; clear hg_ hat_; rw [List.nil_append] at ho; obtain ⟨go, co, eo, gb, gl_, cl_, HG_⟩ := Kd.R_form ho (by have := HK.out; omega); subst eo; obtain ⟨ce, hcl, hM, hcc, hfr⟩ := Kd.R_elem ho z99 k HK.out.1 HK.out.2; rw [← EX.out] at hM; obtain rfl := k99_openM hM; have hx2 : w2.cell? ⟨go, k.toNat * 3 + 2, none⟩ = some (.int .i64 x.f2) := hcc 2 _ rfl; have hf2 : w2.frozen? ⟨go, k.toNat * 3 + 2, none⟩ = false := hfr 2; have HP := Kd.R_seg ho k HK.out.1 HK.out.2 (seg := [.int .i64 (x.f2 + ch)]) (j := 2) hcl hcc (show 3 ≤ 3 from by decide) (x' := (⟨x.f0, x.f1, x.f2 + ch⟩ : S99)) (k99_mkM _ _ _ (⟨x.f0, x.f1, x.f2 + ch⟩ : S99)) (fun _ hk => hk); have n0_ : Aside0 (Kd.R k99 99 (w2.setCell ⟨go, k.toNat * 3 + 2, none⟩ (.int .i64 (x.f2 + ch))) w.heap.size (fun _ => True) (.slice (some ⟨go, 0, none⟩) l.length co) (setCap l k ch)) := ⟨by unfold setCap; rw [← EX.out]; exact HP.1⟩; have n1_ : Aside0 (Below w.heap.size w (w2.setCell ⟨go, k.toNat * 3 + 2, none⟩ (.int .i64 (x.f2 + ch)))) := ⟨below_set (below_step2 HB.out hb) gb⟩; clear HO HB; have HO := n0_; have HB := n1_; clear n0_ n1_ HP hcl hM hcc hfr gb gl_ cl_ HG_ ho hb))
  clear hx2 hf2
  generalize w2.setCell ⟨go, k.toNat * 3 + 2, none⟩ (.int .i64 (x.f2 + ch)) = w3 at HO HB ⊢
  refine Calls.mono (by have h := value_calls n (some ⟨go, 0, none⟩) co (setCap l k ch) w3 (Kd.R_reads' HO.out).2.2 (by rw [setCap_len]; exact (Kd.R_reads' HO.out).2.1) HN.out (by rw [setCap_len]; exact HL.out) HE.out r HR.out; rw [setCap_len] at h; exact h) ?_
  rintro e w4 ⟨rfl, hb⟩
  have HB4 := Aside0.mk (below_step HB.out hb)
  clear hb
  go_wp2_with fail
  go_ret
  exact ⟨rfl, HB4.out⟩
set_option maxHeartbeats 8000000 in
set_option maxRecDepth 100000 in
theorem withI_calls (n : Nat) (A : Option Addr) (c : Nat) (l : List S99) (w : World) (k ch : Int) (h1 : Kd.C k99 w A l.length l) (e1 : l.length ≤ c) (hn : 2 ≤ n ∧ n ≤ 130) (hl : l.length ≤ 8000) (hk : 0 ≤ k ∧ k < l.length) (hE : ∀ j, j < (setCap l k ch).length → edgeOk n ((setCap l k ch).getD j z99)) (r : Int × List Int × List Int) (hr : Ran n (setCap l k ch) r) :
    Calls Try.prog 137 #[.int .i64 n, .slice A l.length c, .int .i64 k, .int .i64 ch] w fun e w' => e = .returned (.int .i64 r.1) ∧ Below w.heap.size w w' := by
  have hu68 := Try.underlying99
  have hck := hE k.toNat (by rw [setCap_len]; omega)
  rw [setCap_at l k ch k.toNat (by omega), if_pos rfl] at hck
  obtain ⟨x, ex⟩ : ∃ x, x = l.getD k.toNat z99 := ⟨_, rfl⟩
  rw [← ex] at hck
  have EX := Aside0.mk ex
  have hw : wrap64 (x.f2 + ch) = x.f2 + ch := w64 (by have h := hck.2.2.2.2; replace h : 0 ≤ x.f2 + ch ∧ x.f2 + ch ≤ 1000000000 := h; omega) (by have h := hck.2.2.2.2; replace h : 0 ≤ x.f2 + ch ∧ x.f2 + ch ≤ 1000000000 := h; omega)
  have H1 := Aside0.mk h1
  have E1 := Aside0.mk e1
  have HN := Aside0.mk hn
  have HL := Aside0.mk hl
  have HE := Aside0.mk hE
  have HR := Aside0.mk hr
  have HK := Aside0.mk hk
  have HB := Aside0.mk (Below.refl w.heap.size w)
  have q0 := eq_true hk.1
  have q1 := eq_true hk.2
  clear h1 e1 hn hl hE hr hk hck ex
  go_enter Try.func137, Try.ntmps137
  go_wp2_with (first
    | ((with_reducible refine gate_dst (N := 10) rfl ?_); refine Kd.R_lit k99 _ 99 ?hg (N := 10) ?hd (xs := ([] : List S99)) (inner := []) (ok := fun _ => True) (okp := fun _ => True) ?hr ?hp (fun _ hk => hk) trivial (Below.refl _ _) (Nat.le_refl _) (by simp) ?_; (case hd => rfl); (case hg => rfl); (case hr => first | (go_simp; done) | (go_simp; rfl)); (case hp => exact (Reps.none _ _)); intro v0 w1 ho hb hg_ hnew_; clear hg_ hnew_; have n0_ := Aside0.mk ho; have n1_ := Aside0.mk (below_step HB.out hb); clear HB; have HO := n0_; have HB := n1_; clear n0_ n1_ ho hb)
    | ((with_reducible refine gate_builtin (b := .append) (xs := #[.tmp 10, .tmp 11]) rfl ?_); at_builtin; refine Kd.R_append_rows k99 (Rr := (k99).K w1) (w0 := w1) w.heap.size rfl (.tmp 10) (.tmp 11) 89 99 (.agg #[(.int .i64 0), (.int .i64 0), (.int .i64 0)]) 24 rfl Try.underlying89 infE rfl (by decide) (by omega) v0 [] l A l.length c (fun _ => True) (fun _ => False) rfl rfl ?aO ?aR ?aK (fun _ hk => hk.elim) (fun _ _ => trivial) (Below.refl _ _) ?aS ?aL ?_; (case aO => exact HO.out); (case aR => exact Kd.C_below H1.out HB.out); (case aK => exact fun y cs h => by obtain rfl := k99_open h; exact k99_mkM _ _ _ y); (case aS => exact below_size HB.out); (case aL => have h1_ := HL.out; simp; omega); intro v1 w2 ho hb hg_ hat_; clear hg_ hat_; rw [List.nil_append] at ho; obtain ⟨go, co, eo, gb, gl_, cl_, HG_⟩ := Kd.R_form ho (by have := HK.out; omega); subst eo; obtain ⟨ce, hcl, hM, hcc, hfr⟩ := Kd.R_elem ho z99 k HK.out.1 HK.out.2; rw [← EX.out] at hM; obtain rfl := k99_openM hM; have hx2 : w2.cell? ⟨go, k.toNat * 3 + 2, none⟩ = some (.int .i64 x.f2) := hcc 2 _ rfl; have hf2 : w2.frozen? ⟨go, k.toNat * 3 + 2, none⟩ = false := hfr 2; have HP := Kd.R_seg ho k HK.out.1 HK.out.2 (seg := [.int .i64 (x.f2 + ch)]) (j := 2) hcl hcc (show 3 ≤ 3 from by decide) (x' := (⟨x.f0, x.f1, x.f2 + ch⟩ : S99)) (k99_mkM _ _ _ (⟨x.f0, x.f1, x.f2 + ch⟩ : S99)) (fun _ hk => hk); have n0_ : Aside0 (Kd.R k99 99 (w2.setCell ⟨go, k.toNat * 3 + 2, none⟩ (.int .i64 (x.f2 + ch))) w.heap.size (fun _ => True) (.slice (some ⟨go, 0, none⟩) l.length co) (setCap l k ch)) := ⟨by unfold setCap; rw [← EX.out]; exact HP.1⟩; have n1_ : Aside0 (Below w.heap.size w (w2.setCell ⟨go, k.toNat * 3 + 2, none⟩ (.int .i64 (x.f2 + ch)))) := ⟨below_set (below_step2 HB.out hb) gb⟩; clear HO HB; have HO := n0_; have HB := n1_; clear n0_ n1_ HP hcl hM hcc hfr gb gl_ cl_ HG_ ho hb))
  clear hx2 hf2
  generalize w2.setCell ⟨go, k.toNat * 3 + 2, none⟩ (.int .i64 (x.f2 + ch)) = w3 at HO HB ⊢
  obtain ⟨kx, hx⟩ := HR.out
  have hn := HN.out
  have hx2 : runL n (tosL (setCap l k ch)) (adjL (setCap l k ch) n (setCap l k ch).length) ((n : Int) - 1) 1152921504606846976 kx 0 (leftL (setCap l k ch)) = some r := by
    rw [run_big (net_of n _ hn.1 HE.out) (by omega) 1152921504606846976 1125899906842624 (by omega) (by omega) kx 0 _ (flows_of n _ HE.out)]
    exact hx
  have HX := Aside0.mk hx2
  clear hx hx2 hn
  refine Calls.mono (by have h := OwnStartI.start_callsI n (some ⟨go, 0, none⟩) co (setCap l k ch) w3 (Kd.R_reads' HO.out).2.2 (by rw [setCap_len]; exact (Kd.R_reads' HO.out).2.1) HN.out (by rw [setCap_len]; exact HL.out) HE.out; rw [setCap_len] at h; exact h) ?_
  rintro e w4 ⟨p, gf, cf, vT, vL, rfl, hpw, hb, hT, hL, hS, hB⟩
  rw [← setCap_len l k ch] at hS
  obtain ⟨At, Al, ct, cl, rfl, rfl, hO, hR⟩ := obj_ofI hb hT hL hS
  have B4 := Aside0.mk (below_step HB.out hB)
  have HO4 := Aside0.mk hO
  have HR4 := Aside0.mk hR
  have HBK := Aside0.mk hb
  have HBL := Aside0.mk (Kd.R_base hL)
  have HPB := Aside0.mk (show w.heap.size ≤ p from Nat.le_trans HB.out.size hpw)
  clear hb hT hL hS hB hO hR hpw
  go_wp2_with fail
  refine (run_callsI (net_of n _ HN.out.1 HE.out) HN.out.2 (by rw [setCap_len]; exact HL.out) rfl HO4.out HBK.out HR4.out (flows_of n _ HE.out) kx r HX.out).mono ?_
  rintro e w5 ⟨rfl, hk5, _, _⟩
  have HK5 := Aside0.mk hk5
  clear hk5
  go_wp2_with fail
  go_ret
  exact ⟨rfl, Kp.whole B4.out HK5.out (fun k hk => hk.elim (fun e => by rw [e]; exact HPB.out) (fun e => Nat.le_trans HB.out.size (HBL.out k e.symm)))⟩
end Go.Proofs.Ytomfjhpiemipkaa.OwnWith
