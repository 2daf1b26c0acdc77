/- The contract of spec.mfMost, by hand. -/
import Derived.Test.YtomfjhpiemipkaaTOwnLeast
import Derived.Test.YtomfjhpiemipkaaTOwnFrom
import Derived.Test.YtomfjhpiemipkaaTOwnTurn
import Derived.Test.YtomfjhpiemipkaaTBaseJ
import Derived.Test.YtomfjhpiemipkaaTMFnFlowValuesx0
namespace Go.Proofs.Ytomfjhpiemipkaa.OwnMost
open Go.RowKit Go.Proofs.Ytomfjhpiemipkaa.PFnFlowValues Go.Proofs.YtomfjhpiemipkaaW.PrintWords Go.Proofs.YtomfjhpiemipkaaW.PrintLast Go.Proofs.YtomfjhpiemipkaaW.PrintMore Go.Proofs.Ytomfjhpiemipkaa.B Go.Proofs.Ytomfjhpiemipkaa.Flow Go.Proofs.Ytomfjhpiemipkaa.OwnPush Go.Proofs.Ytomfjhpiemipkaa.OwnLevels Go.Proofs.Ytomfjhpiemipkaa.OwnRun Go.Proofs.Ytomfjhpiemipkaa.OwnRows Go.Proofs.Ytomfjhpiemipkaa.OwnNet Go.Proofs.Ytomfjhpiemipkaa.OwnValue Go.Proofs.Ytomfjhpiemipkaa.OwnLeast Go.Proofs.Ytomfjhpiemipkaa.OwnFrom Go.Proofs.Ytomfjhpiemipkaa.OwnTurn Go.Proofs.Ytomfjhpiemipkaa.PitMath
set_option linter.unusedVariables false
set_option linter.unusedSimpArgs false
theorem l1Has_l0 (l : List Int) (hl : l.length ≤ maxLen) (x : Int) : ∀ (d i : Nat), i + d = l.length → Ev (fun k => spec_l1Has.l0 k x l (l.length : Int) (i : Int)) (decide (x ∈ l.drop i)) := by
 have hl := maxLen_le hl
 intro d
 induction d with
 | zero =>
  intro i hi
  refine Ev.step (fun k => spec_l1Has.l0.eq_2 x l l.length i k) (ev_neg (by omega) (ev_some ?_))
  rw [List.drop_of_length_le (by omega)]; simp
 | succ d ih =>
  intro i hi
  refine Ev.step (fun k => spec_l1Has.l0.eq_2 x l l.length i k) ?_
  have hd : l.drop i = l.getD i 0 :: l.drop (i + 1) := by
   rw [List.drop_eq_getElem_cons (by omega)]; congr 1; simp [List.getD_eq_getElem?_getD, show i < l.length by omega]
  rw [w_succ (n := l.length) (by omega) (by omega), rd_nat, hd]
  refine ev_pos (by omega) (ev_pos (by omega) (ev_pos (by omega) (ev_ite (fun h => ev_some ?_) (fun h => ?_))))
  ·symm; rw [decide_eq_true_eq]; rw [← h]; exact List.mem_cons_self
  ·refine ev_eq ?_ (ih (i + 1) (by omega))
   rw [decide_eq_decide, List.mem_cons]
   exact ⟨.inr, fun h1 => h1.resolve_left (fun e => h e.symm)⟩
theorem l1Has_ev (l : List Int) (hl : l.length ≤ maxLen) (x : Int) : Ev (fun k => spec_l1Has.f k l x) (decide (x ∈ l)) := by
 unfold spec_l1Has.f
 have := l1Has_l0 l hl x l.length 0 (by omega)
 rwa [List.drop_zero] at this
theorem mfTurn_l0 (n : Int) (l : List S99) (hl : l.length ≤ 1048576) : ∀ (d i : Nat), i + d = l.length → Ev (fun k => spec_mfTurn.l0 k n (foldR (turnAt n l) 0 i []) l (l.length : Int) (i : Int)) (turnL n l) := by
 intro d
 induction d with
 | zero =>
  intro i hi
  obtain rfl : i = l.length := by omega
  exact Ev.step (fun k => spec_mfTurn.l0.eq_2 n _ l l.length l.length k) (ev_neg (by omega) (ev_some rfl))
 | succ d ih =>
  intro i hi
  have ih := ih (i + 1) (by omega)
  rw [foldR_last (Nat.zero_le _)] at ih
  have hlen := turnAt_len n l i
  refine Ev.step (fun k => spec_mfTurn.l0.eq_2 n _ l l.length i k) ?_
  have hx : rd_T99 l (i : Int) = l.getD i z99 := by unfold rd_T99; rw [toNat_nat]
  rw [w_succ (n := l.length) (by omega) (by omega), hx]
  exact ev_pos (by omega) (ev_pos (by omega) (ev_pos (by omega) (ev_pos (by omega) ih)))
theorem mfTurn_ev (n : Int) (l : List S99) (hl : l.length ≤ 1048576) : Ev (fun k => spec_mfTurn.f k n l) (turnL n l) := by
 unfold spec_mfTurn.f
 have := mfTurn_l0 n l hl l.length 0 (by omega)
 rwa [foldR_end (Nat.le_refl _)] at this
theorem drawn_below {w w' : World} (h : Drawn0 w w') : Below w.heap.size w w' := by
 obtain ⟨n, rfl⟩ := h
 exact pw_below_drewN (Below.refl _ _) n
theorem listOf_in (d : List Int) : listOf (inB d) = cutL d := by
 unfold listOf cutL
 rw [inB_len]
 refine foldR_congr fun o j _ hj => ?_
 unfold putAt OwnLeast.cutAt
 have h := inB_at d (j : Int) (by omega) (by omega)
 have e : (inB d).getD j false = decide (0 ≤ d.getD j 0) := h
 rw [e]
 by_cases c : 0 ≤ d.getD j 0
 ·rw [if_pos c, if_pos (decide_eq_true c)]
 ·rw [if_neg c, if_neg (by rw [decide_eq_false c]; decide)]
theorem cutL_mem {d : List Int} {x : Int} (h0 : 0 ≤ x) (h1 : x < d.length) : x ∈ cutL d ↔ 0 ≤ rd d x := by
 rw [← listOf_in, listOf_mem]
 have h := inB_at d x h0 h1
 unfold at_
 rw [show (inB d).getD x.toNat false = decide (0 ≤ rd d x) from h, decide_eq_true_eq]
 exact ⟨fun h => h.2, fun h => ⟨h0, h⟩⟩
/-- the marks of those that the turned network's source doesn't reach -/
def mostB (n : Nat) (d : List Int) : List Bool := (List.range n).map fun (j : Nat) => decide (rd d ((n : Int) - 1 - j) < 0)
theorem mostB_len (n : Nat) (d : List Int) : (mostB n d).length = n := by unfold mostB; rw [List.length_map, List.length_range]
theorem mostB_at (n : Nat) (d : List Int) (j : Nat) (h : j < n) : (mostB n d).getD j false = decide (rd d ((n : Int) - 1 - j) < 0) := by
 unfold mostB
 rw [List.getD_eq_getElem?_getD, List.getElem?_map, List.getElem?_range h]
 rfl
set_option maxHeartbeats 8000000 in
set_option maxRecDepth 100000 in
theorem most_calls (n : Nat) (A : Option Addr) (c : Nat) (l : List S99) (w : World) (h1 : Kd.C k99 w A l.length l) (e1 : l.length ≤ c) (hn : 2 ≤ n ∧ n ≤ 130) (hl : l.length ≤ 8000) (hE : ∀ j, j < l.length → edgeOk n (l.getD j z99)) (r : Int × List Int × List Int) (hr : Ran n (turnL n l) r) :
  Calls Try.prog 151 #[.int .i64 n, .slice A l.length c] w fun e w' => ∃ v : Value, e = .returned v ∧ Kd.R (Kd.int .i64) 3 w' w.heap.size (fun _ => True) v (listOf (mostB n r.2.2)) ∧ Below w.heap.size w w' := by
 have hE2 := turn_edges hn.2 hE
 obtain ⟨kt, hkt⟩ := (mfTurn_ev n l (by omega)).rounds
 have N := net_of n (turnL n l) hn.1 hE2
 obtain ⟨k, hk⟩ := hr
 have hT := run_told N (by omega) (by omega) k 0 (leftL (turnL n l)) r hk (flows_of n (turnL n l) hE2)
 have H1 := Aside0.mk h1
 have E1 := Aside0.mk e1
 have HN := Aside0.mk hn
 have HL := Aside0.mk hl
 have HE := Aside0.mk hE2
 have HKT := Aside0.mk hkt
 have HR : Aside0 (Ran n (turnL n l) r) := ⟨⟨k, hk⟩⟩
 have HDL := Aside0.mk hT.2.1.len
 have HSRC := Aside0.mk hT.2.1.src
 clear h1 e1 hn hl hE hE2 hkt hk hT N
 go_enter Try.func151, Try.ntmps151
 go_wp2_with fail
 refine (spec_mfTurn.calls kt n A c l (turnL n l) w H1.out E1.out HKT.out).mono ?_
 rintro e w1 ⟨v1, rfl, hv, hb⟩
 obtain ⟨A1, c1, rfl⟩ := Kd.R_slice hv
 have HV1 := Aside0.mk (Kd.R_reads' hv)
 have B1 := Aside0.mk hb
 clear hv hb
 go_wp2_with fail
 refine (least_calls n A1 c1 (turnL n l) w1 HV1.out.2.2 HV1.out.2.1 HN.out (by rw [turnL_len]; exact HL.out) HE.out r HR.out).mono ?_
 rintro e w2 ⟨v2, rfl, hv, hb⟩
 have hll : (cutL r.2.2).length ≤ 130 := by have h := cutAt_len r.2.2 r.2.2.length; unfold cutL; have := HN.out; have := HDL.out; omega
 have hpos : 0 < (cutL r.2.2).length := List.length_pos_of_mem ((cutL_mem (d := r.2.2) (x := 0) (Int.le_refl 0) (by rw [HDL.out]; have := HN.out; omega)).2 (by rw [HSRC.out]; exact Int.le_refl 0))
 obtain ⟨gd, cd, eo, gb, gl_, _, _⟩ := Kd.R_form hv hpos
 subst eo
 obtain ⟨tl, etl⟩ : ∃ z, z = cutL r.2.2 := ⟨_, rfl⟩
 rw [← etl] at hv hll hpos ⊢
 have HTL := Aside0.mk etl
 have HB2 := Aside0.mk (below_step B1.out hb)
 have HD := Aside0.mk (Kd.R_mono (Kd.R_tight rfl (Kd.R_lower hv B1.out.size)) (ok' := fun k => k = gd) (fun k hk => Option.some.inj hk))
 have HLL := Aside0.mk hll
 have HCAP := Aside0.mk (Kd.R_reads' hv).2.1
 clear hv hb hll hpos gb gl_ etl B1 HV1 HSRC
 have hm0 := HN.out
 clear hm0
 go_wp2_with fail
 go_loopg [6, 7] (n) (fun q v6 v7 wr => ∃ (i : Int), v7 = .int .i64 i ∧ Aside0 (0 ≤ i ∧ i + q = n) ∧ Aside0 (Kd.R (Kd.int .i64) 3 wr w.heap.size (fun k => k = gd ∧ some k ≠ v6.ownBlock) (.slice (some ⟨gd, 0, none⟩) tl.length cd) tl) ∧ Aside0 (Kd.R (Kd.int .i64) 3 wr w.heap.size (fun k => k ≠ gd) v6 (foldR (putAt (mostB n r.2.2)) 0 i.toNat [])) ∧ Aside0 (Below w.heap.size w wr))
 case atStart => exact ⟨0, rfl, ⟨by omega⟩, ⟨Kd.R_mono HD.out (fun k hk => ⟨hk, by simp [Value.ownBlock]⟩)⟩, ⟨by rw [show (0 : Int).toNat = 0 from rfl, foldR_end (Nat.le_refl _)]; exact Kd.R_nil _ _ _ _ _⟩, HB2⟩
 case round =>
  clear HD HB2
  obtain ⟨i, rfl, HI, HD, HO, HB⟩ := hrel
  have hi := HI.out
  cases gk with
  | zero =>
   have t1 : decide (i < (n : Int)) = false := decide_eq_false (by omega)
   have ei : i.toNat = n := by omega
   rw [ei] at HO
   clear hi ei
   go_wp2_with fail
   go_ret
   exact ⟨_, rfl, Kd.R_mono (by unfold listOf; rw [mostB_len]; exact HO.out) (fun _ _ => trivial), HB.out⟩
  | succ q =>
   have t1 : decide (i < (n : Int)) = true := decide_eq_true (by omega)
   have hn := HN.out
   have hw1 : wrap64 ((n : Int) - 1) = (n : Int) - 1 := w64 (by omega) (by omega)
   obtain ⟨x, ex⟩ : ∃ z, z = (n : Int) - 1 - i := ⟨_, rfl⟩
   have hw2 : wrap64 ((n : Int) - 1 - i) = x := by rw [ex, w64 (by omega) (by omega)]
   have EX := Aside0.mk ex
   have HLN := Aside0.mk (putAt_len (m := mostB n r.2.2) i.toNat)
   have hi130 : i ≤ 130 := by omega
   have HI130 := Aside0.mk hi130
   obtain ⟨A6, c6, e6⟩ := Kd.R_slice HO.out
   obtain ⟨m6, em6⟩ : ∃ z, z = (foldR (putAt (mostB n r.2.2)) 0 i.toNat []).length := ⟨_, rfl⟩
   rw [← em6] at e6
   subst e6
   have hmost : (mostB n r.2.2).getD i.toNat false = decide (rd r.2.2 x < 0) := by rw [mostB_at n r.2.2 i.toNat (by omega), EX.out, show ((i.toNat : Nat) : Int) = i by omega]
   have hmem : decide (x ∈ tl) = decide (0 ≤ rd r.2.2 x) := by rw [HTL.out, decide_eq_decide]; exact cutL_mem (by omega) (by rw [HDL.out]; omega)
   obtain ⟨kh, hkh⟩ := (l1Has_ev tl (maxLen_val (by have := HLL.out; omega)) x).rounds
   rw [hmem] at hkh
   have HMOST := Aside0.mk hmost
   have HKH := Aside0.mk hkh
   clear ex hi em6 hi130 hmost hmem hkh hn
   go_wp2_with fail
   refine (spec_l1Has.calls kh (some ⟨gd, 0, none⟩) cd tl x _ wr (Kd.R_reads' HD.out).2.2 HCAP.out HKH.out).mono ?_
   rintro e w4 ⟨rfl, hdr⟩
   have hb4 := drawn_below hdr
   have n0_ := Aside0.mk (Kd.R_below HD.out hb4)
   have n1_ := Aside0.mk (Kd.R_below HO.out hb4)
   have n2_ := Aside0.mk (below_step HB.out hb4)
   clear HD HO HB hb4 hdr
   have HD := n0_
   have HO := n1_
   have HB := n2_
   clear n0_ n1_ n2_
   by_cases z : 0 ≤ rd r.2.2 x
   ·have t2 : decide (0 ≤ rd r.2.2 x) = true := decide_eq_true z
    have Z := Aside0.mk z
    rw [t2]
    clear z t2
    go_wp2_with fail
    go_roundg q
    case measure => omega
    case rel =>
     have hi := HI.out
     have h130 := HI130.out
     refine ⟨i + 1, by rw [w64 (by omega) (by omega)], ⟨by omega⟩, HD, ⟨?_⟩, HB⟩
     rw [show (i + 1).toNat = i.toNat + 1 by omega, foldR_last (Nat.zero_le _)]
     show Kd.R (Kd.int .i64) 3 _ _ _ _ (putAt _ (foldR (putAt _) 0 i.toNat []) i.toNat)
     rw [show putAt (mostB n r.2.2) (foldR (putAt (mostB n r.2.2)) 0 i.toNat []) i.toNat = foldR (putAt (mostB n r.2.2)) 0 i.toNat [] from by unfold putAt; rw [HMOST.out, if_neg]; rw [decide_eq_false (by have := Z.out; omega)]; decide]
     exact HO.out
   ·have t2 : decide (0 ≤ rd r.2.2 x) = false := decide_eq_false z
    have Z := Aside0.mk z
    rw [t2]
    clear z t2
    go_wp2_with (first | ((with_reducible refine gate_builtin (b := .append) (xs := #[.tmp 25, .tmp 27]) rfl ?_); at_builtin; refine Kd.R_append (Kd.int .i64) (w0 := w) w.heap.size rfl (.tmp 25) (.tmp 27) 24 3 (.int .i64 0) 8 rfl Try.underlying24 inf3 rfl (by decide) (by omega) (.slice A6 m6 c6) (foldR (putAt (mostB n r.2.2)) 0 i.toNat []) i [.int .i64 i] (fun k => k ≠ gd) (fun _ => False) rfl rfl ?aP (fun _ hk => hk.elim) ?aF ?aO ?aB ?aS ?aL ?_; (case aP => exact rfl); (case aB => exact HB.out); (case aF => exact (fun k hk => by have h1_ := Kd.R_lt HD.out gd rfl; omega)); (case aO => exact HO.out); (case aS => exact (below_size HB.out)); (case aL => have h1_ := HLN.out; have h2_ := HI130.out; omega); intro v229 w10 ho hb hg hat; have n0_ := Aside0.mk hb; have n1_ := Aside0.mk ho; have n2_ := Aside0.mk (Kd.R_after HD.out hg hat); clear HB HO HD; have HB := n0_; have HO := n1_; have HD := n2_; clear n0_ n1_ n2_; clear ho hb hg hat))
    go_roundg q
    case measure => omega
    case rel =>
     have hi := HI.out
     have h130 := HI130.out
     refine ⟨i + 1, by rw [w64 (by omega) (by omega)], ⟨by omega⟩, HD, ⟨?_⟩, HB⟩
     rw [show (i + 1).toNat = i.toNat + 1 by omega, foldR_last (Nat.zero_le _)]
     show Kd.R (Kd.int .i64) 3 _ _ _ _ (putAt _ (foldR (putAt _) 0 i.toNat []) i.toNat)
     rw [show putAt (mostB n r.2.2) (foldR (putAt (mostB n r.2.2)) 0 i.toNat []) i.toNat = foldR (putAt (mostB n r.2.2)) 0 i.toNat [] ++ [i] from by unfold putAt; rw [HMOST.out, if_pos (decide_eq_true (by have := Z.out; omega)), show ((i.toNat : Nat) : Int) = i by omega]]
     exact HO.out
end Go.Proofs.Ytomfjhpiemipkaa.OwnMost
