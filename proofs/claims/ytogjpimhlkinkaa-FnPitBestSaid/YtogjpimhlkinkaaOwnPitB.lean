/- The contract of impl.bestPit where nothing is forced and nothing barred, by hand. -/
import Derived.Test.YtogjpimhlkinkaaOwnSink
import Derived.Test.YtogjpimhlkinkaaOwnStartI
import Derived.Test.YtogjpimhlkinkaaOwnRunI
import Derived.Test.YtogjpimhlkinkaaOwnLeast
import Derived.Test.YtogjpimhlkinkaaPitNet
import Derived.Test.YtogjpimhlkinkaaMFnPitBestx0
import Derived.Test.YtogjpimhlkinkaaMFnPitBestx0
import Derived.Laws.Cover3
namespace Go.Proofs.Ytogjpimhlkinkaa.OwnPitB
open Go.RowKit Go.Proofs.Ytogjpimhlkinkaa.PFnPitBest Go.Proofs.YtogjpimhlkinkaaW.PrintWords Go.Proofs.YtogjpimhlkinkaaW.PrintLast Go.Proofs.YtogjpimhlkinkaaW.PrintMore Go.Proofs.Ytogjpimhlkinkaa.B Go.Proofs.Ytogjpimhlkinkaa.Flow Go.Proofs.Ytogjpimhlkinkaa.OwnPush Go.Proofs.Ytogjpimhlkinkaa.OwnLevels Go.Proofs.Ytogjpimhlkinkaa.OwnRun Go.Proofs.Ytogjpimhlkinkaa.OwnRows Go.Proofs.Ytogjpimhlkinkaa.OwnNet Go.Proofs.Ytogjpimhlkinkaa.OwnValue Go.Proofs.Ytogjpimhlkinkaa.OwnLeast Go.Proofs.Ytogjpimhlkinkaa.OwnFrom Go.Proofs.Ytogjpimhlkinkaa.OwnRunI Go.Proofs.Ytogjpimhlkinkaa.OwnSink Go.Proofs.Ytogjpimhlkinkaa.PitMath Go.Proofs.Ytogjpimhlkinkaa.PitBest
set_option linter.unusedVariables false
set_option linter.unusedSimpArgs false
theorem rdL1 (a : List (List Int)) (i : Nat) : rd_L1 a (i : Int) = a.getD i [] := by unfold rd_L1; rw [toNat_nat]
theorem rdL1' (a : List (List Int)) (x : Int) : rd_L1 a x = a.getD x.toNat [] := rfl
theorem pitNetwork_l1 (a : List (List Int)) (v : List Int) (n : Int) (i : Nat) (hi : i < 120) (l : List Int) (hl : l.length ≤ 120) (hx : ∀ x ∈ l, 0 ≤ x ∧ x < 120) (q : Int × List S68) : ∀ (d j : Nat) (o : List S68), j + d = l.length → o.length + d ≤ 1000000 →
  Ev (fun k => impl_pitNetwork.l0 k a n (o ++ (l.drop j).map (arcE i)) v (v.length : Int) (wrap64 ((i : Int) + 1))) q →
  Ev (fun k => impl_pitNetwork.l1 k a n o (i : Int) v (v.length : Int) (i : Int) l (l.length : Int) (j : Int)) q := by
 intro d
 induction d with
 | zero =>
  intro j o hj _ hq
  rw [List.drop_eq_nil_of_le (by omega), List.map_nil, List.append_nil] at hq
  exact Ev.step (fun k => impl_pitNetwork.l1.eq_2 a n o i v v.length i l l.length j k) (ev_neg (by omega) hq)
 | succ d ih =>
  intro j o hj ho hq
  have hm := hx _ (getD_mem (z := 0) (show j < l.length by omega))
  refine Ev.step (fun k => impl_pitNetwork.l1.eq_2 a n o i v v.length i l l.length j k) ?_
  rw [w_succ (i := j) (n := l.length) (by omega) (by omega), rd_nat, w64 (x := (i : Int) + 1) (by omega) (by omega), w64 (x := l.getD j 0 + 1) (by omega) (by omega)]
  refine ev_pos (by omega) (ev_pos (by omega) (ev_pos (by omega) (ev_pos (by omega) ?_)))
  refine ih (j + 1) _ (by omega) (by rw [List.length_append]; simp; omega) ?_
  rw [List.append_assoc]
  have e : l.drop j = l.getD j 0 :: l.drop (j + 1) := by
   rw [List.drop_eq_getElem_cons (show j < l.length by omega), List.getD_eq_getElem?_getD, List.getElem?_eq_getElem (show j < l.length by omega)]; rfl
  rw [e, List.map_cons] at hq
  exact hq
theorem pitNetwork_l0 (a : List (List Int)) (ha : Arcs a) (v : List Int) (hv : flowVals v) (hn : v.length = a.length) : ∀ (d i : Nat), i + d = v.length →
  Ev (fun k => impl_pitNetwork.l0 k a ((a.length : Int) + 2) (foldR (pitAt a v) 0 i []) v (v.length : Int) (i : Int)) ((a.length : Int) + 2, pitE a v) := by
 have hle := ha.le
 intro d
 induction d with
 | zero =>
  intro i hi
  obtain rfl : i = v.length := by omega
  refine Ev.step (fun k => impl_pitNetwork.l0.eq_2 a _ _ v v.length v.length k) (ev_neg (by omega) (ev_some ?_))
  unfold pitE; rw [hn]
 | succ d ih =>
  intro i hi
  have ih := ih (i + 1) (by omega)
  have hlen := pitAt_len ha v i
  have hvi := hv i (by omega)
  rw [foldR_last (Nat.zero_le _)] at ih
  generalize foldR (pitAt a v) 0 i [] = o at *
  refine Ev.step (fun k => impl_pitNetwork.l0.eq_2 a _ o v v.length i k) ?_
  rw [rd_nat]
  have hrow := ha.len i
  have go2 : ∀ o' : List S68, o'.length ≤ 130 * 120 → o' ++ (a.getD i []).map (arcE i) = pitAt a v o i → Ev (fun k => impl_pitNetwork.j2 k a ((a.length : Int) + 2) o' (i : Int) v (v.length : Int) (i : Int)) ((a.length : Int) + 2, pitE a v) := by
   intro o' h1 h2
   refine Ev.step (fun k => impl_pitNetwork.j2.eq_2 a _ o' i v v.length i k) (ev_pos (by omega) (ev_pos (by omega) ?_))
   rw [rdL1]
   refine pitNetwork_l1 a v _ i (by omega) (a.getD i []) hrow (fun x hx => by have := ha.down hx; omega) _ (a.getD i []).length 0 o' (by omega) (by omega) ?_
   rw [List.drop_zero, h2, w_succ (n := v.length) (by omega) (by omega)]
   exact ih
  have go1 : ∀ o' : List S68, o'.length ≤ 129 * 120 → (if v.getD i 0 < 0 then o' ++ [⟨(i : Int) + 1, (a.length : Int) + 1, -(v.getD i 0)⟩] else o') ++ (a.getD i []).map (arcE i) = pitAt a v o i → Ev (fun k => impl_pitNetwork.j1 k a ((a.length : Int) + 2) o' (i : Int) (v.getD i 0) v (v.length : Int) (i : Int)) ((a.length : Int) + 2, pitE a v) := by
   intro o' h1 h2
   refine Ev.step (fun k => impl_pitNetwork.j1.eq_2 a _ o' i (v.getD i 0) v v.length i k) (ev_ite (fun h => ev_pos (by omega) ?_) (fun h => ?_))
   ·rw [if_pos h] at h2
    rw [w64 (x := (i : Int) + 1) (by omega) (by omega), w64 (x := (a.length : Int) + 2 - 1) (by omega) (by omega), w64 (x := -(v.getD i 0)) (by omega) (by omega), show (a.length : Int) + 2 - 1 = (a.length : Int) + 1 by omega]
    exact go2 _ (by rw [List.length_append]; simp; omega) h2
   ·rw [if_neg h] at h2
    exact go2 _ (by omega) h2
  refine ev_pos (by omega) (ev_pos (by omega) (ev_pos (by omega) (ev_ite (fun h => ev_pos (by omega) ?_) (fun h => ?_))))
  ·rw [w64 (x := (i : Int) + 1) (by omega) (by omega)]
   exact go1 _ (by rw [List.length_append]; simp; omega) (by unfold pitAt; rw [if_neg (by omega), if_neg (by omega), if_pos h])
  ·exact go1 _ (by omega) (by unfold pitAt; rw [if_neg h])
theorem pitNetwork_ev (a : List (List Int)) (ha : Arcs a) (v : List Int) (hv : flowVals v) (hn : v.length = a.length) : Ev (fun k => impl_pitNetwork.f k a v) ((a.length : Int) + 2, pitE a v) := by
 have hle := ha.le
 unfold impl_pitNetwork.f
 rw [w64 (x := (a.length : Int) + 2) (by omega) (by omega)]
 have := pitNetwork_l0 a ha v hv hn v.length 0 (by omega)
 rwa [foldR_end (Nat.le_refl _)] at this
def outPart (m : List Bool) (i : Nat) : List Bool := (m.take i).map (!·) ++ List.replicate (m.length - i) false
theorem outOf_l0 (m : List Bool) (hm : m.length ≤ 1048576) : ∀ (d i : Nat), i + d = m.length → Ev (fun k => impl_outOf.l0 k m (outPart m i) (m.length : Int) (i : Int)) (m.map (!·)) := by
 intro d
 induction d with
 | zero =>
  intro i hi
  obtain rfl : i = m.length := by omega
  exact Ev.step (fun k => impl_outOf.l0.eq_2 m _ m.length m.length k) (ev_neg (by omega) (ev_some (by unfold outPart; rw [List.take_length, Nat.sub_self]; simp)))
 | succ d ih =>
  intro i hi
  have ih := ih (i + 1) (by omega)
  have hp : (outPart m i).length = m.length := by unfold outPart; rw [List.length_append, List.length_map, List.length_take, List.length_replicate]; omega
  refine Ev.step (fun k => impl_outOf.l0.eq_2 m _ m.length i k) ?_
  refine ev_pos (by omega) (ev_pos (by omega) (ev_pos (by omega) (ev_pos (by rw [hp]; omega) ?_)))
  rw [w_succ (n := m.length) (by omega) (by omega)]
  have e : (outPart m i).set (i : Int).toNat (!(rdOf false m (i : Int))) = outPart m (i + 1) := by
   have hi' : i < m.length := by omega
   unfold outPart
   rw [toNat_nat, List.set_append_right _ _ (by rw [List.length_map, List.length_take]; omega), List.length_map, List.length_take, Nat.min_eq_left (by omega), Nat.sub_self, show m.length - i = (m.length - (i + 1)) + 1 by omega, List.replicate_succ, List.set_cons_zero, List.take_succ_eq_append_getElem hi', List.map_append, List.append_assoc]
   congr 1
   show _ = [!m[i]] ++ _
   have : rdOf false m (i : Int) = m[i] := by
    show m.getD (i : Int).toNat false = _
    rw [toNat_nat, List.getD_eq_getElem?_getD, List.getElem?_eq_getElem hi']; rfl
   rw [this]; rfl
  rw [e]
  exact ih
theorem outOf_ev (m : List Bool) (hm : m.length ≤ 1048576) : Ev (fun k => impl_outOf.f k m) (m.map (!·)) := by
 unfold impl_outOf.f
 refine ev_pos (by omega) (ev_pos (by omega) ?_)
 have := outOf_l0 m hm m.length 0 (by omega)
 unfold outPart at this
 rw [List.take_zero, List.map_nil, List.nil_append, Nat.sub_zero] at this
 rw [toNat_nat]
 exact this
theorem out_in (b : List Int) : (inB b).map (!·) = outB b := by
 unfold inB outB
 rw [List.map_map]
 refine List.map_congr_left fun x _ => ?_
 show (!decide (0 ≤ x)) = decide (x < 0)
 by_cases h : 0 ≤ x
 ·rw [decide_eq_true h, decide_eq_false (by omega)]; rfl
 ·rw [decide_eq_false h, decide_eq_true (by omega)]; rfl
theorem drawn_below {w w' : World} (h : Drawn0 w w') : Below w.heap.size w w' := by
 obtain ⟨n, rfl⟩ := h
 exact pw_below_drewN (Below.refl _ _) n
/-- What newResidual leaves is a residual network as run needs it. -/
theorem obj_ofI {n : Nat} {l : List S68} {w' : World} {b p gf cf : Nat} {vT vL : Value} (hb : w'.heap[p]? = some (.cells #[.slice (some ⟨gf, 0, none⟩) n cf, vT, vL, .slice none 0 0, .slice none 0 0] 97 (0, 0)))
  (hT : Kd.R (Kd.int .i64) 3 w' b (fun k => k ≠ p ∧ some k ≠ vL.ownBlock) vT (tosL l)) (hL : Kd.R (Kd.int .i64) 3 w' b (fun k => k ≠ p ∧ some k ≠ vT.ownBlock) vL (leftL l)) (hS : Kd.S kRows 33 w' b (fun k => (k ≠ p ∧ some k ≠ vL.ownBlock) ∧ some k ≠ vT.ownBlock) (.slice (some ⟨gf, 0, none⟩) n cf) (adjL l n l.length)) :
  ∃ (At Al : Option Addr) (ct cl : Nat), vT = .slice At (2 * l.length) ct ∧ vL = .slice Al (2 * l.length) cl ∧ IObj w' p n (2 * l.length) ⟨gf, 0, none⟩ At Al cf ct cl (adjL l n l.length) (tosL l) ∧ Kd.R (Kd.int .i64) 3 w' 0 (fun k => some k = (Value.slice Al (2 * l.length) cl).ownBlock) (.slice Al (2 * l.length) cl) (leftL l) := by
 obtain ⟨At, ct, rfl⟩ := Kd.R_slice hT
 obtain ⟨Al, cl, rfl⟩ := Kd.R_slice hL
 rw [tosL_len] at hT hb hL hS ⊢
 rw [leftL_len] at hT hb hL hS ⊢
 refine ⟨At, Al, ct, cl, rfl, rfl, ⟨?_, ?_, ⟨(Kd.S_reads' hS).2.1, (Kd.R_reads' hT).2.1⟩, ?_, blk_lt hb⟩, Kd.R_lower (Kd.R_mono (Kd.R_tight rfl hL) (fun k hk => hk)) (Nat.zero_le _)⟩
 ·intro W hk
  have h := (Kd.S_reads' (Kd.S_kept hS hk (fun k h1 h2 => h2.elim (fun e => h1.1.1 e) (fun e => h1.1.2 e)))).2.2
  rwa [adjL_len] at h
 ·intro W hk
  have h := (Kd.R_reads' (Kd.R_kept hT hk (fun k h1 h2 => h2.elim (fun e => h1.1 e) (fun e => h1.2 e)))).2.2
  rwa [tosL_len] at h
 ·intro e
  exact (hL.1 p e.symm).1 rfl
/-- the marks of the blocks are a part of those of the nodes -/
theorem marks_C {w : World} {b : Nat} {ok : Nat → Prop} {g c N : Nat} {m : List Bool} (h : Kd.R Kd.bool 4 w b ok (.slice (some ⟨g, 0, none⟩) (N + 2) c) m) (hN : 0 < N) : Kd.C Kd.bool w (some ⟨g, 1, none⟩) N (pitB N m) ∧ N ≤ c - 1 ∧ m.length = N + 2 := by
 obtain ⟨h1, h2, h3⟩ := Kd.R_reads' h
 have hl : m.length = N + 2 := h1.symm
 have hsub := Kd.C_mid (c := c) (lo := 1) (hi := N + 1) h3 (by omega) (by rw [hl]; omega) (by rw [hl]; omega)
 rw [if_neg (show ¬ c = 1 by omega)] at hsub
 have e9 : (m.take (N + 1)).drop 1 = pitB N m := by
  unfold pitB
  rw [List.drop_take]
  rfl
 rw [e9, pitB_len hl] at hsub
 exact ⟨hsub, by omega, hl⟩
/-- what is marked: what the source still reaches, or what doesn't reach the sink -/
def markL (lg : Bool) (d b : List Int) : List Bool := if lg = true then outB b else inB d
set_option maxHeartbeats 16000000 in
set_option maxRecDepth 100000 in
theorem pit_calls (A0 : Option Addr) (c0 : Nat) (a : List (List Int)) (A1 : Option Addr) (c1 : Nat) (v : List Int) (lg : Bool) (w : World) (h0 : Kd.C kRows w A0 a.length a) (e0 : a.length ≤ c0) (h1 : Kd.C (Kd.int .i64) w A1 v.length v) (e1 : v.length ≤ c1) (hval : valuedB a v = true)
  (x : Int × List Int × List Int) (b : List Int) (hx : Ran (a.length + 2) (pitE a v) x) (hb : ∃ k, bfsL (tosL (pitE a v)) (adjL (pitE a v) (a.length + 2) (pitE a v).length) (flipL x.2.1) k (d0 (a.length + 2) (((a.length + 2 : Nat) : Int) - 1)) [((a.length + 2 : Nat) : Int) - 1] = some b) :
  Calls Try.prog 79 #[.slice A0 a.length c0, .slice A1 v.length c1, .slice none 0 0, .slice none 0 0, .bool lg] w fun e w' => ∃ (g c : Nat), e = .returned (.slice (some ⟨g, 1, none⟩) a.length (c - 1)) ∧ Kd.R Kd.bool 4 w' w.heap.size (fun k => k = g) (.slice (some ⟨g, 0, none⟩) (a.length + 2) c) (markL lg x.2.2 b) ∧ Below w.heap.size w w' := by
 obtain ⟨hA, hV, hN⟩ := valued_arcs hval
 have hE0 := pit_at hA (valued_flow hval) hN
 have hl0 := pitE_len hA v
 obtain ⟨kp, hkp0⟩ := (pitNetwork_ev a hA v (valued_flow hval) hN).rounds
 obtain ⟨kx, hx0⟩ := hx
 obtain ⟨kb, hb0⟩ := hb
 obtain ⟨l, el⟩ : ∃ z, z = pitE a v := ⟨_, rfl⟩
 obtain ⟨n, en⟩ : ∃ z, z = a.length + 2 := ⟨_, rfl⟩
 obtain ⟨nb, enb⟩ : ∃ z, z = a.length := ⟨_, rfl⟩
 have hkp : impl_pitNetwork.f kp a v = some ((n : Int), l) := by rw [hkp0, el, en]; rfl
 have hle := hA.le
 have hap := hA.pos
 have hx : runL n (tosL l) (adjL l n l.length) ((n : Int) - 1) 1125899906842624 kx 0 (leftL l) = some x := by rw [el, en]; exact hx0
 have hb : bfsL (tosL l) (adjL l n l.length) (flipL x.2.1) kb (d0 n ((n : Int) - 1)) [(n : Int) - 1] = some b := by rw [el, en]; exact hb0
 have hE : ∀ j, j < l.length → edgeOk n (l.getD j z68) := by rw [el, en]; exact hE0
 have hl : l.length ≤ 8000 := by rw [el]; exact hl0
 have hn : 2 ≤ n ∧ n ≤ 130 := by omega
 have hx2 : runL n (tosL l) (adjL l n l.length) ((n : Int) - 1) 1152921504606846976 kx 0 (leftL l) = some x := by
  rw [run_big (net_of n l hn.1 hE) (by omega) 1152921504606846976 1125899906842624 (by omega) (by omega) kx 0 (leftL l) (flows_of n l hE)]
  exact hx
 have NN := Aside0.mk (net_of n l hn.1 hE)
 have hT := run_told NN.out (by omega) (by omega) kx 0 (leftL l) x hx2 (flows_of n l hE)
 have HGD := Aside0.mk hT.1.good
 have HDL := Aside0.mk hT.2.1.len
 obtain ⟨kd, hkd⟩ := run_bfs kx _ _ _ hx2
 have LB := bfs_told NN.out kb _ _ b hb (lev0 (o := (n : Int) - 1) NN.out (by omega) (by omega)).1
 have HBLEN := Aside0.mk LB.len
 obtain ⟨ko, hko⟩ := (outOf_ev (inB b) (by rw [inB_len, LB.len]; omega)).rounds
 rw [out_in] at hko
 have HN := Aside0.mk hn
 have HNB : Aside0 (n = nb + 2) := ⟨by omega⟩
 have HVN : Aside0 (0 < v.length ∧ v.length ≤ 130) := ⟨by omega⟩
 have HL := Aside0.mk hl
 have HE := Aside0.mk hE
 have HX := Aside0.mk hx2
 have HBF := Aside0.mk hb
 have HKD := Aside0.mk hkd
 have HKO := Aside0.mk hko
 have HKP := Aside0.mk hkp
 have H0 := Aside0.mk h0
 have E0 := Aside0.mk e0
 have H1 := Aside0.mk h1
 have E1 := Aside0.mk e1
 have hw : wrap64 ((n : Int) - 1) = (n : Int) - 1 := w64 (by omega) (by omega)
 have hneq : ∀ W : World, (binOp .neq 79 (.slice none 0 0) (.slice none 0 0)).run Try.prog W = .ok (.bool false) W := fun W => (run_neq_slice_nil W 79 _ none 0 0 Try.underlying79).trans rfl
 have HB := Aside0.mk (Below.refl w.heap.size w)
 rw [← enb] at h0 e0 H0 E0 ⊢
 have HAN := Aside0.mk enb
 clear h0 e0 h1 e1 hval hkp hkp0 hx0 hb0 hx hb hE hl hn hx2 hT hkd LB hko hA hV hN hE0 hl0 en hle hap el enb
 go_enter Try.func79, Try.ntmps79
 go_wp2_with (first
  | ((with_reducible refine gate_dst (N := 19) rfl ?_); refine Kd.R_lit (Kd.int .i64) _ 3 ?hg (N := 19) ?hd (xs := ([] : List Int)) (inner := []) (ok := fun _ => True) (okp := fun _ => True) ?hr ?hp (fun _ hk => hk) trivial (Below.refl _ _) (Nat.le_refl _) (by simp) ?_; (case hd => rfl); (case hg => rfl); (case hr => first | (go_simp; done) | (go_simp; rfl)); (case hp => exact (Reps.none _ _)); intro v0 w1 ho hb hg_ hnew_; clear hg_ hnew_; have n0_ := Aside0.mk ho; have n1_ := Aside0.mk (below_step HB.out hb); clear HB; have HO := n0_; have HB := n1_; clear n0_ n1_ ho hb)
  | ((with_reducible refine gate_builtin (b := .append) (xs := #[.tmp 19, .tmp 20]) rfl ?_); at_builtin; refine Kd.R_append_rows (Kd.int .i64) (w0 := w1) w.heap.size rfl (.tmp 19) (.tmp 20) 33 3 (.int .i64 0) 8 rfl Try.underlying33 inf3 rfl (by decide) (by omega) v0 [] v A1 v.length c1 (fun _ => True) (fun _ => False) rfl rfl ?aO ?aR (fun _ _ h => h) (fun _ h => h.elim) (fun _ _ => trivial) (Below.refl _ _) ?aS ?aL ?_; (case aO => exact HO.out); (case aR => exact Kd.C_below H1.out HB.out); (case aS => exact below_size HB.out); (case aL => have h1_ := HVN.out; simp; omega); intro v1 w2 ho hb hg_ hat_; clear hg_ hat_; rw [List.nil_append] at ho; obtain ⟨gf, cf, eo, gb, gl_, cl_, HG_⟩ := Kd.R_form ho HVN.out.1; subst eo; have n0_ := Aside0.mk (Kd.R_reads' ho); have n1_ : Aside0 (Below w.heap.size w w2) := ⟨⟨hb.os.trans HB.out.os, hb.tape.trans HB.out.tape, hb.output.trans HB.out.output, Nat.le_trans HB.out.size hb.size, fun i hi => (hb.block i hi).trans (HB.out.block i hi)⟩⟩; clear HO HB; have HF := n0_; have HB := n1_; clear n0_ n1_ gb gl_ cl_ HG_ ho hb))
 go_loopg [24] (v.length) (fun q v24 wr => ∃ (i : Int), v24 = .int .i64 i ∧ Aside0 (0 ≤ i ∧ i + q = v.length) ∧ wr = w2)
 case atStart => exact ⟨0, rfl, ⟨by omega⟩, rfl⟩
 case round =>
  obtain ⟨i, rfl, HI, rfl⟩ := hrel
  have hi := HI.out
  cases gk with
  | succ q =>
   have t1 : decide (i < (v.length : Int)) = true := decide_eq_true (by omega)
   clear hi
   go_wp2_with fail
   go_roundg q
   case measure => omega
   case rel =>
    have hi := HI.out
    have := HVN.out
    exact ⟨i + 1, by rw [w64 (by omega) (by omega)], ⟨by omega⟩, rfl⟩
  | zero =>
   have t1 : decide (i < (v.length : Int)) = false := decide_eq_false (by omega)
   clear hi
   go_wp2_with fail
   refine Calls.mono (by have h := impl_pitNetwork.calls kp A0 c0 a (some ⟨gf, 0, none⟩) cf v (n : Int) l wr (by rw [← HAN.out]; exact Kd.C_below H0.out HB.out) (by rw [← HAN.out]; exact E0.out) HF.out.2.2 HF.out.2.1 HKP.out; rw [← HAN.out] at h; exact h) ?_
   rintro e w3 ⟨v1, rfl, hv, hb⟩
   obtain ⟨Aq, cq, rfl⟩ := Kd.R_slice hv
   have B3 := Aside0.mk (below_step HB.out hb)
   have HV3 := Aside0.mk (Kd.R_reads' hv)
   clear hv hb HB HF
   go_wp2_with fail
   refine (OwnStartI.start_callsI n Aq cq l w3 HV3.out.2.2 HV3.out.2.1 HN.out HL.out HE.out).mono ?_
   rintro e w4 ⟨p, gr, cr, vT, vL, rfl, hpw, hb, hT, hL, hS, hB⟩
   obtain ⟨At, Al, ct, cl, rfl, rfl, hO, hR⟩ := obj_ofI hb hT hL hS
   have B4 := Aside0.mk (below_step B3.out hB)
   have HO := Aside0.mk hO
   have HR := Aside0.mk hR
   have HBK := Aside0.mk hb
   have HBB := Aside0.mk (Kd.R_base hL)
   have HPB := Aside0.mk (show w.heap.size ≤ p from Nat.le_trans B3.out.size hpw)
   clear hb hT hL hS hB hO hR hpw
   go_wp2_with fail
   refine (run_callsI NN.out HN.out.2 HL.out rfl HO.out HBK.out HR.out (flows_of n l HE.out) kx x HX.out).mono ?_
   rintro e w5 ⟨rfl, hk5, ⟨vV, vX, hbk⟩, hr5⟩
   have B5 := Aside0.mk (Kp.whole B4.out hk5 (fun k hk => hk.elim (fun e => by rw [e]; exact HPB.out) (fun e => Nat.le_trans (B3.out.size) (HBB.out k e.symm))))
   have HK5 := Aside0.mk hk5
   have HBK5 := Aside0.mk hbk
   have HR5 := Aside0.mk hr5
   clear hk5 hbk hr5
   go_wp2_with fail
   refine (from_calls NN.out HN.out.2 HL.out rfl HGD.out HBK5.out (fun W hW => HO.out.E W (HK5.out.1.then_ hW (fun k hk => Or.inl (Or.inl hk)))) (fun W hW => HO.out.T W (HK5.out.1.then_ hW (fun k hk => Or.inl (Or.inl hk)))) (fun W hW => by have h := Kd.C_kept_own HR5.out (fun k hk e => HO.out.sep (by rw [← e]; exact hk)) W hW; exact h) kd x.2.2 HKD.out).mono ?_
   rintro e w6 ⟨gi, ci, gv, cv, rfl, hI, hV, hBk, hgn, hKp⟩
   have B6 := Aside0.mk (Kp.whole B5.out hKp (fun k hk => by rw [hk]; exact HPB.out))
   have HI6 := Aside0.mk (Kd.R_lower hI B5.out.size)
   have HK6 := Aside0.mk (HK5.out.then_ hKp (fun k hk => Or.inl (Or.inl hk)))
   have HBK6 := Aside0.mk hBk
   have HR6 := Aside0.mk (Kd.R_kept HR5.out hKp.1 (fun k hk e => HO.out.sep (by rw [← e]; exact hk)))
   clear hI hV hBk hgn hKp
   cases lg with
   | false =>
    have HM : Aside0 (markL false x.2.2 b = inB x.2.2) := ⟨rfl⟩
    have hn := HN.out
    have hcn := (Kd.R_reads' HI6.out).2.1
    have s0 := eq_true (show (1 : Int) ≤ (n : Int) - 1 by omega)
    have s1 := eq_true (show (n : Int) - 1 ≤ (n : Int) by omega)
    have s2 := eq_true (show (0 : Int) ≤ (n : Int) - 1 by omega)
    have s4 := eq_true (show (1 : Int) ≤ ((n - 1 : Nat) : Int) by omega)
    have s5 := eq_true (show (1 : Int) ≤ (n : Int) by omega)
    have s6 := eq_true (show (n : Int) - 1 ≤ (ci : Int) by omega)
    have s7 := eq_false (show ¬ ci = 1 by omega)
    have HCN := Aside0.mk hcn
    clear hn hcn
    go_wp2_with fail
    have el : n - 1 - 1 = nb := by have := HNB.out; omega
    rw [el]
    clear el s0 s1 s2 s4 s5 s6 s7
    go_loopg [73] (nb) (fun q v73 wr => ∃ (i : Int), v73 = .int .i64 i ∧ Aside0 (0 ≤ i ∧ i + q = (nb : Int)) ∧ Aside0 (Kd.R Kd.bool 4 wr w.heap.size (fun _ => True) (.slice (some ⟨gi, 0, none⟩) n ci) (inB x.2.2)) ∧ Aside0 (Below w.heap.size w wr))
    case atStart => exact ⟨0, rfl, ⟨by omega⟩, ⟨Kd.R_mono HI6.out (fun _ _ => trivial)⟩, B6⟩
    case round =>
     clear HI6 B6
     obtain ⟨i, rfl, HI, HR9, HB9⟩ := hrel
     have hi := HI.out
     cases gk with
     | zero =>
      have t1 : decide (i < (nb : Int)) = false := decide_eq_false (by omega)
      clear hi
      go_wp2_with fail
      go_ret
      refine ⟨gi, ci, rfl, ?_, HB9.out⟩
      have hr9 := Kd.R_mono (Kd.R_tight rfl HR9.out) (ok' := fun k => k = gi) (fun k hk => Option.some.inj hk)
      rw [HNB.out] at hr9
      rw [HM.out]
      exact hr9
     | succ q =>
      have t1 : decide (i < (nb : Int)) = true := decide_eq_true (by omega)
      have q0 := eq_true hi.1
      have q1 := eq_true (show i < (nb : Int) by omega)
      have hib : i ≤ 130 := by have := HN.out; have := HNB.out; omega
      obtain ⟨hci, hfi⟩ := Kd.R_celln false HR9.out (i + 1) (by omega) (by have := HNB.out; omega)
      rw [show (i + 1).toNat = 1 + i.toNat by omega] at hci hfi
      obtain ⟨xb, ex⟩ : ∃ z, z = rdOf false (inB x.2.2) (i + 1) := ⟨_, rfl⟩
      rw [← ex] at hci
      have hself := Kd.R_putn HR9.out (i + 1) xb
      rw [ex, show (inB x.2.2).set (i + 1).toNat (rdOf false (inB x.2.2) (i + 1)) = (inB x.2.2) from set_self, ← ex, show (i + 1).toNat = 1 + i.toNat by omega] at hself
      have HSELF : Aside0 (Kd.R Kd.bool 4 (wr.setCell ⟨gi, 1 + i.toNat, none⟩ (.bool xb)) w.heap.size (fun _ => True) (.slice (some ⟨gi, 0, none⟩) n ci) (inB x.2.2)) := ⟨hself⟩
      have HBS : Aside0 (Below w.heap.size w (wr.setCell ⟨gi, 1 + i.toNat, none⟩ (.bool xb))) := ⟨below_set HB9.out (Kd.R_base HR9.out gi rfl)⟩
      have HIB := Aside0.mk hib
      clear hi hself ex hib
      cases xb with
      | true =>
       go_wp2_with fail
       go_roundg q
       case measure => omega
       case rel =>
        have hi := HI.out
        have hib := HIB.out
        exact ⟨i + 1, by rw [w64 (by omega) (by omega)], ⟨by omega⟩, HSELF, HBS⟩
      | false =>
       go_wp2_with fail
       go_roundg q
       case measure => omega
       case rel =>
        have hi := HI.out
        have hib := HIB.out
        exact ⟨i + 1, by rw [w64 (by omega) (by omega)], ⟨by omega⟩, HSELF, HBS⟩
   | true =>
    have HM : Aside0 (markL true x.2.2 b = outB b) := ⟨rfl⟩
    go_wp2_with fail
    refine (sink_calls NN.out HN.out.2 HL.out rfl HGD.out HBK6.out (fun W hW => HO.out.E W (HK6.out.1.then_ hW (fun k hk => Or.inl (Or.inl hk)))) (fun W hW => HO.out.T W (HK6.out.1.then_ hW (fun k hk => Or.inl (Or.inl hk)))) (fun W hW => by have h := Kd.C_kept_own HR6.out (fun k hk e => HO.out.sep (by rw [← e]; exact hk)) W hW; exact h) kb b HBF.out).mono ?_
    rintro e w7 ⟨gs, cs, rfl, hS, hBk, hKp⟩
    have B7 := Aside0.mk (Kp.whole B6.out hKp (fun k hk => by rw [hk]; exact HPB.out))
    have hsl : (inB b).length = n := by rw [inB_len]; exact HBLEN.out
    have HSL := Aside0.mk hsl
    have HS7 := Aside0.mk (Kd.R_reads' hS)
    clear hS hBk hKp hsl HI6 B6
    go_wp2_with fail
    refine Calls.mono (by have h := impl_outOf.calls ko (some ⟨gs, 0, none⟩) cs (inB b) (outB b) w7 (by have h := HS7.out.2.2; rw [← HS7.out.1]; rwa [← HS7.out.1] at h) (by rw [HSL.out]; exact HS7.out.2.1) HKO.out; rw [HSL.out] at h; exact h) ?_
    rintro e w8 ⟨v8, rfl, hv, hb⟩
    obtain ⟨go, co, eo, gb_, _, _, _⟩ := Kd.R_form hv (by rw [outB_len, HBLEN.out]; have := HN.out; omega)
    rw [outB_len, HBLEN.out] at eo
    subst eo
    have B8 := Aside0.mk (below_step B7.out hb)
    have HI8 := Aside0.mk (Kd.R_lower hv B7.out.size)
    clear hv hb gb_ B7
    have hn := HN.out
    have hcn := (Kd.R_reads' HI8.out).2.1
    have s0 := eq_true (show (1 : Int) ≤ (n : Int) - 1 by omega)
    have s1 := eq_true (show (n : Int) - 1 ≤ (n : Int) by omega)
    have s2 := eq_true (show (0 : Int) ≤ (n : Int) - 1 by omega)
    have s4 := eq_true (show (1 : Int) ≤ ((n - 1 : Nat) : Int) by omega)
    have s5 := eq_true (show (1 : Int) ≤ (n : Int) by omega)
    have s6 := eq_true (show (n : Int) - 1 ≤ (co : Int) by omega)
    have s7 := eq_false (show ¬ co = 1 by omega)
    have HCN := Aside0.mk hcn
    clear hn hcn
    go_wp2_with fail
    have el : n - 1 - 1 = nb := by have := HNB.out; omega
    rw [el]
    clear el s0 s1 s2 s4 s5 s6 s7
    go_loopg [73] (nb) (fun q v73 wr => ∃ (i : Int), v73 = .int .i64 i ∧ Aside0 (0 ≤ i ∧ i + q = (nb : Int)) ∧ Aside0 (Kd.R Kd.bool 4 wr w.heap.size (fun _ => True) (.slice (some ⟨go, 0, none⟩) n co) (outB b)) ∧ Aside0 (Below w.heap.size w wr))
    case atStart => exact ⟨0, rfl, ⟨by omega⟩, ⟨Kd.R_mono HI8.out (fun _ _ => trivial)⟩, B8⟩
    case round =>
     clear HI8 B8
     obtain ⟨i, rfl, HI, HR9, HB9⟩ := hrel
     have hi := HI.out
     cases gk with
     | zero =>
      have t1 : decide (i < (nb : Int)) = false := decide_eq_false (by omega)
      clear hi
      go_wp2_with fail
      go_ret
      refine ⟨go, co, rfl, ?_, HB9.out⟩
      have hr9 := Kd.R_mono (Kd.R_tight rfl HR9.out) (ok' := fun k => k = go) (fun k hk => Option.some.inj hk)
      rw [HNB.out] at hr9
      rw [HM.out]
      exact hr9
     | succ q =>
      have t1 : decide (i < (nb : Int)) = true := decide_eq_true (by omega)
      have q0 := eq_true hi.1
      have q1 := eq_true (show i < (nb : Int) by omega)
      have hib : i ≤ 130 := by have := HN.out; have := HNB.out; omega
      obtain ⟨hci, hfi⟩ := Kd.R_celln false HR9.out (i + 1) (by omega) (by have := HNB.out; omega)
      rw [show (i + 1).toNat = 1 + i.toNat by omega] at hci hfi
      obtain ⟨xb, ex⟩ : ∃ z, z = rdOf false (outB b) (i + 1) := ⟨_, rfl⟩
      rw [← ex] at hci
      have hself := Kd.R_putn HR9.out (i + 1) xb
      rw [ex, show (outB b).set (i + 1).toNat (rdOf false (outB b) (i + 1)) = (outB b) from set_self, ← ex, show (i + 1).toNat = 1 + i.toNat by omega] at hself
      have HSELF : Aside0 (Kd.R Kd.bool 4 (wr.setCell ⟨go, 1 + i.toNat, none⟩ (.bool xb)) w.heap.size (fun _ => True) (.slice (some ⟨go, 0, none⟩) n co) (outB b)) := ⟨hself⟩
      have HBS : Aside0 (Below w.heap.size w (wr.setCell ⟨go, 1 + i.toNat, none⟩ (.bool xb))) := ⟨below_set HB9.out (Kd.R_base HR9.out go rfl)⟩
      have HIB := Aside0.mk hib
      clear hi hself ex hib
      cases xb with
      | true =>
       go_wp2_with fail
       go_roundg q
       case measure => omega
       case rel =>
        have hi := HI.out
        have hib := HIB.out
        exact ⟨i + 1, by rw [w64 (by omega) (by omega)], ⟨by omega⟩, HSELF, HBS⟩
      | false =>
       go_wp2_with fail
       go_roundg q
       case measure => omega
       case rel =>
        have hi := HI.out
        have hib := HIB.out
        exact ⟨i + 1, by rw [w64 (by omega) (by omega)], ⟨by omega⟩, HSELF, HBS⟩
end Go.Proofs.Ytogjpimhlkinkaa.OwnPitB
