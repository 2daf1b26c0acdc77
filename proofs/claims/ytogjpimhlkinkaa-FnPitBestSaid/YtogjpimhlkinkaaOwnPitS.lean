/- The contract of spec.paFind, by hand. -/
import Derived.Test.YtogjpimhlkinkaaOwnLeast
import Derived.Test.YtogjpimhlkinkaaOwnFrom
import Derived.Test.YtogjpimhlkinkaaPitNet
import Derived.Test.YtogjpimhlkinkaaMFnPitBestx0
namespace Go.Proofs.Ytogjpimhlkinkaa.OwnPitS
open Go.RowKit Go.Proofs.Ytogjpimhlkinkaa.PFnPitBest Go.Proofs.YtogjpimhlkinkaaW.PrintWords Go.Proofs.YtogjpimhlkinkaaW.PrintLast Go.Proofs.YtogjpimhlkinkaaW.PrintMore Go.Proofs.Ytogjpimhlkinkaa.B Go.Proofs.Ytogjpimhlkinkaa.Flow Go.Proofs.Ytogjpimhlkinkaa.OwnPush Go.Proofs.Ytogjpimhlkinkaa.OwnLevels Go.Proofs.Ytogjpimhlkinkaa.OwnRun Go.Proofs.Ytogjpimhlkinkaa.OwnRows Go.Proofs.Ytogjpimhlkinkaa.OwnNet Go.Proofs.Ytogjpimhlkinkaa.OwnValue Go.Proofs.Ytogjpimhlkinkaa.OwnLeast Go.Proofs.Ytogjpimhlkinkaa.OwnFrom Go.Proofs.Ytogjpimhlkinkaa.PitMath Go.Proofs.Ytogjpimhlkinkaa.PitBest
set_option linter.unusedVariables false
set_option linter.unusedSimpArgs false
theorem rdL1 (a : List (List Int)) (i : Nat) : rd_L1 a (i : Int) = a.getD i [] := by unfold rd_L1; rw [toNat_nat]
theorem rdL1' (a : List (List Int)) (x : Int) : rd_L1 a x = a.getD x.toNat [] := rfl
theorem paEdges_l1 (a : List (List Int)) (v : List Int) (i : Nat) (hi : i < 120) (l : List Int) (hl : l.length ≤ 120) (hx : ∀ x ∈ l, 0 ≤ x ∧ x < 120) (q : List S68) : ∀ (d j : Nat) (o : List S68), j + d = l.length → o.length + d ≤ 1000000 →
  Ev (fun k => spec_paEdges.l0 k a v (o ++ (l.drop j).map (arcE i)) a (a.length : Int) (wrap64 ((i : Int) + 1))) q →
  Ev (fun k => spec_paEdges.l1 k a v o (i : Int) a (a.length : Int) (i : Int) l (l.length : Int) (j : Int)) q := by
 intro d
 induction d with
 | zero =>
  intro j o hj _ hq
  rw [List.drop_eq_nil_of_le (by omega), List.map_nil, List.append_nil] at hq
  exact Ev.step (fun k => spec_paEdges.l1.eq_2 a v o i a a.length i l l.length j k) (ev_neg (by omega) hq)
 | succ d ih =>
  intro j o hj ho hq
  have hm := hx _ (getD_mem (z := 0) (show j < l.length by omega))
  refine Ev.step (fun k => spec_paEdges.l1.eq_2 a v o i a a.length i l l.length j k) ?_
  rw [w_succ (i := j) (n := l.length) (by omega) (by omega), rd_nat, w64 (x := (i : Int) + 1) (by omega) (by omega), w64 (x := l.getD j 0 + 1) (by omega) (by omega)]
  refine ev_pos (by omega) (ev_pos (by omega) (ev_pos (by omega) (ev_pos (by omega) ?_)))
  refine ih (j + 1) _ (by omega) (by rw [List.length_append]; simp; omega) ?_
  rw [List.append_assoc]
  have e : l.drop j = l.getD j 0 :: l.drop (j + 1) := by
   rw [List.drop_eq_getElem_cons (show j < l.length by omega), List.getD_eq_getElem?_getD, List.getElem?_eq_getElem (show j < l.length by omega)]; rfl
  rw [e, List.map_cons] at hq
  exact hq
theorem paEdges_l0 (a : List (List Int)) (ha : Arcs a) (v : List Int) (hv : flowVals v) (hn : v.length = a.length) : ∀ (d i : Nat), i + d = a.length →
  Ev (fun k => spec_paEdges.l0 k a v (foldR (pitAt a v) 0 i []) a (a.length : Int) (i : Int)) (pitE a v) := by
 have hle := ha.le
 intro d
 induction d with
 | zero =>
  intro i hi
  obtain rfl : i = a.length := by omega
  exact Ev.step (fun k => spec_paEdges.l0.eq_2 a v _ a a.length a.length k) (ev_neg (by omega) (ev_some rfl))
 | succ d ih =>
  intro i hi
  have ih := ih (i + 1) (by omega)
  have hlen := pitAt_len ha v i
  have hvi := hv i (by omega)
  rw [foldR_last (Nat.zero_le _)] at ih
  generalize foldR (pitAt a v) 0 i [] = o at *
  refine Ev.step (fun k => spec_paEdges.l0.eq_2 a v o a a.length i k) ?_
  rw [rd_nat, rdL1]
  have hrow := ha.len i
  have go : ∀ o' : List S68, o'.length ≤ 130 * 120 → o' ++ (a.getD i []).map (arcE i) = pitAt a v o i → Ev (fun k => spec_paEdges.j1 k a v o' (i : Int) (a.getD i []) a (a.length : Int) (i : Int)) (pitE a v) := by
   intro o' h1 h2
   refine Ev.step (fun k => spec_paEdges.j1.eq_2 a v o' i (a.getD i []) a a.length i k) ?_
   refine paEdges_l1 a v i (by omega) (a.getD i []) hrow (fun x hx => by have := ha.down hx; omega) _ (a.getD i []).length 0 o' (by omega) (by omega) ?_
   rw [List.drop_zero, h2, w_succ (n := a.length) (by omega) (by omega)]
   exact ih
  refine ev_pos (by omega) (ev_pos (by omega) (ev_pos (by omega) (ev_pos (by omega) (ev_ite (fun h => ev_pos (by omega) ?_) (fun h => ev_ite (fun h1 => ev_pos (by omega) ?_) (fun h1 => ?_))))))
  ·rw [w64 (x := (i : Int) + 1) (by omega) (by omega)]
   exact go _ (by rw [List.length_append]; simp; omega) (by unfold pitAt; rw [if_neg (by omega), if_pos h])
  ·rw [w64 (x := (i : Int) + 1) (by omega) (by omega), w64 (x := (a.length : Int) + 1) (by omega) (by omega), w64 (x := -(v.getD i 0)) (by omega) (by omega)]
   exact go _ (by rw [List.length_append]; simp; omega) (by unfold pitAt; rw [if_pos h1, if_neg h])
  ·exact go _ (by omega) (by unfold pitAt; rw [if_neg h1, if_neg h])
theorem paEdges_ev (a : List (List Int)) (ha : Arcs a) (v : List Int) (hv : flowVals v) (hn : v.length = a.length) : Ev (fun k => spec_paEdges.f k a v) (pitE a v) := by
 unfold spec_paEdges.f
 have := paEdges_l0 a ha v hv hn a.length 0 (by omega)
 rwa [foldR_end (Nat.le_refl _)] at this
theorem listOf_in (d : List Int) : listOf (inB d) = cutL d := by
 unfold listOf cutL
 rw [inB_len]
 refine foldR_congr fun o j _ hj => ?_
 unfold putAt OwnLeast.cutAt
 have h := inB_at d (j : Int) (by omega) (by omega)
 have e : (inB d).getD j false = decide (0 ≤ d.getD j 0) := h
 rw [e]
 by_cases c : 0 ≤ d.getD j 0
 ·rw [if_pos c, if_pos (decide_eq_true c)]
 ·rw [if_neg c, if_neg (by rw [decide_eq_false c]; decide)]
def lessAt (l : List Int) (o : List Int) (j : Nat) : List Int := o ++ [l.getD j 0 - 1]
theorem lessAt_map (l : List Int) (i : Nat) (hi : i ≤ l.length) : foldR (lessAt l) 0 i [] = (l.take i).map (· - 1) := by
 induction i with
 | zero => rw [foldR_end (Nat.le_refl _)]; rfl
 | succ i ih =>
  rw [foldR_last (Nat.zero_le _), ih (by omega)]
  unfold lessAt
  rw [List.take_succ_eq_append_getElem (show i < l.length by omega), List.map_append, List.getD_eq_getElem?_getD, List.getElem?_eq_getElem (show i < l.length by omega)]
  rfl
set_option maxHeartbeats 8000000 in
set_option maxRecDepth 100000 in
theorem paOf_calls (A : Option Addr) (c : Nat) (l : List Int) (w : World) (h0 : Kd.C (Kd.int .i64) w A l.length l) (e0 : l.length ≤ c) (h1 : 1 ≤ l.length) (hl : l.length ≤ 1000) (hb : ∀ x ∈ l, 0 ≤ x ∧ x ≤ 1000) :
  Calls Try.prog 102 #[.slice A l.length c] w fun e w' => ∃ u : Value, e = .returned u ∧ Kd.R (Kd.int .i64) 3 w' w.heap.size (fun _ => True) u (paOf l) ∧ Below w.heap.size w w' := by
 obtain ⟨aq, eA, _⟩ := Kd.at_int h0 0 (Int.le_refl 0) (by omega)
 subst eA
 obtain ⟨i0, hi0, _, hsz, _⟩ := info_parts inf3
 have hcut := cut_from (P := Try.prog) 33 3 .i64 Try.underlying33 hi0 1 hsz (some aq) l.length c 1 (by omega) (by omega)
 have hd := Kd.C_drop (c := c) (m := (1 : Int).toNat) h0 (by show 1 ≤ _; omega) e0
 obtain ⟨A5, hA5⟩ : ∃ A1, A1 = (if c = (1 : Int).toNat then some aq else (some aq : Option Addr).map (·.add ((1 : Int).toNat * 1))) := ⟨_, rfl⟩
 obtain ⟨c5, hc5⟩ : ∃ c1, c1 = c - (1 : Int).toNat := ⟨_, rfl⟩
 obtain ⟨t, et⟩ : ∃ z, z = l.drop 1 := ⟨_, rfl⟩
 have hy : t.length = l.length - (1 : Int).toNat := by rw [et, List.length_drop]; rfl
 rw [← hy, ← hA5, ← hc5] at hcut
 rw [show (Kd.int IntKind.i64).sz = 1 from rfl, ← hA5, show l.drop (1 : Int).toNat = t from et.symm] at hd
 obtain ⟨ql, eql⟩ : ∃ z, z = l.length := ⟨_, rfl⟩
 have hfin : (t.take t.length).map (· - 1) = paOf l := by rw [List.take_length, et]; rfl
 have htl : t.length ≤ 1000 := by rw [et, List.length_drop]; omega
 have htb : ∀ j, j < t.length → 0 ≤ t.getD j 0 ∧ t.getD j 0 ≤ 1000 := fun j hj => by rw [et] at hj ⊢; exact hb _ (List.mem_of_mem_drop (getD_mem hj))
 have HD := Aside0.mk hd
 have HFIN := Aside0.mk hfin
 have HTL := Aside0.mk htl
 have HTB := Aside0.mk htb
 have HQ := Aside0.mk (show 1 ≤ ql by omega)
 have s0 := eq_true (show (1 : Int) ≤ (ql : Int) by omega)
 have s1 := eq_true (show 1 ≤ ql by omega)
 rw [← eql] at hcut ⊢
 have Z := Aside0.mk (Below.refl w.heap.size w)
 clear h0 e0 h1 hl hb hd hA5 hc5 hy hi0 hsz hfin htl htb eql et
 go_enter Try.func102, Try.ntmps102
 go_wp2_with fail
 clear hcut
 go_loopg [3, 9] (t.length) (fun q v3 v9 wr => ∃ (i : Int), v9 = .int .i64 i ∧ Aside0 (0 ≤ i ∧ i + q = (t.length : Int)) ∧ Aside0 (Kd.R (Kd.int .i64) 3 wr w.heap.size (fun _ => True) v3 (foldR (lessAt t) 0 i.toNat [])) ∧ Aside0 (Below w.heap.size w wr))
 case atStart => exact ⟨0, rfl, ⟨by omega⟩, ⟨by rw [show (0 : Int).toNat = 0 from rfl, foldR_end (Nat.le_refl _)]; exact Kd.R_nil _ _ _ _ _⟩, Z⟩
 case round =>
  clear Z
  obtain ⟨i, rfl, HI, HO, HB⟩ := hrel
  have hi := HI.out
  cases gk with
  | zero =>
   have t1 : decide (i < (t.length : Int)) = false := decide_eq_false (by omega)
   have ei : i.toNat = t.length := by omega
   rw [ei, lessAt_map t t.length (Nat.le_refl _), HFIN.out] at HO
   clear hi ei
   go_wp2_with fail
   go_ret
   exact ⟨_, rfl, HO.out, HB.out⟩
  | succ q =>
   have t1 : decide (i < (t.length : Int)) = true := decide_eq_true (by omega)
   have q0 := eq_true hi.1
   have q1 := eq_true (show i < (t.length : Int) by omega)
   obtain ⟨ad, eA, hcell⟩ := Kd.at_int (Kd.C_below HD.out HB.out) i hi.1 (by omega)
   subst eA
   obtain ⟨z, ez⟩ : ∃ z, z = rd t i := ⟨_, rfl⟩
   rw [← ez] at hcell
   have EZ : Aside0 (z = t.getD i.toNat 0) := ⟨ez⟩
   have hz := HTB.out i.toNat (by omega)
   rw [← EZ.out] at hz
   obtain ⟨z1, ez1⟩ : ∃ y, y = z - 1 := ⟨_, rfl⟩
   have hw : wrap64 (z - 1) = z1 := by rw [ez1]; exact w64 (by omega) (by omega)
   have EZ1 := Aside0.mk ez1
   have hmm : (foldR (lessAt t) 0 i.toNat []).length = i.toNat := by rw [lessAt_map t i.toNat (by omega), List.length_map, List.length_take]; omega
   have HLN := Aside0.mk hmm
   have hib : i ≤ 1000 := by have := HTL.out; omega
   have HIB := Aside0.mk hib
   obtain ⟨A6, c6, e6⟩ := Kd.R_slice HO.out
   obtain ⟨m6, em6⟩ : ∃ z, z = (foldR (lessAt t) 0 i.toNat []).length := ⟨_, rfl⟩
   rw [← em6] at e6
   subst e6
   clear hi em6 hib ez ez1 hz hmm
   go_wp2_with (first | ((with_reducible refine gate_builtin (b := .append) (xs := #[.tmp 13, .tmp 16]) rfl ?_); at_builtin; refine Kd.R_append (Kd.int .i64) (w0 := w) w.heap.size rfl (.tmp 13) (.tmp 16) 33 3 (.int .i64 0) 8 rfl Try.underlying33 inf3 rfl (by decide) (by omega) (.slice A6 m6 c6) (foldR (lessAt t) 0 i.toNat []) z1 [.int .i64 z1] (fun _ => True) (fun _ => False) rfl rfl ?aP (fun _ hk => hk.elim) ?aF ?aO ?aB ?aS ?aL ?_; (case aP => exact rfl); (case aB => exact HB.out); (case aF => exact (fun k hk => trivial)); (case aO => exact HO.out); (case aS => exact (below_size HB.out)); (case aL => have h1_ := HLN.out; have h2_ := HIB.out; omega); intro v229 w10 ho hb hg hat; have n3_ := Aside0.mk hb; have n4_ := Aside0.mk ho; clear HB HO; have HB := n3_; have HO := n4_; clear n3_ n4_; clear ho hb hg hat hcell))
   go_roundg q
   case measure => omega
   case rel =>
    have hi := HI.out
    have hib := HIB.out
    refine ⟨i + 1, by rw [w64 (by omega) (by omega)], ⟨by omega⟩, ⟨?_⟩, HB⟩
    rw [show (i + 1).toNat = i.toNat + 1 by omega, foldR_last (Nat.zero_le _)]
    rw [show lessAt t (foldR (lessAt t) 0 i.toNat []) i.toNat = foldR (lessAt t) 0 i.toNat [] ++ [z1] from by unfold lessAt; rw [← EZ.out, EZ1.out]]
    exact HO.out
/-- what is left of the marks of nodes, with the source and without the sink -/
theorem marks_calls {m : List Bool} {N : Nat} (hN : N ≤ 120) (hl : m.length = N + 2) (h0 : m.getD 0 false = true) (h1 : m.getD (N + 1) false = false) (A : Option Addr) (c : Nat) (w : World) (h : Kd.C (Kd.int .i64) w A (listOf m).length (listOf m)) (e : (listOf m).length ≤ c) :
  Calls Try.prog 102 #[.slice A (listOf m).length c] w fun e w' => ∃ u : Value, e = .returned u ∧ Kd.R (Kd.int .i64) 3 w' w.heap.size (fun _ => True) u (listOf (pitB N m)) ∧ Below w.heap.size w w' := by
 have hlen := listOf_len (m := m)
 have hpos : 0 < (listOf m).length := List.length_pos_of_mem ((listOf_mem (m := m) 0).2 ⟨Int.le_refl 0, h0⟩)
 rw [← paOf_marks hl h0 h1]
 exact paOf_calls A c _ w h e hpos (by omega) (fun x hx => by have := asc_mem (listOf_asc (m := m)) hx; omega)
theorem inB_ends {n m : Nat} {tos : List Int} {adj : List (List Int)} {left d : List Int} (hn : 2 ≤ n) (L : Lev n m tos adj 0 left d [] (-1) 0) (hd : rd d ((n : Int) - 1) < 0) : (inB d).length = n ∧ (inB d).getD 0 false = true ∧ (inB d).getD (n - 1) false = false := by
 refine ⟨by rw [inB_len]; exact L.len, ?_, ?_⟩
 ·have h := inB_at d 0 (Int.le_refl 0) (by rw [L.len]; omega)
  rw [L.src] at h
  exact h
 ·have h := inB_at d ((n : Int) - 1) (by omega) (by rw [L.len]; omega)
  rw [decide_eq_false (by omega)] at h
  rw [show n - 1 = ((n : Int) - 1).toNat by omega]
  exact h
set_option maxHeartbeats 8000000 in
set_option maxRecDepth 100000 in
theorem find_calls (A0 : Option Addr) (c0 : Nat) (a : List (List Int)) (A1 : Option Addr) (c1 : Nat) (v : List Int) (w : World) (h0 : Kd.C kRows w A0 a.length a) (e0 : a.length ≤ c0) (h1 : Kd.C (Kd.int .i64) w A1 v.length v) (e1 : v.length ≤ c1) (hval : valuedB a v = true)
  (x : Int × List Int × List Int) (hx : Ran (a.length + 2) (pitE a v) x) :
  Calls Try.prog 76 #[.slice A0 a.length c0, .slice A1 v.length c1] w fun e w' => ∃ u : Value, e = .returned u ∧ Kd.R (Kd.int .i64) 3 w' w.heap.size (fun _ => True) u (listOf (pitB a.length (inB x.2.2))) ∧ Below w.heap.size w w' := by
 obtain ⟨hA, hV, hN⟩ := valued_arcs hval
 have hE := pit_at hA (valued_flow hval) hN
 have hl := pitE_len hA v
 have hle := hA.le
 obtain ⟨kp, hkp⟩ := (paEdges_ev a hA v (valued_flow hval) hN).rounds
 have hx0 := hx
 obtain ⟨kx, hx0⟩ := hx0
 have hT := run_told (net_of (a.length + 2) (pitE a v) (by omega) hE) (by omega) (by omega) kx 0 (leftL (pitE a v)) x hx0 (flows_of (a.length + 2) (pitE a v) hE)
 have hends := inB_ends (by omega) hT.2.1 hT.2.2
 have HENDS := Aside0.mk (And.intro hle hends)
 obtain ⟨n, en⟩ : ∃ z, z = a.length + 2 := ⟨_, rfl⟩
 have hw : wrap64 ((a.length : Int) + 2) = (n : Int) := by rw [w64 (by omega) (by omega), en]; rfl
 rw [← en] at hE hx
 have HN : Aside0 (2 ≤ n ∧ n ≤ 130) := ⟨by omega⟩
 have HE := Aside0.mk hE
 have HL := Aside0.mk hl
 have HX := Aside0.mk hx
 have HKP := Aside0.mk hkp
 have H0 := Aside0.mk h0
 have E0 := Aside0.mk e0
 have H1 := Aside0.mk h1
 have E1 := Aside0.mk e1
 clear h0 e0 h1 e1 hval hkp hx hx0 hE hl hT hends hA hV hN hle en
 go_enter Try.func76, Try.ntmps76
 go_wp2_with fail
 refine (spec_paEdges.calls kp A0 c0 a A1 c1 v (pitE a v) w H0.out E0.out H1.out E1.out HKP.out).mono ?_
 rintro e w1 ⟨v1, rfl, hv, hb⟩
 obtain ⟨Aq, cq, rfl⟩ := Kd.R_slice hv
 have B1 := Aside0.mk hb
 have HV1 := Aside0.mk (Kd.R_reads' hv)
 clear hv hb
 go_wp2_with fail
 refine (least_calls n Aq cq (pitE a v) w1 HV1.out.2.2 HV1.out.2.1 HN.out HL.out HE.out x HX.out).mono ?_
 rintro e w2 ⟨v2, rfl, hv, hb⟩
 obtain ⟨Ar, cr, rfl⟩ := Kd.R_slice hv
 have B2 := Aside0.mk (below_step B1.out hb)
 have HV2 := Aside0.mk (Kd.R_reads' hv)
 clear hv hb
 go_wp2_with fail
 rw [← listOf_in] at HV2 ⊢
 refine (marks_calls (N := a.length) HENDS.out.1 HENDS.out.2.1 HENDS.out.2.2.1 HENDS.out.2.2.2 Ar cr w2 HV2.out.2.2 HV2.out.2.1).mono ?_
 rintro e w3 ⟨v3, rfl, hv, hb⟩
 have B3 := Aside0.mk (below_step B2.out hb)
 have HV3 := Aside0.mk (Kd.R_lower hv B2.out.size)
 clear hv hb
 go_wp2_with fail
 go_ret
 exact ⟨_, rfl, HV3.out, B3.out⟩
end Go.Proofs.Ytogjpimhlkinkaa.OwnPitS
