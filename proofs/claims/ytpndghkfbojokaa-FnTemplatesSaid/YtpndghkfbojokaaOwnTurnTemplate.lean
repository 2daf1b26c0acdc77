/- The contracts of impl.TurnTemplate and spec.TurnTemplate, by hand: the turned offsets, rising. -/
-- OWN impl OwnTurnSort.ttR %s = %s
-- OWN spec OwnTurnSort.ttR %s = %s
import Derived.Test.YtpndghkfbojokaaOwnTurnSort
namespace Go.Proofs.Ytpndghkfbojokaa.OwnTurnTemplate
open Go.RowKit Go.Proofs.Ytpndghkfbojokaa.PFnTemplates Go.Proofs.YtpndghkfbojokaaW.PrintWords Go.Proofs.YtpndghkfbojokaaW.PrintLast Go.Proofs.YtpndghkfbojokaaW.PrintMore Go.Proofs.Ytpndghkfbojokaa.B Go.Proofs.Ytpndghkfbojokaa.SortG Go.Proofs.Ytpndghkfbojokaa.OwnTurnSort
set_option linter.unusedVariables false
set_option linter.unusedSimpArgs false
theorem infO : (Try.prog.info? 86).map (fun i => (i.zero, i.size, i.bytes)) = some (some (.agg #[.int .i64 0, .int .i64 0, .int .i64 0]), 3, 24) := by kernel_rfl
set_option maxHeartbeats 8000000 in
set_option maxRecDepth 100000 in
theorem own_impl (A0 : Option Addr) (c0 : Nat) (l : List S86) (g0 : List S86) (g1 : Bool) (w : World) (h0 : Kd.C k86 w A0 l.length l) (e0 : l.length ≤ c0) (ll : l.length ≤ 1048576) (h : ttR l = (g0, g1)) :
    Calls Try.prog 35 #[.slice A0 l.length c0] w fun e w' => ∃ v : Value, e = .returned (.tuple #[v, .bool g1]) ∧ Kd.R k86 86 w' w.heap.size (fun _ => True) v g0 ∧ Below w.heap.size w w' := by
  have hu := Try.underlying86
  obtain ⟨ks, hks⟩ := (IsTemplate_ev l (maxLen_val (by omega))).rounds
  have H0 := Aside0.mk h0
  have E0 := Aside0.mk e0
  have HH := Aside0.mk h
  clear h0 e0 h
  cases ht : tmplOk l with
  | false =>
    have HN : Aside0 ((g0, g1) = ([], false)) := ⟨by rw [← HH.out]; unfold ttR; rw [if_neg (by rw [ht]; simp)]⟩
    rw [ht] at hks
    go_enter Try.func35, Try.ntmps35
    go_wp2_with fail
    refine (impl_IsTemplate.calls ks A0 c0 l false w H0.out E0.out hks).mono ?_
    rintro e w1 ⟨rfl, hb⟩
    have HB := Aside0.mk hb
    clear hb hks
    go_wp2_with fail
    go_ret2
    have e_ := HN.out
    injection e_ with e1_ e2_
    subst e1_ e2_
    exact ⟨_, rfl, Kd.R_nil _ _ _ _ _, HB.out⟩
  | true =>
    have HN : Aside0 ((g0, g1) = (srtL l, true)) := ⟨by rw [← HH.out]; unfold ttR; rw [if_pos ht]⟩
    have HT := Aside0.mk ht
    have HLN := Aside0.mk (tmpl_pairwise ht).1
    rw [ht] at hks
    clear ht
    go_enter Try.func35, Try.ntmps35
    go_wp2_with fail
    refine (impl_IsTemplate.calls ks A0 c0 l true w H0.out E0.out hks).mono ?_
    rintro e w1 ⟨rfl, hb⟩
    have HB := Aside0.mk hb
    clear hb hks
    go_wp2_with (first | ((with_reducible refine gate_dst (N := 10) rfl ?_); refine Kd.R_lit k86 _ 86 ?hg (N := 10) ?hd (xs := ([] : List S86)) (inner := []) (ok := fun _ => True) (okp := fun _ => True) ?hr ?hp (fun _ hk => hk) trivial (Below.refl _ _) (Nat.le_refl _) (by simp) ?_; (case hd => rfl); (case hg => rfl); (case hr => first | (go_simp; done) | (go_simp; rfl)); (case hp => exact (Reps.none _ _)); intro vO wl ho hb hg_ hnew_; clear hg_ hnew_; have HL := Aside0.mk (Kd.R_lower ho (below_size HB.out)); have m0_ := Aside0.mk (below_step HB.out hb); clear HB ho hb; have HB := m0_; clear m0_))
    go_loopg [4, 13] (l.length) (fun d v4 v13 wr => ∃ i : Int, v13 = .int .i64 i ∧ Aside0 (0 ≤ i ∧ i + d = l.length) ∧ Aside0 (Kd.R k86 86 wr w.heap.size (fun _ => True) v4 (turnL (l.take i.toNat))) ∧ Aside0 (Below w.heap.size w wr))
    case atStart => exact ⟨0, rfl, ⟨by omega⟩, ⟨by rw [show (0 : Int).toNat = 0 from rfl, List.take_zero]; exact HL.out⟩, HB⟩
    case round =>
      clear HL HB
      obtain ⟨i, rfl, HI, HL, HB⟩ := hrel
      cases gk with
      | zero =>
        have t1 : decide (i < (l.length : Int)) = false := decide_eq_false (by have := HI.out; omega)
        have HL2 : Aside0 (Kd.R k86 86 wr w.heap.size (fun _ => True) u4 (turnL l)) := ⟨by have h := HL.out; rwa [show i.toNat = l.length by have := HI.out; omega, List.take_length] at h⟩
        have HP := Aside0.mk (show 1 ≤ l.length ∧ l.length ≤ 12 by have h := HT.out; unfold tmplOk at h; rw [Bool.and_eq_true, decide_eq_true_eq] at h; exact h.1)
        go_wp2_with fail
        refine (sortF_calls l.length (turnL l) (by unfold turnL; rw [List.length_map]) HP.out (fun _ => True) u4 w wr HB.out HL2.out).mono ?_
        rintro e w3 ⟨rfl, hr, hb, _⟩
        have HR := Aside0.mk hr
        have HB2 := Aside0.mk hb
        clear hr hb
        go_wp2_with fail
        go_ret2
        have e_ := HN.out
        injection e_ with e1_ e2_
        subst e1_ e2_
        exact ⟨_, rfl, HR.out, HB2.out⟩
      | succ d =>
        have hi := HI.out
        have hlt : i < (l.length : Int) := by omega
        have t1 : decide (i < (l.length : Int)) = true := decide_eq_true hlt
        have q0 := eq_true hi.1
        have q1 := eq_true hlt
        obtain ⟨ad, eA, hx0, hx1, hx2⟩ := at_T86 H0.out i hi.1 hlt
        subst eA
        replace hx0 := (HB.out.cell (World.block_lt_of_cell? w _ hx0)).trans hx0
        replace hx1 := (HB.out.cell (World.block_lt_of_cell? w _ hx1)).trans hx1
        replace hx2 := (HB.out.cell (World.block_lt_of_cell? w _ hx2)).trans hx2
        obtain ⟨x, ex⟩ : ∃ x, x = rd_T86 l i := ⟨_, rfl⟩
        rw [← ex] at hx0 hx1 hx2
        have EX : Aside0 (x = l.getD i.toNat zO) := ⟨ex⟩
        have hok := okO_iff ((tmpl_pairwise HT.out).2.1 x (by rw [EX.out]; exact getD_mem (by omega)))
        have hn1 : wrap64 (-x.f1) = -x.f1 := w64 (by omega) (by omega)
        have hn2 : IntKind.i64.wrap (-x.f1) = -x.f1 := (i64_w _).trans hn1
        have HI2 := Aside0.mk hi
        have HCL : Aside0 ((turnL (l.take i.toNat)).length ≤ 12) := ⟨by unfold turnL; rw [List.length_map, List.length_take]; have := HLN.out; omega⟩
        obtain ⟨cur, ecur⟩ : ∃ z, z = turnL (l.take i.toNat) := ⟨_, rfl⟩
        rw [← ecur] at HL HCL
        have ECUR := Aside0.mk ecur
        clear hi hlt ex hok ecur
        have hB0 : (wr.alloc (Obj.cells #[.int .i64 x.f0, .int .i64 x.f1, .int .i64 x.f2] 86)).cell? ⟨wr.heap.size, 0, none⟩ = some (.int .i64 x.f0) := (blk_cell (blk_new wr _) 0).trans rfl
        have hB1 : (wr.alloc (Obj.cells #[.int .i64 x.f0, .int .i64 x.f1, .int .i64 x.f2] 86)).cell? ⟨wr.heap.size, 1, none⟩ = some (.int .i64 x.f1) := (blk_cell (blk_new wr _) 1).trans rfl
        have hB2 : (wr.alloc (Obj.cells #[.int .i64 x.f0, .int .i64 x.f1, .int .i64 x.f2] 86)).cell? ⟨wr.heap.size, 2, none⟩ = some (.int .i64 x.f2) := (blk_cell (blk_new wr _) 2).trans rfl
        go_wp2_with (first | ((with_reducible refine gate_builtin (b := .append) (xs := #[.tmp 17, .tmp 26]) rfl ?_); at_builtin; refine Kd.R_append k86 (w0 := w) w.heap.size rfl (.tmp 17) (.tmp 26) 56 86 (.agg #[(.int .i64 0), (.int .i64 0), (.int .i64 0)]) 24 rfl Try.underlying56 infO rfl (by decide) (by omega) u4 cur (⟨-x.f1, x.f0, x.f2⟩ : S86) [.int .i64 (-x.f1), .int .i64 x.f0, .int .i64 x.f2] (fun _ => True) (fun _ => False) rfl ?aX ?aP (fun _ hk => hk.elim) ?aF ?aO ?aB ?aS ?aL ?_; (case aX => rw [World.size_alloc]; rfl); (case aP => exact k86_mkM _ _ _ (⟨-x.f1, x.f0, x.f2⟩ : S86)); (case aB => exact (below_alloc HB.out _)); (case aF => exact (fun _ _ => trivial)); (case aO => exact (Kd.R_alloc HL.out _)); (case aS => exact below_size (below_alloc HB.out _)); (case aL => have := HCL.out; omega); intro v1 wz ho1 hb1 hg1 hat1; have m0_ := Aside0.mk ho1; have m1_ := Aside0.mk hb1; clear ho1 hb1 hg1 hat1 HB HL hB0 hB1 hB2 hx0 hx1 hx2; have HL := m0_; have HB := m1_; clear m0_ m1_))
        go_roundg d
        case measure => omega
        case rel =>
          refine ⟨i + 1, by rw [w64 (by have := HI2.out; omega) (by have := HI2.out; omega)], ⟨by have := HI2.out; omega⟩, ⟨?_⟩, HB⟩
          have h := HL.out
          have hi := HI2.out
          have hlt : i.toNat < l.length := by omega
          have hg : l.getD i.toNat zO = l[i.toNat] := by rw [List.getD_eq_getElem?_getD, List.getElem?_eq_getElem hlt]; rfl
          rw [show (i + 1).toNat = i.toNat + 1 by omega, List.take_succ_eq_append_getElem hlt]
          unfold turnL
          rw [List.map_append]
          rw [ECUR.out, EX.out, hg] at h
          exact h
theorem one_reps {W : World} {base : Nat} {okp : Nat → Prop} (o : S86) : Reps (k86.M W base okp) k86.sz [o] [.int .i64 o.f0, .int .i64 o.f1, .int .i64 o.f2] := by
  refine ⟨rfl, fun j p hp => ?_⟩
  cases j with
  | zero =>
    obtain rfl : o = p := Option.some.inj hp
    exact k86_mkM _ _ _ _
  | succ j => simp at hp
theorem posT_le (o : S86) (out : List S86) (k : Nat) : posT o out k ≤ k := (posT_ok o out k).1
theorem posT_succ (o : S86) (out : List S86) (k : Nat) : posT o out (k + 1) = if befO o (out.getD k zO) = true then posT o out k else k + 1 := rfl
theorem specP_succ (l : List S86) (i : Nat) : specP l (i + 1) = insT (specP l i) (turnO (l.getD i zO)) := by unfold specP; rw [foldR_last (Nat.zero_le _)]
def spec_TurnTemplate_T9 : Bool × List (List Nat × List Nat) := (true, [([], []), ([0], [0]), ([1], [1]), ([2], [2]), ([2], [2]), ([2], [2]), ([5, 2], [2, 5]), ([4, 6, 2], [2, 4, 6]), ([7, 2], [2, 7]), ([3, 8, 2, 2], [2, 3, 8]), ([2, 9], [2, 9])])
def spec_TurnTemplate_B9 : List Nat := [0, 1, 3, 7, 7, 7, 39, 119, 247, 511, 1023]
theorem spec_TurnTemplate_tab9 : rtab .any (opsOf Try.f33 9) = spec_TurnTemplate_T9 := by kernel_rfl
theorem spec_TurnTemplate_bits9 : waitsOk spec_TurnTemplate_T9.2 spec_TurnTemplate_B9 = true := by kernel_rfl
def spec_TurnTemplate_T11 : Bool × List (List Nat × List Nat) := (true, [([], []), ([], []), ([], []), ([1, 2], [1, 2]), ([0, 3], [0, 3]), ([], []), ([5], [5]), ([4, 6, 4], [4, 6]), ([], []), ([], []), ([8, 9], [8, 9]), ([7, 10, 7], [7, 10]), ([11, 11, 0, 1, 2, 3, 4, 5, 6, 7, 8, 9, 10, 11], [1, 8, 11])])
def spec_TurnTemplate_B11 : List Nat := [0, 0, 0, 6, 15, 0, 32, 127, 0, 0, 768, 2047, 4095]
theorem spec_TurnTemplate_tab11 : rtab .any (opsOf Try.f33 11) = spec_TurnTemplate_T11 := by kernel_rfl
theorem spec_TurnTemplate_bits11 : waitsOk spec_TurnTemplate_T11.2 spec_TurnTemplate_B11 = true := by kernel_rfl
set_option maxHeartbeats 8000000 in
set_option maxRecDepth 100000 in
theorem own_spec (A0 : Option Addr) (c0 : Nat) (l : List S86) (g0 : List S86) (g1 : Bool) (w : World) (h0 : Kd.C k86 w A0 l.length l) (e0 : l.length ≤ c0) (ll : l.length ≤ 1048576) (h : ttR l = (g0, g1)) :
    Calls Try.prog 33 #[.slice A0 l.length c0] w fun e w' => ∃ v : Value, e = .returned (.tuple #[v, .bool g1]) ∧ Kd.R k86 86 w' w.heap.size (fun _ => True) v g0 ∧ Below w.heap.size w w' := by
  have hu := Try.underlying86
  obtain ⟨ks, hks⟩ := (slTemplate_ev l (maxLen_val (by omega))).rounds
  have H0 := Aside0.mk h0
  have E0 := Aside0.mk e0
  have HH := Aside0.mk h
  clear h0 e0 h
  cases ht : tmplOk l with
  | false =>
    have HN : Aside0 ((g0, g1) = ([], false)) := ⟨by rw [← HH.out]; unfold ttR; rw [if_neg (by rw [ht]; simp)]⟩
    rw [ht] at hks
    go_enter Try.func33, Try.ntmps33
    go_wp2_with fail
    refine (spec_slTemplate.calls ks A0 c0 l false w H0.out E0.out hks).mono ?_
    rintro e w1 ⟨rfl, hb⟩
    have HB := Aside0.mk hb
    clear hb hks
    go_wp2_with fail
    go_ret2
    have e_ := HN.out
    injection e_ with e1_ e2_
    subst e1_ e2_
    exact ⟨_, rfl, Kd.R_nil _ _ _ _ _, HB.out⟩
  | true =>
    have HN : Aside0 ((g0, g1) = (srtL l, true)) := ⟨by rw [← HH.out]; unfold ttR; rw [if_pos ht]⟩
    have HT := Aside0.mk ht
    have HLN := Aside0.mk (tmpl_pairwise ht).1
    rw [ht] at hks
    clear ht
    go_enter Try.func33, Try.ntmps33
    go_wp2_with fail
    refine (spec_slTemplate.calls ks A0 c0 l true w H0.out E0.out hks).mono ?_
    rintro e w1 ⟨rfl, hb⟩
    have HB := Aside0.mk hb
    have HL : Aside0 (Kd.R k86 86 w1 w.heap.size (fun _ => True) (.slice none 0 0) ([] : List S86)) := ⟨Kd.R_nil _ _ _ _ _⟩
    clear hb hks
    go_wp2_with fail
    go_loopg [4, 13] (l.length) (fun d v4 v13 wr => ∃ i : Int, v13 = .int .i64 i ∧ Aside0 (0 ≤ i ∧ i + d = l.length) ∧ Aside0 (Kd.R k86 86 wr w.heap.size (fun _ => True) v4 (specP l i.toNat)) ∧ Aside0 (Below w.heap.size w wr))
    case atStart => exact ⟨0, rfl, ⟨by omega⟩, ⟨by rw [show (0 : Int).toNat = 0 from rfl]; unfold specP; rw [foldR_end (Nat.le_refl _)]; exact HL.out⟩, HB⟩
    case round =>
      clear HL HB
      obtain ⟨i, rfl, HI, HL, HB⟩ := hrel
      cases gk with
      | zero =>
        have t1 : decide (i < (l.length : Int)) = false := decide_eq_false (by have := HI.out; omega)
        have HL2 : Aside0 (Kd.R k86 86 wr w.heap.size (fun _ => True) u4 (srtL l)) := ⟨by have h := HL.out; rwa [show i.toNat = l.length by have := HI.out; omega, spec_srt HT.out] at h⟩
        go_wp2_with fail
        go_ret2
        have e_ := HN.out
        injection e_ with e1_ e2_
        subst e1_ e2_
        exact ⟨_, rfl, HL2.out, HB.out⟩
      | succ d =>
        have hi := HI.out
        have hlt : i < (l.length : Int) := by omega
        have t1 : decide (i < (l.length : Int)) = true := decide_eq_true hlt
        have q0 := eq_true hi.1
        have q1 := eq_true hlt
        obtain ⟨ad, eA, hx0, hx1, hx2⟩ := at_T86 H0.out i hi.1 hlt
        subst eA
        replace hx0 := (HB.out.cell (World.block_lt_of_cell? w _ hx0)).trans hx0
        replace hx1 := (HB.out.cell (World.block_lt_of_cell? w _ hx1)).trans hx1
        replace hx2 := (HB.out.cell (World.block_lt_of_cell? w _ hx2)).trans hx2
        obtain ⟨x, ex⟩ : ∃ x, x = rd_T86 l i := ⟨_, rfl⟩
        rw [← ex] at hx0 hx1 hx2
        have EX : Aside0 (x = l.getD i.toNat zO) := ⟨ex⟩
        have hok := okO_iff ((tmpl_pairwise HT.out).2.1 x (by rw [EX.out]; exact getD_mem (by omega)))
        obtain ⟨ng, eng⟩ : ∃ z, z = -x.f1 := ⟨_, rfl⟩
        have hn1 : wrap64 (-x.f1) = ng := by rw [eng]; exact w64 (by omega) (by omega)
        have hn2 : IntKind.i64.wrap (-x.f1) = ng := (i64_w _).trans hn1
        have HI2 := Aside0.mk hi
        have HP := specP_ok HT.out i.toNat (by omega)
        have HCL : Aside0 ((specP l i.toNat).length ≤ 12) := ⟨by rw [HP.1]; have := HLN.out; omega⟩
        obtain ⟨o, eo⟩ : ∃ z, z = turnO x := ⟨_, rfl⟩
        have ENG : Aside0 (o = turnO x ∧ ng = o.f0 ∧ x.f0 = o.f1 ∧ x.f2 = o.f2) := ⟨by subst eo; exact ⟨rfl, eng, rfl, rfl⟩⟩
        obtain ⟨cur, ecur⟩ : ∃ z, z = specP l i.toNat := ⟨_, rfl⟩
        rw [← ecur] at HL HCL
        have ECUR := Aside0.mk ecur
        obtain ⟨A4, c4, e4⟩ := Kd.R_slice HL.out
        subst e4
        obtain ⟨m, em⟩ : ∃ z, z = cur.length := ⟨_, rfl⟩
        rw [← em] at HL
        have EM := Aside0.mk em
        rw [← em]
        have HWR := Aside0.mk (below_size HB.out)
        clear hi hlt ex hok eng eo ecur em HP
        go_upto_block 2 with (first | ((with_reducible refine gate_dst (N := 6) rfl ?_); refine box_event ?hg (N := 6) ?hd (cs := #[.int .i64 0, .int .i64 0, .int .i64 0]) (t := 86) ?hr ?_; (case hd => rfl); (case hg => rfl); (case hr => first | (go_simp; done) | (go_simp; rfl)); intro g hg w6 hbox hb; have n0_ := Aside0.mk (below_step HB.out hb); have K1 := Aside0.mk hbox; have G1 := Aside0.mk ((by rw [hg]; exact HWR.out) : w.heap.size ≤ g); have GR := Aside0.mk hg; have n1_ := Aside0.mk (Kd.R_mono (Kd.R_below (Kd.R_bound HL.out) hb) (ok' := fun k => k ≠ g) (fun k hk => by have := hk.2.2.1; omega)); replace hx0 := (hb.cell (World.block_lt_of_cell? wr _ hx0)).trans hx0; replace hx1 := (hb.cell (World.block_lt_of_cell? wr _ hx1)).trans hx1; replace hx2 := (hb.cell (World.block_lt_of_cell? wr _ hx2)).trans hx2; clear HB HL hb hbox hg; have HB := n0_; have HL := n1_; clear n0_ n1_; have hf0 := blk_frozen K1.out 0; have hf1 := blk_frozen K1.out 1; have hf2 := blk_frozen K1.out 2; have hc0 : w6.cell? ⟨g, 0, none⟩ = some (.int .i64 0) := (blk_cell K1.out 0).trans rfl; have hc1 : w6.cell? ⟨g, 1, none⟩ = some (.int .i64 0) := (blk_cell K1.out 1).trans rfl; have hc2 : w6.cell? ⟨g, 2, none⟩ = some (.int .i64 0) := (blk_cell K1.out 2).trans rfl))
        obtain ⟨w7, ew7⟩ : ∃ z, z = (((((w6.setCell ⟨g, 0, none⟩ (.int .i64 x.f0)).setCell ⟨g, 1, none⟩ (.int .i64 x.f1)).setCell ⟨g, 2, none⟩ (.int .i64 x.f2)).setCell ⟨g, 0, none⟩ (.int .i64 ng)).setCell ⟨g, 1, none⟩ (.int .i64 x.f0)).setCell ⟨g, 2, none⟩ (.int .i64 x.f2) := ⟨_, rfl⟩
        have KB : Aside0 (w7.heap[g]? = some (.cells #[.int .i64 o.f0, .int .i64 o.f1, .int .i64 o.f2] 86 (0, 0))) := ⟨by rw [ew7]; exact blk_put (blk_put (blk_put (blk_put (blk_put (blk_put K1.out 0 _ rfl) 1 _ rfl) 2 _ rfl) 0 _ rfl) 1 _ rfl) 2 _ (by rw [← ENG.out.2.1, ← ENG.out.2.2.1, ← ENG.out.2.2.2]; rfl)⟩
        have HB7 : Aside0 (Below w.heap.size w w7) := ⟨by rw [ew7]; exact below_set (below_set (below_set (below_set (below_set (below_set HB.out G1.out) G1.out) G1.out) G1.out) G1.out) G1.out⟩
        have HR7 : Aside0 (Kd.R k86 86 w7 w.heap.size (fun _ => True) (.slice A4 m c4) cur) := ⟨by rw [ew7]; exact Kd.R_mono (Kd.R_far (Kd.R_far (Kd.R_far (Kd.R_far (Kd.R_far (Kd.R_far HL.out (p := ⟨g, 0, none⟩) (fun _ h => h) _) (p := ⟨g, 1, none⟩) (fun _ h => h) _) (p := ⟨g, 2, none⟩) (fun _ h => h) _) (p := ⟨g, 0, none⟩) (fun _ h => h) _) (p := ⟨g, 1, none⟩) (fun _ h => h) _) (p := ⟨g, 2, none⟩) (fun _ h => h) _) (fun _ _ => trivial)⟩
        rw [← ew7]
        clear ew7 HB HL K1 hf0 hf1 hf2 hc0 hc1 hc2 hn1 hn2 hx0 hx1 hx2 t1 q0 q1 H0 E0
        go_cut [7] (fun v7 wc => ∃ z : Int, v7 = .int .i64 z ∧ Aside0 (z = (posT o cur m : Nat)) ∧ Aside0 (Kd.R k86 86 wc w.heap.size (fun _ => True) (.slice A4 m c4) cur) ∧ Aside0 (Below w.heap.size w wc) ∧ Aside0 (wc.heap[g]? = some (.cells #[.int .i64 o.f0, .int .i64 o.f1, .int .i64 o.f2] 86 (0, 0))))
        case first =>
          go_wp2_with fail
          go_loopg [7] m (fun q v7 wr' => v7 = .int .i64 (q : Int) ∧ Aside0 (posT o cur q = posT o cur m ∧ q ≤ m) ∧ Aside0 (Kd.R k86 86 wr' w.heap.size (fun _ => True) (.slice A4 m c4) cur) ∧ Aside0 (Below w.heap.size w wr') ∧ Aside0 (wr'.heap[g]? = some (.cells #[.int .i64 o.f0, .int .i64 o.f1, .int .i64 o.f2] 86 (0, 0))))
          case atStart => exact ⟨rfl, ⟨rfl, Nat.le_refl _⟩, HR7, HB7, KB⟩
          case round =>
            clear HR7 HB7 KB
            obtain ⟨rfl, HQ, HR, HB, KB⟩ := hrel
            go_wp2_with fail
            have HR := Aside0.mk (Kd.R_drew HR.out)
            have HB := Aside0.mk (below_drew1 HB.out)
            have KB := Aside0.mk (blk_drew KB.out)
            cases gk with
            | zero =>
              have z1 : decide ((0 : Int) < ((0 : Nat) : Int)) = false := by decide
              have z2 : decide ((0 : Nat) < 0) = false := by decide
              refine start_ (n := 11) (S := fun w' => True) (ds := []) #[false, false, false, false, false, false, false, false, false, false, false] (by kernel_rfl) rfl rfl (trivial) (fun hHeld => ?_)
              refine with_tabW spec_TurnTemplate_tab9 spec_TurnTemplate_bits9 (fun HT_ HW_ => ?_)
              generalize wr.drew = wa at HR HB KB hHeld ⊢
              refine pure_ (i := 0) (N := some 27) (v := ?_) (a' := ?_) #[true, false, false, false, false, false, false, false, false, false, false] rfl rfl (any_of HT_.out (by kernel_rfl)) (fun _ _ _ h => h) (Or.inl ⟨by rfl, ?_⟩) ?_ ?_
              rotate_left
              · intro w'
                go_simp
                with_reducible rfl
              rotate_left
              · simp only [Act.put, List.setIfInBounds_toArray, List.set_cons_zero, List.set_cons_succ, i64_w, i32_w]
                rfl
              refine pure_ (i := 1) (N := some 28) (v := ?_) (a' := ?_) #[true, true, false, false, false, false, false, false, false, false, false] rfl rfl (any_of HT_.out (by kernel_rfl)) (fun _ _ _ h => h) (Or.inl ⟨by rfl, ?_⟩) ?_ ?_
              rotate_left
              · intro w'
                go_simp
                with_reducible rfl
              rotate_left
              · simp only [Act.put, List.setIfInBounds_toArray, List.set_cons_zero, List.set_cons_succ, i64_w, i32_w]
                rfl
              refine pure_ (i := 2) (N := some 29) (v := ?_) (a' := ?_) #[true, true, true, false, false, false, false, false, false, false, false] rfl rfl (any_of HT_.out (by kernel_rfl)) (fun _ _ _ h => h) (Or.inl ⟨by rfl, ?_⟩) ?_ ?_
              rotate_left
              · intro w'
                go_simp
                with_reducible rfl
              rotate_left
              · simp only [Act.put, List.setIfInBounds_toArray, List.set_cons_zero, List.set_cons_succ, i64_w, i32_w]
                rfl
              refine pure_ (i := 4) (N := some 31) (v := undef) (a' := ?_) #[true, true, true, false, true, false, false, false, false, false, false] rfl rfl (any_of HT_.out (by kernel_rfl)) (fun _ _ _ h => h) (Or.inr ⟨by rfl, rfl⟩) ?_ ?_
              rotate_left
              · simp only [Act.put, List.setIfInBounds_toArray, List.set_cons_zero, List.set_cons_succ, i64_w, i32_w]
                rfl
              refine pure_ (i := 5) (N := some 32) (v := undef) (a' := ?_) #[true, true, true, false, true, true, false, false, false, false, false] rfl rfl (any_of HT_.out (by kernel_rfl)) (fun _ _ _ h => h) (Or.inr ⟨by rfl, rfl⟩) ?_ ?_
              rotate_left
              · simp only [Act.put, List.setIfInBounds_toArray, List.set_cons_zero, List.set_cons_succ, i64_w, i32_w]
                rfl
              refine pure_ (i := 6) (N := some 33) (v := undef) (a' := ?_) #[true, true, true, false, true, true, true, false, false, false, false] rfl rfl (any_of HT_.out (by kernel_rfl)) (fun _ _ _ h => h) (Or.inr ⟨by rfl, rfl⟩) ?_ ?_
              rotate_left
              · simp only [Act.put, List.setIfInBounds_toArray, List.set_cons_zero, List.set_cons_succ, i64_w, i32_w]
                rfl
              refine pure_ (i := 7) (N := some 34) (v := undef) (a' := ?_) #[true, true, true, false, true, true, true, true, false, false, false] rfl rfl (any_of HT_.out (by kernel_rfl)) (fun _ _ _ h => h) (Or.inr ⟨by rfl, rfl⟩) ?_ ?_
              rotate_left
              · simp only [Act.put, List.setIfInBounds_toArray, List.set_cons_zero, List.set_cons_succ, i64_w, i32_w]
                rfl
              refine pure_ (i := 3) (N := some 30) (v := undef) (a' := ?_) #[true, true, true, true, true, true, true, true, false, false, false] rfl rfl (any_of HT_.out (by kernel_rfl)) (fun _ _ _ h => h) (Or.inr ⟨by rfl, rfl⟩) ?_ ?_
              rotate_left
              · simp only [Act.put, List.setIfInBounds_toArray, List.set_cons_zero, List.set_cons_succ, i64_w, i32_w]
                rfl
              refine pure_ (i := 8) (N := some 35) (v := undef) (a' := ?_) #[true, true, true, true, true, true, true, true, true, false, false] rfl rfl (any_of HT_.out (by kernel_rfl)) (fun _ _ _ h => h) (Or.inr ⟨by rfl, rfl⟩) ?_ ?_
              rotate_left
              · simp only [Act.put, List.setIfInBounds_toArray, List.set_cons_zero, List.set_cons_succ, i64_w, i32_w]
                rfl
              refine pure_ (i := 9) (N := some 36) (v := undef) (a' := ?_) #[true, true, true, true, true, true, true, true, true, true, false] rfl rfl (any_of HT_.out (by kernel_rfl)) (fun _ _ _ h => h) (Or.inr ⟨by rfl, rfl⟩) ?_ ?_
              rotate_left
              · simp only [Act.put, List.setIfInBounds_toArray, List.set_cons_zero, List.set_cons_succ, i64_w, i32_w]
                rfl
              refine pure_ (i := 10) (N := some 37) (v := ?_) (a' := ?_) #[true, true, true, true, true, true, true, true, true, true, true] rfl rfl (any_of HT_.out (by kernel_rfl)) (fun _ _ _ h => h) (Or.inl ⟨by rfl, ?_⟩) ?_ ?_
              rotate_left
              · intro w'
                go_simp
                with_reducible rfl
              rotate_left
              · simp only [Act.put, List.setIfInBounds_toArray, List.set_cons_zero, List.set_cons_succ, i64_w, i32_w]
                rfl
              refine done_ (done_of HT_.out (by kernel_rfl)) ?_
              go_wp2
              go_meet
              case rel => exact ⟨_, rfl, ⟨by rw [← HQ.out.1]; rfl⟩, HR, HB, KB⟩
            | succ q =>
              obtain ⟨j, ej⟩ : ∃ z : Int, z = ((q + 1 : Nat) : Int) := ⟨_, rfl⟩
              obtain ⟨k, ek⟩ : ∃ z : Int, z = (q : Int) := ⟨_, rfl⟩
              rw [← ej]
              have hq := HQ.out
              have hm := HCL.out
              rw [← EM.out] at hm
              have hw : wrap64 (j - 1) = k := by rw [w64 (by omega) (by omega)]; omega
              have hw' : IntKind.i64.wrap (j - 1) = k := (i64_w _).trans hw
              have z1 : decide ((0 : Int) < j) = true := decide_eq_true (by omega)
              have b2 := eq_true (show (0 : Int) ≤ k by omega)
              have b3 := eq_true (show k < (m : Int) by omega)
              obtain ⟨gr, cr, er, _, _, _⟩ := Kd.R_form HR.out (by rw [← EM.out]; omega)
              injection er with er1 er2 er3
              subst er1
              clear er2 er3
              obtain ⟨⟨e3, e4, e5⟩, _, _, _⟩ := elem3 HR.out k (by omega) (by omega)
              obtain ⟨y, ey⟩ : ∃ z, z = cur.getD k.toNat zO := ⟨_, rfl⟩
              rw [← ey] at e3 e4 e5
              have EY : Aside0 (y = cur.getD q zO) := ⟨by rw [ey, ek, toNat_nat]⟩
              have HJ := Aside0.mk (And.intro ej ek)
              have HMM := Aside0.mk hm
              clear ey ej ek hq hm
              refine start_ (n := 11) (S := fun w' => w'.cell? ⟨g, 0, none⟩ = some (.int .i64 o.f0) ∧ w'.cell? ⟨g, 1, none⟩ = some (.int .i64 o.f1) ∧ w'.cell? ⟨g, 2, none⟩ = some (.int .i64 o.f2) ∧ w'.cell? ⟨gr, k.toNat * 3, none⟩ = some (.int .i64 y.f0) ∧ w'.cell? ⟨gr, k.toNat * 3 + 1, none⟩ = some (.int .i64 y.f1) ∧ w'.cell? ⟨gr, k.toNat * 3 + 2, none⟩ = some (.int .i64 y.f2)) (ds := []) #[false, false, false, false, false, false, false, false, false, false, false] (by kernel_rfl) rfl rfl ⟨(blk_cell KB.out 0).trans rfl, (blk_cell KB.out 1).trans rfl, (blk_cell KB.out 2).trans rfl, e3, e4, e5⟩ (fun hHeld => ?_)
              refine with_tabW spec_TurnTemplate_tab9 spec_TurnTemplate_bits9 (fun HT_ HW_ => ?_)
              generalize wr.drew = wa at HR HB KB e3 e4 e5 hHeld ⊢
              refine pure_ (i := 0) (N := some 27) (v := ?_) (a' := ?_) #[true, false, false, false, false, false, false, false, false, false, false] rfl rfl (any_of HT_.out (by kernel_rfl)) (fun _ _ _ h => h) (Or.inl ⟨by rfl, ?_⟩) ?_ ?_
              rotate_left
              · intro w'
                go_simp
                with_reducible rfl
              rotate_left
              · simp only [Act.put, List.setIfInBounds_toArray, List.set_cons_zero, List.set_cons_succ, i64_w, i32_w]
                rfl
              refine pure_ (i := 1) (N := some 28) (v := ?_) (a' := ?_) #[true, true, false, false, false, false, false, false, false, false, false] rfl rfl (any_of HT_.out (by kernel_rfl)) (fun _ _ _ h => h) (Or.inl ⟨by rfl, ?_⟩) ?_ ?_
              rotate_left
              · intro w'
                go_simp
                with_reducible rfl
              rotate_left
              · simp only [Act.put, List.setIfInBounds_toArray, List.set_cons_zero, List.set_cons_succ, i64_w, i32_w]
                rfl
              refine pure_ (i := 2) (N := some 29) (v := ?_) (a' := ?_) #[true, true, true, false, false, false, false, false, false, false, false] rfl rfl (any_of HT_.out (by kernel_rfl)) (fun _ _ _ h => h) (Or.inl ⟨by rfl, ?_⟩) ?_ ?_
              rotate_left
              · intro w'
                go_simp
                with_reducible rfl
              rotate_left
              · simp only [Act.put, List.setIfInBounds_toArray, List.set_cons_zero, List.set_cons_succ, i64_w, i32_w]
                rfl
              refine pure_ (i := 4) (N := some 31) (v := ?_) (a' := ?_) #[true, true, true, false, true, false, false, false, false, false, false] rfl rfl (any_of HT_.out (by kernel_rfl)) (fun _ _ _ h => h) (Or.inl ⟨by rfl, ?_⟩) ?_ ?_
              rotate_left
              · intro w'
                go_simp
                with_reducible rfl
              rotate_left
              · simp only [Act.put, List.setIfInBounds_toArray, List.set_cons_zero, List.set_cons_succ, i64_w, i32_w]
                rfl
              refine pure_ (i := 5) (N := some 32) (v := ?_) (a' := ?_) #[true, true, true, false, true, true, false, false, false, false, false] rfl rfl (any_of HT_.out (by kernel_rfl)) (fun _ _ _ h => h) (Or.inl ⟨by rfl, ?_⟩) ?_ ?_
              rotate_left
              · intro w'
                go_simp
                with_reducible rfl
              rotate_left
              · simp only [Act.put, List.setIfInBounds_toArray, List.set_cons_zero, List.set_cons_succ, i64_w, i32_w]
                rfl
              refine pure_ (i := 6) (N := some 33) (v := ?_) (a' := ?_) #[true, true, true, false, true, true, true, false, false, false, false] rfl rfl (any_of HT_.out (by kernel_rfl)) (fun _ _ _ h => h) (Or.inl ⟨by rfl, ?_⟩) ?_ ?_
              rotate_left
              · intro w'
                go_simp
                with_reducible rfl
              rotate_left
              · simp only [Act.put, List.setIfInBounds_toArray, List.set_cons_zero, List.set_cons_succ, i64_w, i32_w]
                rfl
              refine pure_ (i := 7) (N := some 34) (v := ?_) (a' := ?_) #[true, true, true, false, true, true, true, true, false, false, false] rfl rfl (any_of HT_.out (by kernel_rfl)) (fun _ _ _ h => h) (Or.inl ⟨by rfl, ?_⟩) ?_ ?_
              rotate_left
              · intro w'
                go_simp
                with_reducible rfl
              rotate_left
              · simp only [Act.put, List.setIfInBounds_toArray, List.set_cons_zero, List.set_cons_succ, i64_w, i32_w]
                rfl
              refine take_ (i := 3) (N := some 30) (v := ?_) (a' := ?_) #[true, true, true, true, true, true, true, true, false, false, false] rfl rfl (take_ofW HT_.out HW_.out (by kernel_rfl)) (fun _ _ _ h => h) (Or.inl ⟨by rfl, ?_⟩) hHeld ?_ ?_
              rotate_left
              · rintro w' ⟨s0, s1, s2, s3, s4, s5⟩
                go_simp
                with_reducible rfl
              rotate_left
              · simp only [Act.put, List.setIfInBounds_toArray, List.set_cons_zero, List.set_cons_succ, i64_w, i32_w]
                rfl
              refine take_ (i := 8) (N := some 35) (v := ?_) (a' := ?_) #[true, true, true, true, true, true, true, true, true, false, false] rfl rfl (take_ofW HT_.out HW_.out (by kernel_rfl)) (fun _ _ _ h => h) (Or.inl ⟨by rfl, ?_⟩) hHeld ?_ ?_
              rotate_left
              · rintro w' ⟨s0, s1, s2, s3, s4, s5⟩
                go_simp
                with_reducible rfl
              rotate_left
              · simp only [Act.put, List.setIfInBounds_toArray, List.set_cons_zero, List.set_cons_succ, i64_w, i32_w]
                rfl
              refine one_ (i := 9) (N := some 36) #[true, true, true, true, true, true, true, true, true, true, false] rfl rfl (one_of HT_.out (by kernel_rfl)) (by decide) (fun K hK => ?_)
              refine goes_ Try.func67 (by kernel_rfl) rfl #[.agg #[.int .i64 o.f0, .int .i64 o.f1, .int .i64 o.f2], .agg #[.int .i64 y.f0, .int .i64 y.f1, .int .i64 y.f2]] (by rfl) rfl rfl (by (try simp only [List.map_toArray, List.map_cons, List.map_nil]); first | done | rfl | (simp only [List.length_drop, List.length_take]; rfl)) ?_
              refine (spec_slBefore.calls o.f0 o.f1 o.f2 y.f0 y.f1 y.f2 (befO o y) wa (slBefore_eq o y)).mono ?_
              rintro e wb ⟨rfl, hb⟩
              refine ⟨_, rfl, ?_⟩
              have n0_ := Aside0.mk (Kd.R_below HR.out hb)
              have n1_ := Aside0.mk (below_step HB.out hb)
              have n2_ := Aside0.mk (blk_below KB.out hb)
              replace e3 := (hb.cell (World.block_lt_of_cell? _ _ e3)).trans e3
              replace e4 := (hb.cell (World.block_lt_of_cell? _ _ e4)).trans e4
              replace e5 := (hb.cell (World.block_lt_of_cell? _ _ e5)).trans e5
              clear HR HB KB hb
              have HR := n0_
              have HB := n1_
              have KB := n2_
              clear n0_ n1_ n2_
              refine hK.out _ _ ⟨(blk_cell KB.out 0).trans rfl, (blk_cell KB.out 1).trans rfl, (blk_cell KB.out 2).trans rfl, e3, e4, e5⟩ (fun hHeld => ?_)
              clear hK K
              refine pure_ (i := 10) (N := some 37) (v := ?_) (a' := ?_) #[true, true, true, true, true, true, true, true, true, true, true] rfl rfl (any_of HT_.out (by kernel_rfl)) (fun _ _ _ h => h) (Or.inl ⟨by rfl, ?_⟩) ?_ ?_
              rotate_left
              · intro w'
                go_simp
                with_reducible rfl
              rotate_left
              · simp only [Act.put, List.setIfInBounds_toArray, List.set_cons_zero, List.set_cons_succ, i64_w, i32_w]
                rfl
              refine done_ (done_of HT_.out (by kernel_rfl)) ?_
              clear e3 e4 e5 z1 b2 b3
              cases hbf : befO o y with
              | false =>
                have HZ : Aside0 (j = (posT o cur m : Nat)) := ⟨by rw [← HQ.out.1, posT_succ, ← EY.out, hbf, if_neg (by simp), HJ.out.1]⟩
                clear hbf
                go_wp2
                go_meet
                case rel => exact ⟨_, rfl, HZ, HR, HB, KB⟩
              | true =>
                have HZ : Aside0 (posT o cur q = posT o cur m) := ⟨by rw [← HQ.out.1, posT_succ, ← EY.out, hbf, if_pos rfl]⟩
                clear hbf
                go_wp2
                go_roundg q
                case measure => omega
                case rel => exact ⟨by rw [HJ.out.2], ⟨HZ.out, by have := HQ.out; omega⟩, HR, HB, KB⟩
        case rest =>
          clear HR7 HB7 KB
          obtain ⟨z, rfl, EZ, HR, HB, KB⟩ := hcut
          go_wp2_with fail
          have HR := Aside0.mk (Kd.R_drew HR.out)
          have HB := Aside0.mk (below_drew1 HB.out)
          have KB := Aside0.mk (blk_drew KB.out)
          obtain ⟨kn, ekn⟩ : ∃ q, q = z.toNat := ⟨_, rfl⟩
          obtain ⟨hm0, hmc, hC⟩ := Kd.R_reads' HR.out
          obtain ⟨ti, hti, hti2⟩ := Option.map_eq_some_iff.1 infO
          have htis : ti.size = 3 := by injection hti2 with _ h2; injection h2
          have hzl := posT_le o cur m
          have hz := EZ.out
          obtain ⟨A5, eA5⟩ : ∃ q, q = if c4 = kn then A4 else A4.map (·.add (kn * 3)) := ⟨_, rfl⟩
          obtain ⟨m5, em5⟩ : ∃ q, q = m - kn := ⟨_, rfl⟩
          obtain ⟨c5, ec5⟩ : ∃ q, q = c4 - kn := ⟨_, rfl⟩
          have hs1 : ∀ W : World, (Instr.slice 56 (.slice A4 m c4) none (some (.int .i64 z)) none).run Try.prog W = .ok (.slice A4 kn c4) W := by rw [ekn]; exact cut_to 56 86 .i64 Try.underlying56 hti A4 m c4 z (by omega) (by omega) hmc
          have hs2 : ∀ W : World, (Instr.slice 56 (.slice A4 m c4) (some (.int .i64 z)) none none).run Try.prog W = .ok (.slice A5 m5 c5) W := by rw [eA5, em5, ec5, ekn]; exact cut_from 56 86 .i64 Try.underlying56 hti 3 htis A4 m c4 z (by omega) (by omega)
          have hk := show kn ≤ cur.length by omega
          have HC1 : Aside0 (Kd.C k86 wc.drew A4 kn (cur.take kn)) := ⟨by have h := Kd.C_take hC hk; rwa [show (cur.take kn).length = kn by rw [List.length_take]; omega] at h⟩
          have HC2 : Aside0 (Kd.C k86 wc.drew A5 m5 (cur.drop kn)) := ⟨by have h := Kd.C_drop (c := c4) hC hk (by omega); rw [show (cur.drop kn).length = m5 by rw [List.length_drop]; omega] at h; rw [eA5]; exact h⟩
          have HKN := Aside0.mk hk
          have HM5 : Aside0 (m5 ≤ 12) := ⟨by have := HCL.out; omega⟩
          have HKP : Aside0 (kn = posT o cur m) := ⟨by omega⟩
          have HX := Aside0.mk (Below.refl wc.drew.heap.size wc.drew)
          clear ekn hm0 hmc hC hti hti2 htis hzl hz eA5 em5 ec5 hk EZ
          refine start_ (n := 13) (S := fun w' => w'.cell? ⟨g, 0, none⟩ = some (.int .i64 o.f0) ∧ w'.cell? ⟨g, 1, none⟩ = some (.int .i64 o.f1) ∧ w'.cell? ⟨g, 2, none⟩ = some (.int .i64 o.f2)) (ds := []) #[false, false, false, false, false, false, false, false, false, false, false, false, false] (by kernel_rfl) rfl rfl ⟨(blk_cell KB.out 0).trans rfl, (blk_cell KB.out 1).trans rfl, (blk_cell KB.out 2).trans rfl⟩ (fun hHeld => ?_)
          refine with_tabW spec_TurnTemplate_tab11 spec_TurnTemplate_bits11 (fun HT_ HW_ => ?_)
          generalize wc.drew = wd at HR HB KB HC1 HC2 HX hHeld ⊢
          refine pure_ (i := 1) (N := some 41) (v := ?_) (a' := ?_) #[false, true, false, false, false, false, false, false, false, false, false, false, false] rfl rfl (any_of HT_.out (by kernel_rfl)) (fun _ _ _ h => h) (Or.inl ⟨by rfl, ?_⟩) ?_ ?_
          rotate_left
          · intro w'
            go_simp
            with_reducible rfl
          rotate_left
          · simp only [Act.put, List.setIfInBounds_toArray, List.set_cons_zero, List.set_cons_succ, i64_w, i32_w]
            rfl
          refine pure_ (i := 2) (N := some 42) (v := ?_) (a' := ?_) #[false, true, true, false, false, false, false, false, false, false, false, false, false] rfl rfl (any_of HT_.out (by kernel_rfl)) (fun _ _ _ h => h) (Or.inl ⟨by rfl, ?_⟩) ?_ ?_
          rotate_left
          · intro w'
            go_simp
            with_reducible rfl
          rotate_left
          · simp only [Act.put, List.setIfInBounds_toArray, List.set_cons_zero, List.set_cons_succ, i64_w, i32_w]
            rfl
          refine pure_ (i := 3) (N := some 43) (v := ?_) (a' := ?_) #[false, true, true, true, false, false, false, false, false, false, false, false, false] rfl rfl (any_of HT_.out (by kernel_rfl)) (fun _ _ _ h => h) (Or.inl ⟨by rfl, ?_⟩) ?_ ?_
          rotate_left
          · intro w'
            go_simp
            with_reducible rfl
          rotate_left
          · simp only [Act.put, List.setIfInBounds_toArray, List.set_cons_zero, List.set_cons_succ, i64_w, i32_w]
            rfl
          refine pure_ (i := 8) (N := some 48) (v := ?_) (a' := ?_) #[false, true, true, true, false, false, false, false, true, false, false, false, false] rfl rfl (any_of HT_.out (by kernel_rfl)) (fun _ _ _ h => h) (Or.inl ⟨by rfl, ?_⟩) ?_ ?_
          rotate_left
          · intro w'
            go_simp
            with_reducible rfl
          rotate_left
          · simp only [Act.put, List.setIfInBounds_toArray, List.set_cons_zero, List.set_cons_succ, i64_w, i32_w]
            rfl
          refine pure_ (i := 9) (N := some 49) (v := ?_) (a' := ?_) #[false, true, true, true, false, false, false, false, true, true, false, false, false] rfl rfl (any_of HT_.out (by kernel_rfl)) (fun _ _ _ h => h) (Or.inl ⟨by rfl, ?_⟩) ?_ ?_
          rotate_left
          · intro w'
            go_simp
            with_reducible rfl
          rotate_left
          · simp only [Act.put, List.setIfInBounds_toArray, List.set_cons_zero, List.set_cons_succ, i64_w, i32_w]
            rfl
          refine pure_ (i := 10) (N := some 50) (v := ?_) (a' := ?_) #[false, true, true, true, false, false, false, false, true, true, true, false, false] rfl rfl (any_of HT_.out (by kernel_rfl)) (fun _ _ _ h => h) (Or.inl ⟨by rfl, ?_⟩) ?_ ?_
          rotate_left
          · intro w'
            go_simp
            with_reducible rfl
          rotate_left
          · simp only [Act.put, List.setIfInBounds_toArray, List.set_cons_zero, List.set_cons_succ, i64_w, i32_w]
            rfl
          refine take_ (i := 5) (N := some 45) (v := ?_) (a' := ?_) #[false, true, true, true, false, true, false, false, true, true, true, false, false] rfl rfl (take_ofW HT_.out HW_.out (by kernel_rfl)) (fun _ _ _ h => h) (Or.inl ⟨by rfl, ?_⟩) hHeld ?_ ?_
          rotate_left
          · rintro w' ⟨s0, s1, s2⟩
            go_simp
            with_reducible rfl
          rotate_left
          · simp only [Act.put, List.setIfInBounds_toArray, List.set_cons_zero, List.set_cons_succ, i64_w, i32_w]
            rfl
          refine two_ (i := 0) (j := 6) (Ni := some 40) (Nj := some 46) #[true, true, true, true, false, true, false, false, true, true, true, false, false] #[false, true, true, true, false, true, true, false, true, true, true, false, false] rfl rfl rfl rfl (two_of HT_.out (by kernel_rfl)) (by decide) (by decide) (fun K hK => ?_) (fun K hK => ?_)
          · skip
            refine Kd.R_lit_step k86 (w0 := wd) wd.heap.size 86 (by rfl) (N := 40) rfl (xs := ([] : List S86)) (inner := []) (ok := fun _ => True) (okp := fun _ => True) ?hr (Reps.none _ _) (fun _ hk => hk) trivial HX.out (below_size HX.out) (by simp) ?_
            (case hr => first | (go_simp; done) | (go_simp; rfl))
            intro v40 we1 ho hb hg_ hnew_
            have HE := Aside0.mk ho
            have n0_ := Aside0.mk hb
            clear HX ho hb hg_ hnew_
            have HX := n0_
            clear n0_
            have k0 := (blk_cell (blk_below KB.out HX.out) 0).trans rfl
            have k1 := (blk_cell (blk_below KB.out HX.out) 1).trans rfl
            have k2 := (blk_cell (blk_below KB.out HX.out) 2).trans rfl
            refine hK.out _ _ ⟨k0, k1, k2⟩ (fun hHeld => ?_)
            clear k0 k1 k2
            clear hK K
            refine norm_ (a' := ?_) ?_ ?_
            rotate_left
            · show Act.put _ (some 40) _ = _
              simp only [Act.put, List.setIfInBounds_toArray, List.set_cons_zero, List.set_cons_succ, i64_w, i32_w]
              rfl
            refine two_ (i := 4) (j := 6) (Ni := some 44) (Nj := some 46) #[true, true, true, true, true, true, false, false, true, true, true, false, false] #[true, true, true, true, false, true, true, false, true, true, true, false, false] rfl rfl rfl rfl (two_of HT_.out (by kernel_rfl)) (by decide) (by decide) (fun K hK => ?_) (fun K hK => ?_)
            · skip
              refine Kd.R_append_rows_step k86 (Rr := k86.K we1) (w0 := wd) wd.heap.size (by rfl) (.tmp 40) (.tmp 43) 56 86 (.agg #[(.int .i64 0), (.int .i64 0), (.int .i64 0)]) 24 rfl Try.underlying56 infO rfl (by decide) (by omega) v40 ([] : List S86) (cur.take kn) A4 kn c4 (fun _ => True) (fun _ => False) rfl rfl HE.out (Kd.C_below HC1.out HX.out) (fun x cs h => by obtain rfl := k86_open h; exact k86_mkM _ _ _ _) (fun _ h => h.elim) (fun _ _ => trivial) HX.out (below_size HX.out) (by have := HKN.out; have := HCL.out; rw [List.length_nil]; omega) ?_
              intro v44 we2 ho hb hg_ hnew_
              have H4 := Aside0.mk ho
              have n0_ := Aside0.mk hb
              clear HX HE ho hb hg_ hnew_
              have HX := n0_
              clear n0_
              have k0 := (blk_cell (blk_below KB.out HX.out) 0).trans rfl
              have k1 := (blk_cell (blk_below KB.out HX.out) 1).trans rfl
              have k2 := (blk_cell (blk_below KB.out HX.out) 2).trans rfl
              refine hK.out _ _ ⟨k0, k1, k2⟩ (fun hHeld => ?_)
              clear k0 k1 k2
              clear hK K
              refine norm_ (a' := ?_) ?_ ?_
              rotate_left
              · show Act.put _ (some 44) _ = _
                simp only [Act.put, List.setIfInBounds_toArray, List.set_cons_zero, List.set_cons_succ, i64_w, i32_w]
                rfl
              refine one_ (i := 6) (N := some 46) #[true, true, true, true, true, true, true, false, true, true, true, false, false] rfl rfl (one_of HT_.out (by kernel_rfl)) (by decide) (fun K hK => ?_)
              refine Kd.R_lit_step k86 (w0 := wd) wd.heap.size 86 (by rfl) (N := 46) rfl (xs := [o]) (inner := [.int .i64 o.f0, .int .i64 o.f1, .int .i64 o.f2]) (ok := fun q => we2.heap.size ≤ q) (okp := fun _ => False) ?hr (one_reps o) (fun _ hk => hk.elim) (Nat.le_refl _) HX.out (below_size HX.out) (by simp) ?_
              (case hr => first | (go_simp; done) | (go_simp; rfl))
              intro v46 we3 ho hb hg_ hnew_
              have H1 : Aside0 (Kd.R k86 86 we3 wd.heap.size (fun q => we2.heap.size ≤ q ∧ q < we3.heap.size) v46 [o]) := ⟨Kd.R_mono (Kd.R_bound ho) (fun q hq => ⟨hq.1, hq.2.2.1⟩)⟩
              have n1_ := Aside0.mk (Kd.R_grown H4.out hg_ (by simp))
              have n2_ : Aside0 (∀ q, v44.ownBlock = some q → q < we2.heap.size) := ⟨Kd.R_lt H4.out⟩
              clear H4
              have H4 := n1_
              have BL := n2_
              clear n1_ n2_
              have n0_ := Aside0.mk hb
              clear HX ho hb hg_ hnew_
              have HX := n0_
              clear n0_
              have k0 := (blk_cell (blk_below KB.out HX.out) 0).trans rfl
              have k1 := (blk_cell (blk_below KB.out HX.out) 1).trans rfl
              have k2 := (blk_cell (blk_below KB.out HX.out) 2).trans rfl
              refine hK.out _ _ ⟨k0, k1, k2⟩ (fun hHeld => ?_)
              clear k0 k1 k2
              clear hK K
              refine norm_ (a' := ?_) ?_ ?_
              rotate_left
              · show Act.put _ (some 46) _ = _
                simp only [Act.put, List.setIfInBounds_toArray, List.set_cons_zero, List.set_cons_succ, i64_w, i32_w]
                rfl
              refine one_ (i := 7) (N := some 47) #[true, true, true, true, true, true, true, true, true, true, true, false, false] rfl rfl (one_of HT_.out (by kernel_rfl)) (by decide) (fun K hK => ?_)
              obtain ⟨A46, c46, e46⟩ := Kd.R_slice H1.out
              subst e46
              refine Kd.R_append_rows_step k86 (Rr := k86.K we3) (w0 := wd) wd.heap.size (by rfl) (.tmp 44) (.tmp 46) 56 86 (.agg #[(.int .i64 0), (.int .i64 0), (.int .i64 0)]) 24 rfl Try.underlying56 infO rfl (by decide) (by omega) v44 (([] : List S86) ++ cur.take kn) [o] A46 1 c46 (fun _ => True) (fun _ => False) rfl rfl H4.out (Kd.R_reads' H1.out).2.2 (fun x cs h => by obtain rfl := k86_open h; exact k86_mkM _ _ _ _) (fun _ h => h.elim) (fun _ _ => trivial) HX.out (below_size HX.out) (by have := HKN.out; have := HCL.out; rw [List.nil_append, List.length_take]; omega) ?_
              intro v47 we4 ho hb hg_ hnew_
              have H7 := Aside0.mk ho
              have n0_ := Aside0.mk hb
              clear HX H4 H1 ho hb hg_ hnew_
              have HX := n0_
              clear n0_
              have k0 := (blk_cell (blk_below KB.out HX.out) 0).trans rfl
              have k1 := (blk_cell (blk_below KB.out HX.out) 1).trans rfl
              have k2 := (blk_cell (blk_below KB.out HX.out) 2).trans rfl
              refine hK.out _ _ ⟨k0, k1, k2⟩ (fun hHeld => ?_)
              clear k0 k1 k2
              clear hK K
              refine norm_ (a' := ?_) ?_ ?_
              rotate_left
              · show Act.put _ (some 47) _ = _
                simp only [Act.put, List.setIfInBounds_toArray, List.set_cons_zero, List.set_cons_succ, i64_w, i32_w]
                rfl
              refine one_ (i := 11) (N := some 51) #[true, true, true, true, true, true, true, true, true, true, true, true, false] rfl rfl (one_of HT_.out (by kernel_rfl)) (by decide) (fun K hK => ?_)
              refine Kd.R_append_rows_step k86 (Rr := k86.K we4) (w0 := wd) wd.heap.size (by rfl) (.tmp 47) (.tmp 50) 56 86 (.agg #[(.int .i64 0), (.int .i64 0), (.int .i64 0)]) 24 rfl Try.underlying56 infO rfl (by decide) (by omega) v47 ((([] : List S86) ++ cur.take kn) ++ [o]) (cur.drop kn) A5 m5 c5 (fun _ => True) (fun _ => False) rfl rfl H7.out (Kd.C_below HC2.out HX.out) (fun x cs h => by obtain rfl := k86_open h; exact k86_mkM _ _ _ _) (fun _ h => h.elim) (fun _ _ => trivial) HX.out (below_size HX.out) (by have := HKN.out; have := HCL.out; have := HM5.out; rw [List.nil_append, List.length_append, List.length_take]; simp only [List.length_singleton]; omega) ?_
              intro v51 we5 ho hb hg_ hnew_
              have HF := Aside0.mk ho
              have n0_ := Aside0.mk hb
              clear HX H7 ho hb hg_ hnew_
              have HX := n0_
              clear n0_
              have k0 := (blk_cell (blk_below KB.out HX.out) 0).trans rfl
              have k1 := (blk_cell (blk_below KB.out HX.out) 1).trans rfl
              have k2 := (blk_cell (blk_below KB.out HX.out) 2).trans rfl
              refine hK.out _ _ ⟨k0, k1, k2⟩ (fun hHeld => ?_)
              clear k0 k1 k2
              clear hK K
              refine norm_ (a' := ?_) ?_ ?_
              rotate_left
              · show Act.put _ (some 51) _ = _
                simp only [Act.put, List.setIfInBounds_toArray, List.set_cons_zero, List.set_cons_succ, i64_w, i32_w]
                rfl
              refine pure_ (i := 12) (N := some 4) (v := ?_) (a' := ?_) #[true, true, true, true, true, true, true, true, true, true, true, true, true] rfl rfl (any_of HT_.out (by kernel_rfl)) (fun _ _ _ h => h) (Or.inl ⟨by rfl, ?_⟩) ?_ ?_
              rotate_left
              · intro w'
                go_simp
                with_reducible rfl
              rotate_left
              · simp only [Act.put, List.setIfInBounds_toArray, List.set_cons_zero, List.set_cons_succ, i64_w, i32_w]
                rfl
              refine done_ (done_of HT_.out (by kernel_rfl)) ?_
              go_wp2
              go_roundg d
              case measure => omega
              case rel =>
                refine ⟨i + 1, by rw [w64 (by have := HI2.out; have := HLN.out; omega) (by have := HI2.out; have := HLN.out; omega)], ⟨by have := HI2.out; omega⟩, ⟨?_⟩, ⟨below_step HB.out HX.out⟩⟩
                rw [show (i + 1).toNat = i.toNat + 1 by have := HI2.out; omega, specP_succ, ← ECUR.out, ← EX.out, ← ENG.out.1]
                have h := Kd.R_lower HF.out (below_size HB.out)
                rw [List.nil_append, List.append_assoc, List.singleton_append, HKP.out, EM.out] at h
                exact h
            · skip
              refine Kd.R_lit_step k86 (w0 := wd) wd.heap.size 86 (by rfl) (N := 46) rfl (xs := [o]) (inner := [.int .i64 o.f0, .int .i64 o.f1, .int .i64 o.f2]) (ok := fun q => we1.heap.size ≤ q) (okp := fun _ => False) ?hr (one_reps o) (fun _ hk => hk.elim) (Nat.le_refl _) HX.out (below_size HX.out) (by simp) ?_
              (case hr => first | (go_simp; done) | (go_simp; rfl))
              intro v46 we2 ho hb hg_ hnew_
              have H1 : Aside0 (Kd.R k86 86 we2 wd.heap.size (fun q => we1.heap.size ≤ q ∧ q < we2.heap.size) v46 [o]) := ⟨Kd.R_mono (Kd.R_bound ho) (fun q hq => ⟨hq.1, hq.2.2.1⟩)⟩
              have n1_ := Aside0.mk (Kd.R_grown HE.out hg_ (by simp))
              have n2_ : Aside0 (∀ q, v40.ownBlock = some q → q < we1.heap.size) := ⟨Kd.R_lt HE.out⟩
              clear HE
              have HE := n1_
              have BL := n2_
              clear n1_ n2_
              have n0_ := Aside0.mk hb
              clear HX ho hb hg_ hnew_
              have HX := n0_
              clear n0_
              have k0 := (blk_cell (blk_below KB.out HX.out) 0).trans rfl
              have k1 := (blk_cell (blk_below KB.out HX.out) 1).trans rfl
              have k2 := (blk_cell (blk_below KB.out HX.out) 2).trans rfl
              refine hK.out _ _ ⟨k0, k1, k2⟩ (fun hHeld => ?_)
              clear k0 k1 k2
              clear hK K
              refine norm_ (a' := ?_) ?_ ?_
              rotate_left
              · show Act.put _ (some 46) _ = _
                simp only [Act.put, List.setIfInBounds_toArray, List.set_cons_zero, List.set_cons_succ, i64_w, i32_w]
                rfl
              refine one_ (i := 4) (N := some 44) #[true, true, true, true, true, true, true, false, true, true, true, false, false] rfl rfl (one_of HT_.out (by kernel_rfl)) (by decide) (fun K hK => ?_)
              refine Kd.R_append_rows_step k86 (Rr := k86.K we2) (w0 := wd) wd.heap.size (by rfl) (.tmp 40) (.tmp 43) 56 86 (.agg #[(.int .i64 0), (.int .i64 0), (.int .i64 0)]) 24 rfl Try.underlying56 infO rfl (by decide) (by omega) v40 ([] : List S86) (cur.take kn) A4 kn c4 (fun _ => True) (fun _ => False) rfl rfl HE.out (Kd.C_below HC1.out HX.out) (fun x cs h => by obtain rfl := k86_open h; exact k86_mkM _ _ _ _) (fun _ h => h.elim) (fun _ _ => trivial) HX.out (below_size HX.out) (by have := HKN.out; have := HCL.out; rw [List.length_nil]; omega) ?_
              intro v44 we3 ho hb hg_ hnew_
              have H4 := Aside0.mk ho
              have n1_ := Aside0.mk (Kd.R_grown H1.out hg_ (fun q hq he => by have := BL.out q he.symm; have := hq.1; omega))
              clear H1 BL
              have H1 := n1_
              clear n1_
              have n0_ := Aside0.mk hb
              clear HX HE ho hb hg_ hnew_
              have HX := n0_
              clear n0_
              have k0 := (blk_cell (blk_below KB.out HX.out) 0).trans rfl
              have k1 := (blk_cell (blk_below KB.out HX.out) 1).trans rfl
              have k2 := (blk_cell (blk_below KB.out HX.out) 2).trans rfl
              refine hK.out _ _ ⟨k0, k1, k2⟩ (fun hHeld => ?_)
              clear k0 k1 k2
              clear hK K
              refine norm_ (a' := ?_) ?_ ?_
              rotate_left
              · show Act.put _ (some 44) _ = _
                simp only [Act.put, List.setIfInBounds_toArray, List.set_cons_zero, List.set_cons_succ, i64_w, i32_w]
                rfl
              refine one_ (i := 7) (N := some 47) #[true, true, true, true, true, true, true, true, true, true, true, false, false] rfl rfl (one_of HT_.out (by kernel_rfl)) (by decide) (fun K hK => ?_)
              obtain ⟨A46, c46, e46⟩ := Kd.R_slice H1.out
              subst e46
              refine Kd.R_append_rows_step k86 (Rr := k86.K we3) (w0 := wd) wd.heap.size (by rfl) (.tmp 44) (.tmp 46) 56 86 (.agg #[(.int .i64 0), (.int .i64 0), (.int .i64 0)]) 24 rfl Try.underlying56 infO rfl (by decide) (by omega) v44 (([] : List S86) ++ cur.take kn) [o] A46 1 c46 (fun _ => True) (fun _ => False) rfl rfl H4.out (Kd.R_reads' H1.out).2.2 (fun x cs h => by obtain rfl := k86_open h; exact k86_mkM _ _ _ _) (fun _ h => h.elim) (fun _ _ => trivial) HX.out (below_size HX.out) (by have := HKN.out; have := HCL.out; rw [List.nil_append, List.length_take]; omega) ?_
              intro v47 we4 ho hb hg_ hnew_
              have H7 := Aside0.mk ho
              have n0_ := Aside0.mk hb
              clear HX H4 H1 ho hb hg_ hnew_
              have HX := n0_
              clear n0_
              have k0 := (blk_cell (blk_below KB.out HX.out) 0).trans rfl
              have k1 := (blk_cell (blk_below KB.out HX.out) 1).trans rfl
              have k2 := (blk_cell (blk_below KB.out HX.out) 2).trans rfl
              refine hK.out _ _ ⟨k0, k1, k2⟩ (fun hHeld => ?_)
              clear k0 k1 k2
              clear hK K
              refine norm_ (a' := ?_) ?_ ?_
              rotate_left
              · show Act.put _ (some 47) _ = _
                simp only [Act.put, List.setIfInBounds_toArray, List.set_cons_zero, List.set_cons_succ, i64_w, i32_w]
                rfl
              refine one_ (i := 11) (N := some 51) #[true, true, true, true, true, true, true, true, true, true, true, true, false] rfl rfl (one_of HT_.out (by kernel_rfl)) (by decide) (fun K hK => ?_)
              refine Kd.R_append_rows_step k86 (Rr := k86.K we4) (w0 := wd) wd.heap.size (by rfl) (.tmp 47) (.tmp 50) 56 86 (.agg #[(.int .i64 0), (.int .i64 0), (.int .i64 0)]) 24 rfl Try.underlying56 infO rfl (by decide) (by omega) v47 ((([] : List S86) ++ cur.take kn) ++ [o]) (cur.drop kn) A5 m5 c5 (fun _ => True) (fun _ => False) rfl rfl H7.out (Kd.C_below HC2.out HX.out) (fun x cs h => by obtain rfl := k86_open h; exact k86_mkM _ _ _ _) (fun _ h => h.elim) (fun _ _ => trivial) HX.out (below_size HX.out) (by have := HKN.out; have := HCL.out; have := HM5.out; rw [List.nil_append, List.length_append, List.length_take]; simp only [List.length_singleton]; omega) ?_
              intro v51 we5 ho hb hg_ hnew_
              have HF := Aside0.mk ho
              have n0_ := Aside0.mk hb
              clear HX H7 ho hb hg_ hnew_
              have HX := n0_
              clear n0_
              have k0 := (blk_cell (blk_below KB.out HX.out) 0).trans rfl
              have k1 := (blk_cell (blk_below KB.out HX.out) 1).trans rfl
              have k2 := (blk_cell (blk_below KB.out HX.out) 2).trans rfl
              refine hK.out _ _ ⟨k0, k1, k2⟩ (fun hHeld => ?_)
              clear k0 k1 k2
              clear hK K
              refine norm_ (a' := ?_) ?_ ?_
              rotate_left
              · show Act.put _ (some 51) _ = _
                simp only [Act.put, List.setIfInBounds_toArray, List.set_cons_zero, List.set_cons_succ, i64_w, i32_w]
                rfl
              refine pure_ (i := 12) (N := some 4) (v := ?_) (a' := ?_) #[true, true, true, true, true, true, true, true, true, true, true, true, true] rfl rfl (any_of HT_.out (by kernel_rfl)) (fun _ _ _ h => h) (Or.inl ⟨by rfl, ?_⟩) ?_ ?_
              rotate_left
              · intro w'
                go_simp
                with_reducible rfl
              rotate_left
              · simp only [Act.put, List.setIfInBounds_toArray, List.set_cons_zero, List.set_cons_succ, i64_w, i32_w]
                rfl
              refine done_ (done_of HT_.out (by kernel_rfl)) ?_
              go_wp2
              go_roundg d
              case measure => omega
              case rel =>
                refine ⟨i + 1, by rw [w64 (by have := HI2.out; have := HLN.out; omega) (by have := HI2.out; have := HLN.out; omega)], ⟨by have := HI2.out; omega⟩, ⟨?_⟩, ⟨below_step HB.out HX.out⟩⟩
                rw [show (i + 1).toNat = i.toNat + 1 by have := HI2.out; omega, specP_succ, ← ECUR.out, ← EX.out, ← ENG.out.1]
                have h := Kd.R_lower HF.out (below_size HB.out)
                rw [List.nil_append, List.append_assoc, List.singleton_append, HKP.out, EM.out] at h
                exact h
          · skip
            refine Kd.R_lit_step k86 (w0 := wd) wd.heap.size 86 (by rfl) (N := 46) rfl (xs := [o]) (inner := [.int .i64 o.f0, .int .i64 o.f1, .int .i64 o.f2]) (ok := fun q => wd.heap.size ≤ q) (okp := fun _ => False) ?hr (one_reps o) (fun _ hk => hk.elim) (Nat.le_refl _) HX.out (below_size HX.out) (by simp) ?_
            (case hr => first | (go_simp; done) | (go_simp; rfl))
            intro v46 we1 ho hb hg_ hnew_
            have H1 : Aside0 (Kd.R k86 86 we1 wd.heap.size (fun q => wd.heap.size ≤ q ∧ q < we1.heap.size) v46 [o]) := ⟨Kd.R_mono (Kd.R_bound ho) (fun q hq => ⟨hq.1, hq.2.2.1⟩)⟩
            have n0_ := Aside0.mk hb
            clear HX ho hb hg_ hnew_
            have HX := n0_
            clear n0_
            have k0 := (blk_cell (blk_below KB.out HX.out) 0).trans rfl
            have k1 := (blk_cell (blk_below KB.out HX.out) 1).trans rfl
            have k2 := (blk_cell (blk_below KB.out HX.out) 2).trans rfl
            refine hK.out _ _ ⟨k0, k1, k2⟩ (fun hHeld => ?_)
            clear k0 k1 k2
            clear hK K
            refine norm_ (a' := ?_) ?_ ?_
            rotate_left
            · show Act.put _ (some 46) _ = _
              simp only [Act.put, List.setIfInBounds_toArray, List.set_cons_zero, List.set_cons_succ, i64_w, i32_w]
              rfl
            refine one_ (i := 0) (N := some 40) #[true, true, true, true, false, true, true, false, true, true, true, false, false] rfl rfl (one_of HT_.out (by kernel_rfl)) (by decide) (fun K hK => ?_)
            refine Kd.R_lit_step k86 (w0 := wd) wd.heap.size 86 (by rfl) (N := 40) rfl (xs := ([] : List S86)) (inner := []) (ok := fun _ => True) (okp := fun _ => True) ?hr (Reps.none _ _) (fun _ hk => hk) trivial HX.out (below_size HX.out) (by simp) ?_
            (case hr => first | (go_simp; done) | (go_simp; rfl))
            intro v40 we2 ho hb hg_ hnew_
            have HE := Aside0.mk ho
            have BE : Aside0 (∃ b, v40.ownBlock = some b ∧ we1.heap.size ≤ b) := ⟨hnew_⟩
            have n1_ := Aside0.mk (Kd.R_grown H1.out hg_ (by simp))
            clear H1
            have H1 := n1_
            clear n1_
            have n0_ := Aside0.mk hb
            clear HX ho hb hg_ hnew_
            have HX := n0_
            clear n0_
            have k0 := (blk_cell (blk_below KB.out HX.out) 0).trans rfl
            have k1 := (blk_cell (blk_below KB.out HX.out) 1).trans rfl
            have k2 := (blk_cell (blk_below KB.out HX.out) 2).trans rfl
            refine hK.out _ _ ⟨k0, k1, k2⟩ (fun hHeld => ?_)
            clear k0 k1 k2
            clear hK K
            refine norm_ (a' := ?_) ?_ ?_
            rotate_left
            · show Act.put _ (some 40) _ = _
              simp only [Act.put, List.setIfInBounds_toArray, List.set_cons_zero, List.set_cons_succ, i64_w, i32_w]
              rfl
            refine one_ (i := 4) (N := some 44) #[true, true, true, true, true, true, true, false, true, true, true, false, false] rfl rfl (one_of HT_.out (by kernel_rfl)) (by decide) (fun K hK => ?_)
            refine Kd.R_append_rows_step k86 (Rr := k86.K we2) (w0 := wd) wd.heap.size (by rfl) (.tmp 40) (.tmp 43) 56 86 (.agg #[(.int .i64 0), (.int .i64 0), (.int .i64 0)]) 24 rfl Try.underlying56 infO rfl (by decide) (by omega) v40 ([] : List S86) (cur.take kn) A4 kn c4 (fun _ => True) (fun _ => False) rfl rfl HE.out (Kd.C_below HC1.out HX.out) (fun x cs h => by obtain rfl := k86_open h; exact k86_mkM _ _ _ _) (fun _ h => h.elim) (fun _ _ => trivial) HX.out (below_size HX.out) (by have := HKN.out; have := HCL.out; rw [List.length_nil]; omega) ?_
            intro v44 we3 ho hb hg_ hnew_
            have H4 := Aside0.mk ho
            have n1_ := Aside0.mk (Kd.R_grown H1.out hg_ (fun q hq he => by obtain ⟨b, e1, e2⟩ := BE.out; rw [e1] at he; injection he with he; have := hq.2; omega))
            clear H1 BE
            have H1 := n1_
            clear n1_
            have n0_ := Aside0.mk hb
            clear HX HE ho hb hg_ hnew_
            have HX := n0_
            clear n0_
            have k0 := (blk_cell (blk_below KB.out HX.out) 0).trans rfl
            have k1 := (blk_cell (blk_below KB.out HX.out) 1).trans rfl
            have k2 := (blk_cell (blk_below KB.out HX.out) 2).trans rfl
            refine hK.out _ _ ⟨k0, k1, k2⟩ (fun hHeld => ?_)
            clear k0 k1 k2
            clear hK K
            refine norm_ (a' := ?_) ?_ ?_
            rotate_left
            · show Act.put _ (some 44) _ = _
              simp only [Act.put, List.setIfInBounds_toArray, List.set_cons_zero, List.set_cons_succ, i64_w, i32_w]
              rfl
            refine one_ (i := 7) (N := some 47) #[true, true, true, true, true, true, true, true, true, true, true, false, false] rfl rfl (one_of HT_.out (by kernel_rfl)) (by decide) (fun K hK => ?_)
            obtain ⟨A46, c46, e46⟩ := Kd.R_slice H1.out
            subst e46
            refine Kd.R_append_rows_step k86 (Rr := k86.K we3) (w0 := wd) wd.heap.size (by rfl) (.tmp 44) (.tmp 46) 56 86 (.agg #[(.int .i64 0), (.int .i64 0), (.int .i64 0)]) 24 rfl Try.underlying56 infO rfl (by decide) (by omega) v44 (([] : List S86) ++ cur.take kn) [o] A46 1 c46 (fun _ => True) (fun _ => False) rfl rfl H4.out (Kd.R_reads' H1.out).2.2 (fun x cs h => by obtain rfl := k86_open h; exact k86_mkM _ _ _ _) (fun _ h => h.elim) (fun _ _ => trivial) HX.out (below_size HX.out) (by have := HKN.out; have := HCL.out; rw [List.nil_append, List.length_take]; omega) ?_
            intro v47 we4 ho hb hg_ hnew_
            have H7 := Aside0.mk ho
            have n0_ := Aside0.mk hb
            clear HX H4 H1 ho hb hg_ hnew_
            have HX := n0_
            clear n0_
            have k0 := (blk_cell (blk_below KB.out HX.out) 0).trans rfl
            have k1 := (blk_cell (blk_below KB.out HX.out) 1).trans rfl
            have k2 := (blk_cell (blk_below KB.out HX.out) 2).trans rfl
            refine hK.out _ _ ⟨k0, k1, k2⟩ (fun hHeld => ?_)
            clear k0 k1 k2
            clear hK K
            refine norm_ (a' := ?_) ?_ ?_
            rotate_left
            · show Act.put _ (some 47) _ = _
              simp only [Act.put, List.setIfInBounds_toArray, List.set_cons_zero, List.set_cons_succ, i64_w, i32_w]
              rfl
            refine one_ (i := 11) (N := some 51) #[true, true, true, true, true, true, true, true, true, true, true, true, false] rfl rfl (one_of HT_.out (by kernel_rfl)) (by decide) (fun K hK => ?_)
            refine Kd.R_append_rows_step k86 (Rr := k86.K we4) (w0 := wd) wd.heap.size (by rfl) (.tmp 47) (.tmp 50) 56 86 (.agg #[(.int .i64 0), (.int .i64 0), (.int .i64 0)]) 24 rfl Try.underlying56 infO rfl (by decide) (by omega) v47 ((([] : List S86) ++ cur.take kn) ++ [o]) (cur.drop kn) A5 m5 c5 (fun _ => True) (fun _ => False) rfl rfl H7.out (Kd.C_below HC2.out HX.out) (fun x cs h => by obtain rfl := k86_open h; exact k86_mkM _ _ _ _) (fun _ h => h.elim) (fun _ _ => trivial) HX.out (below_size HX.out) (by have := HKN.out; have := HCL.out; have := HM5.out; rw [List.nil_append, List.length_append, List.length_take]; simp only [List.length_singleton]; omega) ?_
            intro v51 we5 ho hb hg_ hnew_
            have HF := Aside0.mk ho
            have n0_ := Aside0.mk hb
            clear HX H7 ho hb hg_ hnew_
            have HX := n0_
            clear n0_
            have k0 := (blk_cell (blk_below KB.out HX.out) 0).trans rfl
            have k1 := (blk_cell (blk_below KB.out HX.out) 1).trans rfl
            have k2 := (blk_cell (blk_below KB.out HX.out) 2).trans rfl
            refine hK.out _ _ ⟨k0, k1, k2⟩ (fun hHeld => ?_)
            clear k0 k1 k2
            clear hK K
            refine norm_ (a' := ?_) ?_ ?_
            rotate_left
            · show Act.put _ (some 51) _ = _
              simp only [Act.put, List.setIfInBounds_toArray, List.set_cons_zero, List.set_cons_succ, i64_w, i32_w]
              rfl
            refine pure_ (i := 12) (N := some 4) (v := ?_) (a' := ?_) #[true, true, true, true, true, true, true, true, true, true, true, true, true] rfl rfl (any_of HT_.out (by kernel_rfl)) (fun _ _ _ h => h) (Or.inl ⟨by rfl, ?_⟩) ?_ ?_
            rotate_left
            · intro w'
              go_simp
              with_reducible rfl
            rotate_left
            · simp only [Act.put, List.setIfInBounds_toArray, List.set_cons_zero, List.set_cons_succ, i64_w, i32_w]
              rfl
            refine done_ (done_of HT_.out (by kernel_rfl)) ?_
            go_wp2
            go_roundg d
            case measure => omega
            case rel =>
              refine ⟨i + 1, by rw [w64 (by have := HI2.out; have := HLN.out; omega) (by have := HI2.out; have := HLN.out; omega)], ⟨by have := HI2.out; omega⟩, ⟨?_⟩, ⟨below_step HB.out HX.out⟩⟩
              rw [show (i + 1).toNat = i.toNat + 1 by have := HI2.out; omega, specP_succ, ← ECUR.out, ← EX.out, ← ENG.out.1]
              have h := Kd.R_lower HF.out (below_size HB.out)
              rw [List.nil_append, List.append_assoc, List.singleton_append, HKP.out, EM.out] at h
              exact h
end Go.Proofs.Ytpndghkfbojokaa.OwnTurnTemplate
