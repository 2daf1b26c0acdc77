/- The contract of impl.ParseSlopes, by hand. -/
-- OWN impl parR %s = %s
import Derived.Test.YtmihfgnkjjohmaaDoorTOwnPrS
import Derived.Test.YtmihfgnkjjohmaaDoorTMFnExactParseSlopesx2
import Derived.Test.YtmihfgnkjjohmaaDoorTMFnExactParseSlopesx3
namespace Go.Proofs.YtmihfgnkjjohmaaDoor.OwnParseSlopes
open Go.RowKit Go.Proofs.YtmihfgnkjjohmaaDoor.PFnExactParseSlopes Go.Proofs.YtmihfgnkjjohmaaDoorW.PrintWords Go.Proofs.YtmihfgnkjjohmaaDoorW.PrintLast Go.Proofs.YtmihfgnkjjohmaaDoorW.PrintMore Go.Proofs.YtmihfgnkjjohmaaDoor.B Go.Proofs.YtmihfgnkjjohmaaDoor.OwnNumbersText Go.Proofs.YtmihfgnkjjohmaaDoor.OwnSlText Go.Proofs.YtmihfgnkjjohmaaDoor.OwnUnl Go.Proofs.YtmihfgnkjjohmaaDoor.OwnLines Go.Proofs.YtmihfgnkjjohmaaDoor.OwnSigned Go.Proofs.YtmihfgnkjjohmaaDoor.OwnDec Go.Proofs.YtmihfgnkjjohmaaDoor.OwnPrI Go.Proofs.YtmihfgnkjjohmaaDoor.OwnPrS
set_option linter.unusedVariables false
set_option linter.unusedSimpArgs false
def impl_ParseSlopes_T16 : Bool × List (List Nat × List Nat) := (true, [([], []), ([], []), ([], []), ([1, 2], [1, 2]), ([3], [3]), ([], []), ([], []), ([6], [6]), ([5, 7], [5, 7]), ([8], [8]), ([], []), ([], []), ([11], [11]), ([10, 12], [10, 12]), ([13], [13]), ([4, 9, 14], [4, 9, 14]), ([15], [15]), ([0, 16], [0, 16]), ([17, 17, 0, 1, 2, 3, 4, 5, 6, 7, 8, 9, 10, 11, 12, 13, 14, 15, 16, 17], [0, 17])])
def impl_ParseSlopes_B16 : List Nat := [0, 0, 0, 6, 14, 0, 0, 64, 224, 480, 0, 0, 2048, 7168, 15360, 32766, 65534, 131071, 262143]
theorem impl_ParseSlopes_tab16 : rtab .any (opsOf Tryd.f12 16) = impl_ParseSlopes_T16 := by kernel_rfl
theorem impl_ParseSlopes_bits16 : waitsOk impl_ParseSlopes_T16.2 impl_ParseSlopes_B16 = true := by kernel_rfl
/- What the loops gather. -/
def tmR : Option (List Int) → Option (List S52)
  | some ns => if ns.length % 3 = 0 then some (tri ns) else none
  | none => none
theorem tmplR_tm (u : ByteArray) : tmplR u = tmR (lineR sgnB (toB tHead) u) := rfl
def good (x y z : Int) (t : ByteArray) : Prop := gridOk x y z = true ∧ (linesR t).2 = true ∧ 2 ≤ (linesR t).1.length ∧ (linesR t).1.length ≤ 5
def parR (x y z : Int) (t : ByteArray) : List Int × List (List S52) × Bool := resP (prI x y z t)
theorem bad_none {x y z : Int} {t : ByteArray} (h : ¬ good x y z t) : resP (prI x y z t) = ([], [], false) := by
  unfold good at h
  unfold prI
  rw [if_neg h]
  rfl
theorem rows_bad {x y z : Int} {t : ByteArray} (h : rowsR (linesR t).1.dropLast = none) : resP (prI x y z t) = ([], [], false) := by
  unfold prI
  rw [h]
  split <;> rfl
theorem last_bad {x y z : Int} {t : ByteArray} (h : lineR sgnB (toB sHead) ((linesR t).1.getLastD ⟨#[]⟩) = none) : resP (prI x y z t) = ([], [], false) := by
  unfold prI
  rw [h]
  split
  · cases rowsR (linesR t).1.dropLast <;> rfl
  · rfl
theorem all_good {x y z : Int} {t : ByteArray} {s : List Int} {T : List (List S52)} (hg : good x y z t) (h : rowsR (linesR t).1.dropLast = some T) (h2 : lineR sgnB (toB sHead) ((linesR t).1.getLastD ⟨#[]⟩) = some s) : resP (prI x y z t) = if slOk (wrap64 (x * y)) s T = true then (s, T, true) else ([], [], false) := by
  unfold good at hg
  unfold prI
  rw [if_pos hg, h, h2]
  show resP (if slOk (wrap64 (x * y)) s T = true then some (s, T) else none) = _
  split <;> rfl
theorem drop_line (L : List ByteArray) (i : Nat) (h : i + 1 < L.length) : L.dropLast.drop i = rdOf ByteArray.empty L (i : Int) :: L.dropLast.drop (i + 1) := by
  have hl : L.dropLast.length = L.length - 1 := List.length_dropLast
  rw [List.drop_eq_getElem_cons (by omega), List.getElem_dropLast]
  unfold rdOf
  rw [toNat_nat, List.getD_eq_getElem?_getD, List.getElem?_eq_getElem (by omega), Option.getD_some]
theorem last_line (L : List ByteArray) (m : Nat) (h : L.length = m + 1) : L.getLastD ⟨#[]⟩ = rdOf ByteArray.empty L (m : Int) := by
  unfold rdOf
  rw [toNat_nat, List.getLastD_eq_getLast?, List.getLast?_eq_getElem?, List.getD_eq_getElem?_getD, h]
  rfl
theorem lines_mem (t : ByteArray) : ∀ u ∈ (linesR t).1, u.size ≤ t.size := by
  intro u hu
  unfold linesR at hu
  split at hu
  · cases hu
  · split at hu
    · have h1 := words_size 10 _ u hu
      rw [ByteArray.size_extract] at h1
      omega
    · cases hu
theorem lineR_len {p s : ByteArray} {ns : List Int} (h : lineR sgnB p s = some ns) : ns.length ≤ s.size + 1 := by
  unfold lineR at h
  split at h
  · injection h with h
    rw [← h, List.length_map]
    have h1 := words_le 32 (rest s p)
    have h2 := rest_size s p
    omega
  · cases h
theorem tri_step (ns : List Int) (i : Nat) (h3 : ns.length % 3 = 0) (hi : i % 3 = 0) (h : i < ns.length) : tri (ns.drop i) = ⟨ns.getD i 0, ns.getD (i + 1) 0, ns.getD (i + 2) 0⟩ :: tri (ns.drop (i + 3)) := by
  rw [drop3 ns i (by omega), tri]
theorem tri_next {ns : List Int} {acc : List S52} {i j1 j2 : Int} (h : tri ns = acc ++ tri (ns.drop i.toNat)) (h3 : ns.length % 3 = 0) (h0 : 0 ≤ i) (hi : i < ns.length) (hm : i % 3 = 0) (e1 : j1 = i + 1) (e2 : j2 = i + 2) : tri ns = (acc ++ [(⟨rd ns i, rd ns j1, rd ns j2⟩ : S52)]) ++ tri (ns.drop (i + 3).toNat) := by
  obtain ⟨n, rfl⟩ : ∃ n : Nat, i = n := ⟨i.toNat, by omega⟩
  subst e1 e2
  have f1 : rd ns ((n : Int) + 1) = ns.getD (n + 1) 0 := rd_nat ns (n + 1)
  have f2 : rd ns ((n : Int) + 2) = ns.getD (n + 2) 0 := rd_nat ns (n + 2)
  have f3 : ((n : Int) + 3).toNat = n + 3 := by omega
  rw [rd_nat, f1, f2, f3, h, toNat_nat, tri_step ns n h3 (by omega) (by omega)]
  simp
theorem tri_last {ns : List Int} {acc : List S52} {i : Int} (h : tri ns = acc ++ tri (ns.drop i.toNat)) (hi : i = ns.length) : acc = tri ns := by
  subst hi
  rw [toNat_nat, List.drop_eq_nil_of_le (Nat.le_refl _)] at h
  rw [h]
  exact (List.append_nil _).symm
theorem rows_next {L : List ByteArray} {T : List (List S52)} {p : Nat} {u : ByteArray} {a : List S52} (h : rowsR L.dropLast = (rowsR (L.dropLast.drop p)).map (T ++ ·)) (hd : L.dropLast.drop p = u :: L.dropLast.drop (p + 1)) (ha : tmplR u = some a) : rowsR L.dropLast = (rowsR (L.dropLast.drop (p + 1))).map ((T ++ [a]) ++ ·) := by
  rw [h, hd, rowsR, ha]
  cases rowsR (L.dropLast.drop (p + 1)) with
  | none => rfl
  | some r => simp
theorem rows_end {L : List ByteArray} {T : List (List S52)} {p : Nat} (h : rowsR L.dropLast = (rowsR (L.dropLast.drop p)).map (T ++ ·)) (hp : L.length ≤ p + 1) : rowsR L.dropLast = some T := by
  rw [h, List.drop_eq_nil_of_le (by rw [List.length_dropLast]; omega)]
  show some (T ++ []) = some T
  rw [List.append_nil]
set_option maxHeartbeats 16000000 in
set_option maxRecDepth 100000 in
theorem own_impl (x y z : Int) (t : ByteArray) (g0_0 : List Int) (g0_1 : List (List S52)) (g1 : Bool) (w : World) (hmax : Max w) (ht : t.size ≤ 1048576) (h : resP (prI x y z t) = (g0_0, g0_1, g1)) :
    Calls Tryd.prog 12 #[.agg #[.int .i64 x, .int .i64 y, .int .i64 z], .string t] w fun e w' => ∃ v0 v1 : Value, e = .returned (.tuple #[.agg #[v0, v1], .bool g1]) ∧ Kd.R (Kd.int .i64) 3 w' w.heap.size (fun _ => True) v0 g0_0 ∧ Kd.S kOS 50 w' w.heap.size (fun _ => True) v1 g0_1 ∧ Below w.heap.size w w' := by
  have hu1 := Tryd.underlying31
  have hu2 := Tryd.underlying35
  have hu3 := Tryd.underlying52
  have HB := Aside0.mk (Below.refl w.heap.size w)
  have HH := Aside0.mk h
  have HMX := Aside0.mk hmax
  have HTS := Aside0.mk ht
  clear h hmax ht
  go_enter Tryd.func12, Tryd.ntmps12
  go_wp2_with (first
    | ((with_reducible refine gate_dst (N := 2) rfl ?_); refine box_event ?hg (N := 2) ?hd (cs := #[.int .i64 x, .int .i64 y, .int .i64 z]) (t := 31) ?hr ?_; (case hd => rfl); (case hg => rfl); (case hr => first | (go_simp; done) | (go_simp; rfl)); intro gA hg w6 hbox hb; have n0_ := Aside0.mk (below_step HB.out hb); have K1 := Aside0.mk hbox; clear HB; have HB := n0_; clear n0_ hb hbox hg)
    | ((with_reducible refine gate_dst (N := 4) rfl ?_); refine box_event ?hg (N := 4) ?hd (cs := #[.slice none 0 0, .slice none 0 0]) (t := 35) ?hr ?_; (case hd => rfl); (case hg => rfl); (case hr => first | (go_simp; done) | (go_simp; rfl)); intro g2 hg w7 hbox hb; have n0_ := Aside0.mk (below_step HB.out hb); have K2 := Aside0.mk hbox; have n1_ := Aside0.mk (blk_below K1.out hb); have G2 := Aside0.mk ((by rw [hg]; exact (below_size HB.out)) : w.heap.size ≤ g2); have N12 := Aside0.mk ((by rw [hg]; exact Nat.ne_of_lt (blk_lt K1.out)) : gA ≠ g2); clear HB K1; have HB := n0_; have K1 := n1_; clear n0_ n1_ hb hbox hg))
  refine (linesOf_calls t w7 HTS.out (max_below HMX.out HB.out)).mono ?_
  rintro e w1 ⟨A, c, rfl, hC, hc, hb⟩
  obtain ⟨ok, eok⟩ : ∃ b, b = (linesR t).2 := ⟨_, rfl⟩
  obtain ⟨L, eL⟩ : ∃ l, l = (linesR t).1 := ⟨_, rfl⟩
  rw [← eL] at hC hc ⊢
  rw [← eok]
  have n0_ := Aside0.mk (below_step HB.out hb)
  have n1_ := Aside0.mk (blk_below K1.out hb)
  have n2_ := Aside0.mk (blk_below K2.out hb)
  clear HB K1 K2 hb
  have HB0 := n0_
  have K1 := n1_
  have K2 := n2_
  clear n0_ n1_ n2_
  have HC := Aside0.mk hC
  have HCC := Aside0.mk hc
  have EL := Aside0.mk eL
  have EOK := Aside0.mk eok
  have hLl : L.length ≤ 1048577 := by rw [eL]; have := linesR_le t; have := HTS.out; omega
  have HLL := Aside0.mk hLl
  have HLM : Aside0 (∀ u ∈ L, u.size ≤ 1048576) := ⟨by rw [eL]; intro u hu; have := lines_mem t u hu; have := HTS.out; omega⟩
  clear hC hc eL eok hLl
  have hc0 : w1.cell? ⟨gA, 0, none⟩ = some (.int .i64 x) := (blk_cell K1.out 0).trans rfl
  have hc1 : w1.cell? ⟨gA, 1, none⟩ = some (.int .i64 y) := (blk_cell K1.out 1).trans rfl
  have hc2 : w1.cell? ⟨gA, 2, none⟩ = some (.int .i64 z) := (blk_cell K1.out 2).trans rfl
  go_wp2_with fail
  clear hc0 hc1 hc2
  refine (impl_IsGrid.calls x y z _ w1 (IsGrid_eq x y z)).mono ?_
  rintro e w2 ⟨rfl, hb⟩
  have HB := Aside0.mk hb
  clear hb
  by_cases hgood : good x y z t
  · obtain ⟨hg1, hg2, hg3, hg4⟩ := hgood
    rw [← EL.out] at hg3 hg4
    rw [← EOK.out] at hg2
    subst hg2
    rw [hg1]
    have HG := Aside0.mk hg1
    have d1 : decide ((L.length : Int) < 2) = false := decide_eq_false (by omega)
    have d2 : decide (5 < (L.length : Int)) = false := decide_eq_false (by omega)
    have d1' : decide (L.length < 2) = false := decide_eq_false (by omega)
    have d2' : decide (5 < L.length) = false := decide_eq_false (by omega)
    obtain ⟨m, em⟩ : ∃ m, L.length = m + 1 := ⟨L.length - 1, by omega⟩
    have HM := Aside0.mk em
    have HM4 : Aside0 (1 ≤ m ∧ m ≤ 4) := ⟨by omega⟩
    have ew : wrap64 ((L.length : Int) - 1) = (m : Int) := by rw [em]; exact (w64 (by omega) (by omega)).trans (by omega)
    obtain ⟨i9, hi9, _, _, _⟩ := info_parts info9
    have hcut := cut_to (P := Tryd.prog) 56 9 .i64 Tryd.underlying56 hi9 A L.length c (m : Int) (by omega) (by omega) HCC.out
    rw [Int.toNat_natCast] at hcut
    have EW := Aside0.mk ew
    clear em hg1 hg3 hg4
    go_wp2_with (first
      | ((with_reducible refine gate_dst (N := 8) rfl ?_); refine box_event ?hg (N := 8) ?hd (cs := #[.slice none 0 0, .slice none 0 0]) (t := 35) ?hr ?_; (case hd => rfl); (case hg => rfl); (case hr => first | (go_simp; done) | (go_simp; rfl)); intro g3 hg w3 hbox hb; have n0_ := Aside0.mk (below_step HB.out hb); have HK := Aside0.mk hbox; have G3 := Aside0.mk ((by rw [hg]; exact (below_size HB.out)) : w1.heap.size ≤ g3); clear HB; have HB := n0_; clear n0_ hb hbox hg; have hc30 : w3.cell? ⟨g3, 0, none⟩ = some (.slice none 0 0) := (blk_cell HK.out 0).trans rfl; have hc31 : w3.cell? ⟨g3, 1, none⟩ = some (.slice none 0 0) := (blk_cell HK.out 1).trans rfl; have hf30 := blk_frozen HK.out 0; have hf31 := blk_frozen HK.out 1))
    have NA3 : Aside0 (gA ≠ g3) := ⟨by have := blk_lt K1.out; have := G3.out; omega⟩
    have N23 : Aside0 (g2 ≠ g3) := ⟨by have := blk_lt K2.out; have := G3.out; omega⟩
    have HG3 : Aside0 (w.heap.size ≤ g3) := ⟨Nat.le_trans (below_size HB0.out) G3.out⟩
    go_loopg [49] m (fun d v49 wr => ∃ (p : Int) (T : List (List S52)) (u1 : Value), v49 = .int .i64 p ∧ Aside0 (0 ≤ p ∧ p + d = m) ∧ Aside0 ((T.length : Int) ≤ p ∧ ∀ t ∈ T, t.length ≤ 1048577) ∧ Aside0 (rowsR L.dropLast = (rowsR (L.dropLast.drop p.toNat)).map (T ++ ·)) ∧ Aside0 (Kd.S kOS 50 wr w1.heap.size (fun _ => True) u1 T) ∧ Aside0 (wr.heap[g3]? = some (.cells #[.slice none 0 0, u1] 35 (0, 0))) ∧ Aside0 (Below w1.heap.size w1 wr))
    case atStart => exact ⟨0, [], .slice none 0 0, rfl, ⟨by omega⟩, ⟨by simp⟩, ⟨by rw [show (0 : Int).toNat = 0 from rfl, List.drop_zero]; cases rowsR L.dropLast <;> simp⟩, ⟨Kd.S_nil _ _ _ _ _⟩, ⟨blk_put (cs := #[.slice none 0 0, .slice none 0 0]) (blk_put (cs := #[.slice none 0 0, .slice none 0 0]) HK.out 0 _ rfl) 1 _ rfl⟩, ⟨below_set (below_set HB.out G3.out) G3.out⟩⟩
    case round =>
      clear HK HB hc30 hc31 hf30 hf31 d1 d2 d1' d2' ew
      obtain ⟨p, T, u1, rfl, HI, HTB, HRW, HT, HK, HB⟩ := hrel
      have h0 := HI.out.1
      cases gk with
      | zero =>
        have hp : p = (m : Int) := by have := HI.out.2; omega
        have hd : decide (p < (m : Int)) = false := decide_eq_false (by omega)
        have HRT : Aside0 (rowsR (linesR t).1.dropLast = some T) := ⟨by rw [← EL.out]; exact rows_end HRW.out (by have := HM.out; omega)⟩
        obtain ⟨al, e0, hx⟩ := Kd.at_string (Kd.C_below HC.out HB.out) (m : Int) (by omega) (by have := HM.out; omega)
        cases e0
        obtain ⟨u, eu⟩ : ∃ u, u = rdOf ByteArray.empty L (m : Int) := ⟨_, rfl⟩
        rw [← eu] at hx
        have hus : u.size ≤ 1048576 := by
          rw [eu]; unfold rdOf
          exact HLM.out _ (getD_mem (by have := HM.out; omega))
        have HLU : Aside0 ((linesR t).1.getLastD ⟨#[]⟩ = u) := ⟨by rw [← EL.out, eu]; exact last_line L m HM.out⟩
        have HUS := Aside0.mk hus
        have ew := EW.out
        have q0 := eq_true (show 0 ≤ (m : Int) by omega)
        have q1 := eq_true (show (m : Int) < (L.length : Int) by have := HM.out; omega)
        have q2 := eq_true (show m < L.length by have := HM.out; omega)
        rw [Int.toNat_natCast] at hx
        clear eu hus h0 hp
        go_wp2_with fail
        refine (signedLine_calls sgnB sgnB_rounds u ⟨#[115, 101, 99, 116, 111, 114, 115, 32]⟩ wr HUS.out (max_below (max_below HMX.out HB0.out) HB.out)).mono ?_
        rintro e w4 ⟨v, rfl, ho, hb⟩
        have n0_ := Aside0.mk (below_step HB.out hb)
        have n1_ := Aside0.mk (blk_below HK.out hb)
        have n2_ := Aside0.mk (Kd.S_below HT.out hb)
        have n3_ := Aside0.mk (Kd.R_lower ho (below_size HB.out))
        clear HB HK HT ho hb hx
        have HB := n0_
        have HK := n1_
        have HT := n2_
        have HV := n3_
        clear n0_ n1_ n2_ n3_ hd q0 q1 q2 ew
        have K24 := Aside0.mk (blk_below K2.out HB.out)
        have K14 := Aside0.mk (blk_below K1.out HB.out)
        have HW4 := Aside0.mk (below_step HB0.out HB.out)
        obtain ⟨R, eR⟩ : ∃ R, R = lineR sgnB ⟨#[115, 101, 99, 116, 111, 114, 115, 32]⟩ u := ⟨_, rfl⟩
        rw [← eR] at HV ⊢
        have HER : Aside0 (lineR sgnB (toB sHead) ((linesR t).1.getLastD ⟨#[]⟩) = R) := ⟨by rw [HLU.out]; exact eR.symm⟩
        have HER2 := Aside0.mk eR
        clear eR
        obtain ⟨Av, cv, rfl⟩ := Kd.R_slice HV.out
        obtain ⟨At, ct, rfl⟩ := Kd.S_slice HT.out
        have hn1 := N23.out
        have hn2 := N23.out.symm
        have hn3 := NA3.out
        have hn4 := NA3.out.symm
        cases R with
        | none =>
          have BAD : Aside0 (resP (prI x y z t) = ([], [], false)) := ⟨last_bad HER.out⟩
          replace HV : Aside0 (Kd.R (Kd.int .i64) 3 w4 w1.heap.size (fun _ => True) (.slice Av 0 cv) []) := HV
          have hc30 : w4.cell? ⟨g3, 0, none⟩ = some (.slice none 0 0) := (blk_cell HK.out 0).trans rfl
          have hc31 : w4.cell? ⟨g3, 1, none⟩ = some (.slice At T.length ct) := (blk_cell HK.out 1).trans rfl
          have hf30 := blk_frozen HK.out 0
          have hf31 := blk_frozen HK.out 1
          have hc40 : w4.cell? ⟨g2, 0, none⟩ = some (.slice none 0 0) := (blk_cell K24.out 0).trans rfl
          have hc41 : w4.cell? ⟨g2, 1, none⟩ = some (.slice none 0 0) := (blk_cell K24.out 1).trans rfl
          have hf40 := blk_frozen K24.out 0
          have hf41 := blk_frozen K24.out 1
          rw [BAD.out] at HH
          have e1 := HH.out
          injection e1 with e1 e2
          injection e2 with e2 e3
          subst e1 e2 e3
          clear HH BAD
          go_wp2_with fail
          clear hc40 hc41 hf40 hf41 hc30 hc31 hf30 hf31
          refine bodyPost_ret (results_ct rfl _ _ g2 35 #[.slice none 0 0, .slice none 0 0] (0, 0) _ rfl (blk_put (cs := #[.slice none 0 0, .slice none 0 0]) (blk_put (cs := #[.slice none 0 0, .slice none 0 0]) (blk_far (p := ⟨g3, 0, none⟩) K24.out N23.out _) 0 _ rfl) 1 _ rfl) Tryd.underlying35 rfl (by kernel_rfl)) rfl ?_
          exact ⟨_, _, by first | rfl | (simp [errW_none, errW_some] <;> rfl), Kd.R_nil _ _ _ _ _, Kd.S_nil _ _ _ _ _, below_set (below_set (below_set HW4.out HG3.out) G2.out) G2.out⟩
        | some s =>
          replace HV : Aside0 (Kd.R (Kd.int .i64) 3 w4 w1.heap.size (fun _ => True) (.slice Av s.length cv) s) := HV
          have HSL : Aside0 (s.length ≤ 1048577) := ⟨by have := lineR_len HER2.out.symm; have := HUS.out; omega⟩
          obtain ⟨ks, hks⟩ := (areSlopes_ev x y z s T (maxLen_val (by have := HSL.out; omega)) (maxLen_val (by have := HTB.out.1; have := HI.out.2; have := HM4.out; omega)) (fun q hq => maxLen_val (by have := HTB.out.2 q hq; omega))).rounds
          have RES : Aside0 (resP (prI x y z t) = if slOk (wrap64 (x * y)) s T = true then (s, T, true) else ([], [], false)) := ⟨all_good (by unfold good; rw [← EL.out, ← EOK.out]; exact ⟨HG.out, rfl, by have := HM.out; have := HM4.out; omega, by have := HM.out; have := HM4.out; omega⟩) HRT.out HER.out⟩
          obtain ⟨b, eb⟩ : ∃ b, b = slOk (wrap64 (x * y)) s T := ⟨_, rfl⟩
          rw [← eb] at hks RES
          have HKS := Aside0.mk hks
          clear hks eb
          have HV5 := Aside0.mk (Kd.R_mono (ok' := fun _ => True) (Kd.R_far (p := ⟨g3, 0, none⟩) (Kd.R_types HV.out HK.out (by decide)) (fun _ hk => hk.2) (.slice Av s.length cv)) (fun _ _ => trivial))
          have HT5 := Aside0.mk (Kd.S_mono (ok' := fun _ => True) (Kd.S_far (p := ⟨g3, 0, none⟩) (Kd.S_types HT.out HK.out (by decide)) (fun _ hk => hk.2) (.slice Av s.length cv)) (fun _ _ => trivial))
          have HK5 : Aside0 ((w4.setCell ⟨g3, 0, none⟩ (.slice Av s.length cv)).heap[g3]? = some (.cells #[.slice Av s.length cv, .slice At T.length ct] 35 (0, 0))) := ⟨blk_put (cs := #[.slice none 0 0, .slice At T.length ct]) HK.out 0 _ rfl⟩
          have K25 := Aside0.mk (blk_far (p := ⟨g3, 0, none⟩) K24.out N23.out (.slice Av s.length cv))
          have HW5 := Aside0.mk (below_set (g := g3) (j := 0) (v := .slice Av s.length cv) HW4.out HG3.out)
          have hcA0 : w4.cell? ⟨gA, 0, none⟩ = some (.int .i64 x) := (blk_cell K14.out 0).trans rfl
          have hcA1 : w4.cell? ⟨gA, 1, none⟩ = some (.int .i64 y) := (blk_cell K14.out 1).trans rfl
          have hcA2 : w4.cell? ⟨gA, 2, none⟩ = some (.int .i64 z) := (blk_cell K14.out 2).trans rfl
          have hc30 : w4.cell? ⟨g3, 0, none⟩ = some (.slice none 0 0) := (blk_cell HK.out 0).trans rfl
          have hc31 : w4.cell? ⟨g3, 1, none⟩ = some (.slice At T.length ct) := (blk_cell HK.out 1).trans rfl
          have hf30 := blk_frozen HK.out 0
          have hf31 := blk_frozen HK.out 1
          go_wp2_with fail
          refine (impl_areSlopes.calls ks x y z Av cv s At ct T b _ (Kd.R_reads' HV5.out).2.2 (Kd.R_reads' HV5.out).2.1 (Kd.S_reads' HT5.out).2.2 (Kd.S_reads' HT5.out).2.1 HKS.out).mono ?_
          rintro e w5 ⟨rfl, hb⟩
          have n0_ := Aside0.mk (below_step HW5.out hb)
          have n1_ := Aside0.mk (blk_below HK5.out hb)
          have n2_ := Aside0.mk (Kd.S_below HT5.out hb)
          have n3_ := Aside0.mk (Kd.R_below HV5.out hb)
          have n4_ := Aside0.mk (blk_below K25.out hb)
          clear HB HK HT HV HW4 HW5 HK5 HT5 HV5 K24 K25 K14 hb hc30 hc31 hf30 hf31 hcA0 hcA1 hcA2
          have HW := n0_
          have HK := n1_
          have HT := n2_
          have HV := n3_
          have K25 := n4_
          clear n0_ n1_ n2_ n3_ n4_
          have hc30 : w5.cell? ⟨g3, 0, none⟩ = some (.slice Av s.length cv) := (blk_cell HK.out 0).trans rfl
          have hc31 : w5.cell? ⟨g3, 1, none⟩ = some (.slice At T.length ct) := (blk_cell HK.out 1).trans rfl
          have hf30 := blk_frozen HK.out 0
          have hf31 := blk_frozen HK.out 1
          have hc40 : w5.cell? ⟨g2, 0, none⟩ = some (.slice none 0 0) := (blk_cell K25.out 0).trans rfl
          have hc41 : w5.cell? ⟨g2, 1, none⟩ = some (.slice none 0 0) := (blk_cell K25.out 1).trans rfl
          have hf40 := blk_frozen K25.out 0
          have hf41 := blk_frozen K25.out 1
          cases b with
          | false =>
            have BAD : Aside0 (resP (prI x y z t) = ([], [], false)) := ⟨RES.out⟩
            rw [BAD.out] at HH
            have e1 := HH.out
            injection e1 with e1 e2
            injection e2 with e2 e3
            subst e1 e2 e3
            clear HH BAD
            go_wp2_with fail
            clear hc40 hc41 hf40 hf41 hc30 hc31 hf30 hf31
            refine bodyPost_ret (results_ct rfl _ _ g2 35 #[.slice none 0 0, .slice none 0 0] (0, 0) _ rfl (blk_put (cs := #[.slice none 0 0, .slice none 0 0]) (blk_put (cs := #[.slice none 0 0, .slice none 0 0]) K25.out 0 _ rfl) 1 _ rfl) Tryd.underlying35 rfl (by kernel_rfl)) rfl ?_
            exact ⟨_, _, by first | rfl | (simp [errW_none, errW_some] <;> rfl), Kd.R_nil _ _ _ _ _, Kd.S_nil _ _ _ _ _, below_set (below_set HW.out G2.out) G2.out⟩
          | true =>
            have e1 := RES.out.symm.trans HH.out
            rw [if_pos rfl] at e1
            injection e1 with e1 e2
            injection e2 with e2 e3
            subst e1 e2 e3
            clear HH RES
            go_wp2_with fail
            clear hc40 hc41 hf40 hf41 hc30 hc31 hf30 hf31
            refine bodyPost_ret (results_ct rfl _ _ g2 35 #[.slice Av s.length cv, .slice At T.length ct] (0, 0) _ rfl (blk_put (cs := #[.slice Av s.length cv, .slice none 0 0]) (blk_put (cs := #[.slice none 0 0, .slice none 0 0]) K25.out 0 _ rfl) 1 _ rfl) Tryd.underlying35 rfl (by kernel_rfl)) rfl ?_
            exact ⟨_, _, by first | rfl | (simp [errW_none, errW_some] <;> rfl), Kd.R_mono (Kd.R_far (p := ⟨g2, 1, none⟩) (Kd.R_far (p := ⟨g2, 0, none⟩) (Kd.R_lower (Kd.R_types HV.out K25.out (by decide)) (below_size HB0.out)) (fun _ hk => hk.2) _) (fun _ hk => hk.2) _) (fun _ _ => trivial), Kd.S_mono (Kd.S_far (p := ⟨g2, 1, none⟩) (Kd.S_far (p := ⟨g2, 0, none⟩) (Kd.S_lower (Kd.S_types HT.out K25.out (by decide)) (below_size HB0.out)) (fun _ hk => hk.2) _) (fun _ hk => hk.2) _) (fun _ _ => trivial), below_set (below_set HW.out G2.out) G2.out⟩
      | succ d =>
        have hlt : p < (m : Int) := by have := HI.out.2; omega
        have hd : decide (p < (m : Int)) = true := decide_eq_true hlt
        obtain ⟨al, e0, hx⟩ := Kd.at_string (Kd.C_below HC.out HB.out) p h0 (by have := HM.out; omega)
        cases e0
        obtain ⟨u, eu⟩ : ∃ u, u = rdOf ByteArray.empty L p := ⟨_, rfl⟩
        rw [← eu] at hx
        have hus : u.size ≤ 1048576 := by
          rw [eu]; unfold rdOf
          exact HLM.out _ (getD_mem (by have := HM.out; omega))
        have HU := Aside0.mk eu
        have HUS := Aside0.mk hus
        have q0 := eq_true h0
        have q1 := eq_true hlt
        clear eu hus hlt
        go_wp2_with fail
        refine (signedLine_calls sgnB sgnB_rounds u ⟨#[116, 101, 109, 112, 108, 97, 116, 101, 32]⟩ wr HUS.out (max_below (max_below HMX.out HB0.out) HB.out)).mono ?_
        rintro e w4 ⟨v, rfl, ho, hb⟩
        have n0_ := Aside0.mk (below_step HB.out hb)
        have n1_ := Aside0.mk (blk_below HK.out hb)
        have n2_ := Aside0.mk (Kd.S_below HT.out hb)
        have n3_ := Aside0.mk (Kd.R_lower ho (below_size HB.out))
        clear HB HK HT ho hb hx
        have HB := n0_
        have HK := n1_
        have HT := n2_
        have HV := n3_
        clear n0_ n1_ n2_ n3_
        have K24 := Aside0.mk (blk_below K2.out HB.out)
        have HW4 := Aside0.mk (below_step HB0.out HB.out)
        obtain ⟨R, eR⟩ : ∃ R, R = lineR sgnB ⟨#[116, 101, 109, 112, 108, 97, 116, 101, 32]⟩ u := ⟨_, rfl⟩
        rw [← eR] at HV ⊢
        have eT : tmplR u = tmR R := by rw [eR]; exact tmplR_tm u
        have HD : Aside0 (L.dropLast.drop p.toNat = u :: L.dropLast.drop (p.toNat + 1)) := ⟨by have := drop_line L p.toNat (by have := HM.out; have := HI.out; omega); rw [this, HU.out, Int.toNat_of_nonneg HI.out.1]⟩
        have HER := Aside0.mk eR
        have HTM := Aside0.mk eT
        clear eR eT
        cases R with
        | none =>
          have BAD : Aside0 (resP (prI x y z t) = ([], [], false)) := ⟨rows_bad (by rw [← EL.out, HRW.out, HD.out, rowsR, HTM.out, tmR]; rfl)⟩
          have hc40 : w4.cell? ⟨g2, 0, none⟩ = some (.slice none 0 0) := (blk_cell K24.out 0).trans rfl
          have hc41 : w4.cell? ⟨g2, 1, none⟩ = some (.slice none 0 0) := (blk_cell K24.out 1).trans rfl
          have hf40 := blk_frozen K24.out 0
          have hf41 := blk_frozen K24.out 1
          rw [BAD.out] at HH
          have e1 := HH.out
          injection e1 with e1 e2
          injection e2 with e2 e3
          subst e1 e2 e3
          clear HH BAD
          go_wp2_with fail
          clear hc40 hc41 hf40 hf41
          refine bodyPost_ret (results_ct rfl _ _ g2 35 #[.slice none 0 0, .slice none 0 0] (0, 0) _ rfl (blk_put (cs := #[.slice none 0 0, .slice none 0 0]) (blk_put (cs := #[.slice none 0 0, .slice none 0 0]) K24.out 0 _ rfl) 1 _ rfl) Tryd.underlying35 rfl (by kernel_rfl)) rfl ?_
          exact ⟨_, _, by first | rfl | (simp [errW_none, errW_some] <;> rfl), Kd.R_nil _ _ _ _ _, Kd.S_nil _ _ _ _ _, below_set (below_set HW4.out G2.out) G2.out⟩
        | some ns =>
          have HNL : Aside0 (ns.length ≤ 1048577) := ⟨by have := lineR_len HER.out.symm; have := HUS.out; omega⟩
          replace HV : Aside0 (Kd.R (Kd.int .i64) 3 w4 w1.heap.size (fun _ => True) v ns) := HV
          replace HTM : Aside0 (tmplR u = if ns.length % 3 = 0 then some (tri ns) else none) := HTM
          obtain ⟨An, cn, rfl⟩ := Kd.R_slice HV.out
          by_cases h3 : ns.length % 3 = 0
          · have HTM2 : Aside0 (tmplR u = some (tri ns)) := ⟨by rw [HTM.out, if_pos h3]⟩
            have H3 := Aside0.mk h3
            have r3 : Int.tmod (ns.length : Int) 3 = 0 := by rw [Int.tmod_eq_emod_of_nonneg (by omega)]; omega
            clear h3 HTM
            go_wp2_with (first | ((with_reducible refine gate_dst (N := 67) rfl ?_); refine Kd.R_lit k52 _ 52 ?hg (N := 67) ?hd (xs := ([] : List S52)) (inner := []) (ok := fun _ => True) (okp := fun _ => True) ?hr ?hp (fun _ hk => hk) trivial (Below.refl _ _) (Nat.le_refl _) (by simp) ?_; (case hd => rfl); (case hg => rfl); (case hr => first | (go_simp; done) | (go_simp; rfl)); (case hp => exact (Reps.none _ _)); intro vL w5 ho hb hg_ hnew_; clear hg_ hnew_; have n0_ := Aside0.mk (below_step HB.out hb); have n1_ := Aside0.mk (blk_below HK.out hb); have n2_ := Aside0.mk (Kd.S_mono (Kd.S_elder' HT.out (Kd.R_base ho) hb) (ok' := fun k => some k ≠ vL.ownBlock) (fun _ hk => hk.2)); have n3_ := Aside0.mk (Kd.R_below HV.out hb); have n4_ := Aside0.mk (Kd.R_lower ho (below_size HB.out)); clear HB HK HT HV ho hb; have HB := n0_; have HK := n1_; have HT := n2_; have HV := n3_; have HO := n4_; clear n0_ n1_ n2_ n3_ n4_))
            go_loopg [14, 15] (ns.length / 3) (fun d2 v14 v15 wr => ∃ (i : Int) (acc : List S52), v15 = .int .i64 i ∧ Aside0 (0 ≤ i ∧ i + 3 * d2 = ns.length) ∧ Aside0 ((acc.length : Int) ≤ i) ∧ Aside0 (tri ns = acc ++ tri (ns.drop i.toNat)) ∧ Aside0 (Kd.R (Kd.int .i64) 3 wr w1.heap.size (fun _ => True) (.slice An ns.length cn) ns) ∧ Aside0 (Kd.R k52 52 wr w1.heap.size (fun _ => True) v14 acc) ∧ Aside0 (Kd.S kOS 50 wr w1.heap.size (fun k => some k ≠ v14.ownBlock) u1 T) ∧ Aside0 (wr.heap[g3]? = some (.cells #[.slice none 0 0, u1] 35 (0, 0))) ∧ Aside0 (Below w1.heap.size w1 wr))
            case atStart => exact ⟨0, [], rfl, ⟨by have := H3.out; omega⟩, ⟨by simp⟩, ⟨by rw [show (0 : Int).toNat = 0 from rfl, List.drop_zero]; rfl⟩, HV, HO, HT, HK, HB⟩
            case round =>
              clear HB HK HT HV HO K24 HW4
              obtain ⟨i, acc, rfl, HI2, HAC, HTR, HV, HO, HT, HK, HB⟩ := hrel
              have h2 := HI2.out.1
              cases gk with
              | zero =>
                have hi2 : i = ns.length := by have := HI2.out.2; omega
                have hd2 : decide (i < (ns.length : Int)) = false := decide_eq_false (by omega)
                have eacc : acc = tri ns := tri_last HTR.out hi2
                have HACL : Aside0 (acc.length ≤ 1048577) := ⟨by rw [eacc]; have := tri_len ns; have := HNL.out; omega⟩
                have HRW2 : Aside0 (rowsR L.dropLast = (rowsR (L.dropLast.drop (p.toNat + 1))).map ((T ++ [acc]) ++ ·)) := ⟨by rw [eacc]; exact rows_next HRW.out HD.out HTM2.out⟩
                have HTL : Aside0 (T.length ≤ 5) := ⟨by have := HTB.out.1; have := HI.out.2; have := HM4.out; omega⟩
                clear eacc hi2 h2
                obtain ⟨Ao, co, eo⟩ := Kd.R_slice HO.out
                subst eo
                have hc30 : wr.cell? ⟨g3, 0, none⟩ = some (.slice none 0 0) := (blk_cell HK.out 0).trans rfl
                have hc31 : wr.cell? ⟨g3, 1, none⟩ = some u1 := (blk_cell HK.out 1).trans rfl
                have hf30 := blk_frozen HK.out 0
                have hf31 := blk_frozen HK.out 1
                go_wp2_with (first | ((with_reducible refine gate_builtin (b := .append) (xs := #[.tmp 93, .tmp 95]) rfl ?_); at_builtin; refine Kd.S_append (Kd.slice 52 k52) (w0 := w1) w1.heap.size rfl (.tmp 93) (.tmp 95) 33 50 (.slice none 0 0) 24 rfl Tryd.underlying33 info50 rfl (by decide) (by omega) u1 T acc [.slice Ao acc.length co] (fun _ => True) (fun k_ => some k_ = (.slice Ao acc.length co : Value).ownBlock) rfl rfl ?aP (fun k_ hk_ => ((Kd.R_mono (ok' := fun k_ => ((fun _ => True)) k_ ∧ some k_ ≠ (u1 : Value).ownBlock) (Kd.R_apart' (HO.out) (Kd.S_typed HT.out) (by decide)) (fun k_ hk => ⟨trivial, hk.2⟩))).1 k_ hk_.symm) ?aF ?aO ?aB ?aS ?aL ?_; (case aP => exact Kd.M_row (Kd.R_mono (Kd.R_tight rfl (Kd.R_mono (ok' := fun k_ => ((fun _ => True)) k_ ∧ some k_ ≠ (u1 : Value).ownBlock) (Kd.R_apart' (HO.out) (Kd.S_typed HT.out) (by decide)) (fun k_ hk => ⟨trivial, hk.2⟩))) (fun _ h_ => h_))); (case aB => exact HB.out); (case aF => exact (fun _ _ => trivial)); (case aO => exact Kd.S_mono HT.out (fun k_ hk => ⟨trivial, fun e_ => hk e_⟩)); (case aS => exact below_size HB.out); (case aL => have := HTL.out; omega); intro v96 w6 ho hb hg hat; have n0_ := Aside0.mk (blk_grown HK.out hg (Kd.S_ne HT.out HK.out (by decide))); have n1_ := Aside0.mk hb; have n2_ := Aside0.mk ho; clear HK HB HV HT HO ho hb hg hat hc30 hc31 hf30 hf31; have HK := n0_; have HB := n1_; have HT := n2_; clear n0_ n1_ n2_; obtain ⟨At, ct, et⟩ := Kd.S_slice HT.out; subst et; have hc30 : w6.cell? ⟨g3, 0, none⟩ = some (.slice none 0 0) := (blk_cell HK.out 0).trans rfl; have hc31 : w6.cell? ⟨g3, 1, none⟩ = some u1 := (blk_cell HK.out 1).trans rfl; have hf30 := blk_frozen HK.out 0; have hf31 := blk_frozen HK.out 1))
                have hp1 : wrap64 (p + 1) = p + 1 := w64 (by omega) (by have := HI.out.2; have := HM4.out; omega)
                have hp1w : IntKind.i64.wrap (p + 1) = p + 1 := (i64_w _).trans hp1
                go_roundg d
                case measure => omega
                case rel => exact ⟨p + 1, T ++ [acc], .slice At (T ++ [acc]).length ct, (by first | rfl | (simp; done) | (simp [*]; done)), ⟨by have := HI.out; omega⟩, ⟨by have := HTB.out.1; simp; omega, by intro q hq; rcases List.mem_append.1 hq with hq | hq; exact HTB.out.2 q hq; rw [List.mem_singleton.1 hq]; exact HACL.out⟩, ⟨by rw [show (p + 1).toNat = p.toNat + 1 by have := HI.out.1; omega]; exact HRW2.out⟩, ⟨Kd.S_mono (Kd.S_far (p := ⟨g3, 1, none⟩) (Kd.S_types HT.out HK.out (by decide)) (fun _ hk => hk.2) _) (fun _ hk => trivial)⟩, ⟨blk_put (cs := #[.slice none 0 0, u1]) HK.out 1 _ (by simp)⟩, ⟨below_set HB.out G3.out⟩⟩
              | succ d2 =>
                have hlt2 : i < (ns.length : Int) := by have := HI2.out.2; omega
                have hd2 : decide (i < (ns.length : Int)) = true := decide_eq_true hlt2
                obtain ⟨j1, hj1⟩ : ∃ j : Int, wrap64 (i + 1) = j := ⟨_, rfl⟩
                obtain ⟨j2, hj2⟩ : ∃ j : Int, wrap64 (i + 2) = j := ⟨_, rfl⟩
                have hj1w : IntKind.i64.wrap (i + 1) = j1 := (i64_w _).trans hj1
                have hj2w : IntKind.i64.wrap (i + 2) = j2 := (i64_w _).trans hj2
                have hj3 : wrap64 (i + 3) = i + 3 := w64 (by omega) (by have := HNL.out; have := HI2.out.2; omega)
                have hj3w : IntKind.i64.wrap (i + 3) = i + 3 := (i64_w _).trans hj3
                have e1 : j1 = i + 1 := hj1.symm.trans (w64 (by omega) (by have := HNL.out; have := HI2.out.2; omega))
                have e2 : j2 = i + 2 := hj2.symm.trans (w64 (by omega) (by have := HNL.out; have := HI2.out.2; omega))
                have hl1 : j1 < (ns.length : Int) := by have := HI2.out.2; omega
                have hl2 : j2 < (ns.length : Int) := by have := HI2.out.2; omega
                have HE1 := Aside0.mk e1
                have HE2 := Aside0.mk e2
                go_wp2
                have n0_ := Aside0.mk (below_drew1 HB.out)
                have n1_ := Aside0.mk (blk_drew HK.out)
                have n2_ := Aside0.mk (Kd.S_drew HT.out)
                have n3_ := Aside0.mk (Kd.R_drew HV.out)
                have n4_ := Aside0.mk (Kd.R_drew HO.out)
                clear HB HK HT HV HO
                have HB := n0_
                have HK := n1_
                have HT := n2_
                have HV := n3_
                have HO := n4_
                clear n0_ n1_ n2_ n3_ n4_
                obtain ⟨ad, e0, hx0⟩ := Kd.at_int (Kd.R_reads' HV.out).2.2 i h2 hlt2
                cases e0
                obtain ⟨ad1, e0, hx1⟩ := Kd.at_int (Kd.R_reads' HV.out).2.2 j1 (by omega) hl1
                obtain rfl : ad = ad1 := (by injection e0)
                obtain ⟨ad2, e0', hx2⟩ := Kd.at_int (Kd.R_reads' HV.out).2.2 j2 (by omega) hl2
                obtain rfl : ad = ad2 := (by injection e0')
                have p0 := eq_true h2
                have p1 := eq_true hlt2
                have p2 := eq_true (show 0 ≤ j1 by omega)
                have p3 := eq_true hl1
                have p4 := eq_true (show 0 ≤ j2 by omega)
                have p5 := eq_true hl2
                clear e1 e2 hlt2 hl1 hl2 e0 e0' h2
                refine start_ (n := 19) (S := fun w' => w'.cell? (ad.add i.toNat) = some (.int .i64 (rd ns i)) ∧ w'.cell? (ad.add j1.toNat) = some (.int .i64 (rd ns j1)) ∧ w'.cell? (ad.add j2.toNat) = some (.int .i64 (rd ns j2))) (ds := [16, 17]) #[false, false, false, false, false, false, false, false, false, false, false, false, false, false, false, false, false, false, false] (by kernel_rfl) rfl rfl ⟨hx0, hx1, hx2⟩ (fun hHeld => ?_)
                refine with_tabW impl_ParseSlopes_tab16 impl_ParseSlopes_bits16 (fun HT_ HW_ => ?_)
                generalize wr.drew = wd at HB HK HT HV HO hx0 hx1 hx2 hHeld ⊢
                refine pure_ (i := 0) (N := some 74) (v := ?_) (a' := ?_) #[true, false, false, false, false, false, false, false, false, false, false, false, false, false, false, false, false, false, false] rfl rfl (any_of HT_.out (by kernel_rfl)) (fun _ _ _ h => h) (Or.inl ⟨by rfl, ?_⟩) ?_ ?_
                rotate_left
                · intro w'
                  go_simp
                  with_reducible rfl
                rotate_left
                · simp only [Act.put, List.setIfInBounds_toArray, List.set_cons_zero, List.set_cons_succ, i64_w, i32_w]
                  rfl
                refine pure_ (i := 1) (N := some 75) (v := ?_) (a' := ?_) #[true, true, false, false, false, false, false, false, false, false, false, false, false, false, false, false, false, false, false] rfl rfl (any_of HT_.out (by kernel_rfl)) (fun _ _ _ h => h) (Or.inl ⟨by rfl, ?_⟩) ?_ ?_
                rotate_left
                · intro w'
                  go_simp
                  with_reducible rfl
                rotate_left
                · simp only [Act.put, List.setIfInBounds_toArray, List.set_cons_zero, List.set_cons_succ, i64_w, i32_w]
                  rfl
                refine pure_ (i := 2) (N := some 76) (v := ?_) (a' := ?_) #[true, true, true, false, false, false, false, false, false, false, false, false, false, false, false, false, false, false, false] rfl rfl (any_of HT_.out (by kernel_rfl)) (fun _ _ _ h => h) (Or.inl ⟨by rfl, ?_⟩) ?_ ?_
                rotate_left
                · intro w'
                  go_simp
                  with_reducible rfl
                rotate_left
                · simp only [Act.put, List.setIfInBounds_toArray, List.set_cons_zero, List.set_cons_succ, i64_w, i32_w]
                  rfl
                refine pure_ (i := 3) (N := some 77) (v := ?_) (a' := ?_) #[true, true, true, true, false, false, false, false, false, false, false, false, false, false, false, false, false, false, false] rfl rfl (any_of HT_.out (by kernel_rfl)) (fun _ _ _ h => h) (Or.inl ⟨by rfl, ?_⟩) ?_ ?_
                rotate_left
                · intro w'
                  go_simp
                  with_reducible rfl
                rotate_left
                · simp only [Act.put, List.setIfInBounds_toArray, List.set_cons_zero, List.set_cons_succ, i64_w, i32_w]
                  rfl
                refine pure_ (i := 5) (N := some 79) (v := ?_) (a' := ?_) #[true, true, true, true, false, true, false, false, false, false, false, false, false, false, false, false, false, false, false] rfl rfl (any_of HT_.out (by kernel_rfl)) (fun _ _ _ h => h) (Or.inl ⟨by rfl, ?_⟩) ?_ ?_
                rotate_left
                · intro w'
                  go_simp
                  with_reducible rfl
                rotate_left
                · simp only [Act.put, List.setIfInBounds_toArray, List.set_cons_zero, List.set_cons_succ, i64_w, i32_w]
                  rfl
                refine pure_ (i := 6) (N := some 80) (v := ?_) (a' := ?_) #[true, true, true, true, false, true, true, false, false, false, false, false, false, false, false, false, false, false, false] rfl rfl (any_of HT_.out (by kernel_rfl)) (fun _ _ _ h => h) (Or.inl ⟨by rfl, ?_⟩) ?_ ?_
                rotate_left
                · intro w'
                  go_simp
                  with_reducible rfl
                rotate_left
                · simp only [Act.put, List.setIfInBounds_toArray, List.set_cons_zero, List.set_cons_succ, i64_w, i32_w]
                  rfl
                refine pure_ (i := 7) (N := some 81) (v := ?_) (a' := ?_) #[true, true, true, true, false, true, true, true, false, false, false, false, false, false, false, false, false, false, false] rfl rfl (any_of HT_.out (by kernel_rfl)) (fun _ _ _ h => h) (Or.inl ⟨by rfl, ?_⟩) ?_ ?_
                rotate_left
                · intro w'
                  go_simp
                  with_reducible rfl
                rotate_left
                · simp only [Act.put, List.setIfInBounds_toArray, List.set_cons_zero, List.set_cons_succ, i64_w, i32_w]
                  rfl
                refine pure_ (i := 8) (N := some 82) (v := ?_) (a' := ?_) #[true, true, true, true, false, true, true, true, true, false, false, false, false, false, false, false, false, false, false] rfl rfl (any_of HT_.out (by kernel_rfl)) (fun _ _ _ h => h) (Or.inl ⟨by rfl, ?_⟩) ?_ ?_
                rotate_left
                · intro w'
                  go_simp
                  with_reducible rfl
                rotate_left
                · simp only [Act.put, List.setIfInBounds_toArray, List.set_cons_zero, List.set_cons_succ, i64_w, i32_w]
                  rfl
                refine pure_ (i := 10) (N := some 84) (v := ?_) (a' := ?_) #[true, true, true, true, false, true, true, true, true, false, true, false, false, false, false, false, false, false, false] rfl rfl (any_of HT_.out (by kernel_rfl)) (fun _ _ _ h => h) (Or.inl ⟨by rfl, ?_⟩) ?_ ?_
                rotate_left
                · intro w'
                  go_simp
                  with_reducible rfl
                rotate_left
                · simp only [Act.put, List.setIfInBounds_toArray, List.set_cons_zero, List.set_cons_succ, i64_w, i32_w]
                  rfl
                refine pure_ (i := 11) (N := some 85) (v := ?_) (a' := ?_) #[true, true, true, true, false, true, true, true, true, false, true, true, false, false, false, false, false, false, false] rfl rfl (any_of HT_.out (by kernel_rfl)) (fun _ _ _ h => h) (Or.inl ⟨by rfl, ?_⟩) ?_ ?_
                rotate_left
                · intro w'
                  go_simp
                  with_reducible rfl
                rotate_left
                · simp only [Act.put, List.setIfInBounds_toArray, List.set_cons_zero, List.set_cons_succ, i64_w, i32_w]
                  rfl
                refine pure_ (i := 12) (N := some 86) (v := ?_) (a' := ?_) #[true, true, true, true, false, true, true, true, true, false, true, true, true, false, false, false, false, false, false] rfl rfl (any_of HT_.out (by kernel_rfl)) (fun _ _ _ h => h) (Or.inl ⟨by rfl, ?_⟩) ?_ ?_
                rotate_left
                · intro w'
                  go_simp
                  with_reducible rfl
                rotate_left
                · simp only [Act.put, List.setIfInBounds_toArray, List.set_cons_zero, List.set_cons_succ, i64_w, i32_w]
                  rfl
                refine pure_ (i := 13) (N := some 87) (v := ?_) (a' := ?_) #[true, true, true, true, false, true, true, true, true, false, true, true, true, true, false, false, false, false, false] rfl rfl (any_of HT_.out (by kernel_rfl)) (fun _ _ _ h => h) (Or.inl ⟨by rfl, ?_⟩) ?_ ?_
                rotate_left
                · intro w'
                  go_simp
                  with_reducible rfl
                rotate_left
                · simp only [Act.put, List.setIfInBounds_toArray, List.set_cons_zero, List.set_cons_succ, i64_w, i32_w]
                  rfl
                refine take_ (i := 4) (N := some 78) (v := ?_) (a' := ?_) #[true, true, true, true, true, true, true, true, true, false, true, true, true, true, false, false, false, false, false] rfl rfl (take_ofW HT_.out HW_.out (by kernel_rfl)) (fun _ _ _ h => h) (Or.inl ⟨by rfl, ?_⟩) hHeld ?_ ?_
                rotate_left
                · rintro w' ⟨s0, s1, s2⟩
                  go_simp
                  with_reducible rfl
                rotate_left
                · simp only [Act.put, List.setIfInBounds_toArray, List.set_cons_zero, List.set_cons_succ, i64_w, i32_w]
                  rfl
                refine take_ (i := 9) (N := some 83) (v := ?_) (a' := ?_) #[true, true, true, true, true, true, true, true, true, true, true, true, true, true, false, false, false, false, false] rfl rfl (take_ofW HT_.out HW_.out (by kernel_rfl)) (fun _ _ _ h => h) (Or.inl ⟨by rfl, ?_⟩) hHeld ?_ ?_
                rotate_left
                · rintro w' ⟨s0, s1, s2⟩
                  go_simp
                  with_reducible rfl
                rotate_left
                · simp only [Act.put, List.setIfInBounds_toArray, List.set_cons_zero, List.set_cons_succ, i64_w, i32_w]
                  rfl
                refine take_ (i := 14) (N := some 88) (v := ?_) (a' := ?_) #[true, true, true, true, true, true, true, true, true, true, true, true, true, true, true, false, false, false, false] rfl rfl (take_ofW HT_.out HW_.out (by kernel_rfl)) (fun _ _ _ h => h) (Or.inl ⟨by rfl, ?_⟩) hHeld ?_ ?_
                rotate_left
                · rintro w' ⟨s0, s1, s2⟩
                  go_simp
                  with_reducible rfl
                rotate_left
                · simp only [Act.put, List.setIfInBounds_toArray, List.set_cons_zero, List.set_cons_succ, i64_w, i32_w]
                  rfl
                refine pure_ (i := 15) (N := some 89) (v := ?_) (a' := ?_) #[true, true, true, true, true, true, true, true, true, true, true, true, true, true, true, true, false, false, false] rfl rfl (any_of HT_.out (by kernel_rfl)) (fun _ _ _ h => h) (Or.inl ⟨by rfl, ?_⟩) ?_ ?_
                rotate_left
                · intro w'
                  go_simp
                  with_reducible rfl
                rotate_left
                · simp only [Act.put, List.setIfInBounds_toArray, List.set_cons_zero, List.set_cons_succ, i64_w, i32_w]
                  rfl
                refine last_ (i := 16) (N := some 90) #[true, true, true, true, true, true, true, true, true, true, true, true, true, true, true, true, true, false, false] rfl rfl (one_of HT_.out (by kernel_rfl)) (by decide) (fun K hK => ?_)
                refine value_ (w1 := ?_) (v := ?_) (by rfl) rfl ?_ ?_
                rotate_left 2
                · go_simp
                  constructor
                  · rfl
                  · rfl
                refine hK.out _ _ ?_
                clear hK K
                refine norm_ (a' := ?_) ?_ ?_
                rotate_left
                · show Act.put _ (some 90) _ = _
                  simp only [Act.put, List.setIfInBounds_toArray, List.set_cons_zero, List.set_cons_succ, i64_w, i32_w]
                  rfl
                refine last_ (i := 17) (N := some 91) #[true, true, true, true, true, true, true, true, true, true, true, true, true, true, true, true, true, true, false] rfl rfl (one_of HT_.out (by kernel_rfl)) (by decide) (fun K hK => ?_)
                refine Kd.R_append_step k52 (w0 := w1) w1.heap.size (by rfl) (.tmp 74) (.tmp 90) 50 52 (.agg #[(.int .i64 0), (.int .i64 0), (.int .i64 0)]) 24 rfl Tryd.underlying50 info52 rfl (by decide) (by omega) u14 acc (⟨rd ns i, rd ns j1, rd ns j2⟩ : S52) [.int .i64 (rd ns i), .int .i64 (rd ns j1), .int .i64 (rd ns j2)] (fun _ => True) (fun _ => False) rfl rfl ?aP (fun _ hk => hk.elim) ?aF ?aO ?aB ?aS ?aL ?_
                (case aP => exact k52_mkM _ _ _ (⟨rd ns i, rd ns j1, rd ns j2⟩ : S52))
                (case aB => exact HB.out)
                (case aF => exact (fun _ _ => trivial))
                (case aO => exact HO.out)
                (case aS => exact below_size HB.out)
                (case aL => have := HAC.out; have := HNL.out; have := HI2.out; omega)
                intro v16 w6 ho hb hg hat
                have n0_ := Aside0.mk (Kd.R_over' HV.out (Kd.R_typed HO.out) (by decide) hg)
                have n1_ := Aside0.mk (Kd.S_after (ok := (fun _ => True)) (Kd.S_mono HT.out (fun _ hk => ⟨trivial, hk⟩)) hg hat)
                have n2_ := Aside0.mk (blk_grown HK.out hg (Kd.R_ne HO.out HK.out (by decide)))
                have n3_ := Aside0.mk hb
                have n4_ := Aside0.mk ho
                clear HV HT HK HB HO ho hb hg hat
                have HV := n0_
                have HT := n1_
                have HK := n2_
                have HB := n3_
                have HO := n4_
                clear n0_ n1_ n2_ n3_ n4_
                refine hK.out _ _ ?_
                clear hK K
                refine norm_ (a' := ?_) ?_ ?_
                rotate_left
                · show Act.put _ (some 91) _ = _
                  simp only [Act.put, List.setIfInBounds_toArray, List.set_cons_zero, List.set_cons_succ, i64_w, i32_w]
                  rfl
                refine pure_ (i := 18) (N := some 14) (v := ?_) (a' := ?_) #[true, true, true, true, true, true, true, true, true, true, true, true, true, true, true, true, true, true, true] rfl rfl (any_of HT_.out (by kernel_rfl)) (fun _ _ _ h => h) (Or.inl ⟨by rfl, ?_⟩) ?_ ?_
                rotate_left
                · intro w'
                  go_simp
                  with_reducible rfl
                rotate_left
                · simp only [Act.put, List.setIfInBounds_toArray, List.set_cons_zero, List.set_cons_succ, i64_w, i32_w]
                  rfl
                refine done_ (done_of HT_.out (by kernel_rfl)) ?_
                try go_wp2
                go_roundg d2
                case measure => omega
                case rel => exact ⟨i + 3, acc ++ [⟨rd ns i, rd ns j1, rd ns j2⟩], (by first | rfl | (simp; done) | (simp [*]; done)), ⟨by have := HI2.out; omega⟩, ⟨by have := HAC.out; simp; omega⟩, ⟨tri_next HTR.out H3.out HI2.out.1 (by have := HI2.out.2; omega) (by have := HI2.out.2; have := H3.out; omega) HE1.out HE2.out⟩, HV, HO, ⟨Kd.S_mono HT.out (fun _ hk => hk.2)⟩, HK, HB⟩
          · have BAD : Aside0 (resP (prI x y z t) = ([], [], false)) := ⟨rows_bad (by rw [← EL.out, HRW.out, HD.out, rowsR, HTM.out, if_neg h3]; rfl)⟩
            have r3 : ¬ (Int.tmod (ns.length : Int) 3 = 0) := by rw [Int.tmod_eq_emod_of_nonneg (by omega)]; omega
            have hc40 : w4.cell? ⟨g2, 0, none⟩ = some (.slice none 0 0) := (blk_cell K24.out 0).trans rfl
            have hc41 : w4.cell? ⟨g2, 1, none⟩ = some (.slice none 0 0) := (blk_cell K24.out 1).trans rfl
            have hf40 := blk_frozen K24.out 0
            have hf41 := blk_frozen K24.out 1
            rw [BAD.out] at HH
            have e1 := HH.out
            injection e1 with e1 e2
            injection e2 with e2 e3
            subst e1 e2 e3
            clear HH BAD
            go_wp2_with fail
            clear hc40 hc41 hf40 hf41
            refine bodyPost_ret (results_ct rfl _ _ g2 35 #[.slice none 0 0, .slice none 0 0] (0, 0) _ rfl (blk_put (cs := #[.slice none 0 0, .slice none 0 0]) (blk_put (cs := #[.slice none 0 0, .slice none 0 0]) K24.out 0 _ rfl) 1 _ rfl) Tryd.underlying35 rfl (by kernel_rfl)) rfl ?_
            exact ⟨_, _, by first | rfl | (simp [errW_none, errW_some] <;> rfl), Kd.R_nil _ _ _ _ _, Kd.S_nil _ _ _ _ _, below_set (below_set HW4.out G2.out) G2.out⟩
  · have BAD : Aside0 (resP (prI x y z t) = ([], [], false)) := ⟨bad_none hgood⟩
    have K24 := Aside0.mk (blk_below K2.out HB.out)
    have HW4 := Aside0.mk (below_step HB0.out HB.out)
    have hc40 : w2.cell? ⟨g2, 0, none⟩ = some (.slice none 0 0) := (blk_cell K24.out 0).trans rfl
    have hc41 : w2.cell? ⟨g2, 1, none⟩ = some (.slice none 0 0) := (blk_cell K24.out 1).trans rfl
    have hf40 := blk_frozen K24.out 0
    have hf41 := blk_frozen K24.out 1
    have hgood' : ¬ (gridOk x y z = true ∧ ok = true ∧ 2 ≤ L.length ∧ L.length ≤ 5) := by rw [EOK.out, EL.out]; exact hgood
    clear hgood
    cases hg : gridOk x y z with
    | false =>
      clear hgood' hg
      rw [BAD.out] at HH
      have e1 := HH.out
      injection e1 with e1 e2
      injection e2 with e2 e3
      subst e1 e2 e3
      clear HH BAD
      go_wp2_with fail
      clear hc40 hc41 hf40 hf41
      refine bodyPost_ret (results_ct rfl _ _ g2 35 #[.slice none 0 0, .slice none 0 0] (0, 0) _ rfl (blk_put (cs := #[.slice none 0 0, .slice none 0 0]) (blk_put (cs := #[.slice none 0 0, .slice none 0 0]) K24.out 0 _ rfl) 1 _ rfl) Tryd.underlying35 rfl (by kernel_rfl)) rfl ?_
      exact ⟨_, _, by first | rfl | (simp [errW_none, errW_some] <;> rfl), Kd.R_nil _ _ _ _ _, Kd.S_nil _ _ _ _ _, below_set (below_set HW4.out G2.out) G2.out⟩
    | true =>
      cases ok with
      | false =>
        clear hgood' hg
        rw [BAD.out] at HH
        have e1 := HH.out
        injection e1 with e1 e2
        injection e2 with e2 e3
        subst e1 e2 e3
        clear HH BAD
        go_wp2_with fail
        clear hc40 hc41 hf40 hf41
        refine bodyPost_ret (results_ct rfl _ _ g2 35 #[.slice none 0 0, .slice none 0 0] (0, 0) _ rfl (blk_put (cs := #[.slice none 0 0, .slice none 0 0]) (blk_put (cs := #[.slice none 0 0, .slice none 0 0]) K24.out 0 _ rfl) 1 _ rfl) Tryd.underlying35 rfl (by kernel_rfl)) rfl ?_
        exact ⟨_, _, by first | rfl | (simp [errW_none, errW_some] <;> rfl), Kd.R_nil _ _ _ _ _, Kd.S_nil _ _ _ _ _, below_set (below_set HW4.out G2.out) G2.out⟩
      | true =>
        by_cases d1 : (L.length : Int) < 2
        · have d1a : decide ((L.length : Int) < 2) = true := decide_eq_true d1
          have d1b : decide (L.length < 2) = true := decide_eq_true (by omega)
          clear hgood' hg d1
          rw [BAD.out] at HH
          have e1 := HH.out
          injection e1 with e1 e2
          injection e2 with e2 e3
          subst e1 e2 e3
          clear HH BAD
          go_wp2_with fail
          clear hc40 hc41 hf40 hf41
          refine bodyPost_ret (results_ct rfl _ _ g2 35 #[.slice none 0 0, .slice none 0 0] (0, 0) _ rfl (blk_put (cs := #[.slice none 0 0, .slice none 0 0]) (blk_put (cs := #[.slice none 0 0, .slice none 0 0]) K24.out 0 _ rfl) 1 _ rfl) Tryd.underlying35 rfl (by kernel_rfl)) rfl ?_
          exact ⟨_, _, by first | rfl | (simp [errW_none, errW_some] <;> rfl), Kd.R_nil _ _ _ _ _, Kd.S_nil _ _ _ _ _, below_set (below_set HW4.out G2.out) G2.out⟩
        · have d1a : decide ((L.length : Int) < 2) = false := decide_eq_false d1
          have d1b : decide (L.length < 2) = false := decide_eq_false (by omega)
          have d2 : 5 < L.length := by
            have := hgood'
            simp only [hg, true_and] at this
            omega
          have d2a : decide (5 < (L.length : Int)) = true := decide_eq_true (by omega)
          have d2b : decide (5 < L.length) = true := decide_eq_true d2
          clear hgood' hg d1 d2
          rw [BAD.out] at HH
          have e1 := HH.out
          injection e1 with e1 e2
          injection e2 with e2 e3
          subst e1 e2 e3
          clear HH BAD
          go_wp2_with fail
          clear hc40 hc41 hf40 hf41
          refine bodyPost_ret (results_ct rfl _ _ g2 35 #[.slice none 0 0, .slice none 0 0] (0, 0) _ rfl (blk_put (cs := #[.slice none 0 0, .slice none 0 0]) (blk_put (cs := #[.slice none 0 0, .slice none 0 0]) K24.out 0 _ rfl) 1 _ rfl) Tryd.underlying35 rfl (by kernel_rfl)) rfl ?_
          exact ⟨_, _, by first | rfl | (simp [errW_none, errW_some] <;> rfl), Kd.R_nil _ _ _ _ _, Kd.S_nil _ _ _ _ _, below_set (below_set HW4.out G2.out) G2.out⟩
end Go.Proofs.YtmihfgnkjjohmaaDoor.OwnParseSlopes
