/- The contract of impl.isFlow by hand. -/
import Derived.Test.YtomfjhpiemipkaaTComE
import Derived.Test.YtomfjhpiemipkaaTMFnFlowValuesx0
namespace Go.Proofs.Ytomfjhpiemipkaa.OwnFlows
open Go.RowKit Go.Proofs.Ytomfjhpiemipkaa.PFnFlowValues Go.Proofs.YtomfjhpiemipkaaW.PrintWords Go.Proofs.YtomfjhpiemipkaaW.PrintLast Go.Proofs.YtomfjhpiemipkaaW.PrintMore Go.Proofs.Ytomfjhpiemipkaa.B Go.Proofs.Ytomfjhpiemipkaa.Com
set_option linter.unusedVariables false
set_option linter.unusedSimpArgs false
def okE (n : Int) (e : S99) : Bool := decide (0 ≤ e.f0 ∧ e.f0 < n ∧ 0 ≤ e.f1 ∧ e.f1 < n ∧ 0 ≤ e.f2 ∧ e.f2 ≤ 1000000000)
def netOk (n : Int) (l : List S99) : Bool := decide (2 ≤ n ∧ n ≤ 130 ∧ l.length ≤ 2000) && allR (fun j => okE n (l.getD j z99)) 0 l.length
theorem rdE (l : List S99) (i : Nat) : rd_T99 l (i : Int) = l.getD i z99 := by unfold rd_T99; rw [toNat_nat]
theorem netOk_iff {n : Int} {l : List S99} : netOk n l = true ↔ 2 ≤ n ∧ n ≤ 130 ∧ l.length ≤ 2000 ∧ ∀ j, j < l.length → okE n (l.getD j z99) = true := by
  unfold netOk
  rw [Bool.and_eq_true, decide_eq_true_eq, allR_iff]
  exact ⟨fun h => ⟨h.1.1, h.1.2.1, h.1.2.2, fun j hj => h.2 j (Nat.zero_le _) hj⟩, fun h => ⟨⟨h.1, h.2.1, h.2.2.1⟩, fun j _ hj => h.2.2.2 j hj⟩⟩
theorem okE_iff {n : Int} {e : S99} : okE n e = true ↔ 0 ≤ e.f0 ∧ e.f0 < n ∧ 0 ≤ e.f1 ∧ e.f1 < n ∧ 0 ≤ e.f2 ∧ e.f2 ≤ 1000000000 := by
  unfold okE; rw [decide_eq_true_eq]
def cutTerm (m : List Bool) (e : S99) : Int := if at_ m e.f0 = true then (if at_ m e.f1 = true then 0 else e.f2) else 0
def cutAt (m : List Bool) (l : List S99) (s : Int) (j : Nat) : Int := s + cutTerm m (l.getD j z99)
def cutSum (m : List Bool) (l : List S99) : Int := foldR (cutAt m l) 0 l.length 0
theorem cutTerm_bd {n : Int} {m : List Bool} {e : S99} (h : okE n e = true) : 0 ≤ cutTerm m e ∧ cutTerm m e ≤ 1000000000 := by
  rw [okE_iff] at h
  unfold cutTerm
  split
  · split <;> omega
  · omega
theorem cutAt_bd {n : Int} {m : List Bool} {l : List S99} (h : ∀ j, j < l.length → okE n (l.getD j z99) = true) (i : Nat) (hi : i ≤ l.length) : 0 ≤ foldR (cutAt m l) 0 i 0 ∧ foldR (cutAt m l) 0 i 0 ≤ 1000000000 * (i : Int) := by
  induction i with
  | zero => rw [foldR_end (Nat.le_refl _)]; omega
  | succ i ih =>
    have ih := ih (by omega)
    rw [foldR_last (Nat.zero_le _)]
    have := cutTerm_bd (m := m) (h i (by omega))
    unfold cutAt at *
    omega
def cutOk (n : Nat) (l : List Int) : Bool := asc l n && (at_ (mk n l) 0 && !(at_ (mk n l) ((n : Int) - 1)))
def flowOkAt (l : List S99) (f : List Int) (j : Nat) : Bool := decide (0 ≤ f.getD j 0 ∧ f.getD j 0 ≤ (l.getD j z99).f2)
def addTo (b : List Int) (i : Int) (x : Int) : List Int := b.set i.toNat (b.getD i.toNat 0 + x)
def flowStep (l : List S99) (f : List Int) (b : List Int) (j : Nat) : List Int := addTo (addTo b (l.getD j z99).f0 (-(f.getD j 0))) (l.getD j z99).f1 (f.getD j 0)
def bal (n : Int) (l : List S99) (f : List Int) (i : Nat) : List Int := foldR (flowStep l f) 0 i (List.replicate n.toNat 0)
def balOk (n : Int) (l : List S99) (f : List Int) (j : Nat) : Bool := decide ((bal n l f l.length).getD (j + 1) 0 = 0)
def flowsB (n : Int) (l : List S99) (f : List Int) : Bool := decide (f.length = l.length) && (allR (flowOkAt l f) 0 l.length && allR (balOk n l f) 0 (n - 2).toNat)
theorem addTo_len (b : List Int) (i x : Int) : (addTo b i x).length = b.length := by unfold addTo; rw [List.length_set]
theorem addTo_at (b : List Int) (i x : Int) (j : Nat) : (addTo b i x).getD j 0 = b.getD j 0 + (if i.toNat = j ∧ j < b.length then x else 0) := by
  unfold addTo
  rw [getD_set]
  split
  · rename_i h; rw [h.1]
  · omega
theorem bal_len (n : Int) (l : List S99) (f : List Int) (i : Nat) : (bal n l f i).length = n.toNat := by
  unfold bal
  induction i with
  | zero => rw [foldR_end (Nat.le_refl _), List.length_replicate]
  | succ i ih => rw [foldR_last (Nat.zero_le _)]; unfold flowStep; rw [addTo_len, addTo_len]; exact ih
theorem bal_succ (n : Int) (l : List S99) (f : List Int) (i : Nat) : bal n l f (i + 1) = flowStep l f (bal n l f i) i := by
  unfold bal; rw [foldR_last (Nat.zero_le _)]
theorem bal_bd {n : Int} {l : List S99} {f : List Int} (hl : ∀ j, j < l.length → okE n (l.getD j z99) = true) (i : Nat) (hi : i ≤ l.length) (ho : allR (flowOkAt l f) 0 i = true) (j : Nat) : -1000000000 * (i : Int) ≤ (bal n l f i).getD j 0 ∧ (bal n l f i).getD j 0 ≤ 1000000000 * (i : Int) := by
  induction i with
  | zero =>
    unfold bal; rw [foldR_end (Nat.le_refl _)]
    by_cases h : j < n.toNat
    · rw [getD_replicate h]; omega
    · rw [getD_none (by rw [List.length_replicate]; omega)]; omega
  | succ i ih =>
    rw [allR_iff] at ho
    have ih := ih (by omega) (allR_iff.2 (fun k h1 h2 => ho k h1 (by omega)))
    have h := ho i (Nat.zero_le _) (by omega)
    have h2 := okE_iff.1 (hl i (by omega))
    unfold flowOkAt at h
    rw [decide_eq_true_eq] at h
    rw [bal_succ]
    unfold flowStep
    rw [addTo_at, addTo_at]
    split <;> split <;> omega
def impl_isFlow_T7 : Bool × List (List Nat × List Nat) := (true, [([], []), ([], []), ([0, 1], [0, 1]), ([2], [2]), ([3], [3]), ([4], [4]), ([5], [5]), ([5], [5]), ([6, 7, 5], [5, 6, 7]), ([8, 5], [5, 8]), ([5], [5]), ([10, 5], [5, 10]), ([9, 11, 5], [5, 9, 11]), ([5, 12], [5, 12])])
def impl_isFlow_B7 : List Nat := [0, 0, 3, 7, 15, 31, 63, 63, 255, 511, 63, 1087, 4095, 8191]
theorem impl_isFlow_tab7 : rtab .any (opsOf Try.f155 7) = impl_isFlow_T7 := by kernel_rfl
theorem impl_isFlow_bits7 : waitsOk impl_isFlow_T7.2 impl_isFlow_B7 = true := by kernel_rfl
def impl_isFlow_T9 : Bool × List (List Nat × List Nat) := (true, [([], []), ([], []), ([1], [1]), ([0, 2], [0, 2]), ([3], [3]), ([], []), ([], []), ([5, 6], [5, 6]), ([7], [7]), ([4, 8], [4, 8]), ([0, 2, 0, 1, 2, 3, 4, 5, 6, 7, 8, 9], [0, 2]), ([10, 9, 0, 1, 2, 3, 4, 5, 6, 7, 8, 9], [9, 10])])
def impl_isFlow_B9 : List Nat := [0, 0, 2, 7, 15, 0, 0, 96, 224, 511, 1023, 2047]
theorem impl_isFlow_tab9 : rtab .any (opsOf Try.f155 9) = impl_isFlow_T9 := by kernel_rfl
theorem impl_isFlow_bits9 : waitsOk impl_isFlow_T9.2 impl_isFlow_B9 = true := by kernel_rfl
def impl_isFlow_T10 : Bool × List (List Nat × List Nat) := (true, [([], []), ([], []), ([1], [1]), ([0, 2], [0, 2]), ([3], [3]), ([], []), ([], []), ([5, 6], [5, 6]), ([7], [7]), ([4, 8], [4, 8]), ([0, 2, 0, 1, 2, 3, 4, 5, 6, 7, 8, 9], [0, 2]), ([10, 9, 0, 1, 2, 3, 4, 5, 6, 7, 8, 9], [9, 10])])
def impl_isFlow_B10 : List Nat := [0, 0, 2, 7, 15, 0, 0, 96, 224, 511, 1023, 2047]
theorem impl_isFlow_tab10 : rtab .any (opsOf Try.f155 10) = impl_isFlow_T10 := by kernel_rfl
theorem impl_isFlow_bits10 : waitsOk impl_isFlow_T10.2 impl_isFlow_B10 = true := by kernel_rfl
set_option maxHeartbeats 8000000 in
set_option maxRecDepth 100000 in
theorem own_isFlow (n : Int) (A1 : Option Addr) (c1 : Nat) (l : List S99) (A2 : Option Addr) (c2 : Nat) (f : List Int) (w : World)
    (h1 : Kd.C k99 w A1 l.length l) (e1 : l.length ≤ c1) (h2 : Kd.C (Kd.int .i64) w A2 f.length f) (e2 : f.length ≤ c2) (hN : netOk n l = true) (hf : f.length ≤ 1048576) :
    Calls Try.prog 155 #[.int .i64 n, .slice A1 l.length c1, .slice A2 f.length c2] w fun e w' => e = .returned (.bool (flowsB n l f)) ∧ Below w.heap.size w w' := by
  have hu67 := Try.underlying99
  have hNN := netOk_iff.1 hN
  obtain ⟨m, rfl⟩ : ∃ m : Nat, n = (m : Int) := ⟨n.toNat, by omega⟩
  have HN := Aside0.mk hNN
  have H1 := Aside0.mk h1
  have E1 := Aside0.mk e1
  have H2 := Aside0.mk h2
  have E2 := Aside0.mk e2
  have HB := Aside0.mk (Below.refl w.heap.size w)
  clear h1 e1 h2 e2 hN
  by_cases hlen : f.length = l.length
  · have b1 : (((f.length : Int)) == (l.length : Int)) = true := beq_iff_eq.mpr (by omega)
    have b2 : (((f.length : Int)) != (l.length : Int)) = false := bne_eq_false_iff_eq.mpr (by omega)
    have b3 : (f.length == l.length) = true := beq_iff_eq.mpr hlen
    have n0 := eq_true (show 0 ≤ (m : Int) by omega)
    have n1 : decide (0 ≤ (m : Int)) = true := decide_eq_true (by omega)
    have n2 : decide ((m : Int).toNat ≤ 35184372088832) = true := decide_eq_true (by omega)
    have n3 := eq_true (show (m : Int).toNat ≤ 35184372088832 by omega)
    have HLEN := Aside0.mk hlen
    clear hlen hNN hf
    go_enter Try.func155, Try.ntmps155
    go_wp2_with (first | ((with_reducible refine gate_dst (N := 18) rfl ?_); refine Kd.R_make (Kd.int .i64) _ 3 rfl (N := 18) rfl 24 _ _ rfl (m : Int) rfl rfl Try.underlying24 (.int .i64 0) 8 info3 rfl (by decide) (by omega) 0 (ok := fun _ => True) (okp := fun _ => True) rfl (fun _ hk => hk) trivial (of_decide_eq_true (by first | (with_reducible assumption) | assumption)) (Nat.le_trans (Nat.mul_le_mul_right _ (of_decide_eq_true (by first | (with_reducible assumption) | assumption) : (m : Int).toNat ≤ 35184372088832)) (by omega)) (Below.refl _ _) (Nat.le_refl _) ?_; intro vb w7 ho8 hb hg_ hnew_; clear hg_ hnew_; have n0_ := Aside0.mk ho8; have n1_ := Aside0.mk (below_step HB.out hb); clear HB; have HO := n0_; have HB := n1_; clear n0_ n1_; clear hb ho8))
    obtain ⟨go, co, eo, gb, gl, cl, HG⟩ := Kd.R_form HO.out (by rw [List.length_replicate]; have := HN.out; omega)
    rw [List.length_replicate, Int.toNat_natCast] at eo
    subst eo
    have GB := Aside0.mk gb
    have hco : m ≤ co := by have h := (readsR HO.out).2.1; rwa [List.length_replicate, Int.toNat_natCast] at h
    have HCO := Aside0.mk hco
    clear gb gl HG cl hco
    go_loopg [21] (l.length) (fun d v21 wr => ∃ (i : Int) (b : List Int), v21 = .int .i64 i ∧ Aside0 (0 ≤ i ∧ i + d = l.length) ∧ Aside0 (b = bal m l f i.toNat) ∧ Aside0 (allR (flowOkAt l f) 0 i.toNat = true) ∧ Aside0 (Kd.R (Kd.int .i64) 3 wr w.heap.size (fun _ => True) (.slice (some ⟨go, 0, none⟩) m co) b) ∧ Aside0 (Below w.heap.size w wr))
    case atStart => exact ⟨0, List.replicate (m : Int).toNat 0, rfl, ⟨by omega⟩, ⟨by show _ = bal m l f 0; unfold bal; rw [foldR_end (Nat.le_refl _)]⟩, ⟨allR_end (Nat.le_refl _)⟩, ⟨HO.out⟩, ⟨HB.out⟩⟩
    case round =>
      clear HO HB
      obtain ⟨i, b, rfl, HI, HBL, HOK, HR, HB⟩ := hrel
      have h0 := HI.out.1
      cases gk with
      | zero =>
        have hd : decide (i < (l.length : Int)) = false := decide_eq_false (by have := HI.out.2; omega)
        have hw : wrap64 ((m : Int) - 1) = (m : Int) - 1 := by have := HN.out; rw [w64 (by omega) (by omega)]
        have s0 := eq_true (show (1 : Int) ≤ (m : Int) - 1 by have := HN.out; omega)
        have s1 := eq_true (show (m : Int) - 1 ≤ (m : Int) by omega)
        have s2 := eq_true (show (0 : Int) ≤ (m : Int) - 1 by have := HN.out; omega)
        have s4 := eq_true (show (1 : Int) ≤ ((m - 1 : Nat) : Int) by have := HN.out; omega)
        have s5 := eq_true (show (1 : Int) ≤ (m : Int) by have := HN.out; omega)
        have s6 := eq_true (show (m : Int) - 1 ≤ (co : Int) by have := HCO.out; omega)
        have s7 := eq_false (show ¬ co = 1 by have := HCO.out; have := HN.out; omega)
        have hzero : (0 : Int) ≤ 0 := Int.le_refl 0
        go_wp2_with fail
        go_loopg [68] (m - 2) (fun d v68 wr' => ∃ j : Int, v68 = .int .i64 j ∧ Aside0 (0 ≤ j ∧ j + d = (m : Int) - 2) ∧ Aside0 (allR (balOk m l f) 0 j.toNat = true) ∧ wr' = wr)
        case atStart => exact ⟨0, rfl, ⟨by have := HN.out; omega⟩, ⟨allR_end (Nat.le_refl _)⟩, rfl⟩
        case round =>
          obtain ⟨j, rfl, HJ, HZ, rfl⟩ := hrel
          cases gk with
          | zero =>
            have j0 : decide (j < (((m - 1 - 1 : Nat)) : Int)) = false := decide_eq_false (by have := HJ.out; omega)
            have j1 : decide (j < (m : Int) - 1 - 1) = false := decide_eq_false (by have := HJ.out; omega)
            have hr : flowsB m l f = true := by
              have e1 : i.toNat = l.length := by have := HI.out; omega
              have e2 : j.toNat = ((m : Int) - 2).toNat := by have := HJ.out; omega
              unfold flowsB
              rw [decide_eq_true HLEN.out, ← e2, HZ.out, ← e1, HOK.out]
              rfl
            have HRET := Aside0.mk hr
            clear hr
            go_wp2_with fail
            go_ret
            exact ⟨congrArg (fun z => Ending.returned (.bool z)) HRET.out.symm, HB.out⟩
          | succ d =>
            have hj := HJ.out
            have j0 : decide (j < (((m - 1 - 1 : Nat)) : Int)) = true := decide_eq_true (by omega)
            have j1 : decide (j < (m : Int) - 1 - 1) = true := decide_eq_true (by omega)
            have j2 := eq_true hj.1
            have j3 := eq_true (show j < (((m - 1 - 1 : Nat)) : Int) by omega)
            have j4 := eq_true (show j < (m : Int) - 1 - 1 by omega)
            have hlb : (b.length : Int) = m := by rw [HBL.out, bal_len]; omega
            obtain ⟨hz, hf⟩ := Kd.R_celln 0 HR.out (j + 1) (by omega) (by omega)
            have hz : wr.cell? ⟨go, (j + 1).toNat, none⟩ = some (.int .i64 (rd b (j + 1))) := hz
            rw [show (j + 1).toNat = 1 + j.toNat by omega] at hz
            obtain ⟨y, ey⟩ : ∃ y, y = rd b (j + 1) := ⟨_, rfl⟩
            rw [← ey] at hz
            have ey : y = b.getD (j + 1).toNat 0 := ey
            rw [show (j + 1).toNat = j.toNat + 1 by omega, HBL.out, show i.toNat = l.length by have := HI.out; omega] at ey
            have EY := Aside0.mk ey
            have HJ' := Aside0.mk hj
            clear hf hj hlb ey
            by_cases hy : y = 0
            · have y1 : (y == 0) = true := beq_iff_eq.mpr hy
              have y2 : (y != 0) = false := bne_eq_false_iff_eq.mpr hy
              have HY0 := Aside0.mk hy
              clear hy
              go_wp2_with fail
              go_roundg d
              case measure => omega
              case rel =>
                have hj := HJ.out
                have hN := HN.out
                refine ⟨j + 1, by rw [w64 (by omega) (by omega)], ⟨by omega⟩, ⟨?_⟩, rfl⟩
                rw [show (j + 1).toNat = j.toNat + 1 by omega, allR_iff]
                intro q hq1 hq2
                by_cases hq : q = j.toNat
                · subst hq
                  unfold balOk
                  rw [decide_eq_true_eq, ← EY.out]
                  exact HY0.out
                · exact allR_iff.1 HZ.out q hq1 (by omega)
            · have y1 : (y == 0) = false := beq_eq_false_iff_ne.mpr hy
              have y2 : (y != 0) = true := bne_iff_ne.mpr hy
              have hr : flowsB m l f = false := by
                unfold flowsB
                rw [Bool.and_eq_false_iff]
                refine Or.inr ?_
                rw [Bool.and_eq_false_iff]
                refine Or.inr ?_
                rw [← Bool.not_eq_true, allR_iff]
                intro hc
                have hc := hc j.toNat (Nat.zero_le _) (by have := HJ.out; omega)
                unfold balOk at hc
                rw [decide_eq_true_eq, ← EY.out] at hc
                exact hy hc
              have HRET := Aside0.mk hr
              clear hr hy
              go_wp2_with fail
              go_ret
              exact ⟨congrArg (fun z => Ending.returned (.bool z)) HRET.out.symm, HB.out⟩
      | succ d =>
        have hlt : i < (l.length : Int) := by have := HI.out.2; omega
        have hd : decide (i < (l.length : Int)) = true := decide_eq_true hlt
        have hlf : i < (f.length : Int) := by have := HLEN.out; omega
        obtain ⟨ad, eA, hx0, hx1, hx2⟩ := at_T99 H1.out i h0 hlt
        cases eA
        replace hx0 := (HB.out.cell (World.block_lt_of_cell? w _ hx0)).trans hx0
        replace hx1 := (HB.out.cell (World.block_lt_of_cell? w _ hx1)).trans hx1
        replace hx2 := (HB.out.cell (World.block_lt_of_cell? w _ hx2)).trans hx2
        obtain ⟨af, eF, hy⟩ := Kd.at_int H2.out i h0 hlf
        cases eF
        have HY := Aside0.mk hy
        clear hy
        have q0 := eq_true h0
        have q1 := eq_true hlt
        have q2 := eq_true hlf
        have H0 := Aside0.mk h0
        have HLT := Aside0.mk hlt
        clear h0 hlt hlf
        obtain ⟨x, ex⟩ : ∃ x, x = rd_T99 l i := ⟨_, rfl⟩
        rw [← ex] at hx0 hx1 hx2
        have EX := Aside0.mk ex
        obtain ⟨y, ey⟩ : ∃ y, y = rd f i := ⟨_, rfl⟩
        rw [← ey] at HY
        have EY := Aside0.mk ey
        clear ex ey
        go_wp2_with (first | ((with_reducible refine gate_dst (N := 9) rfl ?_); (try (refine gate_guard (by rfl) ?_; dsimp only)); refine box_event ?hg (N := 9) ?hd (cs := #[.int .i64 0, .int .i64 0, .int .i64 0]) (t := 99) ?hr ?_; (case hd => rfl); (case hg => rfl); (case hr => first | (go_simp; done) | (go_simp; rfl)); intro g9 hg w11 hbox hb; have n0_ := Aside0.mk (below_step HB.out hb); have n1_ := Aside0.mk hbox; have n2_ := Aside0.mk (Kd.R_below HR.out hb); have n3_ := Aside0.mk ((by rw [hg]; exact below_size HB.out : w.heap.size ≤ g9)); clear HB HR; have HB := n0_; have BK := n1_; have HR := n2_; have GE := n3_; clear n0_ n1_ n2_ n3_; clear hb hbox hg; have hcz0 : w11.cell? ⟨g9, 0, none⟩ = some (.int .i64 0) := (blk_cell BK.out 0).trans rfl; have hcz1 : w11.cell? ⟨g9, 1, none⟩ = some (.int .i64 0) := (blk_cell BK.out 1).trans rfl; have hcz2 : w11.cell? ⟨g9, 2, none⟩ = some (.int .i64 0) := (blk_cell BK.out 2).trans rfl; have hfz0 := blk_frozen BK.out 0; have hfz1 := blk_frozen BK.out 1; have hfz2 := blk_frozen BK.out 2))
        clear hcz0 hcz1 hcz2 hfz0 hfz1 hfz2 hx0 hx1 hx2
        have n0_ : Aside0 (Kd.R (Kd.int .i64) 3 (((w11.setCell ⟨g9, 0, none⟩ (.int .i64 x.f0)).setCell ⟨g9, 1, none⟩ (.int .i64 x.f1)).setCell ⟨g9, 2, none⟩ (.int .i64 x.f2)) w.heap.size (fun _ => True) (.slice (some ⟨go, 0, none⟩) m co) b) := ⟨Kd.R_mono (Kd.R_far (p := ⟨g9, 2, none⟩) (Kd.R_far (p := ⟨g9, 1, none⟩) (Kd.R_far (p := ⟨g9, 0, none⟩) (Kd.R_types HR.out BK.out (by decide)) (fun _ hk => hk.2) (.int .i64 x.f0)) (fun _ hk => hk.2) (.int .i64 x.f1)) (fun _ hk => hk.2) (.int .i64 x.f2)) (fun _ hk => trivial)⟩
        have n1_ : Aside0 (((((w11.setCell ⟨g9, 0, none⟩ (.int .i64 x.f0)).setCell ⟨g9, 1, none⟩ (.int .i64 x.f1)).setCell ⟨g9, 2, none⟩ (.int .i64 x.f2))).heap[g9]? = some (.cells #[.int .i64 x.f0, .int .i64 x.f1, .int .i64 x.f2] 99 (0, 0))) := ⟨by refine blk_put (cs := #[.int .i64 x.f0, .int .i64 x.f1, .int .i64 0]) ?_ 2 _ rfl; refine blk_put (cs := #[.int .i64 x.f0, .int .i64 0, .int .i64 0]) ?_ 1 _ rfl; refine blk_put (cs := #[.int .i64 0, .int .i64 0, .int .i64 0]) ?_ 0 _ rfl; exact BK.out⟩
        have n2_ : Aside0 (Below w.heap.size w (((w11.setCell ⟨g9, 0, none⟩ (.int .i64 x.f0)).setCell ⟨g9, 1, none⟩ (.int .i64 x.f1)).setCell ⟨g9, 2, none⟩ (.int .i64 x.f2))) := ⟨below_set (below_set (below_set HB.out GE.out) GE.out) GE.out⟩
        clear HR BK HB
        generalize (((w11.setCell ⟨g9, 0, none⟩ (.int .i64 x.f0)).setCell ⟨g9, 1, none⟩ (.int .i64 x.f1)).setCell ⟨g9, 2, none⟩ (.int .i64 x.f2)) = w21 at n0_ n1_ n2_ ⊢
        have HR := Aside0.mk (Kd.R_drew n0_.out)
        have BK := Aside0.mk (blk_drew n1_.out)
        have HB := Aside0.mk (below_drew1 n2_.out)
        clear n0_ n1_ n2_
        have hy := (HB.out.cell (World.block_lt_of_cell? w _ HY.out)).trans HY.out
        by_cases y0 : y < 0
        · have dy : decide (y < 0) = true := decide_eq_true y0
          have hr : flowsB m l f = false := by
            unfold flowsB
            rw [Bool.and_eq_false_iff]
            refine Or.inr ?_
            rw [Bool.and_eq_false_iff]
            refine Or.inl ?_
            rw [← Bool.not_eq_true, allR_iff]
            intro hc
            have hc := hc i.toNat (Nat.zero_le _) (by have := H0.out; have := HLT.out; omega)
            unfold flowOkAt at hc
            rw [decide_eq_true_eq] at hc
            have e : y = f.getD i.toNat 0 := EY.out
            omega
          have HRET := Aside0.mk hr
          clear hr
          refine start_ (n := 14) (S := fun w' => w'.cell? ⟨g9, 0, none⟩ = some (.int .i64 x.f0) ∧ w'.cell? (af.add i.toNat) = some (.int .i64 y)) (ds := []) #[false, false, false, false, false, false, false, false, false, false, false, false, false, false] (by kernel_rfl) rfl rfl ⟨(blk_cell BK.out 0).trans rfl, hy⟩ (fun hHeld => ?_)
          refine with_tabW impl_isFlow_tab7 impl_isFlow_bits7 (fun HT_ HW_ => ?_)
          generalize w21.drew = w22 at HR BK HB hy hHeld ⊢
          refine pure_ (i := 0) (N := some 26) (v := ?_) (a' := ?_) #[true, false, false, false, false, false, false, false, false, false, false, false, false, false] rfl rfl (any_of HT_.out (by kernel_rfl)) (fun _ _ _ h => h) (Or.inl ⟨by rfl, ?_⟩) ?_ ?_
          rotate_left
          · intro w'
            go_simp
            with_reducible rfl
          rotate_left
          · simp only [Act.put, List.setIfInBounds_toArray, List.set_cons_zero, List.set_cons_succ, i64_w, i32_w]
            rfl
          refine pure_ (i := 1) (N := some 27) (v := ?_) (a' := ?_) #[true, true, false, false, false, false, false, false, false, false, false, false, false, false] rfl rfl (any_of HT_.out (by kernel_rfl)) (fun _ _ _ h => h) (Or.inl ⟨by rfl, ?_⟩) ?_ ?_
          rotate_left
          · intro w'
            go_simp
            with_reducible rfl
          rotate_left
          · simp only [Act.put, List.setIfInBounds_toArray, List.set_cons_zero, List.set_cons_succ, i64_w, i32_w]
            rfl
          refine pure_ (i := 2) (N := some 28) (v := ?_) (a' := ?_) #[true, true, true, false, false, false, false, false, false, false, false, false, false, false] rfl rfl (any_of HT_.out (by kernel_rfl)) (fun _ _ _ h => h) (Or.inl ⟨by rfl, ?_⟩) ?_ ?_
          rotate_left
          · intro w'
            go_simp
            with_reducible rfl
          rotate_left
          · simp only [Act.put, List.setIfInBounds_toArray, List.set_cons_zero, List.set_cons_succ, i64_w, i32_w]
            rfl
          refine take_ (i := 3) (N := some 29) (v := ?_) (a' := ?_) #[true, true, true, true, false, false, false, false, false, false, false, false, false, false] rfl rfl (take_ofW HT_.out HW_.out (by kernel_rfl)) (fun _ _ _ h => h) (Or.inl ⟨by rfl, ?_⟩) hHeld ?_ ?_
          rotate_left
          · rintro w' ⟨s0, s1⟩
            go_simp
            with_reducible rfl
          rotate_left
          · simp only [Act.put, List.setIfInBounds_toArray, List.set_cons_zero, List.set_cons_succ, i64_w, i32_w]
            rfl
          refine pure_ (i := 4) (N := some 30) (v := ?_) (a' := ?_) #[true, true, true, true, true, false, false, false, false, false, false, false, false, false] rfl rfl (any_of HT_.out (by kernel_rfl)) (fun _ _ _ h => h) (Or.inl ⟨by rfl, ?_⟩) ?_ ?_
          rotate_left
          · intro w'
            go_simp
            with_reducible rfl
          rotate_left
          · simp only [Act.put, List.setIfInBounds_toArray, List.set_cons_zero, List.set_cons_succ, i64_w, i32_w]
            rfl
          refine pure_ (i := 5) (N := some 31) (v := ?_) (a' := ?_) #[true, true, true, true, true, true, false, false, false, false, false, false, false, false] rfl rfl (any_of HT_.out (by kernel_rfl)) (fun _ _ _ h => h) (Or.inl ⟨by rfl, ?_⟩) ?_ ?_
          rotate_left
          · intro w'
            go_simp
            with_reducible rfl
          rotate_left
          · simp only [Act.put, List.setIfInBounds_toArray, List.set_cons_zero, List.set_cons_succ, i64_w, i32_w]
            rfl
          refine pure_ (i := 6) (N := some 32) (v := undef) (a' := ?_) #[true, true, true, true, true, true, true, false, false, false, false, false, false, false] rfl rfl (any_of HT_.out (by kernel_rfl)) (fun _ _ _ h => h) (Or.inr ⟨by rfl, rfl⟩) ?_ ?_
          rotate_left
          · simp only [Act.put, List.setIfInBounds_toArray, List.set_cons_zero, List.set_cons_succ, i64_w, i32_w]
            rfl
          refine pure_ (i := 7) (N := some 33) (v := undef) (a' := ?_) #[true, true, true, true, true, true, true, true, false, false, false, false, false, false] rfl rfl (any_of HT_.out (by kernel_rfl)) (fun _ _ _ h => h) (Or.inr ⟨by rfl, rfl⟩) ?_ ?_
          rotate_left
          · simp only [Act.put, List.setIfInBounds_toArray, List.set_cons_zero, List.set_cons_succ, i64_w, i32_w]
            rfl
          refine pure_ (i := 8) (N := some 34) (v := undef) (a' := ?_) #[true, true, true, true, true, true, true, true, true, false, false, false, false, false] rfl rfl (any_of HT_.out (by kernel_rfl)) (fun _ _ _ h => h) (Or.inr ⟨by rfl, rfl⟩) ?_ ?_
          rotate_left
          · simp only [Act.put, List.setIfInBounds_toArray, List.set_cons_zero, List.set_cons_succ, i64_w, i32_w]
            rfl
          refine pure_ (i := 10) (N := some 36) (v := undef) (a' := ?_) #[true, true, true, true, true, true, true, true, true, false, true, false, false, false] rfl rfl (any_of HT_.out (by kernel_rfl)) (fun _ _ _ h => h) (Or.inr ⟨by rfl, rfl⟩) ?_ ?_
          rotate_left
          · simp only [Act.put, List.setIfInBounds_toArray, List.set_cons_zero, List.set_cons_succ, i64_w, i32_w]
            rfl
          refine pure_ (i := 9) (N := some 35) (v := undef) (a' := ?_) #[true, true, true, true, true, true, true, true, true, true, true, false, false, false] rfl rfl (any_of HT_.out (by kernel_rfl)) (fun _ _ _ h => h) (Or.inr ⟨by rfl, rfl⟩) ?_ ?_
          rotate_left
          · simp only [Act.put, List.setIfInBounds_toArray, List.set_cons_zero, List.set_cons_succ, i64_w, i32_w]
            rfl
          refine pure_ (i := 11) (N := some 37) (v := undef) (a' := ?_) #[true, true, true, true, true, true, true, true, true, true, true, true, false, false] rfl rfl (any_of HT_.out (by kernel_rfl)) (fun _ _ _ h => h) (Or.inr ⟨by rfl, rfl⟩) ?_ ?_
          rotate_left
          · simp only [Act.put, List.setIfInBounds_toArray, List.set_cons_zero, List.set_cons_succ, i64_w, i32_w]
            rfl
          refine pure_ (i := 12) (N := some 38) (v := undef) (a' := ?_) #[true, true, true, true, true, true, true, true, true, true, true, true, true, false] rfl rfl (any_of HT_.out (by kernel_rfl)) (fun _ _ _ h => h) (Or.inr ⟨by rfl, rfl⟩) ?_ ?_
          rotate_left
          · simp only [Act.put, List.setIfInBounds_toArray, List.set_cons_zero, List.set_cons_succ, i64_w, i32_w]
            rfl
          refine pure_ (i := 13) (N := some 39) (v := ?_) (a' := ?_) #[true, true, true, true, true, true, true, true, true, true, true, true, true, true] rfl rfl (any_of HT_.out (by kernel_rfl)) (fun _ _ _ h => h) (Or.inl ⟨by rfl, ?_⟩) ?_ ?_
          rotate_left
          · intro w'
            go_simp
            with_reducible rfl
          rotate_left
          · simp only [Act.put, List.setIfInBounds_toArray, List.set_cons_zero, List.set_cons_succ, i64_w, i32_w]
            rfl
          refine done_ (done_of HT_.out (by kernel_rfl)) ?_
          try go_wp2
          go_ret
          exact ⟨congrArg (fun z => Ending.returned (.bool z)) HRET.out.symm, HB.out⟩
        · have dy : decide (y < 0) = false := decide_eq_false y0
          by_cases y1 : y > x.f2
          · have dz : decide (x.f2 < y) = true := decide_eq_true y1
            have hr : flowsB m l f = false := by
              unfold flowsB
              rw [Bool.and_eq_false_iff]
              refine Or.inr ?_
              rw [Bool.and_eq_false_iff]
              refine Or.inl ?_
              rw [← Bool.not_eq_true, allR_iff]
              intro hc
              have hc := hc i.toNat (Nat.zero_le _) (by have := H0.out; have := HLT.out; omega)
              unfold flowOkAt at hc
              rw [decide_eq_true_eq] at hc
              have e : y = f.getD i.toNat 0 := EY.out
              have e2 : x = l.getD i.toNat z99 := EX.out
              rw [← e2] at hc
              omega
            have HRET := Aside0.mk hr
            clear hr
            refine start_ (n := 14) (S := fun w' => w'.cell? ⟨g9, 0, none⟩ = some (.int .i64 x.f0) ∧ w'.cell? ⟨g9, 1, none⟩ = some (.int .i64 x.f1) ∧ w'.cell? ⟨g9, 2, none⟩ = some (.int .i64 x.f2) ∧ w'.cell? (af.add i.toNat) = some (.int .i64 y)) (ds := []) #[false, false, false, false, false, false, false, false, false, false, false, false, false, false] (by kernel_rfl) rfl rfl ⟨(blk_cell BK.out 0).trans rfl, (blk_cell BK.out 1).trans rfl, (blk_cell BK.out 2).trans rfl, hy⟩ (fun hHeld => ?_)
            refine with_tabW impl_isFlow_tab7 impl_isFlow_bits7 (fun HT_ HW_ => ?_)
            generalize w21.drew = w22 at HR BK HB hy hHeld ⊢
            refine pure_ (i := 0) (N := some 26) (v := ?_) (a' := ?_) #[true, false, false, false, false, false, false, false, false, false, false, false, false, false] rfl rfl (any_of HT_.out (by kernel_rfl)) (fun _ _ _ h => h) (Or.inl ⟨by rfl, ?_⟩) ?_ ?_
            rotate_left
            · intro w'
              go_simp
              with_reducible rfl
            rotate_left
            · simp only [Act.put, List.setIfInBounds_toArray, List.set_cons_zero, List.set_cons_succ, i64_w, i32_w]
              rfl
            refine pure_ (i := 1) (N := some 27) (v := ?_) (a' := ?_) #[true, true, false, false, false, false, false, false, false, false, false, false, false, false] rfl rfl (any_of HT_.out (by kernel_rfl)) (fun _ _ _ h => h) (Or.inl ⟨by rfl, ?_⟩) ?_ ?_
            rotate_left
            · intro w'
              go_simp
              with_reducible rfl
            rotate_left
            · simp only [Act.put, List.setIfInBounds_toArray, List.set_cons_zero, List.set_cons_succ, i64_w, i32_w]
              rfl
            refine pure_ (i := 2) (N := some 28) (v := ?_) (a' := ?_) #[true, true, true, false, false, false, false, false, false, false, false, false, false, false] rfl rfl (any_of HT_.out (by kernel_rfl)) (fun _ _ _ h => h) (Or.inl ⟨by rfl, ?_⟩) ?_ ?_
            rotate_left
            · intro w'
              go_simp
              with_reducible rfl
            rotate_left
            · simp only [Act.put, List.setIfInBounds_toArray, List.set_cons_zero, List.set_cons_succ, i64_w, i32_w]
              rfl
            refine take_ (i := 3) (N := some 29) (v := ?_) (a' := ?_) #[true, true, true, true, false, false, false, false, false, false, false, false, false, false] rfl rfl (take_ofW HT_.out HW_.out (by kernel_rfl)) (fun _ _ _ h => h) (Or.inl ⟨by rfl, ?_⟩) hHeld ?_ ?_
            rotate_left
            · rintro w' ⟨s0, s1, s2, s3⟩
              go_simp
              with_reducible rfl
            rotate_left
            · simp only [Act.put, List.setIfInBounds_toArray, List.set_cons_zero, List.set_cons_succ, i64_w, i32_w]
              rfl
            refine pure_ (i := 4) (N := some 30) (v := ?_) (a' := ?_) #[true, true, true, true, true, false, false, false, false, false, false, false, false, false] rfl rfl (any_of HT_.out (by kernel_rfl)) (fun _ _ _ h => h) (Or.inl ⟨by rfl, ?_⟩) ?_ ?_
            rotate_left
            · intro w'
              go_simp
              with_reducible rfl
            rotate_left
            · simp only [Act.put, List.setIfInBounds_toArray, List.set_cons_zero, List.set_cons_succ, i64_w, i32_w]
              rfl
            refine pure_ (i := 5) (N := some 31) (v := ?_) (a' := ?_) #[true, true, true, true, true, true, false, false, false, false, false, false, false, false] rfl rfl (any_of HT_.out (by kernel_rfl)) (fun _ _ _ h => h) (Or.inl ⟨by rfl, ?_⟩) ?_ ?_
            rotate_left
            · intro w'
              go_simp
              with_reducible rfl
            rotate_left
            · simp only [Act.put, List.setIfInBounds_toArray, List.set_cons_zero, List.set_cons_succ, i64_w, i32_w]
              rfl
            refine pure_ (i := 6) (N := some 32) (v := ?_) (a' := ?_) #[true, true, true, true, true, true, true, false, false, false, false, false, false, false] rfl rfl (any_of HT_.out (by kernel_rfl)) (fun _ _ _ h => h) (Or.inl ⟨by rfl, ?_⟩) ?_ ?_
            rotate_left
            · intro w'
              go_simp
              with_reducible rfl
            rotate_left
            · simp only [Act.put, List.setIfInBounds_toArray, List.set_cons_zero, List.set_cons_succ, i64_w, i32_w]
              rfl
            refine pure_ (i := 7) (N := some 33) (v := ?_) (a' := ?_) #[true, true, true, true, true, true, true, true, false, false, false, false, false, false] rfl rfl (any_of HT_.out (by kernel_rfl)) (fun _ _ _ h => h) (Or.inl ⟨by rfl, ?_⟩) ?_ ?_
            rotate_left
            · intro w'
              go_simp
              with_reducible rfl
            rotate_left
            · simp only [Act.put, List.setIfInBounds_toArray, List.set_cons_zero, List.set_cons_succ, i64_w, i32_w]
              rfl
            refine pure_ (i := 8) (N := some 34) (v := ?_) (a' := ?_) #[true, true, true, true, true, true, true, true, true, false, false, false, false, false] rfl rfl (any_of HT_.out (by kernel_rfl)) (fun _ _ _ h => h) (Or.inl ⟨by rfl, ?_⟩) ?_ ?_
            rotate_left
            · intro w'
              go_simp
              with_reducible rfl
            rotate_left
            · simp only [Act.put, List.setIfInBounds_toArray, List.set_cons_zero, List.set_cons_succ, i64_w, i32_w]
              rfl
            refine pure_ (i := 10) (N := some 36) (v := ?_) (a' := ?_) #[true, true, true, true, true, true, true, true, true, false, true, false, false, false] rfl rfl (any_of HT_.out (by kernel_rfl)) (fun _ _ _ h => h) (Or.inl ⟨by rfl, ?_⟩) ?_ ?_
            rotate_left
            · intro w'
              go_simp
              with_reducible rfl
            rotate_left
            · simp only [Act.put, List.setIfInBounds_toArray, List.set_cons_zero, List.set_cons_succ, i64_w, i32_w]
              rfl
            refine take_ (i := 9) (N := some 35) (v := ?_) (a' := ?_) #[true, true, true, true, true, true, true, true, true, true, true, false, false, false] rfl rfl (take_ofW HT_.out HW_.out (by kernel_rfl)) (fun _ _ _ h => h) (Or.inl ⟨by rfl, ?_⟩) hHeld ?_ ?_
            rotate_left
            · rintro w' ⟨s0, s1, s2, s3⟩
              go_simp
              with_reducible rfl
            rotate_left
            · simp only [Act.put, List.setIfInBounds_toArray, List.set_cons_zero, List.set_cons_succ, i64_w, i32_w]
              rfl
            refine take_ (i := 11) (N := some 37) (v := ?_) (a' := ?_) #[true, true, true, true, true, true, true, true, true, true, true, true, false, false] rfl rfl (take_ofW HT_.out HW_.out (by kernel_rfl)) (fun _ _ _ h => h) (Or.inl ⟨by rfl, ?_⟩) hHeld ?_ ?_
            rotate_left
            · rintro w' ⟨s0, s1, s2, s3⟩
              go_simp
              with_reducible rfl
            rotate_left
            · simp only [Act.put, List.setIfInBounds_toArray, List.set_cons_zero, List.set_cons_succ, i64_w, i32_w]
              rfl
            refine pure_ (i := 12) (N := some 38) (v := ?_) (a' := ?_) #[true, true, true, true, true, true, true, true, true, true, true, true, true, false] rfl rfl (any_of HT_.out (by kernel_rfl)) (fun _ _ _ h => h) (Or.inl ⟨by rfl, ?_⟩) ?_ ?_
            rotate_left
            · intro w'
              go_simp
              with_reducible rfl
            rotate_left
            · simp only [Act.put, List.setIfInBounds_toArray, List.set_cons_zero, List.set_cons_succ, i64_w, i32_w]
              rfl
            refine pure_ (i := 13) (N := some 39) (v := ?_) (a' := ?_) #[true, true, true, true, true, true, true, true, true, true, true, true, true, true] rfl rfl (any_of HT_.out (by kernel_rfl)) (fun _ _ _ h => h) (Or.inl ⟨by rfl, ?_⟩) ?_ ?_
            rotate_left
            · intro w'
              go_simp
              with_reducible rfl
            rotate_left
            · simp only [Act.put, List.setIfInBounds_toArray, List.set_cons_zero, List.set_cons_succ, i64_w, i32_w]
              rfl
            refine done_ (done_of HT_.out (by kernel_rfl)) ?_
            try go_wp2
            go_ret
            exact ⟨congrArg (fun z => Ending.returned (.bool z)) HRET.out.symm, HB.out⟩
          · have dz : decide (x.f2 < y) = false := decide_eq_false y1
            refine start_ (n := 14) (S := fun w' => w'.cell? ⟨g9, 0, none⟩ = some (.int .i64 x.f0) ∧ w'.cell? ⟨g9, 1, none⟩ = some (.int .i64 x.f1) ∧ w'.cell? ⟨g9, 2, none⟩ = some (.int .i64 x.f2) ∧ w'.cell? (af.add i.toNat) = some (.int .i64 y)) (ds := []) #[false, false, false, false, false, false, false, false, false, false, false, false, false, false] (by kernel_rfl) rfl rfl ⟨(blk_cell BK.out 0).trans rfl, (blk_cell BK.out 1).trans rfl, (blk_cell BK.out 2).trans rfl, hy⟩ (fun hHeld => ?_)
            refine with_tabW impl_isFlow_tab7 impl_isFlow_bits7 (fun HT_ HW_ => ?_)
            generalize w21.drew = w22 at HR BK HB hy hHeld ⊢
            refine pure_ (i := 0) (N := some 26) (v := ?_) (a' := ?_) #[true, false, false, false, false, false, false, false, false, false, false, false, false, false] rfl rfl (any_of HT_.out (by kernel_rfl)) (fun _ _ _ h => h) (Or.inl ⟨by rfl, ?_⟩) ?_ ?_
            rotate_left
            · intro w'
              go_simp
              with_reducible rfl
            rotate_left
            · simp only [Act.put, List.setIfInBounds_toArray, List.set_cons_zero, List.set_cons_succ, i64_w, i32_w]
              rfl
            refine pure_ (i := 1) (N := some 27) (v := ?_) (a' := ?_) #[true, true, false, false, false, false, false, false, false, false, false, false, false, false] rfl rfl (any_of HT_.out (by kernel_rfl)) (fun _ _ _ h => h) (Or.inl ⟨by rfl, ?_⟩) ?_ ?_
            rotate_left
            · intro w'
              go_simp
              with_reducible rfl
            rotate_left
            · simp only [Act.put, List.setIfInBounds_toArray, List.set_cons_zero, List.set_cons_succ, i64_w, i32_w]
              rfl
            refine pure_ (i := 2) (N := some 28) (v := ?_) (a' := ?_) #[true, true, true, false, false, false, false, false, false, false, false, false, false, false] rfl rfl (any_of HT_.out (by kernel_rfl)) (fun _ _ _ h => h) (Or.inl ⟨by rfl, ?_⟩) ?_ ?_
            rotate_left
            · intro w'
              go_simp
              with_reducible rfl
            rotate_left
            · simp only [Act.put, List.setIfInBounds_toArray, List.set_cons_zero, List.set_cons_succ, i64_w, i32_w]
              rfl
            refine take_ (i := 3) (N := some 29) (v := ?_) (a' := ?_) #[true, true, true, true, false, false, false, false, false, false, false, false, false, false] rfl rfl (take_ofW HT_.out HW_.out (by kernel_rfl)) (fun _ _ _ h => h) (Or.inl ⟨by rfl, ?_⟩) hHeld ?_ ?_
            rotate_left
            · rintro w' ⟨s0, s1, s2, s3⟩
              go_simp
              with_reducible rfl
            rotate_left
            · simp only [Act.put, List.setIfInBounds_toArray, List.set_cons_zero, List.set_cons_succ, i64_w, i32_w]
              rfl
            refine pure_ (i := 4) (N := some 30) (v := ?_) (a' := ?_) #[true, true, true, true, true, false, false, false, false, false, false, false, false, false] rfl rfl (any_of HT_.out (by kernel_rfl)) (fun _ _ _ h => h) (Or.inl ⟨by rfl, ?_⟩) ?_ ?_
            rotate_left
            · intro w'
              go_simp
              with_reducible rfl
            rotate_left
            · simp only [Act.put, List.setIfInBounds_toArray, List.set_cons_zero, List.set_cons_succ, i64_w, i32_w]
              rfl
            refine pure_ (i := 5) (N := some 31) (v := ?_) (a' := ?_) #[true, true, true, true, true, true, false, false, false, false, false, false, false, false] rfl rfl (any_of HT_.out (by kernel_rfl)) (fun _ _ _ h => h) (Or.inl ⟨by rfl, ?_⟩) ?_ ?_
            rotate_left
            · intro w'
              go_simp
              with_reducible rfl
            rotate_left
            · simp only [Act.put, List.setIfInBounds_toArray, List.set_cons_zero, List.set_cons_succ, i64_w, i32_w]
              rfl
            refine pure_ (i := 6) (N := some 32) (v := ?_) (a' := ?_) #[true, true, true, true, true, true, true, false, false, false, false, false, false, false] rfl rfl (any_of HT_.out (by kernel_rfl)) (fun _ _ _ h => h) (Or.inl ⟨by rfl, ?_⟩) ?_ ?_
            rotate_left
            · intro w'
              go_simp
              with_reducible rfl
            rotate_left
            · simp only [Act.put, List.setIfInBounds_toArray, List.set_cons_zero, List.set_cons_succ, i64_w, i32_w]
              rfl
            refine pure_ (i := 7) (N := some 33) (v := ?_) (a' := ?_) #[true, true, true, true, true, true, true, true, false, false, false, false, false, false] rfl rfl (any_of HT_.out (by kernel_rfl)) (fun _ _ _ h => h) (Or.inl ⟨by rfl, ?_⟩) ?_ ?_
            rotate_left
            · intro w'
              go_simp
              with_reducible rfl
            rotate_left
            · simp only [Act.put, List.setIfInBounds_toArray, List.set_cons_zero, List.set_cons_succ, i64_w, i32_w]
              rfl
            refine pure_ (i := 8) (N := some 34) (v := ?_) (a' := ?_) #[true, true, true, true, true, true, true, true, true, false, false, false, false, false] rfl rfl (any_of HT_.out (by kernel_rfl)) (fun _ _ _ h => h) (Or.inl ⟨by rfl, ?_⟩) ?_ ?_
            rotate_left
            · intro w'
              go_simp
              with_reducible rfl
            rotate_left
            · simp only [Act.put, List.setIfInBounds_toArray, List.set_cons_zero, List.set_cons_succ, i64_w, i32_w]
              rfl
            refine pure_ (i := 10) (N := some 36) (v := ?_) (a' := ?_) #[true, true, true, true, true, true, true, true, true, false, true, false, false, false] rfl rfl (any_of HT_.out (by kernel_rfl)) (fun _ _ _ h => h) (Or.inl ⟨by rfl, ?_⟩) ?_ ?_
            rotate_left
            · intro w'
              go_simp
              with_reducible rfl
            rotate_left
            · simp only [Act.put, List.setIfInBounds_toArray, List.set_cons_zero, List.set_cons_succ, i64_w, i32_w]
              rfl
            refine take_ (i := 9) (N := some 35) (v := ?_) (a' := ?_) #[true, true, true, true, true, true, true, true, true, true, true, false, false, false] rfl rfl (take_ofW HT_.out HW_.out (by kernel_rfl)) (fun _ _ _ h => h) (Or.inl ⟨by rfl, ?_⟩) hHeld ?_ ?_
            rotate_left
            · rintro w' ⟨s0, s1, s2, s3⟩
              go_simp
              with_reducible rfl
            rotate_left
            · simp only [Act.put, List.setIfInBounds_toArray, List.set_cons_zero, List.set_cons_succ, i64_w, i32_w]
              rfl
            refine take_ (i := 11) (N := some 37) (v := ?_) (a' := ?_) #[true, true, true, true, true, true, true, true, true, true, true, true, false, false] rfl rfl (take_ofW HT_.out HW_.out (by kernel_rfl)) (fun _ _ _ h => h) (Or.inl ⟨by rfl, ?_⟩) hHeld ?_ ?_
            rotate_left
            · rintro w' ⟨s0, s1, s2, s3⟩
              go_simp
              with_reducible rfl
            rotate_left
            · simp only [Act.put, List.setIfInBounds_toArray, List.set_cons_zero, List.set_cons_succ, i64_w, i32_w]
              rfl
            refine pure_ (i := 12) (N := some 38) (v := ?_) (a' := ?_) #[true, true, true, true, true, true, true, true, true, true, true, true, true, false] rfl rfl (any_of HT_.out (by kernel_rfl)) (fun _ _ _ h => h) (Or.inl ⟨by rfl, ?_⟩) ?_ ?_
            rotate_left
            · intro w'
              go_simp
              with_reducible rfl
            rotate_left
            · simp only [Act.put, List.setIfInBounds_toArray, List.set_cons_zero, List.set_cons_succ, i64_w, i32_w]
              rfl
            refine pure_ (i := 13) (N := some 39) (v := ?_) (a' := ?_) #[true, true, true, true, true, true, true, true, true, true, true, true, true, true] rfl rfl (any_of HT_.out (by kernel_rfl)) (fun _ _ _ h => h) (Or.inl ⟨by rfl, ?_⟩) ?_ ?_
            rotate_left
            · intro w'
              go_simp
              with_reducible rfl
            rotate_left
            · simp only [Act.put, List.setIfInBounds_toArray, List.set_cons_zero, List.set_cons_succ, i64_w, i32_w]
              rfl
            refine done_ (done_of HT_.out (by kernel_rfl)) ?_
            try go_wp2
            have hE : (0 ≤ x.f0 ∧ x.f0 < (m : Int)) ∧ (0 ≤ x.f1 ∧ x.f1 < (m : Int)) := by
              have hE := okE_iff.1 (HN.out.2.2.2 i.toNat (by have := H0.out; have := HLT.out; omega))
              have e2 : x = l.getD i.toNat z99 := EX.out
              rw [← e2] at hE
              have := HN.out
              omega
            have HE := Aside0.mk hE
            have HLB := Aside0.mk (show (b.length : Int) = m by rw [HBL.out, bal_len]; have := HN.out; omega)
            clear hE hy
            have HR := Aside0.mk (Kd.R_drew HR.out)
            have BK := Aside0.mk (blk_drew BK.out)
            have HB := Aside0.mk (below_drew1 HB.out)
            have hy := (HB.out.cell (World.block_lt_of_cell? w _ HY.out)).trans HY.out
            have hp := HE.out.1.1
            have hq : x.f0 < (b.length : Int) := by have h := HLB.out; have := HE.out.1.2; omega
            obtain ⟨hz, hf⟩ := Kd.R_celln 0 HR.out x.f0 hp HE.out.1.2
            have hz : (w22.drew).cell? ⟨go, x.f0.toNat, none⟩ = some (.int .i64 (rd b x.f0)) := hz
            have p0 := eq_true hp
            have p1 := eq_true HE.out.1.2
            have p2 := eq_true hq
            have HP := Aside0.mk (And.intro hp hq)
            clear hp hq
            refine start_ (n := 12) (S := fun w' => w'.cell? ⟨g9, 0, none⟩ = some (.int .i64 x.f0) ∧ w'.cell? ⟨g9, 1, none⟩ = some (.int .i64 x.f1) ∧ w'.cell? ⟨g9, 2, none⟩ = some (.int .i64 x.f2) ∧ w'.cell? ⟨go, x.f0.toNat, none⟩ = some (.int .i64 (rd b x.f0)) ∧ w'.cell? (af.add i.toNat) = some (.int .i64 y)) (ds := [11]) #[false, false, false, false, false, false, false, false, false, false, false, false] (by kernel_rfl) rfl rfl ⟨(blk_cell BK.out 0).trans rfl, (blk_cell BK.out 1).trans rfl, (blk_cell BK.out 2).trans rfl, hz, hy⟩ (fun hHeld => ?_)
            refine with_tabW impl_isFlow_tab9 impl_isFlow_bits9 (fun HT_ HW_ => ?_)
            generalize w22.drew = w23 at HR BK HB hy hz hf hHeld ⊢
            refine pure_ (i := 0) (N := some 40) (v := ?_) (a' := ?_) #[true, false, false, false, false, false, false, false, false, false, false, false] rfl rfl (any_of HT_.out (by kernel_rfl)) (fun _ _ _ h => h) (Or.inl ⟨by rfl, ?_⟩) ?_ ?_
            rotate_left
            · intro w'
              go_simp
              with_reducible rfl
            rotate_left
            · simp only [Act.put, List.setIfInBounds_toArray, List.set_cons_zero, List.set_cons_succ, i64_w, i32_w]
              rfl
            refine pure_ (i := 1) (N := some 41) (v := ?_) (a' := ?_) #[true, true, false, false, false, false, false, false, false, false, false, false] rfl rfl (any_of HT_.out (by kernel_rfl)) (fun _ _ _ h => h) (Or.inl ⟨by rfl, ?_⟩) ?_ ?_
            rotate_left
            · intro w'
              go_simp
              with_reducible rfl
            rotate_left
            · simp only [Act.put, List.setIfInBounds_toArray, List.set_cons_zero, List.set_cons_succ, i64_w, i32_w]
              rfl
            refine pure_ (i := 5) (N := some 45) (v := ?_) (a' := ?_) #[true, true, false, false, false, true, false, false, false, false, false, false] rfl rfl (any_of HT_.out (by kernel_rfl)) (fun _ _ _ h => h) (Or.inl ⟨by rfl, ?_⟩) ?_ ?_
            rotate_left
            · intro w'
              go_simp
              with_reducible rfl
            rotate_left
            · simp only [Act.put, List.setIfInBounds_toArray, List.set_cons_zero, List.set_cons_succ, i64_w, i32_w]
              rfl
            refine pure_ (i := 6) (N := some 46) (v := ?_) (a' := ?_) #[true, true, false, false, false, true, true, false, false, false, false, false] rfl rfl (any_of HT_.out (by kernel_rfl)) (fun _ _ _ h => h) (Or.inl ⟨by rfl, ?_⟩) ?_ ?_
            rotate_left
            · intro w'
              go_simp
              with_reducible rfl
            rotate_left
            · simp only [Act.put, List.setIfInBounds_toArray, List.set_cons_zero, List.set_cons_succ, i64_w, i32_w]
              rfl
            refine pure_ (i := 7) (N := some 47) (v := ?_) (a' := ?_) #[true, true, false, false, false, true, true, true, false, false, false, false] rfl rfl (any_of HT_.out (by kernel_rfl)) (fun _ _ _ h => h) (Or.inl ⟨by rfl, ?_⟩) ?_ ?_
            rotate_left
            · intro w'
              go_simp
              with_reducible rfl
            rotate_left
            · simp only [Act.put, List.setIfInBounds_toArray, List.set_cons_zero, List.set_cons_succ, i64_w, i32_w]
              rfl
            refine take_ (i := 2) (N := some 42) (v := ?_) (a' := ?_) #[true, true, true, false, false, true, true, true, false, false, false, false] rfl rfl (take_ofW HT_.out HW_.out (by kernel_rfl)) (fun _ _ _ h => h) (Or.inl ⟨by rfl, ?_⟩) hHeld ?_ ?_
            rotate_left
            · rintro w' ⟨s0, s1, s2, s3, s4⟩
              go_simp
              with_reducible rfl
            rotate_left
            · simp only [Act.put, List.setIfInBounds_toArray, List.set_cons_zero, List.set_cons_succ, i64_w, i32_w]
              rfl
            refine pure_ (i := 3) (N := some 43) (v := ?_) (a' := ?_) #[true, true, true, true, false, true, true, true, false, false, false, false] rfl rfl (any_of HT_.out (by kernel_rfl)) (fun _ _ _ h => h) (Or.inl ⟨by rfl, ?_⟩) ?_ ?_
            rotate_left
            · intro w'
              go_simp
              with_reducible rfl
            rotate_left
            · simp only [Act.put, List.setIfInBounds_toArray, List.set_cons_zero, List.set_cons_succ, i64_w, i32_w]
              rfl
            refine take_ (i := 4) (N := some 44) (v := ?_) (a' := ?_) #[true, true, true, true, true, true, true, true, false, false, false, false] rfl rfl (take_ofW HT_.out HW_.out (by kernel_rfl)) (fun _ _ _ h => h) (Or.inl ⟨by rfl, ?_⟩) hHeld ?_ ?_
            rotate_left
            · rintro w' ⟨s0, s1, s2, s3, s4⟩
              go_simp
              with_reducible rfl
            rotate_left
            · simp only [Act.put, List.setIfInBounds_toArray, List.set_cons_zero, List.set_cons_succ, i64_w, i32_w]
              rfl
            refine take_ (i := 8) (N := some 48) (v := ?_) (a' := ?_) #[true, true, true, true, true, true, true, true, true, false, false, false] rfl rfl (take_ofW HT_.out HW_.out (by kernel_rfl)) (fun _ _ _ h => h) (Or.inl ⟨by rfl, ?_⟩) hHeld ?_ ?_
            rotate_left
            · rintro w' ⟨s0, s1, s2, s3, s4⟩
              go_simp
              with_reducible rfl
            rotate_left
            · simp only [Act.put, List.setIfInBounds_toArray, List.set_cons_zero, List.set_cons_succ, i64_w, i32_w]
              rfl
            refine pure_ (i := 9) (N := some 49) (v := ?_) (a' := ?_) #[true, true, true, true, true, true, true, true, true, true, false, false] rfl rfl (any_of HT_.out (by kernel_rfl)) (fun _ _ _ h => h) (Or.inl ⟨by rfl, ?_⟩) ?_ ?_
            rotate_left
            · intro w'
              go_simp
              with_reducible rfl
            rotate_left
            · simp only [Act.put, List.setIfInBounds_toArray, List.set_cons_zero, List.set_cons_succ, i64_w, i32_w]
              rfl
            refine pure_ (i := 10) (N := some 50) (v := ?_) (a' := ?_) #[true, true, true, true, true, true, true, true, true, true, true, false] rfl rfl (any_of HT_.out (by kernel_rfl)) (fun _ _ _ h => h) (Or.inl ⟨by rfl, ?_⟩) ?_ ?_
            rotate_left
            · intro w'
              go_simp
              with_reducible rfl
            rotate_left
            · simp only [Act.put, List.setIfInBounds_toArray, List.set_cons_zero, List.set_cons_succ, i64_w, i32_w]
              rfl
            refine last_ (i := 11) (N := none) #[true, true, true, true, true, true, true, true, true, true, true, true] rfl rfl (one_of HT_.out (by kernel_rfl)) (by decide) (fun K hK => ?_)
            refine skip_ (w1 := ?_) (by rfl) rfl ?_ ?_
            rotate_left
            · go_simp
              rfl
            refine hK.out _ _ ?_
            clear hK K
            refine done_ (done_of HT_.out (by kernel_rfl)) ?_
            try go_wp2
            obtain ⟨b1, eb⟩ : ∃ z, z = b.set x.f0.toNat (wrap64 (rd b x.f0 - y)) := ⟨_, rfl⟩
            have n0_ : Aside0 (Kd.R (Kd.int .i64) 3 (w23.setCell ⟨go, x.f0.toNat, none⟩ (.int .i64 (wrap64 (rd b x.f0 - y)))) w.heap.size (fun _ => True) (.slice (some ⟨go, 0, none⟩) m co) b1) := ⟨by rw [eb]; exact Kd.R_putn HR.out x.f0 (wrap64 (rd b x.f0 - y))⟩
            have n1_ : Aside0 (((w23.setCell ⟨go, x.f0.toNat, none⟩ (.int .i64 (wrap64 (rd b x.f0 - y))))).heap[g9]? = some (.cells #[.int .i64 x.f0, .int .i64 x.f1, .int .i64 x.f2] 99 (0, 0))) := ⟨blk_far BK.out (by have h_ := Kd.R_ne HR.out BK.out (by decide); intro e_; exact h_ (by rw [e_]; rfl)) _⟩
            have n2_ : Aside0 (Below w.heap.size w (w23.setCell ⟨go, x.f0.toNat, none⟩ (.int .i64 (wrap64 (rd b x.f0 - y))))) := ⟨below_set HB.out GB.out⟩
            clear HR BK HB hy hz hf p0 p1 p2
            generalize (w23.setCell ⟨go, x.f0.toNat, none⟩ (.int .i64 (wrap64 (rd b x.f0 - y)))) = w24 at n0_ n1_ n2_ ⊢
            have HR := n0_
            have BK := n1_
            have HB := n2_
            have Eb1 := Aside0.mk eb
            have HLB := Aside0.mk (show (b1.length : Int) = m by rw [eb, List.length_set]; exact HLB.out)
            clear n0_ n1_ n2_ eb HP
            have HR := Aside0.mk (Kd.R_drew HR.out)
            have BK := Aside0.mk (blk_drew BK.out)
            have HB := Aside0.mk (below_drew1 HB.out)
            have hy := (HB.out.cell (World.block_lt_of_cell? w _ HY.out)).trans HY.out
            have hp := HE.out.2.1
            have hq : x.f1 < (b1.length : Int) := by have h := HLB.out; have := HE.out.2.2; omega
            obtain ⟨hz, hf⟩ := Kd.R_celln 0 HR.out x.f1 hp HE.out.2.2
            have hz : (w24.drew).cell? ⟨go, x.f1.toNat, none⟩ = some (.int .i64 (rd b1 x.f1)) := hz
            have p0 := eq_true hp
            have p1 := eq_true HE.out.2.2
            have p2 := eq_true hq
            have HP := Aside0.mk (And.intro hp hq)
            clear hp hq
            refine start_ (n := 12) (S := fun w' => w'.cell? ⟨g9, 0, none⟩ = some (.int .i64 x.f0) ∧ w'.cell? ⟨g9, 1, none⟩ = some (.int .i64 x.f1) ∧ w'.cell? ⟨g9, 2, none⟩ = some (.int .i64 x.f2) ∧ w'.cell? ⟨go, x.f1.toNat, none⟩ = some (.int .i64 (rd b1 x.f1)) ∧ w'.cell? (af.add i.toNat) = some (.int .i64 y)) (ds := [11]) #[false, false, false, false, false, false, false, false, false, false, false, false] (by kernel_rfl) rfl rfl ⟨(blk_cell BK.out 0).trans rfl, (blk_cell BK.out 1).trans rfl, (blk_cell BK.out 2).trans rfl, hz, hy⟩ (fun hHeld => ?_)
            refine with_tabW impl_isFlow_tab10 impl_isFlow_bits10 (fun HT_ HW_ => ?_)
            generalize w24.drew = w25 at HR BK HB hy hz hf hHeld ⊢
            refine pure_ (i := 0) (N := some 51) (v := ?_) (a' := ?_) #[true, false, false, false, false, false, false, false, false, false, false, false] rfl rfl (any_of HT_.out (by kernel_rfl)) (fun _ _ _ h => h) (Or.inl ⟨by rfl, ?_⟩) ?_ ?_
            rotate_left
            · intro w'
              go_simp
              with_reducible rfl
            rotate_left
            · simp only [Act.put, List.setIfInBounds_toArray, List.set_cons_zero, List.set_cons_succ, i64_w, i32_w]
              rfl
            refine pure_ (i := 1) (N := some 52) (v := ?_) (a' := ?_) #[true, true, false, false, false, false, false, false, false, false, false, false] rfl rfl (any_of HT_.out (by kernel_rfl)) (fun _ _ _ h => h) (Or.inl ⟨by rfl, ?_⟩) ?_ ?_
            rotate_left
            · intro w'
              go_simp
              with_reducible rfl
            rotate_left
            · simp only [Act.put, List.setIfInBounds_toArray, List.set_cons_zero, List.set_cons_succ, i64_w, i32_w]
              rfl
            refine pure_ (i := 5) (N := some 56) (v := ?_) (a' := ?_) #[true, true, false, false, false, true, false, false, false, false, false, false] rfl rfl (any_of HT_.out (by kernel_rfl)) (fun _ _ _ h => h) (Or.inl ⟨by rfl, ?_⟩) ?_ ?_
            rotate_left
            · intro w'
              go_simp
              with_reducible rfl
            rotate_left
            · simp only [Act.put, List.setIfInBounds_toArray, List.set_cons_zero, List.set_cons_succ, i64_w, i32_w]
              rfl
            refine pure_ (i := 6) (N := some 57) (v := ?_) (a' := ?_) #[true, true, false, false, false, true, true, false, false, false, false, false] rfl rfl (any_of HT_.out (by kernel_rfl)) (fun _ _ _ h => h) (Or.inl ⟨by rfl, ?_⟩) ?_ ?_
            rotate_left
            · intro w'
              go_simp
              with_reducible rfl
            rotate_left
            · simp only [Act.put, List.setIfInBounds_toArray, List.set_cons_zero, List.set_cons_succ, i64_w, i32_w]
              rfl
            refine pure_ (i := 7) (N := some 58) (v := ?_) (a' := ?_) #[true, true, false, false, false, true, true, true, false, false, false, false] rfl rfl (any_of HT_.out (by kernel_rfl)) (fun _ _ _ h => h) (Or.inl ⟨by rfl, ?_⟩) ?_ ?_
            rotate_left
            · intro w'
              go_simp
              with_reducible rfl
            rotate_left
            · simp only [Act.put, List.setIfInBounds_toArray, List.set_cons_zero, List.set_cons_succ, i64_w, i32_w]
              rfl
            refine take_ (i := 2) (N := some 53) (v := ?_) (a' := ?_) #[true, true, true, false, false, true, true, true, false, false, false, false] rfl rfl (take_ofW HT_.out HW_.out (by kernel_rfl)) (fun _ _ _ h => h) (Or.inl ⟨by rfl, ?_⟩) hHeld ?_ ?_
            rotate_left
            · rintro w' ⟨s0, s1, s2, s3, s4⟩
              go_simp
              with_reducible rfl
            rotate_left
            · simp only [Act.put, List.setIfInBounds_toArray, List.set_cons_zero, List.set_cons_succ, i64_w, i32_w]
              rfl
            refine pure_ (i := 3) (N := some 54) (v := ?_) (a' := ?_) #[true, true, true, true, false, true, true, true, false, false, false, false] rfl rfl (any_of HT_.out (by kernel_rfl)) (fun _ _ _ h => h) (Or.inl ⟨by rfl, ?_⟩) ?_ ?_
            rotate_left
            · intro w'
              go_simp
              with_reducible rfl
            rotate_left
            · simp only [Act.put, List.setIfInBounds_toArray, List.set_cons_zero, List.set_cons_succ, i64_w, i32_w]
              rfl
            refine take_ (i := 4) (N := some 55) (v := ?_) (a' := ?_) #[true, true, true, true, true, true, true, true, false, false, false, false] rfl rfl (take_ofW HT_.out HW_.out (by kernel_rfl)) (fun _ _ _ h => h) (Or.inl ⟨by rfl, ?_⟩) hHeld ?_ ?_
            rotate_left
            · rintro w' ⟨s0, s1, s2, s3, s4⟩
              go_simp
              with_reducible rfl
            rotate_left
            · simp only [Act.put, List.setIfInBounds_toArray, List.set_cons_zero, List.set_cons_succ, i64_w, i32_w]
              rfl
            refine take_ (i := 8) (N := some 59) (v := ?_) (a' := ?_) #[true, true, true, true, true, true, true, true, true, false, false, false] rfl rfl (take_ofW HT_.out HW_.out (by kernel_rfl)) (fun _ _ _ h => h) (Or.inl ⟨by rfl, ?_⟩) hHeld ?_ ?_
            rotate_left
            · rintro w' ⟨s0, s1, s2, s3, s4⟩
              go_simp
              with_reducible rfl
            rotate_left
            · simp only [Act.put, List.setIfInBounds_toArray, List.set_cons_zero, List.set_cons_succ, i64_w, i32_w]
              rfl
            refine pure_ (i := 9) (N := some 60) (v := ?_) (a' := ?_) #[true, true, true, true, true, true, true, true, true, true, false, false] rfl rfl (any_of HT_.out (by kernel_rfl)) (fun _ _ _ h => h) (Or.inl ⟨by rfl, ?_⟩) ?_ ?_
            rotate_left
            · intro w'
              go_simp
              with_reducible rfl
            rotate_left
            · simp only [Act.put, List.setIfInBounds_toArray, List.set_cons_zero, List.set_cons_succ, i64_w, i32_w]
              rfl
            refine pure_ (i := 10) (N := some 61) (v := ?_) (a' := ?_) #[true, true, true, true, true, true, true, true, true, true, true, false] rfl rfl (any_of HT_.out (by kernel_rfl)) (fun _ _ _ h => h) (Or.inl ⟨by rfl, ?_⟩) ?_ ?_
            rotate_left
            · intro w'
              go_simp
              with_reducible rfl
            rotate_left
            · simp only [Act.put, List.setIfInBounds_toArray, List.set_cons_zero, List.set_cons_succ, i64_w, i32_w]
              rfl
            refine last_ (i := 11) (N := none) #[true, true, true, true, true, true, true, true, true, true, true, true] rfl rfl (one_of HT_.out (by kernel_rfl)) (by decide) (fun K hK => ?_)
            refine skip_ (w1 := ?_) (by rfl) rfl ?_ ?_
            rotate_left
            · go_simp
              rfl
            refine hK.out _ _ ?_
            clear hK K
            refine done_ (done_of HT_.out (by kernel_rfl)) ?_
            try go_wp2
            obtain ⟨b2, eb⟩ : ∃ z, z = b1.set x.f1.toNat (wrap64 (rd b1 x.f1 + y)) := ⟨_, rfl⟩
            have n0_ : Aside0 (Kd.R (Kd.int .i64) 3 (w25.setCell ⟨go, x.f1.toNat, none⟩ (.int .i64 (wrap64 (rd b1 x.f1 + y)))) w.heap.size (fun _ => True) (.slice (some ⟨go, 0, none⟩) m co) b2) := ⟨by rw [eb]; exact Kd.R_putn HR.out x.f1 (wrap64 (rd b1 x.f1 + y))⟩
            have n1_ : Aside0 (((w25.setCell ⟨go, x.f1.toNat, none⟩ (.int .i64 (wrap64 (rd b1 x.f1 + y))))).heap[g9]? = some (.cells #[.int .i64 x.f0, .int .i64 x.f1, .int .i64 x.f2] 99 (0, 0))) := ⟨blk_far BK.out (by have h_ := Kd.R_ne HR.out BK.out (by decide); intro e_; exact h_ (by rw [e_]; rfl)) _⟩
            have n2_ : Aside0 (Below w.heap.size w (w25.setCell ⟨go, x.f1.toNat, none⟩ (.int .i64 (wrap64 (rd b1 x.f1 + y))))) := ⟨below_set HB.out GB.out⟩
            clear HR BK HB hy hz hf p0 p1 p2
            generalize (w25.setCell ⟨go, x.f1.toNat, none⟩ (.int .i64 (wrap64 (rd b1 x.f1 + y)))) = w26 at n0_ n1_ n2_ ⊢
            have HR := n0_
            have BK := n1_
            have HB := n2_
            have Eb2 := Aside0.mk eb
            have HLB := Aside0.mk (show (b2.length : Int) = m by rw [eb, List.length_set]; exact HLB.out)
            clear n0_ n1_ n2_ eb HP
            go_wp2_with fail
            go_roundg d
            case measure => omega
            case rel =>
              have hI := HI.out
              have hlt := HLT.out
              have hN := HN.out
              have ei : wrap64 (i + 1) = i + 1 := by rw [w64 (by omega) (by omega)]
              have ex : x = l.getD i.toNat z99 := EX.out
              have ey : y = f.getD i.toNat 0 := EY.out
              have hk := okE_iff.1 (hN.2.2.2 i.toNat (by omega))
              rw [← ex] at hk
              have hb := fun j => bal_bd (f := f) hN.2.2.2 i.toNat (by omega) HOK.out j
              refine ⟨i + 1, b2, by rw [ei], ⟨by omega⟩, ⟨?_⟩, ⟨?_⟩, ⟨HR.out⟩, ⟨HB.out⟩⟩
              · have e1 : b1 = addTo b x.f0 (-y) := by
                  rw [Eb1.out]
                  unfold addTo
                  have h := hb x.f0.toNat
                  rw [← HBL.out] at h
                  rw [show rd b x.f0 = b.getD x.f0.toNat 0 from rfl, w64 (by omega) (by omega)]
                  rfl
                have e2 : b2 = addTo b1 x.f1 y := by
                  rw [Eb2.out]
                  unfold addTo
                  have h := hb x.f1.toNat
                  rw [← HBL.out] at h
                  have h2 := addTo_at b x.f0 (-y) x.f1.toNat
                  rw [← e1] at h2
                  rw [show rd b1 x.f1 = b1.getD x.f1.toNat 0 from rfl, w64 (by split at h2 <;> omega) (by split at h2 <;> omega)]
                rw [show (i + 1).toNat = i.toNat + 1 by omega, bal_succ, ← HBL.out]
                unfold flowStep
                rw [← ex, ← ey, ← e1, ← e2]
              · rw [show (i + 1).toNat = i.toNat + 1 by omega, allR_iff]
                intro j hj1 hj2
                by_cases hj : j = i.toNat
                · subst hj
                  unfold flowOkAt
                  rw [decide_eq_true_eq, ← ex, ← ey]
                  omega
                · exact allR_iff.1 HOK.out j hj1 (by omega)
  · have b1 : (((f.length : Int)) == (l.length : Int)) = false := beq_eq_false_iff_ne.mpr (by omega)
    have b2 : (((f.length : Int)) != (l.length : Int)) = true := bne_iff_ne.mpr (by omega)
    have b3 : (f.length == l.length) = false := beq_eq_false_iff_ne.mpr hlen
    have hr : flowsB m l f = false := by unfold flowsB; rw [decide_eq_false hlen, Bool.false_and]
    have HRET := Aside0.mk hr
    clear hlen hNN hf hr
    go_enter Try.func155, Try.ntmps155
    go_wp2_with fail
    go_ret
    exact ⟨congrArg (fun z => Ending.returned (.bool z)) HRET.out.symm, HB.out⟩
end Go.Proofs.Ytomfjhpiemipkaa.OwnFlows
