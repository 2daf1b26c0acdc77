/- The law FnExactSlopesText, walked by hand over its callees' contracts: for every input it returns true. -/
import Derived.Test.YtmihfgnkjjohmaaDoorTComE
import Derived.Test.YtmihfgnkjjohmaaDoorTMFnExactSlopesTextx1
import Derived.Test.YtmihfgnkjjohmaaDoorTMFnExactSlopesTextx3
import Derived.Test.YtmihfgnkjjohmaaDoorTMFnExactSlopesTextx2
import Derived.Test.YtmihfgnkjjohmaaDoorTOwnSlopesText
namespace Go.Proofs.YtmihfgnkjjohmaaDoor.WalkFnExactSlopesText
open Go.RowKit Go.Proofs.YtmihfgnkjjohmaaDoor.PFnExactSlopesText Go.Proofs.YtmihfgnkjjohmaaDoorW.PrintWords Go.Proofs.YtmihfgnkjjohmaaDoorW.PrintLast Go.Proofs.YtmihfgnkjjohmaaDoorW.PrintMore Go.Proofs.YtmihfgnkjjohmaaDoor.B Go.Proofs.YtmihfgnkjjohmaaDoor.Com Go.Proofs.YtmihfgnkjjohmaaDoor.OwnSlopesText
set_option linter.unusedVariables false
set_option linter.unusedSimpArgs false
/- com.toGrid -/
theorem toGrid_calls (x y z : Int) (w : World) : Calls Tryd.prog 7 #[.agg #[.int .i64 x, .int .i64 y, .int .i64 z]] w fun e w' => e = .returned (.agg #[.int .i64 x, .int .i64 y, .int .i64 z]) ∧ Below w.heap.size w w' :=
  laws_toGrid.calls x y z x y z w rfl
/- rowsG -/
theorem at_G {α : Type} (d : Kd α) (e0 : Nat) {w : World} {A : Option Addr} {n : Nat} {xs : List (List α)} (h : Kd.C (Kd.slice e0 d) w A n xs) (i : Int) (h0 : 0 ≤ i) (h1 : i < n) : ∃ ad A0 c0, A = some ad ∧ w.cell? (ad.add i.toNat) = some (.slice A0 (xs.getD i.toNat []).length c0) ∧ (xs.getD i.toNat []).length ≤ c0 ∧ d.C w A0 (xs.getD i.toNat []).length (xs.getD i.toNat []) := by
  obtain ⟨ad, c, e, _, hK, hc0⟩ := Kd.C_get h ([] : List α) i h0 h1
  have hc : ∀ j u, c[j]? = some u → w.cell? (ad.add (i.toNat * 1 + j)) = some u := hc0
  obtain ⟨A0, c0, rfl, l0, g0⟩ := hK
  exact ⟨ad, A0, c0, e, by have hq := hc 0 _ rfl; rwa [Nat.mul_one, Nat.add_zero] at hq, l0, g0⟩
/-- What is there behind i rounds. -/
def partG {α : Type} (l : List (List α)) (i : Nat) : List (List α) := l.take i ++ List.replicate (l.length - i) []
theorem partG_len {α : Type} (l : List (List α)) (i : Nat) (h : i ≤ l.length) : (partG l i).length = l.length := by
  unfold partG; rw [List.length_append, List.length_take, List.length_replicate]; omega
theorem partG_all {α : Type} (l : List (List α)) : partG l l.length = l := by
  unfold partG; rw [List.take_length, Nat.sub_self]; simp
theorem partG_set {α : Type} (l : List (List α)) (i : Nat) (h : i < l.length) : (partG l i).set i (l.getD i []) = partG l (i + 1) := by
  unfold partG
  rw [List.set_append_right _ _ (by rw [List.length_take]; omega), List.length_take, Nat.min_eq_left (by omega), Nat.sub_self, show l.length - i = (l.length - (i + 1)) + 1 by omega, List.replicate_succ, List.set_cons_zero,
    List.take_succ_eq_append_getElem h, List.append_assoc]
  simp [List.getD_eq_getElem?_getD, h]
/-- An inner row that was made behind the outer one is laid into it. -/
theorem lay_rowG {α : Type} (d : Kd α) (hE : d.E = []) (e0 et : Nat) {w1 : World} {B : Nat} {g n cap : Nat} {xs : List (List α)} {v : Value} {x : List α} {W : World} (hS : Kd.S (Kd.slice e0 d) et w1 B (fun k => k < W.heap.size) (.slice (some ⟨g, 0, none⟩) n cap) xs) (hR : Kd.R d e0 w1 W.heap.size (fun _ => True) v x)
    (hB : B ≤ W.heap.size) (i : Int) (h0 : 0 ≤ i) (h1 : i < n) :
    (∃ old, w1.cell? ⟨g, i.toNat, none⟩ = some old) ∧ w1.frozen? ⟨g, i.toNat, none⟩ = false ∧ Kd.S (Kd.slice e0 d) et (w1.setCell ⟨g, i.toNat, none⟩ v) B (fun _ => True) (.slice (some ⟨g, 0, none⟩) n cap) (xs.set i.toNat x) := by
  have hT := Kd.R_mono (Kd.R_tight hE hR) (ok' := fun k => some k = v.ownBlock) (fun _ h => h)
  have hbase := Kd.R_base hR
  have hX : Kd.S (Kd.slice e0 d) et w1 B (fun k => (fun _ => True) k ∧ ¬ (fun k => some k = v.ownBlock) k) (.slice (some ⟨g, 0, none⟩) n cap) xs :=
    Kd.S_mono hS (fun k hk => ⟨trivial, fun e => by have := hbase k e.symm; omega⟩)
  obtain ⟨oki, ce, hcl, hM, hcc, hfr, hoki, hH⟩ := Kd.S_elem hX [] i h0 h1
  have hn := (Kd.S_reads' hS).1
  have hval := Kd.R_val hR
  have hgo : g < W.heap.size := by
    have := hS
    obtain ⟨f, h0', _⟩ := this
    exact h0' g (by simp [Value.ownBlock])
  obtain ⟨ve, rfl, ge⟩ := hM
  have hP := Kd.S_seg hH h0 h1 (seg := [v]) (j := 0) (show 1 ≤ 1 from by decide) (x' := x)
    (Kd.M_row (Kd.R_mono (Kd.R_lower hT hB) (fun k h => Or.inr h))) (fun _ hk => hk) (fun k hk => ⟨trivial, fun e => by have := hbase k hk.symm; omega⟩)
  have hcc0 := hcc 0 _ rfl
  have hfr0 := hfr 0
  simp only [show (Kd.slice e0 d).sz = 1 from rfl, Nat.mul_one, Nat.add_zero] at hP hcc0 hfr0
  exact ⟨⟨_, hcc0⟩, hfr0, hP.1⟩
/- offsetSI -/
abbrev kOS : Kd (List S52) := Kd.slice 52 k52
theorem infoOS : (Tryd.prog.info? 50).map (fun i => (i.zero, i.size, i.bytes)) = some (some (.slice none 0 0), 1, 24) := by kernel_rfl
/- offsetSS -/
abbrev kOS' : Kd (List S81) := Kd.slice 81 k81
def cOS (l : List S81) : List S52 := l.map cO
theorem map_len {l : List (List S81)} {n : Nat} (h : ∀ x ∈ l, x.length ≤ n) : ∀ x ∈ l.map cOS, x.length ≤ n := by
  intro x hx
  obtain ⟨y, hy, rfl⟩ := List.mem_map.1 hx
  have := h y hy
  unfold cOS
  rwa [List.length_map]
/- laws_toOffsetS -/
theorem toOffsetS_l0 (l : List S81) (hl : l.length ≤ 1048576) : ∀ (d i : Nat) (m : List S52), i + d = l.length → m.length = l.length → (∀ j, j < i → m[j]? = (l.map cO)[j]?) → Ev (fun k => laws_toOffsetS.l0 k l m (i : Int)) (l.map cO) := by
  intro d
  induction d with
  | zero =>
    intro i m hi hm he
    refine Ev.step (fun k => laws_toOffsetS.l0.eq_2 l m i k) ?_
    refine ev_neg (by omega) (ev_some ?_)
    refine List.ext_getElem? (fun j => ?_)
    by_cases hj : j < i
    · exact he j hj
    · rw [List.getElem?_eq_none (by omega), List.getElem?_eq_none (by simp; omega)]
  | succ d ih =>
    intro i m hi hm he
    refine Ev.step (fun k => laws_toOffsetS.l0.eq_2 l m i k) ?_
    refine ev_pos (by omega) (ev_pos (by omega) (ev_bindc rfl (ev_pos (by omega) ?_)))
    rw [w_succ (n := l.length) (by omega) (by omega), toNat_nat]
    refine ih (i + 1) _ (by omega) (by simpa using hm) (fun j hj => ?_)
    by_cases hji : j = i
    · subst hji
      have h1 : j < l.length := by omega
      simp [List.getElem?_set, show j < m.length by omega, rd_T81, h1, cO]
    · rw [← he j (by omega), List.getElem?_set_ne (Ne.symm hji)]
theorem toOffsetS_ev (l : List S81) (hl : l.length ≤ 1048576) : Ev (fun k => laws_toOffsetS.f k l) (l.map cO) := by
  unfold laws_toOffsetS.f
  refine ev_pos (by omega) (ev_pos (by omega) ?_)
  exact toOffsetS_l0 l hl l.length 0 _ (by omega) (by simp) (fun j hj => by omega)
/- com.toOffsetS -/
theorem toOffsetS_calls (l : List S81) (t : List S52) (ht : l.map cO = t) (hl : t.length ≤ 1048576) (A : Option Addr) (c : Nat) (w : World) (hr : Kd.C k81 w A l.length l) (hc : l.length ≤ c) :
    Calls Tryd.prog 39 #[.slice A l.length c] w fun e w' => ∃ v : Value, e = .returned v ∧ Kd.R k52 52 w' w.heap.size (fun _ => True) v t ∧ Below w.heap.size w w' := by
  subst ht
  rw [List.length_map] at hl
  obtain ⟨k, hk⟩ := (toOffsetS_ev l hl).rounds
  exact laws_toOffsetS.calls k A c l _ w hr hc hk
/- com.toOffsetSS -/
set_option maxHeartbeats 4000000 in
set_option maxRecDepth 100000 in
theorem toOffsetSS_calls (l : List (List S81)) (t : List (List S52)) (ht : l.map cOS = t) (hl : t.length ≤ 1048576) (hb : ∀ x ∈ t, x.length ≤ 1048576) (A : Option Addr) (c : Nat) (w : World) (hr : Kd.C kOS' w A l.length l) (hc : l.length ≤ c) :
    Calls Tryd.prog 20 #[.slice A l.length c] w fun e w' => ∃ v : Value, e = .returned v ∧ Kd.S kOS 50 w' w.heap.size (fun _ => True) v t ∧ Below w.heap.size w w' := by
  have htl : t.length = l.length := by rw [← ht, List.length_map]
  have hat : ∀ i, i < l.length → (l.getD i []).map cO = t.getD i [] := by
    intro i hi
    rw [← ht]
    simp [List.getD_eq_getElem?_getD, hi, cOS]
  have HT := Aside0.mk htl
  have HAT := Aside0.mk hat
  rw [htl] at hl
  clear ht hat htl
  have HR := Aside0.mk hr
  have HL := Aside0.mk hl
  have HE := Aside0.mk hb
  clear hr hb
  have c0 : decide (0 ≤ (l.length : Int)) = true := decide_eq_true (by omega)
  have c1 : (l.length : Int).toNat * 24 ≤ 281474976710656 := by rw [Int.toNat_natCast]; omega
  have C1 := Aside0.mk c1
  clear c1 hl hc
  go_enter Tryd.func20, Tryd.ntmps20
  go_wp2_with (first | ((with_reducible refine gate_dst (N := 7) rfl ?_); refine Kd.S_make kOS _ 50 rfl (N := 7) rfl 33 _ _ rfl (l.length : Int) rfl rfl Tryd.underlying33 (.slice none 0 0) 24 infoOS rfl (by decide) (by omega) [] (ok := fun _ => True) (okp := fun _ => True) ⟨_, rfl, Kd.R_nil _ _ _ _ _⟩ (fun _ hk => hk) trivial (by omega) C1.out (Below.refl _ _) (Nat.le_refl _) ?_; intro v1 w1 ho hb hg_ hnew_; clear hg_ hnew_; have HO := Aside0.mk ho; have HB := Aside0.mk hb; clear ho hb))
  have HO0 : Aside0 (Kd.S kOS 50 w1 w.heap.size (fun _ => True) v1 (partG t (0 : Int).toNat)) := ⟨by have h := HO.out; rw [Int.toNat_natCast, ← HT.out] at h; exact h⟩
  clear HO
  go_loopg [4] (l.length) (fun d v4 wr => ∃ i : Int, v4 = .int .i64 i ∧ Aside0 (0 ≤ i ∧ i + d = l.length) ∧ Aside0 (Kd.S kOS 50 wr w.heap.size (fun _ => True) v1 (partG t i.toNat)) ∧ Aside0 (Below w.heap.size w wr))
  case atStart => exact ⟨0, rfl, ⟨by omega⟩, HO0, HB⟩
  case round =>
    clear HO0 HB
    obtain ⟨i, rfl, HI, HS, HB⟩ := hrel
    have h0 := HI.out.1
    cases gk with
    | zero =>
      have hd : decide (i < (l.length : Int)) = false := decide_eq_false (by have := HI.out.2; omega)
      have hi : i = (l.length : Int) := by have := HI.out.2; omega
      have HE2 : Aside0 (Kd.S kOS 50 wr w.heap.size (fun _ => True) v1 t) := ⟨by have h := HS.out; rw [hi, Int.toNat_natCast, ← HT.out, partG_all] at h; exact h⟩
      clear hi HS
      go_wp2
      go_ret
      exact ⟨v1, rfl, HE2.out, HB.out⟩
    | succ d =>
      have hlt : i < (l.length : Int) := by have := HI.out.2; omega
      have hd : decide (i < (l.length : Int)) = true := decide_eq_true hlt
      obtain ⟨ad, A0, ca, e0, hx, hle, hi0⟩ := at_G k81 81 HR.out i h0 hlt
      obtain ⟨row, erow⟩ : ∃ row, row = l.getD i.toNat [] := ⟨_, rfl⟩
      rw [← erow] at hx hle hi0
      have EROW := Aside0.mk erow
      clear erow
      cases e0
      replace hx := (HB.out.cell (World.block_lt_of_cell? w _ hx)).trans hx
      have hin : 0 ≤ i ∧ i.toNat < l.length := by omega
      have HRi := Aside0.mk hi0
      have HCi := Aside0.mk hle
      clear hi0 hle
      have hlen : (t.getD i.toNat []).length ≤ 1048576 := HE.out _ (getD_mem (z := []) (by rw [HT.out]; exact hin.2))
      have hpl : (partG t i.toNat).length = l.length := (partG_len t i.toNat (by rw [HT.out]; omega)).trans HT.out
      obtain ⟨g, cap, eo, gb, gl, _⟩ := Kd.S_form HS.out (by omega)
      have EO := Aside0.mk eo
      have GB := Aside0.mk gb
      have hs1 := Kd.S_mono (Kd.S_bound HS.out) (ok' := fun k => k < wr.heap.size) (fun k hk => hk.2.2.1)
      have HSZ := Aside0.mk (Below.size HB.out)
      have HLEN := Aside0.mk hlen
      have HPL := Aside0.mk hpl
      have HS1 := Aside0.mk hs1
      have HIN := Aside0.mk hin
      have hq : decide (i < ((partG t i.toNat).length : Int)) = true := decide_eq_true (by rw [hpl]; exact hlt)
      have H0 := Aside0.mk h0
      have HLT := Aside0.mk hlt
      have q0 := eq_true h0
      have q1 := eq_true hlt
      have q2 : (i < ((partG t i.toNat).length : Int)) = True := eq_true (by rw [hpl]; exact hlt)
      clear eo hs1 HS hlen hpl hin gb gl hlt h0
      go_wp2_with fail
      refine (toOffsetS_calls row (t.getD i.toNat []) (by rw [EROW.out]; exact HAT.out _ HIN.out.2) HLEN.out A0 ca wr (Kd.C_below HRi.out HB.out) HCi.out).mono ?_
      rintro e w2 ⟨v2, rfl, ho, hb⟩
      obtain rfl := EO.out
      obtain ⟨A2, c2, rfl⟩ := Kd.R_slice ho
      obtain ⟨⟨old, hold⟩, hfr, hst⟩ := lay_rowG k52 rfl 52 50 (Kd.S_below HS1.out hb) ho HSZ.out i H0.out (by have := HPL.out; have := HLT.out; omega)
      rw [partG_set t i.toNat (by rw [HT.out]; exact HIN.out.2)] at hst
      have HB2 := Aside0.mk (below_step HB.out hb)
      have HST := Aside0.mk hst
      clear hst ho hb HB HS1
      go_wp2
      go_roundg d
      case measure => omega
      case rel =>
        have e : wrap64 (i + 1) = i + 1 := by have := HLT.out; have := HL.out; have := H0.out; rw [w64 (by omega) (by omega)]
        exact ⟨i + 1, by rw [e], ⟨by have := HI.out; omega⟩, ⟨by rw [show (i + 1).toNat = i.toNat + 1 by have := H0.out; omega]; exact HST.out⟩, ⟨below_set HB2.out (Nat.le_trans (Nat.le_of_eq rfl) GB.out)⟩⟩
/- laws_toIntS -/
theorem toIntS_l0 (l : List Int) (hl : l.length ≤ 35184372088832) : ∀ (d i : Nat) (m : List Int), i + d = l.length → m.length = l.length → (∀ j, j < i → m.getD j 0 = l.getD j 0) → Ev (fun k => laws_toIntS.l0 k l m (i : Int)) l := by
  intro d
  induction d with
  | zero =>
    intro i m hi hm he
    refine Ev.step (fun k => laws_toIntS.l0.eq_2 l m i k) ?_
    refine ev_neg (by omega) (ev_some ?_)
    refine List.ext_getElem hm (fun j h1 h2 => ?_)
    have := he j (by omega)
    simpa [List.getD_eq_getElem?_getD, h1, h2] using this
  | succ d ih =>
    intro i m hi hm he
    refine Ev.step (fun k => laws_toIntS.l0.eq_2 l m i k) ?_
    refine ev_pos (by omega) (ev_pos (by omega) (ev_pos (by omega) ?_))
    rw [w_succ (n := l.length) (by omega) (by omega), toNat_nat, rd_nat]
    refine ih (i + 1) _ (by omega) (by simpa using hm) (fun j hj => ?_)
    by_cases hji : j = i
    · subst hji
      simp [List.getD_eq_getElem?_getD, show j < m.length by omega]
    · rw [← he j (by omega)]
      simp [List.getD_eq_getElem?_getD, List.getElem?_set_ne (Ne.symm hji)]
theorem toIntS_ev (l : List Int) (hl : l.length ≤ 35184372088832) : Ev (fun k => laws_toIntS.f k l) l := by
  unfold laws_toIntS.f
  refine ev_pos (by omega) (ev_pos (by omega) ?_)
  exact toIntS_l0 l hl l.length 0 _ (by omega) (by simp) (fun j hj => by omega)
/- com.toSlopes -/
set_option maxHeartbeats 8000000 in
set_option maxRecDepth 100000 in
theorem toSlopes_calls (s : List Int) (hs : s.length ≤ 1048576) (T : List (List S81)) (t : List (List S52)) (ht : T.map cOS = t) (hl : t.length ≤ 1048576) (hb : ∀ x ∈ t, x.length ≤ 1048576) (A0 : Option Addr) (c0 : Nat) (A1 : Option Addr) (c1 : Nat) (w : World)
    (h1 : Kd.C (Kd.int .i64) w A0 s.length s) (h2 : s.length ≤ c0) (h3 : Kd.C kOS' w A1 T.length T) (h4 : T.length ≤ c1) :
    Calls Tryd.prog 8 #[.agg #[.slice A0 s.length c0, .slice A1 T.length c1]] w fun e w' => ∃ v0 v1 : Value, e = .returned (.agg #[v0, v1]) ∧ Kd.R (Kd.int .i64) 3 w' w.heap.size (fun _ => True) v0 s ∧ Kd.S kOS 50 w' w.heap.size (fun _ => True) v1 t ∧ True ∧ Below w.heap.size w w' := by
  have hu1 := Tryd.underlying27
  have hu2 := Tryd.underlying35
  have H1 := Aside0.mk h1
  have H2 := Aside0.mk h2
  have H3 := Aside0.mk h3
  have H4 := Aside0.mk h4
  have HS := Aside0.mk hs
  have HT := Aside0.mk ht
  have HL := Aside0.mk hl
  have HBB := Aside0.mk hb
  have HB := Aside0.mk (Below.refl w.heap.size w)
  clear h1 h2 h3 h4 hs ht hl hb
  go_enter Tryd.func8, Tryd.ntmps8
  go_wp2_with (first
    | ((with_reducible refine gate_dst (N := 1) rfl ?_); refine box_event ?hg (N := 1) ?hd (cs := #[.slice A0 s.length c0, .slice A1 T.length c1]) (t := 27) ?hr ?_; (case hd => rfl); (case hg => rfl); (case hr => first | (go_simp; done) | (go_simp; rfl));
       intro g1 hg w6 hbox hb; have n0_ := Aside0.mk (below_step HB.out hb); have K1 := Aside0.mk hbox; have G1 := Aside0.mk ((by rw [hg]; exact (below_size HB.out)) : w.heap.size ≤ g1); clear HB; have HB := n0_; clear n0_; clear hb hbox hg)
    | ((with_reducible refine gate_dst (N := 2) rfl ?_); refine box_event ?hg (N := 2) ?hd (cs := #[.slice none 0 0, .slice none 0 0]) (t := 35) ?hr ?_; (case hd => rfl); (case hg => rfl); (case hr => first | (go_simp; done) | (go_simp; rfl));
       intro g2 hg w7 hbox hb; have n0_ := Aside0.mk (below_step HB.out hb); have K2 := Aside0.mk hbox; have n1_ := Aside0.mk (blk_below K1.out hb); have G2 := Aside0.mk ((by rw [hg]; exact (below_size HB.out)) : w.heap.size ≤ g2); have N12 := Aside0.mk ((by rw [hg]; exact Nat.ne_of_lt (blk_lt K1.out)) : g1 ≠ g2); clear HB K1; have HB := n0_; have K1 := n1_; clear n0_ n1_; clear hb hbox hg)
    | ((with_reducible refine gate_dst (N := 3) rfl ?_); refine box_event ?hg (N := 3) ?hd (cs := #[.slice none 0 0, .slice none 0 0]) (t := 35) ?hr ?_; (case hd => rfl); (case hg => rfl); (case hr => first | (go_simp; done) | (go_simp; rfl));
       intro g3 hg w8 hbox hb; have n0_ := Aside0.mk (below_step HB.out hb); have K3 := Aside0.mk hbox; have n1_ := Aside0.mk (blk_below K1.out hb); have n2_ := Aside0.mk (blk_below K2.out hb); have G3 := Aside0.mk ((by rw [hg]; exact (below_size HB.out)) : w.heap.size ≤ g3); have N13 := Aside0.mk ((by rw [hg]; exact Nat.ne_of_lt (blk_lt K1.out)) : g1 ≠ g3); have N23 := Aside0.mk ((by rw [hg]; exact Nat.ne_of_lt (blk_lt K2.out)) : g2 ≠ g3); clear HB K1 K2; have HB := n0_; have K1 := n1_; have K2 := n2_; clear n0_ n1_ n2_; clear hb hbox hg; have hc10 : w8.cell? ⟨g1, 0, none⟩ = some (.slice A0 s.length c0) := (blk_cell K1.out 0).trans rfl; have hc11 : w8.cell? ⟨g1, 1, none⟩ = some (.slice A1 T.length c1) := (blk_cell K1.out 1).trans rfl))
  obtain ⟨k, hk⟩ := (toIntS_ev s (by have := HS.out; omega)).rounds
  refine (laws_toIntS.calls k A0 c0 s s w8 (Kd.C_below H1.out HB.out) H2.out hk).mono ?_
  rintro e w9 ⟨v0, rfl, ho, hb⟩
  obtain ⟨Ao, co, rfl⟩ := Kd.R_slice ho
  have n0_ := Aside0.mk (below_step HB.out hb)
  have n1_ := Aside0.mk (blk_below K1.out hb)
  have n2_ := Aside0.mk (blk_below K2.out hb)
  have n3_ := Aside0.mk (blk_below K3.out hb)
  have HO := Aside0.mk (Kd.R_lower ho (below_size HB.out))
  clear HB K1 K2 K3 hc10 hc11 hk
  have HB := n0_
  have K1 := n1_
  have K2 := n2_
  have K3 := n3_
  clear n0_ n1_ n2_ n3_ ho hb
  have hc11 : w9.cell? ⟨g1, 1, none⟩ = some (.slice A1 T.length c1) := (blk_cell K1.out 1).trans rfl
  have hc30 : w9.cell? ⟨g3, 0, none⟩ = some (.slice none 0 0) := (blk_cell K3.out 0).trans rfl
  have hf30 := blk_frozen K3.out 0
  have hn13 := N13.out
  have hn31 := Ne.symm N13.out
  go_wp2_with fail
  clear hc11 hc30 hf30
  have m0_ := Aside0.mk (Kd.R_mono (Kd.R_far (p := ⟨g3, 0, none⟩) (Kd.R_types HO.out K3.out (by decide)) (fun _ hk => hk.2) (.slice Ao s.length co)) (ok' := fun _ => True) (fun _ _ => trivial))
  have m1_ := Aside0.mk (blk_far K1.out (p := ⟨g3, 0, none⟩) N13.out (.slice Ao s.length co))
  have m2_ := Aside0.mk (blk_far K2.out (p := ⟨g3, 0, none⟩) N23.out (.slice Ao s.length co))
  have m3_ := Aside0.mk (blk_put K3.out 0 (.slice Ao s.length co) (cs' := #[.slice Ao s.length co, .slice none 0 0]) rfl)
  have m4_ : Aside0 (Below w.heap.size w (w9.setCell ⟨g3, 0, none⟩ (.slice Ao s.length co))) := ⟨below_set HB.out G3.out⟩
  clear HO K1 K2 K3 HB
  generalize w9.setCell ⟨g3, 0, none⟩ (.slice Ao s.length co) = w10 at m0_ m1_ m2_ m3_ m4_ ⊢
  refine (toOffsetSS_calls T t HT.out HL.out HBB.out A1 c1 w10 (Kd.C_below H3.out m4_.out) H4.out).mono ?_
  rintro e w11 ⟨v1, rfl, ho, hb⟩
  obtain ⟨Ap, cp, rfl⟩ := Kd.S_slice ho
  have HO := Aside0.mk (Kd.R_below m0_.out hb)
  have HO1 := Aside0.mk (Kd.S_lower ho (below_size m4_.out))
  have K1 := Aside0.mk (blk_below m1_.out hb)
  have K2 := Aside0.mk (blk_below m2_.out hb)
  have K3 := Aside0.mk (blk_below m3_.out hb)
  have HB := Aside0.mk (below_step m4_.out hb)
  clear m0_ m1_ m2_ m3_ m4_ ho hb
  have hc30 : w11.cell? ⟨g3, 0, none⟩ = some (.slice Ao s.length co) := (blk_cell K3.out 0).trans rfl
  have hc31 : w11.cell? ⟨g3, 1, none⟩ = some (.slice none 0 0) := (blk_cell K3.out 1).trans rfl
  have hc20 : w11.cell? ⟨g2, 0, none⟩ = some (.slice none 0 0) := (blk_cell K2.out 0).trans rfl
  have hc21 : w11.cell? ⟨g2, 1, none⟩ = some (.slice none 0 0) := (blk_cell K2.out 1).trans rfl
  have hf31 := blk_frozen K3.out 1
  have hf20 := blk_frozen K2.out 0
  have hf21 := blk_frozen K2.out 1
  have hn23 := N23.out
  have hn32 := Ne.symm N23.out
  go_wp2_with fail
  clear hc30 hc31 hc20 hc21 hf31 hf20 hf21
  refine bodyPost_ret (results_cell_row rfl _ _ g2 35 #[.slice Ao s.length co, .slice Ap t.length cp] (0, 0) _ rfl (blk_put (cs := #[.slice Ao s.length co, .slice none 0 0]) (blk_put (cs := #[.slice none 0 0, .slice none 0 0]) (blk_far K2.out N23.out _) 0 _ rfl) 1 _ rfl) Tryd.underlying35 rfl (by kernel_rfl)) rfl ?_
  refine ⟨_, _, by first | rfl | (simp [errW_none, errW_some] <;> rfl) | (simp [*, errW_none, errW_some] <;> rfl), ?_, ?_, trivial, below_set (below_set (below_set HB.out G3.out) G2.out) G2.out⟩
  · exact Kd.R_mono (Kd.R_far (p := ⟨g2, 1, none⟩) (Kd.R_far (p := ⟨g2, 0, none⟩) (Kd.R_far (p := ⟨g3, 1, none⟩) (Kd.R_types (Kd.R_types HO.out K3.out (by decide)) K2.out (by decide)) (fun _ hk => hk.1.2) _) (fun _ hk => hk.2) _) (fun _ hk => hk.2) _) (fun _ _ => trivial)
  · exact Kd.S_mono (Kd.S_far (p := ⟨g2, 1, none⟩) (Kd.S_far (p := ⟨g2, 0, none⟩) (Kd.S_far (p := ⟨g3, 1, none⟩) (Kd.S_types (Kd.S_types HO1.out K3.out (by decide)) K2.out (by decide)) (fun _ hk => hk.1.2) _) (fun _ hk => hk.2) _) (fun _ hk => hk.2) _) (fun _ _ => trivial)
/- laws_eqOffsetS -/
theorem eqOffsetS_l0 (l : List S52) (hl : l.length ≤ maxLen) : ∀ (d i : Nat), i + d = l.length → Ev (fun k => laws_eqOffsetS.l0 k l l (i : Int)) true := by
  have hl := maxLen_le hl
  intro d
  induction d with
  | zero =>
    intro i hi
    exact Ev.step (fun k => laws_eqOffsetS.l0.eq_2 l l i k) (ev_neg (by omega) (ev_some rfl))
  | succ d ih =>
    intro i hi
    refine Ev.step (fun k => laws_eqOffsetS.l0.eq_2 l l i k) ?_
    rw [w_succ (n := l.length) (by omega) (by omega)]
    exact ev_pos (by omega) (ev_pos (by omega) (ev_pos (by omega) (ev_bindc (by unfold laws_eqOffset.f; rw [if_pos rfl, if_pos rfl, if_pos rfl]) (ev_pos rfl (ih (i + 1) (by omega))))))
theorem eqOffsetS_ev (l : List S52) (hl : l.length ≤ maxLen) : Ev (fun k => laws_eqOffsetS.f k l l) true := by
  unfold laws_eqOffsetS.f
  exact ev_pos rfl (eqOffsetS_l0 l hl l.length 0 (by omega))
/- laws_eqIntS -/
theorem eqIntS_l0 (l : List Int) (hl : l.length ≤ maxLen) : ∀ (d i : Nat), i + d = l.length → Ev (fun k => laws_eqIntS.l0 k l l (i : Int)) true := by
  have hl := maxLen_le hl
  intro d
  induction d with
  | zero =>
    intro i hi
    exact Ev.step (fun k => laws_eqIntS.l0.eq_2 l l i k) (ev_neg (by omega) (ev_some rfl))
  | succ d ih =>
    intro i hi
    refine Ev.step (fun k => laws_eqIntS.l0.eq_2 l l i k) ?_
    rw [w_succ (n := l.length) (by omega) (by omega)]
    exact ev_pos (by omega) (ev_pos (by omega) (ev_pos (by omega) (ev_pos rfl (ih (i + 1) (by omega)))))
theorem eqIntS_ev (l : List Int) (hl : l.length ≤ maxLen) : Ev (fun k => laws_eqIntS.f k l l) true := by
  unfold laws_eqIntS.f
  exact ev_pos rfl (eqIntS_l0 l hl l.length 0 (by omega))
/- com.eqSlopes -/
theorem eqOffsetSS_l0 (l : List (List S52)) (hl : l.length ≤ maxLen) (hb : ∀ x ∈ l, x.length ≤ maxLen) : ∀ (d i : Nat), i + d = l.length → Ev (fun k => laws_eqOffsetSS.l0 k l l (i : Int)) true := by
  have hl := maxLen_le hl
  intro d
  induction d with
  | zero =>
    intro i hi
    exact Ev.step (fun k => laws_eqOffsetSS.l0.eq_2 l l i k) (ev_neg (by omega) (ev_some rfl))
  | succ d ih =>
    intro i hi
    refine Ev.step (fun k => laws_eqOffsetSS.l0.eq_2 l l i k) ?_
    have hx : rd_L4 l (i : Int) = l.getD i [] := by unfold rd_L4; rw [toNat_nat]
    have hmem : l.getD i [] ∈ l := getD_mem (by omega)
    rw [w_succ (n := l.length) (by omega) (by omega), hx]
    exact ev_pos (by omega) (ev_pos (by omega) (ev_pos (by omega) (Ev.bind (eqOffsetS_ev _ (hb _ hmem)) (ev_pos rfl (ih (i + 1) (by omega))))))
theorem eqSlopes_calls (s : List Int) (T : List (List S52)) (hs : s.length ≤ maxLen) (hT : T.length ≤ maxLen) (hb : ∀ x ∈ T, x.length ≤ maxLen) (A0 : Option Addr) (c0 : Nat) (A1 : Option Addr) (c1 : Nat) (B0 : Option Addr) (d0 : Nat) (B1 : Option Addr) (d1 : Nat) (w : World)
    (h1 : Kd.C (Kd.int .i64) w A0 s.length s) (h2 : s.length ≤ c0) (h3 : Kd.C kOS w A1 T.length T) (h4 : T.length ≤ c1) (k1 : Kd.C (Kd.int .i64) w B0 s.length s) (k2 : s.length ≤ d0) (k3 : Kd.C kOS w B1 T.length T) (k4 : T.length ≤ d1) :
    Calls Tryd.prog 10 #[.agg #[.slice A0 s.length c0, .slice A1 T.length c1], .agg #[.slice B0 s.length d0, .slice B1 T.length d1]] w fun e w' => e = .returned (.bool true) ∧ Below w.heap.size w w' := by
  have : Ev (fun k => laws_eqSlopes.f k s T s T) true := by
    unfold laws_eqSlopes.f
    refine Ev.bind (eqIntS_ev s hs) (ev_pos rfl (Ev.bind (a := true) ?_ (ev_pos rfl (ev_some rfl))))
    unfold laws_eqOffsetSS.f
    exact ev_pos rfl (eqOffsetSS_l0 T hT hb T.length 0 (by omega))
  obtain ⟨k, hk⟩ := this.rounds
  exact laws_eqSlopes.calls k A0 c0 s A1 c1 T B0 d0 s B1 d1 T true w h1 h2 h3 h4 k1 k2 k3 k4 hk
/- laws_szOffsetS -/
theorem szOffsetS_tells (l : List S81) (a : Int) (hl : l.length ≤ maxLen) (ha : 0 ≤ a ∧ a ≤ 1048576) : ∃ r, laws_szOffsetS.f l a = some r ∧ (0 ≤ r → r = a - l.length) := by
  have hl := maxLen_le hl
  unfold laws_szOffsetS.f
  rw [w64 (by omega) (by omega)]
  by_cases h : a - (l.length : Int) < 0
  · exact ⟨-1, by rw [if_pos h], by omega⟩
  · exact ⟨_, by rw [if_neg h], by omega⟩
/- laws_szIntS -/
theorem szIntS_tells (l : List Int) (a : Int) (hl : l.length ≤ maxLen) (ha : 0 ≤ a ∧ a ≤ 1048576) : ∃ r, laws_szIntS.f l a = some r ∧ (0 ≤ r → r = a - l.length) ∧ (r < 0 → r = -1) := by
  have hl := maxLen_le hl
  unfold laws_szIntS.f
  rw [w64 (by omega) (by omega)]
  by_cases h : a - (l.length : Int) < 0
  · exact ⟨-1, by rw [if_pos h], by omega, by omega⟩
  · exact ⟨_, by rw [if_neg h], by omega, by omega⟩
/- com.szSlopes -/
theorem szOffsetSS_l0 (l : List (List S81)) (hl : l.length ≤ maxLen) (hb : ∀ x ∈ l, x.length ≤ maxLen) : ∀ (d i : Nat) (a : Int), i + d = l.length → 0 ≤ a → a ≤ 1048576 → (∀ j, j < i → (l.getD j []).length ≤ 1048576) →
    ∃ r, Ev (fun k => laws_szOffsetSS.l0 k l a (i : Int)) r ∧ (0 ≤ r → r ≤ 1048576 ∧ ∀ j, j < l.length → (l.getD j []).length ≤ 1048576) := by
  have hl := maxLen_le hl
  intro d
  induction d with
  | zero =>
    intro i a hi h0 h1 he
    refine ⟨a, Ev.step (fun k => laws_szOffsetSS.l0.eq_2 l a i k) (ev_neg (by omega) (ev_some rfl)), fun _ => ⟨h1, fun j hj => he j (by omega)⟩⟩
  | succ d ih =>
    intro i a hi h0 h1 he
    have hx : rd_L2 l (i : Int) = l.getD i [] := by unfold rd_L2; rw [toNat_nat]
    have hmem : l.getD i [] ∈ l := getD_mem (by omega)
    obtain ⟨r, hr, hp⟩ := szOffsetS_tells (l.getD i []) a (hb _ hmem) ⟨h0, h1⟩
    by_cases hlt : r < 0
    · refine ⟨-1, Ev.step (fun k => laws_szOffsetSS.l0.eq_2 l a i k) ?_, by omega⟩
      rw [hx]
      exact ev_pos (by omega) (ev_pos (by omega) (ev_bindc hr (ev_pos hlt (ev_some rfl))))
    · have hp := hp (by omega)
      obtain ⟨q, hq, hz⟩ := ih (i + 1) r (by omega) (by omega) (by omega) (fun j hj => by
        by_cases e : j = i
        · subst e; omega
        · exact he j (by omega))
      refine ⟨q, Ev.step (fun k => laws_szOffsetSS.l0.eq_2 l a i k) ?_, hz⟩
      rw [hx, w_succ (n := l.length) (by omega) (by omega)]
      exact ev_pos (by omega) (ev_pos (by omega) (ev_bindc hr (ev_neg hlt hq)))
theorem szOffsetSS_ev (l : List (List S81)) (hl : l.length ≤ maxLen) (hb : ∀ x ∈ l, x.length ≤ maxLen) (a : Int) (ha : 0 ≤ a ∧ a ≤ 1048576) :
    ∃ r, Ev (fun k => laws_szOffsetSS.f k l a) r ∧ (0 ≤ r → r ≤ 1048576 ∧ l.length ≤ 1048576 ∧ ∀ x ∈ l, x.length ≤ 1048576) := by
  have hl' := maxLen_le hl
  unfold laws_szOffsetSS.f
  rw [w64 (by omega) (by omega)]
  by_cases h : a - (l.length : Int) < 0
  · exact ⟨-1, ev_pos h (ev_some rfl), by omega⟩
  · obtain ⟨r, hr, hz⟩ := szOffsetSS_l0 l hl hb l.length 0 (a - (l.length : Int)) (by omega) (by omega) (by omega) (fun j hj => by omega)
    refine ⟨r, ev_neg h hr, fun h0 => ⟨(hz h0).1, by omega, fun x hx => ?_⟩⟩
    obtain ⟨j, hj, rfl⟩ := List.getElem_of_mem hx
    have := (hz h0).2 j hj
    rwa [List.getD_eq_getElem?_getD, List.getElem?_eq_getElem hj] at this
theorem szSlopes_calls (s : List Int) (T : List (List S81)) (hs : s.length ≤ maxLen) (hT : T.length ≤ maxLen) (hb : ∀ x ∈ T, x.length ≤ maxLen) (a : Int) (ha : 0 ≤ a ∧ a ≤ 1048576) : ∃ q : Int, (0 ≤ q → (0 ≤ q ∧ q ≤ 1048576) ∧ s.length ≤ 1048576 ∧ T.length ≤ 1048576 ∧ ∀ x ∈ T, x.length ≤ 1048576) ∧
    ∀ (A0 : Option Addr) (c0 : Nat) (A1 : Option Addr) (c1 : Nat) (w : World), Kd.C (Kd.int .i64) w A0 s.length s → s.length ≤ c0 → Kd.C kOS' w A1 T.length T → T.length ≤ c1 →
      Calls Tryd.prog 5 #[.agg #[.slice A0 s.length c0, .slice A1 T.length c1], .int .i64 a] w fun e w' => e = .returned (.int .i64 q) ∧ Below w.heap.size w w' := by
  have : ∃ q, Ev (fun k => laws_szSlopes.f k s T a) q ∧ (0 ≤ q → (0 ≤ q ∧ q ≤ 1048576) ∧ s.length ≤ 1048576 ∧ T.length ≤ 1048576 ∧ ∀ x ∈ T, x.length ≤ 1048576) := by
    unfold laws_szSlopes.f
    obtain ⟨q1, e1, p1, n1⟩ := szIntS_tells s a hs ha
    by_cases h1 : q1 < 0
    · exact ⟨-1, ev_bindc e1 (ev_pos h1 (ev_some rfl)), by omega⟩
    · obtain ⟨q2, e2, p2⟩ := szOffsetSS_ev T hT hb q1 (by omega)
      by_cases h2 : q2 < 0
      · exact ⟨-1, ev_bindc e1 (ev_neg h1 (Ev.bind e2 (ev_pos h2 (ev_some rfl)))), by omega⟩
      · have p2 := p2 (by omega)
        exact ⟨q2, ev_bindc e1 (ev_neg h1 (Ev.bind e2 (ev_neg h2 (ev_some rfl)))), fun h => ⟨⟨h, p2.1⟩, by omega, p2.2⟩⟩
  obtain ⟨q, e, hq⟩ := this
  obtain ⟨k, hk⟩ := e.rounds
  exact ⟨q, hq, fun A0 c0 A1 c1 w h1 h2 h3 h4 => laws_szSlopes.calls k A0 c0 s A1 c1 T a q w h1 h2 h3 h4 hk⟩
/- hand.FnExactSlopesText -/
theorem both (x y z : Int) (s : List Int) (T : List (List S52)) (_ : -9223372036854775808 ≤ x ∧ x ≤ 9223372036854775807) (_ : -9223372036854775808 ≤ y ∧ y ≤ 9223372036854775807) (_ : -9223372036854775808 ≤ z ∧ z ≤ 9223372036854775807) (hs : s.length ≤ 1048576) (hT : T.length ≤ 1048576) (hb : ∀ t ∈ T, t.length ≤ 1048576) :
    ∃ q : ByteArray × Bool, Ev (fun k => spec_SlopesText.f k x y z s T) q ∧ stR x y z s T = q := OwnSlopesText.both_ x y z s T hs hT hb
def laws_FnExactSlopesText_T5 : Bool × List (List Nat × List Nat) := (true, [([], []), ([0], [0]), ([], []), ([2, 1], [2]), ([1, 3, 3], [1, 3]), ([4], [4]), ([5], [5]), ([5], [5]), ([6, 4, 0, 1, 2, 3, 4, 5, 6], [6]), ([7, 8, 0, 1, 2, 3, 4, 5, 6, 7, 8], [7])])
def laws_FnExactSlopesText_B5 : List Nat := [0, 1, 0, 7, 15, 31, 63, 63, 127, 511]
theorem laws_FnExactSlopesText_tab5 : rtab .any (opsOf Tryd.f3 5) = laws_FnExactSlopesText_T5 := by kernel_rfl
theorem laws_FnExactSlopesText_bits5 : waitsOk laws_FnExactSlopesText_T5.2 laws_FnExactSlopesText_B5 = true := by kernel_rfl
def laws_FnExactSlopesText_T7 : Bool × List (List Nat × List Nat) := (true, [([], []), ([0], [0]), ([], []), ([1, 2, 1], [1, 2]), ([3], [3]), ([4], [4]), ([4], [4]), ([5, 3, 0, 1, 2, 3, 4, 5], [5]), ([6, 7, 0, 1, 2, 3, 4, 5, 6, 7], [6])])
def laws_FnExactSlopesText_B7 : List Nat := [0, 1, 0, 7, 15, 31, 31, 63, 255]
theorem laws_FnExactSlopesText_tab7 : rtab .any (opsOf Tryd.f3 7) = laws_FnExactSlopesText_T7 := by kernel_rfl
theorem laws_FnExactSlopesText_bits7 : waitsOk laws_FnExactSlopesText_T7.2 laws_FnExactSlopesText_B7 = true := by kernel_rfl
def laws_FnExactSlopesText_T10 : Bool × List (List Nat × List Nat) := (true, [([], []), ([], []), ([1], [1]), ([0, 2, 2], [0, 2]), ([3], [3])])
def laws_FnExactSlopesText_B10 : List Nat := [0, 0, 2, 7, 15]
theorem laws_FnExactSlopesText_tab10 : rtab .any (opsOf Tryd.f3 10) = laws_FnExactSlopesText_T10 := by kernel_rfl
theorem laws_FnExactSlopesText_bits10 : waitsOk laws_FnExactSlopesText_T10.2 laws_FnExactSlopesText_B10 = true := by kernel_rfl
set_option maxHeartbeats 4000000 in
set_option maxRecDepth 100000 in
theorem walk (a0_0 : Int) (a0_1 : Int) (a0_2 : Int) (a1_0 : List Int) (a1_1 : List (List S81)) (Aa1_0 : Option Addr) (ca1_0 : Nat) (Aa1_1 : Option Addr) (ca1_1 : Nat) (w : World) (htab : OwnNumbersText.Tab w) (hra1_0 : Kd.C (Kd.int .i64) w Aa1_0 a1_0.length a1_0) (hca1_0 : a1_0.length ≤ ca1_0) (hra1_1 : Kd.C kOS' w Aa1_1 a1_1.length a1_1) (hca1_1 : a1_1.length ≤ ca1_1) (r0 : Int) (hsz0 : ∀ (Aa1_0 : Option Addr) (ca1_0 : Nat) (Aa1_1 : Option Addr) (ca1_1 : Nat) (w : World), Kd.C (Kd.int .i64) w Aa1_0 a1_0.length a1_0 → a1_0.length ≤ ca1_0 → Kd.C kOS' w Aa1_1 a1_1.length a1_1 → a1_1.length ≤ ca1_1 → Calls Tryd.prog 5 #[.agg #[.slice Aa1_0 a1_0.length ca1_0, .slice Aa1_1 a1_1.length ca1_1], .int .i64 1048576] w fun e w' => e = .returned (.int .i64 r0) ∧ Below w.heap.size w w') (hlt0 : ¬ r0 < 0) (ta1_1 : List (List S52)) (hta1_1 : a1_1.map cOS = ta1_1) (g0 : ByteArray) (g1 : Bool) (hla1_0 : a1_0.length ≤ 1048576) (hlta1_1 : ta1_1.length ≤ 1048576) (hbta1_1 : ∀ x ∈ ta1_1, x.length ≤ 1048576)  (hs : ∃ k, spec_SlopesText.f k a0_0 a0_1 a0_2 a1_0 ta1_1 = some (g0, g1)) (hi : stR a0_0 a0_1 a0_2 a1_0 ta1_1 = (g0, g1)) :
    Calls Tryd.prog 3 #[.agg #[.int .i64 a0_0, .int .i64 a0_1, .int .i64 a0_2], .agg #[.slice Aa1_0 a1_0.length ca1_0, .slice Aa1_1 a1_1.length ca1_1]] w fun e w' => e = .returned (.bool true) ∧ Below w.heap.size w w' := by
  obtain ⟨ks, hs⟩ := hs
  have Hs := Aside0.mk hs
  have Hi := Aside0.mk hi
  have HRa1_0 := Aside0.mk hra1_0
  have HCa1_0 := Aside0.mk hca1_0
  have HLa1_0 := Aside0.mk hla1_0
  have HRa1_1 := Aside0.mk hra1_1
  have HCa1_1 := Aside0.mk hca1_1
  have HLta1_1 := Aside0.mk hlta1_1
  have HBta1_1 := Aside0.mk hbta1_1
  have HTa1_1 := Aside0.mk hta1_1
  have HSZ0 := Aside0.mk hsz0
  have d0 : decide (r0 < 0) = false := decide_eq_false hlt0
  clear hs hi hra1_0 hca1_0 hla1_0 hra1_1 hca1_1 hlta1_1 hbta1_1 hta1_1 hsz0 hlt0
  have HTAB := Aside0.mk (Lib.tabBelow_of_tabIs htab)
  clear htab
  go_enter Tryd.func3, Tryd.ntmps3
  go_wp2_with fail
  obtain ⟨wb, hwb⟩ : ∃ z : World, z = ((w.alloc (.cells #[.int .i64 a0_0, .int .i64 a0_1, .int .i64 a0_2] 23)).alloc (.cells #[.slice Aa1_0 a1_0.length ca1_0, .slice Aa1_1 a1_1.length ca1_1] 27)) := ⟨_, rfl⟩
  rw [← hwb]
  have K0_0 : Aside0 (wb.heap[w.heap.size]? = some (.cells #[.int .i64 a0_0, .int .i64 a0_1, .int .i64 a0_2] 23 (0, 0))) := ⟨by rw [hwb]; exact blk_alloc (blk_new w _) _⟩
  have K1_0 : Aside0 (wb.heap[w.heap.size + 1]? = some (.cells #[.slice Aa1_0 a1_0.length ca1_0, .slice Aa1_1 a1_1.length ca1_1] 27 (0, 0))) := ⟨by rw [hwb, show w.heap.size + 1 = (w.alloc (.cells #[.int .i64 a0_0, .int .i64 a0_1, .int .i64 a0_2] 23)).heap.size from (Array.size_push ..).symm]; exact blk_new (w.alloc (.cells #[.int .i64 a0_0, .int .i64 a0_1, .int .i64 a0_2] 23)) _⟩
  have B0 : Aside0 (Below w.heap.size w wb) := ⟨by rw [hwb]; exact below_alloc (below_alloc (Below.refl _ _) _) _⟩
  have z0 := B0.out.size
  have zb := blk_lt K1_0.out
  clear hwb
  refine (HSZ0.out Aa1_0 ca1_0 Aa1_1 ca1_1 wb (Kd.C_below HRa1_0.out B0.out) HCa1_0.out (Kd.C_below HRa1_1.out B0.out) HCa1_1.out).mono ?_
  rintro e w1 ⟨rfl, hb⟩
  have B1 := Aside0.mk (below_step B0.out hb)
  have z1 := hb.size
  have K0_1 := Aside0.mk (blk_below K0_0.out hb)
  clear K0_0
  have K1_1 := Aside0.mk (blk_below K1_0.out hb)
  clear K1_0
  clear hb
  have hcz0_0 : w1.cell? ⟨w.heap.size, 0, none⟩ = some (.int .i64 a0_0) := (blk_cell K0_1.out 0).trans rfl
  have hfz0_0 := blk_frozen K0_1.out 0
  have hcz0_1 : w1.cell? ⟨w.heap.size, 1, none⟩ = some (.int .i64 a0_1) := (blk_cell K0_1.out 1).trans rfl
  have hfz0_1 := blk_frozen K0_1.out 1
  have hcz0_2 : w1.cell? ⟨w.heap.size, 2, none⟩ = some (.int .i64 a0_2) := (blk_cell K0_1.out 2).trans rfl
  have hfz0_2 := blk_frozen K0_1.out 2
  have hcz1_0 : w1.cell? ⟨w.heap.size + 1, 0, none⟩ = some (.slice Aa1_0 a1_0.length ca1_0) := (blk_cell K1_1.out 0).trans rfl
  have hfz1_0 := blk_frozen K1_1.out 0
  have hcz1_1 : w1.cell? ⟨w.heap.size + 1, 1, none⟩ = some (.slice Aa1_1 a1_1.length ca1_1) := (blk_cell K1_1.out 1).trans rfl
  have hfz1_1 := blk_frozen K1_1.out 1
  go_wp2_with fail
  clear hcz0_0 hfz0_0 hcz0_1 hfz0_1 hcz0_2 hfz0_2 hcz1_0 hfz1_0 hcz1_1 hfz1_1
  have K0_1d := Aside0.mk (blk_drew K0_1.out)
  clear K0_1
  have K1_1d := Aside0.mk (blk_drew K1_1.out)
  clear K1_1
  have B2 := Aside0.mk (below_drew1 B1.out)
  have z2 : w1.heap.size ≤ (w1.drew).heap.size := Nat.le_refl _
  refine start_ (n := 10) (S := fun w' => w'.cell? ⟨w.heap.size, 0, none⟩ = some (.int .i64 a0_0) ∧ w'.cell? ⟨w.heap.size, 1, none⟩ = some (.int .i64 a0_1) ∧ w'.cell? ⟨w.heap.size, 2, none⟩ = some (.int .i64 a0_2) ∧ w'.cell? ⟨w.heap.size + 1, 0, none⟩ = some (.slice Aa1_0 a1_0.length ca1_0) ∧ w'.cell? ⟨w.heap.size + 1, 1, none⟩ = some (.slice Aa1_1 a1_1.length ca1_1)) (ds := []) #[false, false, false, false, false, false, false, false, false, false] (by kernel_rfl) rfl rfl ⟨(blk_cell K0_1d.out 0).trans rfl, (blk_cell K0_1d.out 1).trans rfl, (blk_cell K0_1d.out 2).trans rfl, (blk_cell K1_1d.out 0).trans rfl, (blk_cell K1_1d.out 1).trans rfl⟩ (fun hHeld => ?_)
  refine with_tabW laws_FnExactSlopesText_tab5 laws_FnExactSlopesText_bits5 (fun HT_ HW_ => ?_)
  generalize w1.drew = w2 at K0_1d K1_1d B2 z2 hHeld ⊢
  refine take_ (i := 0) (N := some 17) (v := ?_) (a' := ?_) #[true, false, false, false, false, false, false, false, false, false] rfl rfl (take_ofW HT_.out HW_.out (by kernel_rfl)) (fun _ _ _ h => h) (Or.inl ⟨by rfl, ?_⟩) hHeld ?_ ?_
  rotate_left
  · rintro w' ⟨s0, s1, s2, s3, s4⟩
    go_simp
    with_reducible rfl
  rotate_left
  · simp only [Act.put, List.setIfInBounds_toArray, List.set_cons_zero, List.set_cons_succ, i64_w, i32_w]
    rfl
  refine take_ (i := 2) (N := some 19) (v := ?_) (a' := ?_) #[true, false, true, false, false, false, false, false, false, false] rfl rfl (take_ofW HT_.out HW_.out (by kernel_rfl)) (fun _ _ _ h => h) (Or.inl ⟨by rfl, ?_⟩) hHeld ?_ ?_
  rotate_left
  · rintro w' ⟨s0, s1, s2, s3, s4⟩
    go_simp
    with_reducible rfl
  rotate_left
  · simp only [Act.put, List.setIfInBounds_toArray, List.set_cons_zero, List.set_cons_succ, i64_w, i32_w]
    rfl
  refine one_ (i := 1) (N := some 18) #[true, true, true, false, false, false, false, false, false, false] rfl rfl (one_of HT_.out (by kernel_rfl)) (by decide) (fun K hK => ?_)
  refine goes_ Tryd.func7 (by kernel_rfl) rfl #[.agg #[.int .i64 a0_0, .int .i64 a0_1, .int .i64 a0_2]] (by rfl) rfl rfl (by (try simp only [List.map_toArray, List.map_cons, List.map_nil]); first | done | rfl | (simp only [List.length_drop, List.length_take]; rfl)) ?_
  refine (toGrid_calls a0_0 a0_1 a0_2  w2 ).mono ?_
  rintro e w3 ⟨rfl, hb⟩
  refine ⟨_, rfl, ?_⟩
  have B3 := Aside0.mk (below_step B2.out hb)
  have z3 := hb.size
  have K0_3 := Aside0.mk (blk_below K0_1d.out hb)
  clear K0_1d
  have K1_3 := Aside0.mk (blk_below K1_1d.out hb)
  clear K1_1d
  clear hb
  refine hK.out _ _ ⟨(blk_cell K0_3.out 0).trans rfl, (blk_cell K0_3.out 1).trans rfl, (blk_cell K0_3.out 2).trans rfl, (blk_cell K1_3.out 0).trans rfl, (blk_cell K1_3.out 1).trans rfl⟩ (fun hHeld => ?_)
  clear hK K
  refine norm_ (a' := ?_) ?_ ?_
  rotate_left
  · show Act.put _ (some 18) _ = _
    simp only [Act.put, List.setIfInBounds_toArray, List.set_cons_zero, List.set_cons_succ, i64_w, i32_w]
    rfl
  refine one_ (i := 3) (N := some 20) #[true, true, true, true, false, false, false, false, false, false] rfl rfl (one_of HT_.out (by kernel_rfl)) (by decide) (fun K hK => ?_)
  refine goes_ Tryd.func8 (by kernel_rfl) rfl #[.agg #[.slice Aa1_0 a1_0.length ca1_0, .slice Aa1_1 a1_1.length ca1_1]] (by rfl) rfl rfl (by (try simp only [List.map_toArray, List.map_cons, List.map_nil]); first | done | rfl | (simp only [List.length_drop, List.length_take]; rfl)) ?_
  refine (toSlopes_calls a1_0 HLa1_0.out a1_1 ta1_1 HTa1_1.out HLta1_1.out HBta1_1.out Aa1_0 ca1_0 Aa1_1 ca1_1 w3 (Kd.C_below HRa1_0.out B3.out) HCa1_0.out (Kd.C_below HRa1_1.out B3.out) HCa1_1.out).mono ?_
  rintro e w4 ⟨v0, v1, rfl, ho0, ho1, hne, hb⟩
  refine ⟨_, rfl, ?_⟩
  have B4 := Aside0.mk (below_step B3.out hb)
  have z4 := hb.size
  obtain ⟨At1_0_4, ct1_0_4, rfl⟩ := Kd.R_slice ho0
  have Ft1_0_4 := Aside0.mk (ivR (w := w) ho0 (by omega))
  clear ho0
  obtain ⟨At1_1_4, ct1_1_4, rfl⟩ := Kd.S_slice ho1
  have Ft1_1_4 := Aside0.mk (ivS (w := w) ho1 (by omega))
  clear ho1
  have Dt1 := Aside0.mk hne
  clear hne
  have K0_4 := Aside0.mk (blk_below K0_3.out hb)
  clear K0_3
  have K1_4 := Aside0.mk (blk_below K1_3.out hb)
  clear K1_3
  clear hb
  refine hK.out _ _ ⟨(blk_cell K0_4.out 0).trans rfl, (blk_cell K0_4.out 1).trans rfl, (blk_cell K0_4.out 2).trans rfl, (blk_cell K1_4.out 0).trans rfl, (blk_cell K1_4.out 1).trans rfl⟩ (fun hHeld => ?_)
  clear hK K
  refine norm_ (a' := ?_) ?_ ?_
  rotate_left
  · show Act.put _ (some 20) _ = _
    simp only [Act.put, List.setIfInBounds_toArray, List.set_cons_zero, List.set_cons_succ, i64_w, i32_w]
    rfl
  refine one_ (i := 4) (N := some 21) #[true, true, true, true, true, false, false, false, false, false] rfl rfl (one_of HT_.out (by kernel_rfl)) (by decide) (fun K hK => ?_)
  refine goes_ Tryd.func6 (by kernel_rfl) rfl #[.agg #[.int .i64 a0_0, .int .i64 a0_1, .int .i64 a0_2], .agg #[.slice At1_0_4 a1_0.length ct1_0_4, .slice At1_1_4 ta1_1.length ct1_1_4]] (by rfl) rfl rfl (by (try simp only [List.map_toArray, List.map_cons, List.map_nil]); first | done | rfl | (simp only [List.length_drop, List.length_take]; rfl)) ?_
  refine (spec_SlopesText.calls ks a0_0 a0_1 a0_2 At1_0_4 ct1_0_4 a1_0 At1_1_4 ct1_1_4 ta1_1 g0 g1 w4 (readsR Ft1_0_4.out).2.2 (readsR Ft1_0_4.out).2.1 (readsS Ft1_1_4.out).2.2 (readsS Ft1_1_4.out).2.1 Hs.out).mono ?_
  rintro e w5 ⟨rfl, hb⟩
  refine ⟨_, rfl, ?_⟩
  have B5 := Aside0.mk (below_step B4.out hb)
  have z5 := hb.size
  have K0_5 := Aside0.mk (blk_below K0_4.out hb)
  clear K0_4
  have K1_5 := Aside0.mk (blk_below K1_4.out hb)
  clear K1_4
  have Ft1_0_5 := Aside0.mk (Kd.R_below Ft1_0_4.out hb)
  clear Ft1_0_4
  have Ft1_1_5 := Aside0.mk (Kd.S_below Ft1_1_4.out hb)
  clear Ft1_1_4
  clear hb
  refine hK.out _ _ ⟨(blk_cell K0_5.out 0).trans rfl, (blk_cell K0_5.out 1).trans rfl, (blk_cell K0_5.out 2).trans rfl, (blk_cell K1_5.out 0).trans rfl, (blk_cell K1_5.out 1).trans rfl⟩ (fun hHeld => ?_)
  clear hK K
  refine norm_ (a' := ?_) ?_ ?_
  rotate_left
  · show Act.put _ (some 21) _ = _
    simp only [Act.put, List.setIfInBounds_toArray, List.set_cons_zero, List.set_cons_succ, i64_w, i32_w]
    rfl
  refine pure_ (i := 5) (N := some 16) (v := ?_) (a' := ?_) #[true, true, true, true, true, true, false, false, false, false] rfl rfl (any_of HT_.out (by kernel_rfl)) (fun _ _ _ h => h) (Or.inl ⟨by rfl, ?_⟩) ?_ ?_
  rotate_left
  · intro w'
    go_simp
    with_reducible rfl
  rotate_left
  · simp only [Act.put, List.setIfInBounds_toArray, List.set_cons_zero, List.set_cons_succ, i64_w, i32_w]
    rfl
  refine pure_ (i := 6) (N := some 22) (v := ?_) (a' := ?_) #[true, true, true, true, true, true, true, false, false, false] rfl rfl (any_of HT_.out (by kernel_rfl)) (fun _ _ _ h => h) (Or.inl ⟨by rfl, ?_⟩) ?_ ?_
  rotate_left
  · intro w'
    go_simp
    with_reducible rfl
  rotate_left
  · simp only [Act.put, List.setIfInBounds_toArray, List.set_cons_zero, List.set_cons_succ, i64_w, i32_w]
    rfl
  refine pure_ (i := 7) (N := some 23) (v := ?_) (a' := ?_) #[true, true, true, true, true, true, true, true, false, false] rfl rfl (any_of HT_.out (by kernel_rfl)) (fun _ _ _ h => h) (Or.inl ⟨by rfl, ?_⟩) ?_ ?_
  rotate_left
  · intro w'
    go_simp
    with_reducible rfl
  rotate_left
  · simp only [Act.put, List.setIfInBounds_toArray, List.set_cons_zero, List.set_cons_succ, i64_w, i32_w]
    rfl
  refine pure_ (i := 8) (N := some 6) (v := ?_) (a' := ?_) #[true, true, true, true, true, true, true, true, true, false] rfl rfl (any_of HT_.out (by kernel_rfl)) (fun _ _ _ h => h) (Or.inl ⟨by rfl, ?_⟩) ?_ ?_
  rotate_left
  · intro w'
    go_simp
    with_reducible rfl
  rotate_left
  · simp only [Act.put, List.setIfInBounds_toArray, List.set_cons_zero, List.set_cons_succ, i64_w, i32_w]
    rfl
  refine pure_ (i := 9) (N := some 7) (v := ?_) (a' := ?_) #[true, true, true, true, true, true, true, true, true, true] rfl rfl (any_of HT_.out (by kernel_rfl)) (fun _ _ _ h => h) (Or.inl ⟨by rfl, ?_⟩) ?_ ?_
  rotate_left
  · intro w'
    go_simp
    with_reducible rfl
  rotate_left
  · simp only [Act.put, List.setIfInBounds_toArray, List.set_cons_zero, List.set_cons_succ, i64_w, i32_w]
    rfl
  refine done_ (done_of HT_.out (by kernel_rfl)) ?_
  clear HT_ HW_
  have hcz0_0 : w5.cell? ⟨w.heap.size, 0, none⟩ = some (.int .i64 a0_0) := (blk_cell K0_5.out 0).trans rfl
  have hfz0_0 := blk_frozen K0_5.out 0
  have hcz0_1 : w5.cell? ⟨w.heap.size, 1, none⟩ = some (.int .i64 a0_1) := (blk_cell K0_5.out 1).trans rfl
  have hfz0_1 := blk_frozen K0_5.out 1
  have hcz0_2 : w5.cell? ⟨w.heap.size, 2, none⟩ = some (.int .i64 a0_2) := (blk_cell K0_5.out 2).trans rfl
  have hfz0_2 := blk_frozen K0_5.out 2
  have hcz1_0 : w5.cell? ⟨w.heap.size + 1, 0, none⟩ = some (.slice Aa1_0 a1_0.length ca1_0) := (blk_cell K1_5.out 0).trans rfl
  have hfz1_0 := blk_frozen K1_5.out 0
  have hcz1_1 : w5.cell? ⟨w.heap.size + 1, 1, none⟩ = some (.slice Aa1_1 a1_1.length ca1_1) := (blk_cell K1_5.out 1).trans rfl
  have hfz1_1 := blk_frozen K1_5.out 1
  go_wp2_with fail
  clear hcz0_0 hfz0_0 hcz0_1 hfz0_1 hcz0_2 hfz0_2 hcz1_0 hfz1_0 hcz1_1 hfz1_1
  refine (toSlopes_calls a1_0 HLa1_0.out a1_1 ta1_1 HTa1_1.out HLta1_1.out HBta1_1.out Aa1_0 ca1_0 Aa1_1 ca1_1 w5 (Kd.C_below HRa1_0.out B5.out) HCa1_0.out (Kd.C_below HRa1_1.out B5.out) HCa1_1.out).mono ?_
  rintro e w6 ⟨v0, v1, rfl, ho0, ho1, hne, hb⟩
  have B6 := Aside0.mk (below_step B5.out hb)
  have z6 := hb.size
  obtain ⟨Ax1_0_6, cx1_0_6, rfl⟩ := Kd.R_slice ho0
  have Fx1_0_6 := Aside0.mk (ivR (w := w) ho0 (by omega))
  clear ho0
  obtain ⟨Ax1_1_6, cx1_1_6, rfl⟩ := Kd.S_slice ho1
  have Fx1_1_6 := Aside0.mk (ivS (w := w) ho1 (by omega))
  clear ho1
  have Dx1 := Aside0.mk hne
  clear hne
  have K0_6 := Aside0.mk (blk_below K0_5.out hb)
  clear K0_5
  have K1_6 := Aside0.mk (blk_below K1_5.out hb)
  clear K1_5
  clear hb
  have hcz0_0 : w6.cell? ⟨w.heap.size, 0, none⟩ = some (.int .i64 a0_0) := (blk_cell K0_6.out 0).trans rfl
  have hfz0_0 := blk_frozen K0_6.out 0
  have hcz0_1 : w6.cell? ⟨w.heap.size, 1, none⟩ = some (.int .i64 a0_1) := (blk_cell K0_6.out 1).trans rfl
  have hfz0_1 := blk_frozen K0_6.out 1
  have hcz0_2 : w6.cell? ⟨w.heap.size, 2, none⟩ = some (.int .i64 a0_2) := (blk_cell K0_6.out 2).trans rfl
  have hfz0_2 := blk_frozen K0_6.out 2
  have hcz1_0 : w6.cell? ⟨w.heap.size + 1, 0, none⟩ = some (.slice Aa1_0 a1_0.length ca1_0) := (blk_cell K1_6.out 0).trans rfl
  have hfz1_0 := blk_frozen K1_6.out 0
  have hcz1_1 : w6.cell? ⟨w.heap.size + 1, 1, none⟩ = some (.slice Aa1_1 a1_1.length ca1_1) := (blk_cell K1_6.out 1).trans rfl
  have hfz1_1 := blk_frozen K1_6.out 1
  go_wp2_with fail
  clear hcz0_0 hfz0_0 hcz0_1 hfz0_1 hcz0_2 hfz0_2 hcz1_0 hfz1_0 hcz1_1 hfz1_1
  have Fx1_0_6b := Aside0.mk (Kd.R_below Fx1_0_6.out (below_alloc (Below.refl _ _) (.cells #[.slice Ax1_0_6 a1_0.length cx1_0_6, .slice Ax1_1_6 ta1_1.length cx1_1_6] 35)))
  clear Fx1_0_6
  have Fx1_1_6b := Aside0.mk (Kd.S_below Fx1_1_6.out (below_alloc (Below.refl _ _) (.cells #[.slice Ax1_0_6 a1_0.length cx1_0_6, .slice Ax1_1_6 ta1_1.length cx1_1_6] 35)))
  clear Fx1_1_6
  have K0_6b := Aside0.mk (blk_alloc K0_6.out (.cells #[.slice Ax1_0_6 a1_0.length cx1_0_6, .slice Ax1_1_6 ta1_1.length cx1_1_6] 35))
  clear K0_6
  have K1_6b := Aside0.mk (blk_alloc K1_6.out (.cells #[.slice Ax1_0_6 a1_0.length cx1_0_6, .slice Ax1_1_6 ta1_1.length cx1_1_6] 35))
  clear K1_6
  have B7 := Aside0.mk (below_alloc B6.out (.cells #[.slice Ax1_0_6 a1_0.length cx1_0_6, .slice Ax1_1_6 ta1_1.length cx1_1_6] 35))
  have z7 : w6.heap.size < (w6.alloc (.cells #[.slice Ax1_0_6 a1_0.length cx1_0_6, .slice Ax1_1_6 ta1_1.length cx1_1_6] 35)).heap.size := Nat.lt_of_lt_of_eq (Nat.lt_succ_self _) (Array.size_push ..).symm
  have Kx1_7 := Aside0.mk (blk_new w6 (.cells #[.slice Ax1_0_6 a1_0.length cx1_0_6, .slice Ax1_1_6 ta1_1.length cx1_1_6] 35))
  generalize w6.alloc (.cells #[.slice Ax1_0_6 a1_0.length cx1_0_6, .slice Ax1_1_6 ta1_1.length cx1_1_6] 35) = w7 at Fx1_0_6b Fx1_1_6b K0_6b K1_6b Kx1_7 B7 z7 ⊢
  have Fx1_0_6bd := Aside0.mk (Kd.R_drew Fx1_0_6b.out)
  clear Fx1_0_6b
  have Fx1_1_6bd := Aside0.mk (Kd.S_drew Fx1_1_6b.out)
  clear Fx1_1_6b
  have K0_6bd := Aside0.mk (blk_drew K0_6b.out)
  clear K0_6b
  have K1_6bd := Aside0.mk (blk_drew K1_6b.out)
  clear K1_6b
  have Kx1_7d := Aside0.mk (blk_drew Kx1_7.out)
  clear Kx1_7
  have B8 := Aside0.mk (below_drew1 B7.out)
  have z8 : w7.heap.size ≤ (w7.drew).heap.size := Nat.le_refl _
  refine start_ (n := 9) (S := fun w' => w'.cell? ⟨w.heap.size, 0, none⟩ = some (.int .i64 a0_0) ∧ w'.cell? ⟨w.heap.size, 1, none⟩ = some (.int .i64 a0_1) ∧ w'.cell? ⟨w.heap.size, 2, none⟩ = some (.int .i64 a0_2) ∧ w'.cell? ⟨w.heap.size + 1, 0, none⟩ = some (.slice Aa1_0 a1_0.length ca1_0) ∧ w'.cell? ⟨w.heap.size + 1, 1, none⟩ = some (.slice Aa1_1 a1_1.length ca1_1) ∧ w'.cell? ⟨w6.heap.size, 0, none⟩ = some (.slice Ax1_0_6 a1_0.length cx1_0_6) ∧ w'.cell? ⟨w6.heap.size, 1, none⟩ = some (.slice Ax1_1_6 ta1_1.length cx1_1_6)) (ds := []) #[false, false, false, false, false, false, false, false, false] (by kernel_rfl) rfl rfl ⟨(blk_cell K0_6bd.out 0).trans rfl, (blk_cell K0_6bd.out 1).trans rfl, (blk_cell K0_6bd.out 2).trans rfl, (blk_cell K1_6bd.out 0).trans rfl, (blk_cell K1_6bd.out 1).trans rfl, (blk_cell Kx1_7d.out 0).trans rfl, (blk_cell Kx1_7d.out 1).trans rfl⟩ (fun hHeld => ?_)
  refine with_tabW laws_FnExactSlopesText_tab7 laws_FnExactSlopesText_bits7 (fun HT_ HW_ => ?_)
  generalize w7.drew = w8 at Fx1_0_6bd Fx1_1_6bd K0_6bd K1_6bd Kx1_7d B8 z8 hHeld ⊢
  refine take_ (i := 0) (N := some 27) (v := ?_) (a' := ?_) #[true, false, false, false, false, false, false, false, false] rfl rfl (take_ofW HT_.out HW_.out (by kernel_rfl)) (fun _ _ _ h => h) (Or.inl ⟨by rfl, ?_⟩) hHeld ?_ ?_
  rotate_left
  · rintro w' ⟨s0, s1, s2, s3, s4, s5, s6⟩
    go_simp
    with_reducible rfl
  rotate_left
  · simp only [Act.put, List.setIfInBounds_toArray, List.set_cons_zero, List.set_cons_succ, i64_w, i32_w]
    rfl
  refine take_ (i := 2) (N := some 29) (v := ?_) (a' := ?_) #[true, false, true, false, false, false, false, false, false] rfl rfl (take_ofW HT_.out HW_.out (by kernel_rfl)) (fun _ _ _ h => h) (Or.inl ⟨by rfl, ?_⟩) hHeld ?_ ?_
  rotate_left
  · rintro w' ⟨s0, s1, s2, s3, s4, s5, s6⟩
    go_simp
    with_reducible rfl
  rotate_left
  · simp only [Act.put, List.setIfInBounds_toArray, List.set_cons_zero, List.set_cons_succ, i64_w, i32_w]
    rfl
  refine one_ (i := 1) (N := some 28) #[true, true, true, false, false, false, false, false, false] rfl rfl (one_of HT_.out (by kernel_rfl)) (by decide) (fun K hK => ?_)
  refine goes_ Tryd.func7 (by kernel_rfl) rfl #[.agg #[.int .i64 a0_0, .int .i64 a0_1, .int .i64 a0_2]] (by rfl) rfl rfl (by (try simp only [List.map_toArray, List.map_cons, List.map_nil]); first | done | rfl | (simp only [List.length_drop, List.length_take]; rfl)) ?_
  refine (toGrid_calls a0_0 a0_1 a0_2  w8 ).mono ?_
  rintro e w9 ⟨rfl, hb⟩
  refine ⟨_, rfl, ?_⟩
  have B9 := Aside0.mk (below_step B8.out hb)
  have z9 := hb.size
  have K0_9 := Aside0.mk (blk_below K0_6bd.out hb)
  clear K0_6bd
  have K1_9 := Aside0.mk (blk_below K1_6bd.out hb)
  clear K1_6bd
  have K2_9 := Aside0.mk (blk_below Kx1_7d.out hb)
  clear Kx1_7d
  have Fx1_0_9 := Aside0.mk (Kd.R_below Fx1_0_6bd.out hb)
  clear Fx1_0_6bd
  have Fx1_1_9 := Aside0.mk (Kd.S_below Fx1_1_6bd.out hb)
  clear Fx1_1_6bd
  clear hb
  refine hK.out _ _ ⟨(blk_cell K0_9.out 0).trans rfl, (blk_cell K0_9.out 1).trans rfl, (blk_cell K0_9.out 2).trans rfl, (blk_cell K1_9.out 0).trans rfl, (blk_cell K1_9.out 1).trans rfl, (blk_cell K2_9.out 0).trans rfl, (blk_cell K2_9.out 1).trans rfl⟩ (fun hHeld => ?_)
  clear hK K
  refine norm_ (a' := ?_) ?_ ?_
  rotate_left
  · show Act.put _ (some 28) _ = _
    simp only [Act.put, List.setIfInBounds_toArray, List.set_cons_zero, List.set_cons_succ, i64_w, i32_w]
    rfl
  refine one_ (i := 3) (N := some 30) #[true, true, true, true, false, false, false, false, false] rfl rfl (one_of HT_.out (by kernel_rfl)) (by decide) (fun K hK => ?_)
  refine goes_ Tryd.func9 (by kernel_rfl) rfl #[.agg #[.int .i64 a0_0, .int .i64 a0_1, .int .i64 a0_2], .agg #[.slice Ax1_0_6 a1_0.length cx1_0_6, .slice Ax1_1_6 ta1_1.length cx1_1_6]] (by rfl) rfl rfl (by (try simp only [List.map_toArray, List.map_cons, List.map_nil]); first | done | rfl | (simp only [List.length_drop, List.length_take]; rfl)) ?_
  refine (OwnSlopesText.own_impl a0_0 a0_1 a0_2 Ax1_0_6 cx1_0_6 a1_0 Ax1_1_6 cx1_1_6 ta1_1 g0 g1 w9 (readsR Fx1_0_9.out).2.2 (readsR Fx1_0_9.out).2.1 (readsS Fx1_1_9.out).2.2 (readsS Fx1_1_9.out).2.1 HLa1_0.out HLta1_1.out HBta1_1.out (HTAB.out _ B9.out) Hi.out).mono ?_
  rintro e w10 ⟨rfl, hb⟩
  refine ⟨_, rfl, ?_⟩
  have B10 := Aside0.mk (below_step B9.out hb)
  have z10 := hb.size
  have K0_10 := Aside0.mk (blk_below K0_9.out hb)
  clear K0_9
  have K1_10 := Aside0.mk (blk_below K1_9.out hb)
  clear K1_9
  have K2_10 := Aside0.mk (blk_below K2_9.out hb)
  clear K2_9
  have Fx1_0_10 := Aside0.mk (Kd.R_below Fx1_0_9.out hb)
  clear Fx1_0_9
  have Fx1_1_10 := Aside0.mk (Kd.S_below Fx1_1_9.out hb)
  clear Fx1_1_9
  clear hb
  refine hK.out _ _ ⟨(blk_cell K0_10.out 0).trans rfl, (blk_cell K0_10.out 1).trans rfl, (blk_cell K0_10.out 2).trans rfl, (blk_cell K1_10.out 0).trans rfl, (blk_cell K1_10.out 1).trans rfl, (blk_cell K2_10.out 0).trans rfl, (blk_cell K2_10.out 1).trans rfl⟩ (fun hHeld => ?_)
  clear hK K
  refine norm_ (a' := ?_) ?_ ?_
  rotate_left
  · show Act.put _ (some 30) _ = _
    simp only [Act.put, List.setIfInBounds_toArray, List.set_cons_zero, List.set_cons_succ, i64_w, i32_w]
    rfl
  refine pure_ (i := 4) (N := some 26) (v := ?_) (a' := ?_) #[true, true, true, true, true, false, false, false, false] rfl rfl (any_of HT_.out (by kernel_rfl)) (fun _ _ _ h => h) (Or.inl ⟨by rfl, ?_⟩) ?_ ?_
  rotate_left
  · intro w'
    go_simp
    with_reducible rfl
  rotate_left
  · simp only [Act.put, List.setIfInBounds_toArray, List.set_cons_zero, List.set_cons_succ, i64_w, i32_w]
    rfl
  refine pure_ (i := 5) (N := some 31) (v := ?_) (a' := ?_) #[true, true, true, true, true, true, false, false, false] rfl rfl (any_of HT_.out (by kernel_rfl)) (fun _ _ _ h => h) (Or.inl ⟨by rfl, ?_⟩) ?_ ?_
  rotate_left
  · intro w'
    go_simp
    with_reducible rfl
  rotate_left
  · simp only [Act.put, List.setIfInBounds_toArray, List.set_cons_zero, List.set_cons_succ, i64_w, i32_w]
    rfl
  refine pure_ (i := 6) (N := some 32) (v := ?_) (a' := ?_) #[true, true, true, true, true, true, true, false, false] rfl rfl (any_of HT_.out (by kernel_rfl)) (fun _ _ _ h => h) (Or.inl ⟨by rfl, ?_⟩) ?_ ?_
  rotate_left
  · intro w'
    go_simp
    with_reducible rfl
  rotate_left
  · simp only [Act.put, List.setIfInBounds_toArray, List.set_cons_zero, List.set_cons_succ, i64_w, i32_w]
    rfl
  refine pure_ (i := 7) (N := some 9) (v := ?_) (a' := ?_) #[true, true, true, true, true, true, true, true, false] rfl rfl (any_of HT_.out (by kernel_rfl)) (fun _ _ _ h => h) (Or.inl ⟨by rfl, ?_⟩) ?_ ?_
  rotate_left
  · intro w'
    go_simp
    with_reducible rfl
  rotate_left
  · simp only [Act.put, List.setIfInBounds_toArray, List.set_cons_zero, List.set_cons_succ, i64_w, i32_w]
    rfl
  refine pure_ (i := 8) (N := some 10) (v := ?_) (a' := ?_) #[true, true, true, true, true, true, true, true, true] rfl rfl (any_of HT_.out (by kernel_rfl)) (fun _ _ _ h => h) (Or.inl ⟨by rfl, ?_⟩) ?_ ?_
  rotate_left
  · intro w'
    go_simp
    with_reducible rfl
  rotate_left
  · simp only [Act.put, List.setIfInBounds_toArray, List.set_cons_zero, List.set_cons_succ, i64_w, i32_w]
    rfl
  refine done_ (done_of HT_.out (by kernel_rfl)) ?_
  clear HT_ HW_
  have hcz0_0 : w10.cell? ⟨w.heap.size, 0, none⟩ = some (.int .i64 a0_0) := (blk_cell K0_10.out 0).trans rfl
  have hfz0_0 := blk_frozen K0_10.out 0
  have hcz0_1 : w10.cell? ⟨w.heap.size, 1, none⟩ = some (.int .i64 a0_1) := (blk_cell K0_10.out 1).trans rfl
  have hfz0_1 := blk_frozen K0_10.out 1
  have hcz0_2 : w10.cell? ⟨w.heap.size, 2, none⟩ = some (.int .i64 a0_2) := (blk_cell K0_10.out 2).trans rfl
  have hfz0_2 := blk_frozen K0_10.out 2
  have hcz1_0 : w10.cell? ⟨w.heap.size + 1, 0, none⟩ = some (.slice Aa1_0 a1_0.length ca1_0) := (blk_cell K1_10.out 0).trans rfl
  have hfz1_0 := blk_frozen K1_10.out 0
  have hcz1_1 : w10.cell? ⟨w.heap.size + 1, 1, none⟩ = some (.slice Aa1_1 a1_1.length ca1_1) := (blk_cell K1_10.out 1).trans rfl
  have hfz1_1 := blk_frozen K1_10.out 1
  have hcz2_0 : w10.cell? ⟨w6.heap.size, 0, none⟩ = some (.slice Ax1_0_6 a1_0.length cx1_0_6) := (blk_cell K2_10.out 0).trans rfl
  have hfz2_0 := blk_frozen K2_10.out 0
  have hcz2_1 : w10.cell? ⟨w6.heap.size, 1, none⟩ = some (.slice Ax1_1_6 ta1_1.length cx1_1_6) := (blk_cell K2_10.out 1).trans rfl
  have hfz2_1 := blk_frozen K2_10.out 1
  go_wp2_with fail
  clear hcz0_0 hfz0_0 hcz0_1 hfz0_1 hcz0_2 hfz0_2 hcz1_0 hfz1_0 hcz1_1 hfz1_1 hcz2_0 hfz2_0 hcz2_1 hfz2_1
  have Fx1_0_10d := Aside0.mk (Kd.R_drew Fx1_0_10.out)
  clear Fx1_0_10
  have Fx1_1_10d := Aside0.mk (Kd.S_drew Fx1_1_10.out)
  clear Fx1_1_10
  have K0_10d := Aside0.mk (blk_drew K0_10.out)
  clear K0_10
  have K1_10d := Aside0.mk (blk_drew K1_10.out)
  clear K1_10
  have K2_10d := Aside0.mk (blk_drew K2_10.out)
  clear K2_10
  have B11 := Aside0.mk (below_drew1 B10.out)
  have z11 : w10.heap.size ≤ (w10.drew).heap.size := Nat.le_refl _
  refine start_ (n := 5) (S := fun w' => w'.cell? ⟨w.heap.size, 0, none⟩ = some (.int .i64 a0_0) ∧ w'.cell? ⟨w.heap.size, 1, none⟩ = some (.int .i64 a0_1) ∧ w'.cell? ⟨w.heap.size, 2, none⟩ = some (.int .i64 a0_2) ∧ w'.cell? ⟨w.heap.size + 1, 0, none⟩ = some (.slice Aa1_0 a1_0.length ca1_0) ∧ w'.cell? ⟨w.heap.size + 1, 1, none⟩ = some (.slice Aa1_1 a1_1.length ca1_1) ∧ w'.cell? ⟨w6.heap.size, 0, none⟩ = some (.slice Ax1_0_6 a1_0.length cx1_0_6) ∧ w'.cell? ⟨w6.heap.size, 1, none⟩ = some (.slice Ax1_1_6 ta1_1.length cx1_1_6)) (ds := []) #[false, false, false, false, false] (by kernel_rfl) rfl rfl ⟨(blk_cell K0_10d.out 0).trans rfl, (blk_cell K0_10d.out 1).trans rfl, (blk_cell K0_10d.out 2).trans rfl, (blk_cell K1_10d.out 0).trans rfl, (blk_cell K1_10d.out 1).trans rfl, (blk_cell K2_10d.out 0).trans rfl, (blk_cell K2_10d.out 1).trans rfl⟩ (fun hHeld => ?_)
  refine with_tabW laws_FnExactSlopesText_tab10 laws_FnExactSlopesText_bits10 (fun HT_ HW_ => ?_)
  generalize w10.drew = w11 at Fx1_0_10d Fx1_1_10d K0_10d K1_10d K2_10d B11 z11 hHeld ⊢
  refine take_ (i := 0) (N := some 41) (v := ?_) (a' := ?_) #[true, false, false, false, false] rfl rfl (take_ofW HT_.out HW_.out (by kernel_rfl)) (fun _ _ _ h => h) (Or.inl ⟨by rfl, ?_⟩) hHeld ?_ ?_
  rotate_left
  · rintro w' ⟨s0, s1, s2, s3, s4, s5, s6⟩
    go_simp
    with_reducible rfl
  rotate_left
  · simp only [Act.put, List.setIfInBounds_toArray, List.set_cons_zero, List.set_cons_succ, i64_w, i32_w]
    rfl
  refine take_ (i := 1) (N := some 42) (v := ?_) (a' := ?_) #[true, true, false, false, false] rfl rfl (take_ofW HT_.out HW_.out (by kernel_rfl)) (fun _ _ _ h => h) (Or.inl ⟨by rfl, ?_⟩) hHeld ?_ ?_
  rotate_left
  · rintro w' ⟨s0, s1, s2, s3, s4, s5, s6⟩
    go_simp
    with_reducible rfl
  rotate_left
  · simp only [Act.put, List.setIfInBounds_toArray, List.set_cons_zero, List.set_cons_succ, i64_w, i32_w]
    rfl
  refine one_ (i := 2) (N := some 43) #[true, true, true, false, false] rfl rfl (one_of HT_.out (by kernel_rfl)) (by decide) (fun K hK => ?_)
  refine goes_ Tryd.func8 (by kernel_rfl) rfl #[.agg #[.slice Aa1_0 a1_0.length ca1_0, .slice Aa1_1 a1_1.length ca1_1]] (by rfl) rfl rfl (by (try simp only [List.map_toArray, List.map_cons, List.map_nil]); first | done | rfl | (simp only [List.length_drop, List.length_take]; rfl)) ?_
  refine (toSlopes_calls a1_0 HLa1_0.out a1_1 ta1_1 HTa1_1.out HLta1_1.out HBta1_1.out Aa1_0 ca1_0 Aa1_1 ca1_1 w11 (Kd.C_below HRa1_0.out B11.out) HCa1_0.out (Kd.C_below HRa1_1.out B11.out) HCa1_1.out).mono ?_
  rintro e w12 ⟨v0, v1, rfl, ho0, ho1, hne, hb⟩
  refine ⟨_, rfl, ?_⟩
  have B12 := Aside0.mk (below_step B11.out hb)
  have z12 := hb.size
  obtain ⟨Au_0_12, cu_0_12, rfl⟩ := Kd.R_slice ho0
  have Fu_0_12 := Aside0.mk (ivR (w := w) ho0 (by omega))
  clear ho0
  obtain ⟨Au_1_12, cu_1_12, rfl⟩ := Kd.S_slice ho1
  have Fu_1_12 := Aside0.mk (ivS (w := w) ho1 (by omega))
  clear ho1
  have Du := Aside0.mk hne
  clear hne
  have K0_12 := Aside0.mk (blk_below K0_10d.out hb)
  clear K0_10d
  have K1_12 := Aside0.mk (blk_below K1_10d.out hb)
  clear K1_10d
  have K2_12 := Aside0.mk (blk_below K2_10d.out hb)
  clear K2_10d
  have Fx1_0_12 := Aside0.mk (Kd.R_below Fx1_0_10d.out hb)
  clear Fx1_0_10d
  have Fx1_1_12 := Aside0.mk (Kd.S_below Fx1_1_10d.out hb)
  clear Fx1_1_10d
  clear hb
  refine hK.out _ _ ⟨(blk_cell K0_12.out 0).trans rfl, (blk_cell K0_12.out 1).trans rfl, (blk_cell K0_12.out 2).trans rfl, (blk_cell K1_12.out 0).trans rfl, (blk_cell K1_12.out 1).trans rfl, (blk_cell K2_12.out 0).trans rfl, (blk_cell K2_12.out 1).trans rfl⟩ (fun hHeld => ?_)
  clear hK K
  refine norm_ (a' := ?_) ?_ ?_
  rotate_left
  · show Act.put _ (some 43) _ = _
    simp only [Act.put, List.setIfInBounds_toArray, List.set_cons_zero, List.set_cons_succ, i64_w, i32_w]
    rfl
  refine one_ (i := 3) (N := some 44) #[true, true, true, true, false] rfl rfl (one_of HT_.out (by kernel_rfl)) (by decide) (fun K hK => ?_)
  refine goes_ Tryd.func10 (by kernel_rfl) rfl #[.agg #[.slice Ax1_0_6 a1_0.length cx1_0_6, .slice Ax1_1_6 ta1_1.length cx1_1_6], .agg #[.slice Au_0_12 a1_0.length cu_0_12, .slice Au_1_12 ta1_1.length cu_1_12]] (by rfl) rfl rfl (by (try simp only [List.map_toArray, List.map_cons, List.map_nil]); first | done | rfl | (simp only [List.length_drop, List.length_take]; rfl)) ?_
  refine (eqSlopes_calls a1_0 ta1_1 (maxLen_val (by have := HLa1_0.out; omega)) (maxLen_val (by have := HLta1_1.out; omega)) (fun x hx => maxLen_val (by have := HBta1_1.out x hx; omega)) Ax1_0_6 cx1_0_6 Ax1_1_6 cx1_1_6 Au_0_12 cu_0_12 Au_1_12 cu_1_12 w12 (readsR Fx1_0_12.out).2.2 (readsR Fx1_0_12.out).2.1 (readsS Fx1_1_12.out).2.2 (readsS Fx1_1_12.out).2.1 (readsR Fu_0_12.out).2.2 (readsR Fu_0_12.out).2.1 (readsS Fu_1_12.out).2.2 (readsS Fu_1_12.out).2.1).mono ?_
  rintro e w13 ⟨rfl, hb⟩
  refine ⟨_, rfl, ?_⟩
  have B13 := Aside0.mk (below_step B12.out hb)
  have z13 := hb.size
  have K0_13 := Aside0.mk (blk_below K0_12.out hb)
  clear K0_12
  have K1_13 := Aside0.mk (blk_below K1_12.out hb)
  clear K1_12
  have K2_13 := Aside0.mk (blk_below K2_12.out hb)
  clear K2_12
  have Fx1_0_13 := Aside0.mk (Kd.R_below Fx1_0_12.out hb)
  clear Fx1_0_12
  have Fx1_1_13 := Aside0.mk (Kd.S_below Fx1_1_12.out hb)
  clear Fx1_1_12
  have Fu_0_13 := Aside0.mk (Kd.R_below Fu_0_12.out hb)
  clear Fu_0_12
  have Fu_1_13 := Aside0.mk (Kd.S_below Fu_1_12.out hb)
  clear Fu_1_12
  clear hb
  refine hK.out _ _ ⟨(blk_cell K0_13.out 0).trans rfl, (blk_cell K0_13.out 1).trans rfl, (blk_cell K0_13.out 2).trans rfl, (blk_cell K1_13.out 0).trans rfl, (blk_cell K1_13.out 1).trans rfl, (blk_cell K2_13.out 0).trans rfl, (blk_cell K2_13.out 1).trans rfl⟩ (fun hHeld => ?_)
  clear hK K
  refine norm_ (a' := ?_) ?_ ?_
  rotate_left
  · show Act.put _ (some 44) _ = _
    simp only [Act.put, List.setIfInBounds_toArray, List.set_cons_zero, List.set_cons_succ, i64_w, i32_w]
    rfl
  refine pure_ (i := 4) (N := some 45) (v := ?_) (a' := ?_) #[true, true, true, true, true] rfl rfl (any_of HT_.out (by kernel_rfl)) (fun _ _ _ h => h) (Or.inl ⟨by rfl, ?_⟩) ?_ ?_
  rotate_left
  · intro w'
    go_simp
    with_reducible rfl
  rotate_left
  · simp only [Act.put, List.setIfInBounds_toArray, List.set_cons_zero, List.set_cons_succ, i64_w, i32_w]
    rfl
  refine done_ (done_of HT_.out (by kernel_rfl)) ?_
  clear HT_ HW_
  have hcz0_0 : w13.cell? ⟨w.heap.size, 0, none⟩ = some (.int .i64 a0_0) := (blk_cell K0_13.out 0).trans rfl
  have hfz0_0 := blk_frozen K0_13.out 0
  have hcz0_1 : w13.cell? ⟨w.heap.size, 1, none⟩ = some (.int .i64 a0_1) := (blk_cell K0_13.out 1).trans rfl
  have hfz0_1 := blk_frozen K0_13.out 1
  have hcz0_2 : w13.cell? ⟨w.heap.size, 2, none⟩ = some (.int .i64 a0_2) := (blk_cell K0_13.out 2).trans rfl
  have hfz0_2 := blk_frozen K0_13.out 2
  have hcz1_0 : w13.cell? ⟨w.heap.size + 1, 0, none⟩ = some (.slice Aa1_0 a1_0.length ca1_0) := (blk_cell K1_13.out 0).trans rfl
  have hfz1_0 := blk_frozen K1_13.out 0
  have hcz1_1 : w13.cell? ⟨w.heap.size + 1, 1, none⟩ = some (.slice Aa1_1 a1_1.length ca1_1) := (blk_cell K1_13.out 1).trans rfl
  have hfz1_1 := blk_frozen K1_13.out 1
  have hcz2_0 : w13.cell? ⟨w6.heap.size, 0, none⟩ = some (.slice Ax1_0_6 a1_0.length cx1_0_6) := (blk_cell K2_13.out 0).trans rfl
  have hfz2_0 := blk_frozen K2_13.out 0
  have hcz2_1 : w13.cell? ⟨w6.heap.size, 1, none⟩ = some (.slice Ax1_1_6 ta1_1.length cx1_1_6) := (blk_cell K2_13.out 1).trans rfl
  have hfz2_1 := blk_frozen K2_13.out 1
  go_wp2_with fail
  clear hcz0_0 hfz0_0 hcz0_1 hfz0_1 hcz0_2 hfz0_2 hcz1_0 hfz1_0 hcz1_1 hfz1_1 hcz2_0 hfz2_0 hcz2_1 hfz2_1
  go_ret
  exact ⟨rfl, B13.out⟩
set_option maxRecDepth 100000 in
theorem walk_neg0 (a0_0 : Int) (a0_1 : Int) (a0_2 : Int) (a1_0 : List Int) (a1_1 : List (List S81)) (Aa1_0 : Option Addr) (ca1_0 : Nat) (Aa1_1 : Option Addr) (ca1_1 : Nat) (w : World) (hra1_0 : Kd.C (Kd.int .i64) w Aa1_0 a1_0.length a1_0) (hca1_0 : a1_0.length ≤ ca1_0) (hra1_1 : Kd.C kOS' w Aa1_1 a1_1.length a1_1) (hca1_1 : a1_1.length ≤ ca1_1)  (r0 : Int) (hsz0 : ∀ (Aa1_0 : Option Addr) (ca1_0 : Nat) (Aa1_1 : Option Addr) (ca1_1 : Nat) (w : World), Kd.C (Kd.int .i64) w Aa1_0 a1_0.length a1_0 → a1_0.length ≤ ca1_0 → Kd.C kOS' w Aa1_1 a1_1.length a1_1 → a1_1.length ≤ ca1_1 → Calls Tryd.prog 5 #[.agg #[.slice Aa1_0 a1_0.length ca1_0, .slice Aa1_1 a1_1.length ca1_1], .int .i64 1048576] w fun e w' => e = .returned (.int .i64 r0) ∧ Below w.heap.size w w') (hlt0 : r0 < 0) : Calls Tryd.prog 3 #[.agg #[.int .i64 a0_0, .int .i64 a0_1, .int .i64 a0_2], .agg #[.slice Aa1_0 a1_0.length ca1_0, .slice Aa1_1 a1_1.length ca1_1]] w fun e w' => e = .returned (.bool true) ∧ Below w.heap.size w w' := by
  have HRa1_0 := Aside0.mk hra1_0
  have HRa1_1 := Aside0.mk hra1_1
  have HCa1_0 := Aside0.mk hca1_0
  have HCa1_1 := Aside0.mk hca1_1
  have HSZ0 := Aside0.mk hsz0
  have d0 : decide (r0 < 0) = true := decide_eq_true hlt0
  clear hsz0 hlt0  hra1_0 hca1_0 hra1_1 hca1_1
  go_enter Tryd.func3, Tryd.ntmps3
  go_wp2_with fail
  obtain ⟨wb, hwb⟩ : ∃ z : World, z = ((w.alloc (.cells #[.int .i64 a0_0, .int .i64 a0_1, .int .i64 a0_2] 23)).alloc (.cells #[.slice Aa1_0 a1_0.length ca1_0, .slice Aa1_1 a1_1.length ca1_1] 27)) := ⟨_, rfl⟩
  rw [← hwb]
  have K0_0 : Aside0 (wb.heap[w.heap.size]? = some (.cells #[.int .i64 a0_0, .int .i64 a0_1, .int .i64 a0_2] 23 (0, 0))) := ⟨by rw [hwb]; exact blk_alloc (blk_new w _) _⟩
  have K1_0 : Aside0 (wb.heap[w.heap.size + 1]? = some (.cells #[.slice Aa1_0 a1_0.length ca1_0, .slice Aa1_1 a1_1.length ca1_1] 27 (0, 0))) := ⟨by rw [hwb, show w.heap.size + 1 = (w.alloc (.cells #[.int .i64 a0_0, .int .i64 a0_1, .int .i64 a0_2] 23)).heap.size from (Array.size_push ..).symm]; exact blk_new (w.alloc (.cells #[.int .i64 a0_0, .int .i64 a0_1, .int .i64 a0_2] 23)) _⟩
  have B0 : Aside0 (Below w.heap.size w wb) := ⟨by rw [hwb]; exact below_alloc (below_alloc (Below.refl _ _) _) _⟩
  have z0 := B0.out.size
  have zb := blk_lt K1_0.out
  clear hwb
  refine (HSZ0.out Aa1_0 ca1_0 Aa1_1 ca1_1 wb (Kd.C_below HRa1_0.out B0.out) HCa1_0.out (Kd.C_below HRa1_1.out B0.out) HCa1_1.out).mono ?_
  rintro e w1 ⟨rfl, hb⟩
  have B1 := Aside0.mk (below_step B0.out hb)
  have K0_0n := Aside0.mk (blk_below K0_0.out hb)
  have K1_0n := Aside0.mk (blk_below K1_0.out hb)
  clear hb
  have hcz0_0 : w1.cell? ⟨w.heap.size, 0, none⟩ = some (.int .i64 a0_0) := (blk_cell K0_0n.out 0).trans rfl
  have hfz0_0 := blk_frozen K0_0n.out 0
  have hcz0_1 : w1.cell? ⟨w.heap.size, 1, none⟩ = some (.int .i64 a0_1) := (blk_cell K0_0n.out 1).trans rfl
  have hfz0_1 := blk_frozen K0_0n.out 1
  have hcz0_2 : w1.cell? ⟨w.heap.size, 2, none⟩ = some (.int .i64 a0_2) := (blk_cell K0_0n.out 2).trans rfl
  have hfz0_2 := blk_frozen K0_0n.out 2
  have hcz1_0 : w1.cell? ⟨w.heap.size + 1, 0, none⟩ = some (.slice Aa1_0 a1_0.length ca1_0) := (blk_cell K1_0n.out 0).trans rfl
  have hfz1_0 := blk_frozen K1_0n.out 0
  have hcz1_1 : w1.cell? ⟨w.heap.size + 1, 1, none⟩ = some (.slice Aa1_1 a1_1.length ca1_1) := (blk_cell K1_0n.out 1).trans rfl
  have hfz1_1 := blk_frozen K1_0n.out 1
  go_wp2_with fail
  go_ret
  exact ⟨rfl, B1.out⟩
theorem law (a0_0 : Int) (a0_1 : Int) (a0_2 : Int) (a1_0 : List Int) (a1_1 : List (List S81)) (ga0_0 : (Lit.int .i64 a0_0).wf = true) (ga0_1 : (Lit.int .i64 a0_1).wf = true) (ga0_2 : (Lit.int .i64 a0_2).wf = true) (ha1_0 : a1_0.length ≤ maxLen) (ga1_0 : ∀ x ∈ a1_0, (Lit.int .i64 x).wf = true) (ha1_1 : a1_1.length ≤ maxLen) (ga1_1 : ∀ x ∈ a1_1, x.length ≤ maxLen) (Aa1_0 : Option Addr) (ca1_0 : Nat) (Aa1_1 : Option Addr) (ca1_1 : Nat) (w : World) (htab : OwnNumbersText.Tab w) (hra1_0 : Kd.C (Kd.int .i64) w Aa1_0 a1_0.length a1_0) (hca1_0 : a1_0.length ≤ ca1_0) (hra1_1 : Kd.C kOS' w Aa1_1 a1_1.length a1_1) (hca1_1 : a1_1.length ≤ ca1_1) : Calls Tryd.prog 3 #[.agg #[.int .i64 a0_0, .int .i64 a0_1, .int .i64 a0_2], .agg #[.slice Aa1_0 a1_0.length ca1_0, .slice Aa1_1 a1_1.length ca1_1]] w fun e w' => e = .returned (.bool true) ∧ Below w.heap.size w w' := by
  obtain ⟨r0, hz0, hsz0⟩ := szSlopes_calls a1_0 a1_1 ha1_0 ha1_1 (fun x hx => (ga1_1 x hx)) 1048576 (by omega)
  by_cases hlt0 : r0 < 0
  · exact walk_neg0 a0_0 a0_1 a0_2 a1_0 a1_1 Aa1_0 ca1_0 Aa1_1 ca1_1 w hra1_0 hca1_0 hra1_1 hca1_1  r0 hsz0 hlt0
  obtain ⟨hq0, l1a1_0, l1a1_1, l2a1_1⟩ := hz0 (by omega)
  obtain ⟨⟨g0, g1⟩, hs, hi⟩ := both a0_0 a0_1 a0_2 a1_0 (a1_1.map cOS) (wf64 ga0_0) (wf64 ga0_1) (wf64 ga0_2) l1a1_0 (by rw [List.length_map]; exact l1a1_1) (map_len l2a1_1)
  exact walk a0_0 a0_1 a0_2 a1_0 a1_1 Aa1_0 ca1_0 Aa1_1 ca1_1 w htab hra1_0 hca1_0 hra1_1 hca1_1 r0 hsz0 hlt0 (a1_1.map cOS) rfl g0 g1 l1a1_0 (by rw [List.length_map]; exact l1a1_1) (map_len l2a1_1)  hs.rounds hi
end Go.Proofs.YtmihfgnkjjohmaaDoor.WalkFnExactSlopesText
