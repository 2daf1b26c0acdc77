/- The law FnExactArcsOf, walked by hand over its callees' contracts: for every input it returns true. -/
import Derived.Test.YtpndghkfbojokaaTComS
import Derived.Test.YtpndghkfbojokaaTMFnExactArcsOfx1
import Derived.Test.YtpndghkfbojokaaTMFnExactArcsOfx3
import Derived.Test.YtpndghkfbojokaaTMFnExactArcsOfx4
import Derived.Test.YtpndghkfbojokaaTHeldSS
import Derived.Test.YtpndghkfbojokaaTOwnArcsOf
namespace Go.Proofs.Ytpndghkfbojokaa.WalkFnExactArcsOf
open Go.RowKit Go.Proofs.Ytpndghkfbojokaa.PFnExactArcsOf Go.Proofs.YtpndghkfbojokaaW.PrintWords Go.Proofs.YtpndghkfbojokaaW.PrintLast Go.Proofs.YtpndghkfbojokaaW.PrintMore Go.Proofs.Ytpndghkfbojokaa.B Go.Proofs.Ytpndghkfbojokaa.Com Go.Proofs.Ytpndghkfbojokaa.OwnArcsOf
set_option linter.unusedVariables false
set_option linter.unusedSimpArgs false
/- com.toGrid -/
theorem toGrid_calls (x y z : Int) (w : World) : Calls Try.prog 11 #[.agg #[.int .i64 x, .int .i64 y, .int .i64 z]] w fun e w' => e = .returned (.agg #[.int .i64 x, .int .i64 y, .int .i64 z]) ∧ Below w.heap.size w w' :=
  laws_toGrid.calls x y z x y z w rfl
/- offsets -/
def cO (e : S89) : S86 := ⟨e.f0, e.f1, e.f2⟩
def befO (a b : S86) : Bool := if a.f2 = b.f2 then (if a.f1 = b.f1 then decide (a.f0 < b.f0) else decide (a.f1 < b.f1)) else decide (a.f2 < b.f2)
def okO (o : S86) : Bool := decide (-2 ≤ o.f0 ∧ o.f0 ≤ 2 ∧ -2 ≤ o.f1 ∧ o.f1 ≤ 2 ∧ 1 ≤ o.f2 ∧ o.f2 ≤ 2)
def offAt (l : List S86) (j : Nat) : Bool := okO (l.getD j z86) && (decide (j = 0) || befO (l.getD (j - 1) z86) (l.getD j z86))
def tmplOk (l : List S86) : Bool := decide (1 ≤ l.length ∧ l.length ≤ 12) && allR (offAt l) 0 l.length
theorem rdO (l : List S86) (i : Nat) : rd_T86 l (i : Int) = l.getD i z86 := by unfold rd_T86; rw [toNat_nat]
/- rowsG -/
theorem at_G {α : Type} (d : Kd α) (e0 : Nat) {w : World} {A : Option Addr} {n : Nat} {xs : List (List α)} (h : Kd.C (Kd.slice e0 d) w A n xs) (i : Int) (h0 : 0 ≤ i) (h1 : i < n) : ∃ ad A0 c0, A = some ad ∧ w.cell? (ad.add i.toNat) = some (.slice A0 (xs.getD i.toNat []).length c0) ∧ (xs.getD i.toNat []).length ≤ c0 ∧ d.C w A0 (xs.getD i.toNat []).length (xs.getD i.toNat []) := by
  obtain ⟨ad, c, e, _, hK, hc0⟩ := Kd.C_get h ([] : List α) i h0 h1
  have hc : ∀ j u, c[j]? = some u → w.cell? (ad.add (i.toNat * 1 + j)) = some u := hc0
  obtain ⟨A0, c0, rfl, l0, g0⟩ := hK
  exact ⟨ad, A0, c0, e, by have hq := hc 0 _ rfl; rwa [Nat.mul_one, Nat.add_zero] at hq, l0, g0⟩
/-- What is there behind i rounds. -/
def partG {α : Type} (l : List (List α)) (i : Nat) : List (List α) := l.take i ++ List.replicate (l.length - i) []
theorem partG_len {α : Type} (l : List (List α)) (i : Nat) (h : i ≤ l.length) : (partG l i).length = l.length := by
  unfold partG; rw [List.length_append, List.length_take, List.length_replicate]; omega
theorem partG_all {α : Type} (l : List (List α)) : partG l l.length = l := by
  unfold partG; rw [List.take_length, Nat.sub_self]; simp
theorem partG_set {α : Type} (l : List (List α)) (i : Nat) (h : i < l.length) : (partG l i).set i (l.getD i []) = partG l (i + 1) := by
  unfold partG
  rw [List.set_append_right _ _ (by rw [List.length_take]; omega), List.length_take, Nat.min_eq_left (by omega), Nat.sub_self, show l.length - i = (l.length - (i + 1)) + 1 by omega, List.replicate_succ, List.set_cons_zero,
    List.take_succ_eq_append_getElem h, List.append_assoc]
  simp [List.getD_eq_getElem?_getD, h]
/-- An inner row that was made behind the outer one is laid into it. -/
theorem lay_rowG {α : Type} (d : Kd α) (hE : d.E = []) (e0 et : Nat) {w1 : World} {B : Nat} {g n cap : Nat} {xs : List (List α)} {v : Value} {x : List α} {W : World} (hS : Kd.S (Kd.slice e0 d) et w1 B (fun k => k < W.heap.size) (.slice (some ⟨g, 0, none⟩) n cap) xs) (hR : Kd.R d e0 w1 W.heap.size (fun _ => True) v x)
    (hB : B ≤ W.heap.size) (i : Int) (h0 : 0 ≤ i) (h1 : i < n) :
    (∃ old, w1.cell? ⟨g, i.toNat, none⟩ = some old) ∧ w1.frozen? ⟨g, i.toNat, none⟩ = false ∧ Kd.S (Kd.slice e0 d) et (w1.setCell ⟨g, i.toNat, none⟩ v) B (fun _ => True) (.slice (some ⟨g, 0, none⟩) n cap) (xs.set i.toNat x) := by
  have hT := Kd.R_mono (Kd.R_tight hE hR) (ok' := fun k => some k = v.ownBlock) (fun _ h => h)
  have hbase := Kd.R_base hR
  have hX : Kd.S (Kd.slice e0 d) et w1 B (fun k => (fun _ => True) k ∧ ¬ (fun k => some k = v.ownBlock) k) (.slice (some ⟨g, 0, none⟩) n cap) xs :=
    Kd.S_mono hS (fun k hk => ⟨trivial, fun e => by have := hbase k e.symm; omega⟩)
  obtain ⟨oki, ce, hcl, hM, hcc, hfr, hoki, hH⟩ := Kd.S_elem hX [] i h0 h1
  have hn := (Kd.S_reads' hS).1
  have hval := Kd.R_val hR
  have hgo : g < W.heap.size := by
    have := hS
    obtain ⟨f, h0', _⟩ := this
    exact h0' g (by simp [Value.ownBlock])
  obtain ⟨ve, rfl, ge⟩ := hM
  have hP := Kd.S_seg hH h0 h1 (seg := [v]) (j := 0) (show 1 ≤ 1 from by decide) (x' := x)
    (Kd.M_row (Kd.R_mono (Kd.R_lower hT hB) (fun k h => Or.inr h))) (fun _ hk => hk) (fun k hk => ⟨trivial, fun e => by have := hbase k hk.symm; omega⟩)
  have hcc0 := hcc 0 _ rfl
  have hfr0 := hfr 0
  simp only [show (Kd.slice e0 d).sz = 1 from rfl, Nat.mul_one, Nat.add_zero] at hP hcc0 hfr0
  exact ⟨⟨_, hcc0⟩, hfr0, hP.1⟩
/- offsetSI -/
abbrev kOS : Kd (List S86) := Kd.slice 86 k86
theorem infoOS : (Try.prog.info? 56).map (fun i => (i.zero, i.size, i.bytes)) = some (some (.slice none 0 0), 1, 24) := by kernel_rfl
/- offsetSS -/
abbrev kOS' : Kd (List S89) := Kd.slice 89 k89
def cOS (l : List S89) : List S86 := l.map cO
theorem map_len {l : List (List S89)} {n : Nat} (h : ∀ x ∈ l, x.length ≤ n) : ∀ x ∈ l.map cOS, x.length ≤ n := by
  intro x hx
  obtain ⟨y, hy, rfl⟩ := List.mem_map.1 hx
  have := h y hy
  unfold cOS
  rwa [List.length_map]
/- laws_toOffsetS -/
theorem toOffsetS_l0 (l : List S89) (hl : l.length ≤ 1048576) : ∀ (d i : Nat) (m : List S86), i + d = l.length → m.length = l.length → (∀ j, j < i → m[j]? = (l.map cO)[j]?) → Ev (fun k => laws_toOffsetS.l0 k l m (i : Int)) (l.map cO) := by
  intro d
  induction d with
  | zero =>
    intro i m hi hm he
    refine Ev.step (fun k => laws_toOffsetS.l0.eq_2 l m i k) ?_
    refine ev_neg (by omega) (ev_some ?_)
    refine List.ext_getElem? (fun j => ?_)
    by_cases hj : j < i
    · exact he j hj
    · rw [List.getElem?_eq_none (by omega), List.getElem?_eq_none (by simp; omega)]
  | succ d ih =>
    intro i m hi hm he
    refine Ev.step (fun k => laws_toOffsetS.l0.eq_2 l m i k) ?_
    refine ev_pos (by omega) (ev_pos (by omega) (ev_bindc rfl (ev_pos (by omega) ?_)))
    rw [w_succ (n := l.length) (by omega) (by omega), toNat_nat]
    refine ih (i + 1) _ (by omega) (by simpa using hm) (fun j hj => ?_)
    by_cases hji : j = i
    · subst hji
      have h1 : j < l.length := by omega
      simp [List.getElem?_set, show j < m.length by omega, rd_T89, h1, cO]
    · rw [← he j (by omega), List.getElem?_set_ne (Ne.symm hji)]
theorem toOffsetS_ev (l : List S89) (hl : l.length ≤ 1048576) : Ev (fun k => laws_toOffsetS.f k l) (l.map cO) := by
  unfold laws_toOffsetS.f
  refine ev_pos (by omega) (ev_pos (by omega) ?_)
  exact toOffsetS_l0 l hl l.length 0 _ (by omega) (by simp) (fun j hj => by omega)
/- com.toOffsetS -/
theorem toOffsetS_calls (l : List S89) (t : List S86) (ht : l.map cO = t) (hl : t.length ≤ 1048576) (A : Option Addr) (c : Nat) (w : World) (hr : Kd.C k89 w A l.length l) (hc : l.length ≤ c) :
    Calls Try.prog 34 #[.slice A l.length c] w fun e w' => ∃ v : Value, e = .returned v ∧ Kd.R k86 86 w' w.heap.size (fun _ => True) v t ∧ Below w.heap.size w w' := by
  subst ht
  rw [List.length_map] at hl
  obtain ⟨k, hk⟩ := (toOffsetS_ev l hl).rounds
  exact laws_toOffsetS.calls k A c l _ w hr hc hk
/- com.toOffsetSS -/
set_option maxHeartbeats 4000000 in
set_option maxRecDepth 100000 in
theorem toOffsetSS_calls (l : List (List S89)) (t : List (List S86)) (ht : l.map cOS = t) (hl : t.length ≤ 1048576) (hb : ∀ x ∈ t, x.length ≤ 1048576) (A : Option Addr) (c : Nat) (w : World) (hr : Kd.C kOS' w A l.length l) (hc : l.length ≤ c) :
    Calls Try.prog 63 #[.slice A l.length c] w fun e w' => ∃ v : Value, e = .returned v ∧ Kd.S kOS 56 w' w.heap.size (fun _ => True) v t ∧ Below w.heap.size w w' := by
  have htl : t.length = l.length := by rw [← ht, List.length_map]
  have hat : ∀ i, i < l.length → (l.getD i []).map cO = t.getD i [] := by
    intro i hi
    rw [← ht]
    simp [List.getD_eq_getElem?_getD, hi, cOS]
  have HT := Aside0.mk htl
  have HAT := Aside0.mk hat
  rw [htl] at hl
  clear ht hat htl
  have HR := Aside0.mk hr
  have HL := Aside0.mk hl
  have HE := Aside0.mk hb
  clear hr hb
  have c0 : decide (0 ≤ (l.length : Int)) = true := decide_eq_true (by omega)
  have c1 : (l.length : Int).toNat * 24 ≤ 281474976710656 := by rw [Int.toNat_natCast]; omega
  have C1 := Aside0.mk c1
  clear c1 hl hc
  go_enter Try.func63, Try.ntmps63
  go_wp2_with (first | ((with_reducible refine gate_dst (N := 7) rfl ?_); refine Kd.S_make kOS _ 56 rfl (N := 7) rfl 25 _ _ rfl (l.length : Int) rfl rfl Try.underlying25 (.slice none 0 0) 24 infoOS rfl (by decide) (by omega) [] (ok := fun _ => True) (okp := fun _ => True) ⟨_, rfl, Kd.R_nil _ _ _ _ _⟩ (fun _ hk => hk) trivial (by omega) C1.out (Below.refl _ _) (Nat.le_refl _) ?_; intro v1 w1 ho hb hg_ hnew_; clear hg_ hnew_; have HO := Aside0.mk ho; have HB := Aside0.mk hb; clear ho hb))
  have HO0 : Aside0 (Kd.S kOS 56 w1 w.heap.size (fun _ => True) v1 (partG t (0 : Int).toNat)) := ⟨by have h := HO.out; rw [Int.toNat_natCast, ← HT.out] at h; exact h⟩
  clear HO
  go_loopg [4] (l.length) (fun d v4 wr => ∃ i : Int, v4 = .int .i64 i ∧ Aside0 (0 ≤ i ∧ i + d = l.length) ∧ Aside0 (Kd.S kOS 56 wr w.heap.size (fun _ => True) v1 (partG t i.toNat)) ∧ Aside0 (Below w.heap.size w wr))
  case atStart => exact ⟨0, rfl, ⟨by omega⟩, HO0, HB⟩
  case round =>
    clear HO0 HB
    obtain ⟨i, rfl, HI, HS, HB⟩ := hrel
    have h0 := HI.out.1
    cases gk with
    | zero =>
      have hd : decide (i < (l.length : Int)) = false := decide_eq_false (by have := HI.out.2; omega)
      have hi : i = (l.length : Int) := by have := HI.out.2; omega
      have HE2 : Aside0 (Kd.S kOS 56 wr w.heap.size (fun _ => True) v1 t) := ⟨by have h := HS.out; rw [hi, Int.toNat_natCast, ← HT.out, partG_all] at h; exact h⟩
      clear hi HS
      go_wp2
      go_ret
      exact ⟨v1, rfl, HE2.out, HB.out⟩
    | succ d =>
      have hlt : i < (l.length : Int) := by have := HI.out.2; omega
      have hd : decide (i < (l.length : Int)) = true := decide_eq_true hlt
      obtain ⟨ad, A0, ca, e0, hx, hle, hi0⟩ := at_G k89 89 HR.out i h0 hlt
      obtain ⟨row, erow⟩ : ∃ row, row = l.getD i.toNat [] := ⟨_, rfl⟩
      rw [← erow] at hx hle hi0
      have EROW := Aside0.mk erow
      clear erow
      cases e0
      replace hx := (HB.out.cell (World.block_lt_of_cell? w _ hx)).trans hx
      have hin : 0 ≤ i ∧ i.toNat < l.length := by omega
      have HRi := Aside0.mk hi0
      have HCi := Aside0.mk hle
      clear hi0 hle
      have hlen : (t.getD i.toNat []).length ≤ 1048576 := HE.out _ (getD_mem (z := []) (by rw [HT.out]; exact hin.2))
      have hpl : (partG t i.toNat).length = l.length := (partG_len t i.toNat (by rw [HT.out]; omega)).trans HT.out
      obtain ⟨g, cap, eo, gb, gl, _⟩ := Kd.S_form HS.out (by omega)
      have EO := Aside0.mk eo
      have GB := Aside0.mk gb
      have hs1 := Kd.S_mono (Kd.S_bound HS.out) (ok' := fun k => k < wr.heap.size) (fun k hk => hk.2.2.1)
      have HSZ := Aside0.mk (Below.size HB.out)
      have HLEN := Aside0.mk hlen
      have HPL := Aside0.mk hpl
      have HS1 := Aside0.mk hs1
      have HIN := Aside0.mk hin
      have hq : decide (i < ((partG t i.toNat).length : Int)) = true := decide_eq_true (by rw [hpl]; exact hlt)
      have H0 := Aside0.mk h0
      have HLT := Aside0.mk hlt
      have q0 := eq_true h0
      have q1 := eq_true hlt
      have q2 : (i < ((partG t i.toNat).length : Int)) = True := eq_true (by rw [hpl]; exact hlt)
      clear eo hs1 HS hlen hpl hin gb gl hlt h0
      go_wp2_with fail
      refine (toOffsetS_calls row (t.getD i.toNat []) (by rw [EROW.out]; exact HAT.out _ HIN.out.2) HLEN.out A0 ca wr (Kd.C_below HRi.out HB.out) HCi.out).mono ?_
      rintro e w2 ⟨v2, rfl, ho, hb⟩
      obtain rfl := EO.out
      obtain ⟨A2, c2, rfl⟩ := Kd.R_slice ho
      obtain ⟨⟨old, hold⟩, hfr, hst⟩ := lay_rowG k86 rfl 86 56 (Kd.S_below HS1.out hb) ho HSZ.out i H0.out (by have := HPL.out; have := HLT.out; omega)
      rw [partG_set t i.toNat (by rw [HT.out]; exact HIN.out.2)] at hst
      have HB2 := Aside0.mk (below_step HB.out hb)
      have HST := Aside0.mk hst
      clear hst ho hb HB HS1
      go_wp2
      go_roundg d
      case measure => omega
      case rel =>
        have e : wrap64 (i + 1) = i + 1 := by have := HLT.out; have := HL.out; have := H0.out; rw [w64 (by omega) (by omega)]
        exact ⟨i + 1, by rw [e], ⟨by have := HI.out; omega⟩, ⟨by rw [show (i + 1).toNat = i.toNat + 1 by have := H0.out; omega]; exact HST.out⟩, ⟨below_set HB2.out (Nat.le_trans (Nat.le_of_eq rfl) GB.out)⟩⟩
/- laws_toIntS -/
theorem toIntS_l0 (l : List Int) (hl : l.length ≤ 35184372088832) : ∀ (d i : Nat) (m : List Int), i + d = l.length → m.length = l.length → (∀ j, j < i → m.getD j 0 = l.getD j 0) → Ev (fun k => laws_toIntS.l0 k l m (i : Int)) l := by
  intro d
  induction d with
  | zero =>
    intro i m hi hm he
    refine Ev.step (fun k => laws_toIntS.l0.eq_2 l m i k) ?_
    refine ev_neg (by omega) (ev_some ?_)
    refine List.ext_getElem hm (fun j h1 h2 => ?_)
    have := he j (by omega)
    simpa [List.getD_eq_getElem?_getD, h1, h2] using this
  | succ d ih =>
    intro i m hi hm he
    refine Ev.step (fun k => laws_toIntS.l0.eq_2 l m i k) ?_
    refine ev_pos (by omega) (ev_pos (by omega) (ev_pos (by omega) ?_))
    rw [w_succ (n := l.length) (by omega) (by omega), toNat_nat, rd_nat]
    refine ih (i + 1) _ (by omega) (by simpa using hm) (fun j hj => ?_)
    by_cases hji : j = i
    · subst hji
      simp [List.getD_eq_getElem?_getD, show j < m.length by omega]
    · rw [← he j (by omega)]
      simp [List.getD_eq_getElem?_getD, List.getElem?_set_ne (Ne.symm hji)]
theorem toIntS_ev (l : List Int) (hl : l.length ≤ 35184372088832) : Ev (fun k => laws_toIntS.f k l) l := by
  unfold laws_toIntS.f
  refine ev_pos (by omega) (ev_pos (by omega) ?_)
  exact toIntS_l0 l hl l.length 0 _ (by omega) (by simp) (fun j hj => by omega)
/- com.toSlopes -/
set_option maxHeartbeats 8000000 in
set_option maxRecDepth 100000 in
theorem toSlopes_calls (s : List Int) (hs : s.length ≤ 1048576) (T : List (List S89)) (t : List (List S86)) (ht : T.map cOS = t) (hl : t.length ≤ 1048576) (hb : ∀ x ∈ t, x.length ≤ 1048576) (A0 : Option Addr) (c0 : Nat) (A1 : Option Addr) (c1 : Nat) (w : World)
    (h1 : Kd.C (Kd.int .i64) w A0 s.length s) (h2 : s.length ≤ c0) (h3 : Kd.C kOS' w A1 T.length T) (h4 : T.length ≤ c1) :
    Calls Try.prog 20 #[.agg #[.slice A0 s.length c0, .slice A1 T.length c1]] w fun e w' => ∃ v0 v1 : Value, e = .returned (.agg #[v0, v1]) ∧ Kd.R (Kd.int .i64) 3 w' w.heap.size (fun _ => True) v0 s ∧ Kd.S kOS 56 w' w.heap.size (fun _ => True) v1 t ∧ True ∧ Below w.heap.size w w' := by
  have hu1 := Try.underlying39
  have hu2 := Try.underlying27
  have H1 := Aside0.mk h1
  have H2 := Aside0.mk h2
  have H3 := Aside0.mk h3
  have H4 := Aside0.mk h4
  have HS := Aside0.mk hs
  have HT := Aside0.mk ht
  have HL := Aside0.mk hl
  have HBB := Aside0.mk hb
  have HB := Aside0.mk (Below.refl w.heap.size w)
  clear h1 h2 h3 h4 hs ht hl hb
  go_enter Try.func20, Try.ntmps20
  go_wp2_with (first
    | ((with_reducible refine gate_dst (N := 1) rfl ?_); refine box_event ?hg (N := 1) ?hd (cs := #[.slice A0 s.length c0, .slice A1 T.length c1]) (t := 39) ?hr ?_; (case hd => rfl); (case hg => rfl); (case hr => first | (go_simp; done) | (go_simp; rfl));
       intro g1 hg w6 hbox hb; have n0_ := Aside0.mk (below_step HB.out hb); have K1 := Aside0.mk hbox; have G1 := Aside0.mk ((by rw [hg]; exact (below_size HB.out)) : w.heap.size ≤ g1); clear HB; have HB := n0_; clear n0_; clear hb hbox hg)
    | ((with_reducible refine gate_dst (N := 2) rfl ?_); refine box_event ?hg (N := 2) ?hd (cs := #[.slice none 0 0, .slice none 0 0]) (t := 27) ?hr ?_; (case hd => rfl); (case hg => rfl); (case hr => first | (go_simp; done) | (go_simp; rfl));
       intro g2 hg w7 hbox hb; have n0_ := Aside0.mk (below_step HB.out hb); have K2 := Aside0.mk hbox; have n1_ := Aside0.mk (blk_below K1.out hb); have G2 := Aside0.mk ((by rw [hg]; exact (below_size HB.out)) : w.heap.size ≤ g2); have N12 := Aside0.mk ((by rw [hg]; exact Nat.ne_of_lt (blk_lt K1.out)) : g1 ≠ g2); clear HB K1; have HB := n0_; have K1 := n1_; clear n0_ n1_; clear hb hbox hg)
    | ((with_reducible refine gate_dst (N := 3) rfl ?_); refine box_event ?hg (N := 3) ?hd (cs := #[.slice none 0 0, .slice none 0 0]) (t := 27) ?hr ?_; (case hd => rfl); (case hg => rfl); (case hr => first | (go_simp; done) | (go_simp; rfl));
       intro g3 hg w8 hbox hb; have n0_ := Aside0.mk (below_step HB.out hb); have K3 := Aside0.mk hbox; have n1_ := Aside0.mk (blk_below K1.out hb); have n2_ := Aside0.mk (blk_below K2.out hb); have G3 := Aside0.mk ((by rw [hg]; exact (below_size HB.out)) : w.heap.size ≤ g3); have N13 := Aside0.mk ((by rw [hg]; exact Nat.ne_of_lt (blk_lt K1.out)) : g1 ≠ g3); have N23 := Aside0.mk ((by rw [hg]; exact Nat.ne_of_lt (blk_lt K2.out)) : g2 ≠ g3); clear HB K1 K2; have HB := n0_; have K1 := n1_; have K2 := n2_; clear n0_ n1_ n2_; clear hb hbox hg; have hc10 : w8.cell? ⟨g1, 0, none⟩ = some (.slice A0 s.length c0) := (blk_cell K1.out 0).trans rfl; have hc11 : w8.cell? ⟨g1, 1, none⟩ = some (.slice A1 T.length c1) := (blk_cell K1.out 1).trans rfl))
  obtain ⟨k, hk⟩ := (toIntS_ev s (by have := HS.out; omega)).rounds
  refine (laws_toIntS.calls k A0 c0 s s w8 (Kd.C_below H1.out HB.out) H2.out hk).mono ?_
  rintro e w9 ⟨v0, rfl, ho, hb⟩
  obtain ⟨Ao, co, rfl⟩ := Kd.R_slice ho
  have n0_ := Aside0.mk (below_step HB.out hb)
  have n1_ := Aside0.mk (blk_below K1.out hb)
  have n2_ := Aside0.mk (blk_below K2.out hb)
  have n3_ := Aside0.mk (blk_below K3.out hb)
  have HO := Aside0.mk (Kd.R_lower ho (below_size HB.out))
  clear HB K1 K2 K3 hc10 hc11 hk
  have HB := n0_
  have K1 := n1_
  have K2 := n2_
  have K3 := n3_
  clear n0_ n1_ n2_ n3_ ho hb
  have hc11 : w9.cell? ⟨g1, 1, none⟩ = some (.slice A1 T.length c1) := (blk_cell K1.out 1).trans rfl
  have hc30 : w9.cell? ⟨g3, 0, none⟩ = some (.slice none 0 0) := (blk_cell K3.out 0).trans rfl
  have hf30 := blk_frozen K3.out 0
  have hn13 := N13.out
  have hn31 := Ne.symm N13.out
  go_wp2_with fail
  clear hc11 hc30 hf30
  have m0_ := Aside0.mk (Kd.R_mono (Kd.R_far (p := ⟨g3, 0, none⟩) (Kd.R_types HO.out K3.out (by decide)) (fun _ hk => hk.2) (.slice Ao s.length co)) (ok' := fun _ => True) (fun _ _ => trivial))
  have m1_ := Aside0.mk (blk_far K1.out (p := ⟨g3, 0, none⟩) N13.out (.slice Ao s.length co))
  have m2_ := Aside0.mk (blk_far K2.out (p := ⟨g3, 0, none⟩) N23.out (.slice Ao s.length co))
  have m3_ := Aside0.mk (blk_put K3.out 0 (.slice Ao s.length co) (cs' := #[.slice Ao s.length co, .slice none 0 0]) rfl)
  have m4_ : Aside0 (Below w.heap.size w (w9.setCell ⟨g3, 0, none⟩ (.slice Ao s.length co))) := ⟨below_set HB.out G3.out⟩
  clear HO K1 K2 K3 HB
  generalize w9.setCell ⟨g3, 0, none⟩ (.slice Ao s.length co) = w10 at m0_ m1_ m2_ m3_ m4_ ⊢
  refine (toOffsetSS_calls T t HT.out HL.out HBB.out A1 c1 w10 (Kd.C_below H3.out m4_.out) H4.out).mono ?_
  rintro e w11 ⟨v1, rfl, ho, hb⟩
  obtain ⟨Ap, cp, rfl⟩ := Kd.S_slice ho
  have HO := Aside0.mk (Kd.R_below m0_.out hb)
  have HO1 := Aside0.mk (Kd.S_lower ho (below_size m4_.out))
  have K1 := Aside0.mk (blk_below m1_.out hb)
  have K2 := Aside0.mk (blk_below m2_.out hb)
  have K3 := Aside0.mk (blk_below m3_.out hb)
  have HB := Aside0.mk (below_step m4_.out hb)
  clear m0_ m1_ m2_ m3_ m4_ ho hb
  have hc30 : w11.cell? ⟨g3, 0, none⟩ = some (.slice Ao s.length co) := (blk_cell K3.out 0).trans rfl
  have hc31 : w11.cell? ⟨g3, 1, none⟩ = some (.slice none 0 0) := (blk_cell K3.out 1).trans rfl
  have hc20 : w11.cell? ⟨g2, 0, none⟩ = some (.slice none 0 0) := (blk_cell K2.out 0).trans rfl
  have hc21 : w11.cell? ⟨g2, 1, none⟩ = some (.slice none 0 0) := (blk_cell K2.out 1).trans rfl
  have hf31 := blk_frozen K3.out 1
  have hf20 := blk_frozen K2.out 0
  have hf21 := blk_frozen K2.out 1
  have hn23 := N23.out
  have hn32 := Ne.symm N23.out
  go_wp2_with fail
  clear hc30 hc31 hc20 hc21 hf31 hf20 hf21
  refine bodyPost_ret (results_cell_row rfl _ _ g2 27 #[.slice Ao s.length co, .slice Ap t.length cp] (0, 0) _ rfl (blk_put (cs := #[.slice Ao s.length co, .slice none 0 0]) (blk_put (cs := #[.slice none 0 0, .slice none 0 0]) (blk_far K2.out N23.out _) 0 _ rfl) 1 _ rfl) Try.underlying27 rfl (by kernel_rfl)) rfl ?_
  refine ⟨_, _, by first | rfl | (simp [errW_none, errW_some] <;> rfl) | (simp [*, errW_none, errW_some] <;> rfl), ?_, ?_, trivial, below_set (below_set (below_set HB.out G3.out) G2.out) G2.out⟩
  · exact Kd.R_mono (Kd.R_far (p := ⟨g2, 1, none⟩) (Kd.R_far (p := ⟨g2, 0, none⟩) (Kd.R_far (p := ⟨g3, 1, none⟩) (Kd.R_types (Kd.R_types HO.out K3.out (by decide)) K2.out (by decide)) (fun _ hk => hk.1.2) _) (fun _ hk => hk.2) _) (fun _ hk => hk.2) _) (fun _ _ => trivial)
  · exact Kd.S_mono (Kd.S_far (p := ⟨g2, 1, none⟩) (Kd.S_far (p := ⟨g2, 0, none⟩) (Kd.S_far (p := ⟨g3, 1, none⟩) (Kd.S_types (Kd.S_types HO1.out K3.out (by decide)) K2.out (by decide)) (fun _ hk => hk.1.2) _) (fun _ hk => hk.2) _) (fun _ hk => hk.2) _) (fun _ _ => trivial)
/- laws_eqOffsetS -/
theorem eqOffsetS_l0 (l : List S86) (hl : l.length ≤ maxLen) : ∀ (d i : Nat), i + d = l.length → Ev (fun k => laws_eqOffsetS.l0 k l l (i : Int)) true := by
  have hl := maxLen_le hl
  intro d
  induction d with
  | zero =>
    intro i hi
    exact Ev.step (fun k => laws_eqOffsetS.l0.eq_2 l l i k) (ev_neg (by omega) (ev_some rfl))
  | succ d ih =>
    intro i hi
    refine Ev.step (fun k => laws_eqOffsetS.l0.eq_2 l l i k) ?_
    rw [w_succ (n := l.length) (by omega) (by omega)]
    exact ev_pos (by omega) (ev_pos (by omega) (ev_pos (by omega) (ev_bindc (by unfold laws_eqOffset.f; rw [if_pos rfl, if_pos rfl, if_pos rfl]) (ev_pos rfl (ih (i + 1) (by omega))))))
theorem eqOffsetS_ev (l : List S86) (hl : l.length ≤ maxLen) : Ev (fun k => laws_eqOffsetS.f k l l) true := by
  unfold laws_eqOffsetS.f
  exact ev_pos rfl (eqOffsetS_l0 l hl l.length 0 (by omega))
/- laws_eqIntS -/
theorem eqIntS_l0 (l : List Int) (hl : l.length ≤ maxLen) : ∀ (d i : Nat), i + d = l.length → Ev (fun k => laws_eqIntS.l0 k l l (i : Int)) true := by
  have hl := maxLen_le hl
  intro d
  induction d with
  | zero =>
    intro i hi
    exact Ev.step (fun k => laws_eqIntS.l0.eq_2 l l i k) (ev_neg (by omega) (ev_some rfl))
  | succ d ih =>
    intro i hi
    refine Ev.step (fun k => laws_eqIntS.l0.eq_2 l l i k) ?_
    rw [w_succ (n := l.length) (by omega) (by omega)]
    exact ev_pos (by omega) (ev_pos (by omega) (ev_pos (by omega) (ev_pos rfl (ih (i + 1) (by omega)))))
theorem eqIntS_ev (l : List Int) (hl : l.length ≤ maxLen) : Ev (fun k => laws_eqIntS.f k l l) true := by
  unfold laws_eqIntS.f
  exact ev_pos rfl (eqIntS_l0 l hl l.length 0 (by omega))
/- com.eqSlopes -/
theorem eqOffsetSS_l0 (l : List (List S86)) (hl : l.length ≤ maxLen) (hb : ∀ x ∈ l, x.length ≤ maxLen) : ∀ (d i : Nat), i + d = l.length → Ev (fun k => laws_eqOffsetSS.l0 k l l (i : Int)) true := by
  have hl := maxLen_le hl
  intro d
  induction d with
  | zero =>
    intro i hi
    exact Ev.step (fun k => laws_eqOffsetSS.l0.eq_2 l l i k) (ev_neg (by omega) (ev_some rfl))
  | succ d ih =>
    intro i hi
    refine Ev.step (fun k => laws_eqOffsetSS.l0.eq_2 l l i k) ?_
    have hx : rd_L2 l (i : Int) = l.getD i [] := by unfold rd_L2; rw [toNat_nat]
    have hmem : l.getD i [] ∈ l := getD_mem (by omega)
    rw [w_succ (n := l.length) (by omega) (by omega), hx]
    exact ev_pos (by omega) (ev_pos (by omega) (ev_pos (by omega) (Ev.bind (eqOffsetS_ev _ (hb _ hmem)) (ev_pos rfl (ih (i + 1) (by omega))))))
theorem eqSlopes_calls (s : List Int) (T : List (List S86)) (hs : s.length ≤ maxLen) (hT : T.length ≤ maxLen) (hb : ∀ x ∈ T, x.length ≤ maxLen) (A0 : Option Addr) (c0 : Nat) (A1 : Option Addr) (c1 : Nat) (B0 : Option Addr) (d0 : Nat) (B1 : Option Addr) (d1 : Nat) (w : World)
    (h1 : Kd.C (Kd.int .i64) w A0 s.length s) (h2 : s.length ≤ c0) (h3 : Kd.C kOS w A1 T.length T) (h4 : T.length ≤ c1) (k1 : Kd.C (Kd.int .i64) w B0 s.length s) (k2 : s.length ≤ d0) (k3 : Kd.C kOS w B1 T.length T) (k4 : T.length ≤ d1) :
    Calls Try.prog 13 #[.agg #[.slice A0 s.length c0, .slice A1 T.length c1], .agg #[.slice B0 s.length d0, .slice B1 T.length d1]] w fun e w' => e = .returned (.bool true) ∧ Below w.heap.size w w' := by
  have : Ev (fun k => laws_eqSlopes.f k s T s T) true := by
    unfold laws_eqSlopes.f
    refine Ev.bind (eqIntS_ev s hs) (ev_pos rfl (Ev.bind (a := true) ?_ (ev_pos rfl (ev_some rfl))))
    unfold laws_eqOffsetSS.f
    exact ev_pos rfl (eqOffsetSS_l0 T hT hb T.length 0 (by omega))
  obtain ⟨k, hk⟩ := this.rounds
  exact laws_eqSlopes.calls k A0 c0 s A1 c1 T B0 d0 s B1 d1 T true w h1 h2 h3 h4 k1 k2 k3 k4 hk
/- laws_markOffsetS -/
def mk3 (a : Int) (j : Nat) : S86 := ⟨a + 3 * j, a + 3 * j + 1, a + 3 * j + 2⟩
theorem markOffsetS_l0 (l : List S86) (hl : l.length ≤ 1048576) (a : Int) (ha : 0 ≤ a ∧ a ≤ 8796093022208) : ∀ (d i : Nat) (m : List S86), i + d = l.length → m.length = l.length → (∀ j, j < i → m.getD j z86 = mk3 a j) →
    ∃ r, Ev (fun k => laws_markOffsetS.l0 k m (a + 3 * i) (i : Int)) (a + 3 * l.length, r) ∧ r.length = l.length ∧ ∀ j, j < l.length → r.getD j z86 = mk3 a j := by
  intro d
  induction d with
  | zero =>
    intro i m hi hm he
    obtain rfl : i = l.length := by omega
    exact ⟨m, Ev.step (fun k => laws_markOffsetS.l0.eq_2 m (a + 3 * l.length) l.length k) (ev_neg (by omega) (ev_some rfl)), hm, he⟩
  | succ d ih =>
    intro i m hi hm he
    have hi' : i < m.length := by omega
    have e : ∀ (v : S86) (u : List S86), u.length = m.length → rd_T86 (u.set i v) (i : Int) = v := by
      intro v u hu; unfold rd_T86; rw [toNat_nat, getD_set, if_pos ⟨rfl, by omega⟩]
    obtain ⟨r, hr, hz⟩ := ih (i + 1) (((m.set i ⟨a + 3 * i, (rd_T86 m i).f1, (rd_T86 m i).f2⟩).set i ⟨a + 3 * i, a + 3 * i + 1, (rd_T86 m i).f2⟩).set i (mk3 a i)) (by omega) (by simpa using hm) (fun j hj => by
      rw [getD_set, getD_set, getD_set]
      simp only [List.length_set]
      by_cases hji : i = j
      · subst hji; rw [if_pos ⟨rfl, hi'⟩]
      · rw [if_neg (by omega), if_neg (by omega), if_neg (by omega)]; exact he j (by omega))
    refine ⟨r, Ev.step (fun k => laws_markOffsetS.l0.eq_2 m (a + 3 * i) i k) ?_, hz⟩
    rw [w_succ (n := l.length) (by omega) (by omega), toNat_nat, w64 (x := a + 3 * i + 1) (by omega) (by omega), w64 (x := a + 3 * i + 1 + 1) (by omega) (by omega), w64 (x := a + 3 * i + 1 + 1 + 1) (by omega) (by omega)]
    simp only [Option.bind_some, e _ _ rfl, List.length_set]
    refine ev_pos (by omega) (ev_pos (by omega) ?_)
    rw [e _ (m.set i _) (by simp)]
    rw [show a + 3 * (i : Int) + 1 + 1 + 1 = a + 3 * ((i + 1 : Nat) : Int) by omega]
    have e2 : a + 3 * (i : Int) + 1 + 1 = a + 3 * (i : Int) + 2 := by omega
    rw [e2]
    exact hr
/- com.markOffsetS -/
def markRowO (a : Int) (n : Nat) : List S86 := (List.range n).map (mk3 a)
theorem markRowO_len (a : Int) (n : Nat) : (markRowO a n).length = n := by unfold markRowO; rw [List.length_map, List.length_range]
theorem markRowO_at (a : Int) (n j : Nat) (h : j < n) : (markRowO a n).getD j z86 = mk3 a j := by
  unfold markRowO
  rw [List.getD_eq_getElem?_getD, List.getElem?_map, List.getElem?_range h]; rfl
theorem markOffsetS_row (l : List S86) (hl : l.length ≤ 1048576) (a : Int) (ha : 0 ≤ a ∧ a ≤ 8796093022208) : Ev (fun k => laws_markOffsetS.f k l a) (a + 3 * l.length, markRowO a l.length) := by
  obtain ⟨r, h1, h2, h3⟩ := markOffsetS_l0 l hl a ha l.length 0 l (by omega) rfl (fun j hj => by omega)
  rw [show a + 3 * ((0 : Nat) : Int) = a by omega] at h1
  have : r = markRowO a l.length := getD_ext z86 (by rw [h2, markRowO_len]) (fun j hj => by rw [h3 j (by omega), markRowO_at a l.length j (by omega)])
  rw [← this]
  exact h1
/- com.markOffsetSS -/
def stepMO (L : List (List S86)) (s : Int × List (List S86)) (j : Nat) : Int × List (List S86) := (s.1 + 3 * ((L.getD j []).length : Int), s.2.set j (markRowO s.1 (L.getD j []).length))
def markAllO (k : Int) (L : List (List S86)) (i : Nat) : Int × List (List S86) := foldR (stepMO L) 0 i (k, L)
theorem markAllO_zero (k : Int) (L : List (List S86)) : markAllO k L 0 = (k, L) := foldR_end (Nat.le_refl _)
theorem markAllO_succ (k : Int) (L : List (List S86)) (i : Nat) : markAllO k L (i + 1) = stepMO L (markAllO k L i) i := foldR_last (Nat.zero_le _)
theorem markAllO_len (k : Int) (L : List (List S86)) (i : Nat) : (markAllO k L i).2.length = L.length := by
  induction i with
  | zero => rw [markAllO_zero]
  | succ i ih => rw [markAllO_succ]; unfold stepMO; rw [List.length_set]; exact ih
theorem markAllO_rest (k : Int) (L : List (List S86)) (i j : Nat) (h : i ≤ j) : (markAllO k L i).2.getD j [] = L.getD j [] := by
  induction i with
  | zero => rw [markAllO_zero]
  | succ i ih => rw [markAllO_succ]; unfold stepMO; rw [getD_set, if_neg (by omega)]; exact ih (by omega)
theorem markAllO_bd (k : Int) (L : List (List S86)) (hb : ∀ x ∈ L, x.length ≤ 1048576) (i : Nat) : k ≤ (markAllO k L i).1 ∧ (markAllO k L i).1 ≤ k + 3145728 * i := by
  induction i with
  | zero => rw [markAllO_zero]; simp
  | succ i ih =>
    rw [markAllO_succ]; unfold stepMO
    have : (L.getD i []).length ≤ 1048576 := by
      by_cases h : i < L.length
      · exact hb _ (getD_mem h)
      · rw [getD_none (by omega)]; simp
    show k ≤ (markAllO k L i).1 + 3 * ((L.getD i []).length : Int) ∧ (markAllO k L i).1 + 3 * ((L.getD i []).length : Int) ≤ k + 3145728 * ((i + 1 : Nat) : Int)
    omega
set_option maxHeartbeats 4000000 in
set_option maxRecDepth 100000 in
theorem markOffsetSS_calls (L : List (List S86)) (hl : L.length ≤ 1048576) (hb : ∀ x ∈ L, x.length ≤ 1048576) (k : Int) (hk : 0 ≤ k ∧ k ≤ 4294967296) (hsum : k + 3145728 * L.length ≤ 8796093022208) (P : Nat → Prop) (u : Value) (w0 w : World) (hB : Below w0.heap.size w0 w) (hS : Kd.S kOS 56 w w0.heap.size P u L) :
    Calls Try.prog 54 #[u, .int .i64 k] w fun e w' => e = .returned (.int .i64 (markAllO k L L.length).1) ∧ Kd.S kOS 56 w' w0.heap.size P u (markAllO k L L.length).2 ∧ Below w0.heap.size w0 w' ∧ Kept w w' P := by
  have HS := Aside0.mk hS
  have HB := Aside0.mk hB
  have HK := Aside0.mk (Kept.refl w P)
  obtain ⟨A, c, rfl⟩ := Kd.S_slice hS
  have HE := Aside0.mk hb
  have HSUM := Aside0.mk hsum
  have HL := Aside0.mk hl
  have HK0 := Aside0.mk hk
  clear hS hB hb hsum hl hk
  go_enter Try.func54, Try.ntmps54
  go_wp2
  have HS0 : Aside0 (Kd.S kOS 56 w w0.heap.size P (.slice A L.length c) (markAllO k L (0 : Int).toNat).2) := ⟨by rw [show (0 : Int).toNat = 0 from rfl, markAllO_zero]; exact HS.out⟩
  have e0 : k = (markAllO k L (0 : Int).toNat).1 := by rw [show (0 : Int).toNat = 0 from rfl, markAllO_zero]
  have E0 := Aside0.mk e0
  clear HS e0
  go_loopg [1, 5] (L.length) (fun d v1 v5 wr => ∃ i : Int, v5 = .int .i64 i ∧ v1 = .int .i64 (markAllO k L i.toNat).1 ∧ Aside0 (0 ≤ i ∧ i + d = L.length) ∧ Aside0 (Kd.S kOS 56 wr w0.heap.size P (.slice A L.length c) (markAllO k L i.toNat).2) ∧ Aside0 (Below w0.heap.size w0 wr) ∧ Aside0 (Kept w wr P))
  case atStart => exact ⟨0, rfl, congrArg _ E0.out, ⟨by omega⟩, HS0, HB, HK⟩
  case round =>
    clear HS0 HB HK E0
    obtain ⟨i, rfl, rfl, HI, HS, HB, HK⟩ := hrel
    cases gk with
    | zero =>
      have hd : decide (i < (L.length : Int)) = false := decide_eq_false (by have := HI.out.2; omega)
      have hi : i.toNat = L.length := by have := HI.out; omega
      have HI2 := Aside0.mk hi
      have h0 := HI.out.1
      clear hi HI
      go_wp2
      go_ret
      exact ⟨congrArg (fun z : Nat => Ending.returned (.int .i64 (markAllO k L z).1)) HI2.out, by have h := HS.out; rwa [HI2.out] at h, HB.out, HK.out⟩
    | succ d =>
      have h0 := HI.out.1
      have hlt : i < (L.length : Int) := by have := HI.out.2; omega
      have hd : decide (i < (L.length : Int)) = true := decide_eq_true hlt
      have hlen : (markAllO k L i.toNat).2.length = L.length := markAllO_len k L i.toNat
      have hf := Kd.S_form HS.out (by rw [hlen]; omega)
      obtain ⟨g, cap, eo, gb, gl, _⟩ := hf
      injection eo with eA en ec
      clear en
      subst eA ec
      obtain ⟨oki, ce, hcl, hM, hcc, hoki, hH⟩ := Kd.S_lend HS.out [] i h0 hlt
      obtain ⟨ve, rfl, hR⟩ := hM
      have hrow : (markAllO k L i.toNat).2.getD i.toNat [] = L.getD i.toNat [] := markAllO_rest k L i.toNat i.toNat (Nat.le_refl _)
      rw [hrow] at hR
      obtain ⟨Ai, ci, rfl⟩ := Kd.R_slice hR
      have hcell := hcc 0 _ rfl
      simp only [show kOS.sz = 1 from rfl, Nat.mul_one, Nat.add_zero] at hcell
      have hbd := markAllO_bd k L HE.out i.toNat
      have hil : (L.getD i.toNat []).length ≤ 1048576 := HE.out _ (getD_mem (z := []) (by omega))
      obtain ⟨kk, hkk⟩ := (markOffsetS_row (L.getD i.toNat []) hil (markAllO k L i.toNat).1 (by have := HSUM.out; have := HK0.out; omega)).rounds
      have hoki0 := hR.1
      have HR := Aside0.mk hR
      have HKK := Aside0.mk hkk
      have HHH := Aside0.mk hH
      have HOK := Aside0.mk hoki
      have HOK0 := Aside0.mk hoki0
      have HBD := Aside0.mk hbd
      have HIL := Aside0.mk hil
      have H0 := Aside0.mk h0
      have HLT := Aside0.mk hlt
      have q0 := eq_true h0
      have q1 := eq_true hlt
      have GB := Aside0.mk gb
      obtain ⟨ks, eks⟩ : ∃ ks : Int, ks = (markAllO k L i.toNat).1 := ⟨_, rfl⟩
      obtain ⟨nn, enn⟩ : ∃ nn : Nat, nn = (L.getD i.toNat []).length := ⟨_, rfl⟩
      rw [← eks]
      rw [← enn] at hcell
      have EKS := Aside0.mk eks
      have ENN := Aside0.mk enn
      clear hcl hcc hH hoki hoki0 hR hkk hbd hil h0 hlt gb gl hlen hrow eks enn HS
      go_wp2_with fail
      have HR' : Kd.R k86 86 wr w0.heap.size oki (.slice Ai nn ci) (L.getD i.toNat []) := by rw [ENN.out]; exact HR.out
      obtain ⟨ks2, eks2⟩ : ∃ z : Int, z = (markAllO k L (i + 1).toNat).1 := ⟨_, rfl⟩
      have EK2 := Aside0.mk eks2
      clear eks2
      have HKK' : laws_markOffsetS.f kk (L.getD i.toNat []) ks = some (ks2, markRowO ks (L.getD i.toNat []).length) := by
        rw [EK2.out, show (i + 1).toNat = i.toNat + 1 by have := H0.out; omega, markAllO_succ, EKS.out]; exact HKK.out
      refine (laws_markOffsetS.calls kk oki (.slice Ai nn ci) (L.getD i.toNat []) ks _ _ w0 wr HB.out HR' HKK').mono ?_
      clear HR' HKK'
      rintro e w2 ⟨rfl, hy, hb, hkp⟩
      have hy2 := Kd.R_reok (ok := oki) rfl hy (fun k e => by have h := HOK0.out k; rw [← ENN.out] at h; exact h e)
      have hh2 := Kd.H_kept HHH.out hkp (fun k _ hn h => hn h)
      have hs2 := Kd.H_back hh2 (okp := oki) (x' := markRowO ks (L.getD i.toNat []).length) ⟨.slice Ai nn ci, by rw [ENN.out], hy2⟩ (fun _ h => h)
      have es : (markAllO k L i.toNat).2.set i.toNat (markRowO ks (L.getD i.toNat []).length) = (markAllO k L (i + 1).toNat).2 := by
        rw [show (i + 1).toNat = i.toNat + 1 by have := H0.out; omega, markAllO_succ, EKS.out]; rfl
      rw [es] at hs2
      have HS2 := Aside0.mk hs2
      have HB2 := Aside0.mk hb
      have HK2 := Aside0.mk (HK.out.then_ hkp (fun k h => .inl (HOK.out k h).1))
      clear hy hb hkp hy2 hh2 hs2 es HB HK HHH HR
      go_wp2
      go_roundg d
      case measure => omega
      case rel =>
        have e : wrap64 (i + 1) = i + 1 := by have := HLT.out; have := HL.out; have := H0.out; rw [w64 (by omega) (by omega)]
        exact ⟨i + 1, by rw [e], congrArg _ EK2.out, ⟨by have := HI.out; omega⟩, HS2, HB2, HK2⟩
/- com.markSlopes -/
set_option maxHeartbeats 8000000 in
set_option maxRecDepth 100000 in
theorem markSlopes_two (s : List Int) (hs : s.length ≤ 1048576) (T : List (List S86)) (hT : T.length ≤ 1048576) (hb : ∀ x ∈ T, x.length ≤ 1048576) (P0 P1 : Nat → Prop) (hap : ∀ k, P0 k → ¬ P1 k) (v0 v1 : Value) (w0 w : World) (hB : Below w0.heap.size w0 w) (hR : Kd.R (Kd.int .i64) 3 w w0.heap.size P0 v0 s) (hS : Kd.S kOS 56 w w0.heap.size P1 v1 T) :
    Calls Try.prog 14 #[.agg #[v0, v1], .int .i64 1] w fun e w' => e = .returned (.int .i64 (markAllO (1 + s.length) T T.length).1) ∧ Kd.R (Kd.int .i64) 3 w' w0.heap.size P0 v0 (markRow 1 s.length) ∧ Kd.S kOS 56 w' w0.heap.size P1 v1 (markAllO (1 + s.length) T T.length).2 ∧ Below w0.heap.size w0 w' ∧ Kept w w' (fun k => P0 k ∨ P1 k) := by
  have hu2 := Try.underlying27
  obtain ⟨A0, c0, rfl⟩ := Kd.R_slice hR
  obtain ⟨A1, c1, rfl⟩ := Kd.S_slice hS
  have HR := Aside0.mk hR
  have HS := Aside0.mk hS
  have HB := Aside0.mk hB
  have HSL := Aside0.mk hs
  have HTL := Aside0.mk hT
  have HTB := Aside0.mk hb
  have HAP := Aside0.mk hap
  have HK := Aside0.mk (Kept.refl w (fun k => P0 k ∨ P1 k))
  clear hR hS hB hs hT hb hap
  go_enter Try.func14, Try.ntmps14
  go_wp2_with (first | ((with_reducible refine gate_dst (N := 2) rfl ?_); refine box_event ?hg (N := 2) ?hd (cs := #[.slice A0 s.length c0, .slice A1 T.length c1]) (t := 27) ?hr ?_; (case hd => rfl); (case hg => rfl); (case hr => first | (go_simp; done) | (go_simp; rfl)); intro g1 hg w6 hbox hb; have n0_ := Aside0.mk (below_step HB.out hb); have K1 := Aside0.mk hbox; have n1_ := Aside0.mk (Kd.R_elderB HR.out g1 (by rw [hg]; exact Nat.le_refl _)); have n2_ := Aside0.mk (Kd.S_elderB HS.out g1 (by rw [hg]; exact Nat.le_refl _)); have n3_ := Aside0.mk (Kd.R_below n1_.out hb); have n4_ := Aside0.mk (Kd.S_below n2_.out hb); have n5_ := Aside0.mk (HK.out.below hb); clear HB HR HS HK; have HB := n0_; have HR := n3_; have HS := n4_; have HK := n5_; clear n0_ n1_ n2_ n3_ n4_ n5_ hb hbox hg; have hc0 : w6.cell? ⟨g1, 0, none⟩ = some (.slice A0 s.length c0) := (blk_cell K1.out 0).trans rfl; have hc1 : w6.cell? ⟨g1, 1, none⟩ = some (.slice A1 T.length c1) := (blk_cell K1.out 1).trans rfl))
  clear hc0 hc1
  obtain ⟨km, hkm⟩ := (markIntS_row s (by have := HSL.out; omega) 1 (by omega)).rounds
  refine (laws_markIntS.calls km _ _ s 1 _ _ w0 w6 HB.out HR.out hkm).mono ?_
  rintro e w7 ⟨rfl, ho, hb, hk⟩
  have n0_ := Aside0.mk hb
  have n1_ := Aside0.mk (Kd.R_reok rfl ho HR.out.1)
  have n2_ := Aside0.mk (Kd.S_kept HS.out hk (fun q h1 h2 => HAP.out q h2.1 h1.1))
  have n3_ := Aside0.mk (blk_kept K1.out hk (fun h => h.2 rfl))
  have n4_ := Aside0.mk (HK.out.then_ hk (fun q h => Or.inl (Or.inl h.1)))
  clear HB HR HS HK K1 ho hb hk hkm
  have HB := n0_
  have HR := n1_
  have HS := n2_
  have K1 := n3_
  have HK := n4_
  clear n0_ n1_ n2_ n3_ n4_
  have hc1 : w7.cell? ⟨g1, 1, none⟩ = some (.slice A1 T.length c1) := (blk_cell K1.out 1).trans rfl
  go_wp2_with fail
  clear hc1
  refine (markOffsetSS_calls T (by have := HTL.out; omega) HTB.out (1 + s.length) (by have := HSL.out; omega) (by have := HSL.out; have := HTL.out; omega) _ _ w0 w7 HB.out HS.out).mono ?_
  rintro e w8 ⟨rfl, ho, hb, hk⟩
  have n0_ := Aside0.mk hb
  have n1_ := Aside0.mk (Kd.R_kept HR.out hk (fun q h1 h2 => HAP.out q h1.1 h2.1))
  have n2_ := Aside0.mk ho
  have n4_ := Aside0.mk (HK.out.then_ hk (fun q h => Or.inl (Or.inr h.1)))
  clear HB HR HS HK K1 ho hb hk
  go_wp2_with fail
  go_ret
  exact ⟨rfl, Kd.R_mono n1_.out (fun _ h => h.1), Kd.S_mono n2_.out (fun _ h => h.1), n0_.out, n4_.out⟩
def markSl (s : List Int) (T : List (List S86)) : Int := (markAllO (1 + s.length) T T.length).1
theorem markSl_bd (s : List Int) (T : List (List S86)) (hs : s.length ≤ 1048576) (hT : T.length ≤ 1048576) (hb : ∀ x ∈ T, x.length ≤ 1048576) : 1 ≤ markSl s T ∧ markSl s T ≤ 4398046511104 := by
  have h := markAllO_bd (1 + s.length) T hb T.length
  unfold markSl
  omega
theorem markSlopes_calls (s : List Int) (T : List (List S86)) (hs : s.length ≤ 1048576) (hT : T.length ≤ 1048576) (hb : ∀ x ∈ T, x.length ≤ 1048576) (W W' : World) (v0 v1 : Value) (w0 w : World) (hB : Below w0.heap.size w0 w) (hR : Kd.R (Kd.int .i64) 3 w w0.heap.size (Btw W W') v0 s) (hS : Kd.S kOS 56 w w0.heap.size (Btw W W') v1 T) :
    Calls Try.prog 14 #[.agg #[v0, v1], .int .i64 1] w fun e w' => e = .returned (.int .i64 (markSl s T)) ∧ Below w0.heap.size w0 w' ∧ Kept w w' (Btw W W') := by
  refine (markSlopes_two s hs T hT hb (fun k => some k = v0.ownBlock ∧ Btw W W' k) (fun k => Btw W W' k ∧ some k ≠ v0.ownBlock) (fun k h1 h2 => h2.2 h1.1) v0 v1 w0 w hB (Kd.R_tight2 rfl hR) (Kd.S_apart' hS (Kd.R_typed hR) (by decide))).mono ?_
  rintro e w' ⟨he, _, _, hb, hk⟩
  exact ⟨he, hb, hk.mono (fun k h => h.elim (fun h => h.2) (fun h => h.1))⟩
/- laws_szOffsetS -/
theorem szOffsetS_tells (l : List S89) (a : Int) (hl : l.length ≤ maxLen) (ha : 0 ≤ a ∧ a ≤ 1048576) : ∃ r, laws_szOffsetS.f l a = some r ∧ (0 ≤ r → r = a - l.length) := by
  have hl := maxLen_le hl
  unfold laws_szOffsetS.f
  rw [w64 (by omega) (by omega)]
  by_cases h : a - (l.length : Int) < 0
  · exact ⟨-1, by rw [if_pos h], by omega⟩
  · exact ⟨_, by rw [if_neg h], by omega⟩
/- laws_szIntS -/
theorem szIntS_tells (l : List Int) (a : Int) (hl : l.length ≤ maxLen) (ha : 0 ≤ a ∧ a ≤ 1048576) : ∃ r, laws_szIntS.f l a = some r ∧ (0 ≤ r → r = a - l.length) ∧ (r < 0 → r = -1) := by
  have hl := maxLen_le hl
  unfold laws_szIntS.f
  rw [w64 (by omega) (by omega)]
  by_cases h : a - (l.length : Int) < 0
  · exact ⟨-1, by rw [if_pos h], by omega, by omega⟩
  · exact ⟨_, by rw [if_neg h], by omega, by omega⟩
/- com.szSlopes -/
theorem szOffsetSS_l0 (l : List (List S89)) (hl : l.length ≤ maxLen) (hb : ∀ x ∈ l, x.length ≤ maxLen) : ∀ (d i : Nat) (a : Int), i + d = l.length → 0 ≤ a → a ≤ 1048576 → (∀ j, j < i → (l.getD j []).length ≤ 1048576) →
    ∃ r, Ev (fun k => laws_szOffsetSS.l0 k l a (i : Int)) r ∧ (0 ≤ r → r ≤ 1048576 ∧ ∀ j, j < l.length → (l.getD j []).length ≤ 1048576) := by
  have hl := maxLen_le hl
  intro d
  induction d with
  | zero =>
    intro i a hi h0 h1 he
    refine ⟨a, Ev.step (fun k => laws_szOffsetSS.l0.eq_2 l a i k) (ev_neg (by omega) (ev_some rfl)), fun _ => ⟨h1, fun j hj => he j (by omega)⟩⟩
  | succ d ih =>
    intro i a hi h0 h1 he
    have hx : rd_L4 l (i : Int) = l.getD i [] := by unfold rd_L4; rw [toNat_nat]
    have hmem : l.getD i [] ∈ l := getD_mem (by omega)
    obtain ⟨r, hr, hp⟩ := szOffsetS_tells (l.getD i []) a (hb _ hmem) ⟨h0, h1⟩
    by_cases hlt : r < 0
    · refine ⟨-1, Ev.step (fun k => laws_szOffsetSS.l0.eq_2 l a i k) ?_, by omega⟩
      rw [hx]
      exact ev_pos (by omega) (ev_pos (by omega) (ev_bindc hr (ev_pos hlt (ev_some rfl))))
    · have hp := hp (by omega)
      obtain ⟨q, hq, hz⟩ := ih (i + 1) r (by omega) (by omega) (by omega) (fun j hj => by
        by_cases e : j = i
        · subst e; omega
        · exact he j (by omega))
      refine ⟨q, Ev.step (fun k => laws_szOffsetSS.l0.eq_2 l a i k) ?_, hz⟩
      rw [hx, w_succ (n := l.length) (by omega) (by omega)]
      exact ev_pos (by omega) (ev_pos (by omega) (ev_bindc hr (ev_neg hlt hq)))
theorem szOffsetSS_ev (l : List (List S89)) (hl : l.length ≤ maxLen) (hb : ∀ x ∈ l, x.length ≤ maxLen) (a : Int) (ha : 0 ≤ a ∧ a ≤ 1048576) :
    ∃ r, Ev (fun k => laws_szOffsetSS.f k l a) r ∧ (0 ≤ r → r ≤ 1048576 ∧ l.length ≤ 1048576 ∧ ∀ x ∈ l, x.length ≤ 1048576) := by
  have hl' := maxLen_le hl
  unfold laws_szOffsetSS.f
  rw [w64 (by omega) (by omega)]
  by_cases h : a - (l.length : Int) < 0
  · exact ⟨-1, ev_pos h (ev_some rfl), by omega⟩
  · obtain ⟨r, hr, hz⟩ := szOffsetSS_l0 l hl hb l.length 0 (a - (l.length : Int)) (by omega) (by omega) (by omega) (fun j hj => by omega)
    refine ⟨r, ev_neg h hr, fun h0 => ⟨(hz h0).1, by omega, fun x hx => ?_⟩⟩
    obtain ⟨j, hj, rfl⟩ := List.getElem_of_mem hx
    have := (hz h0).2 j hj
    rwa [List.getD_eq_getElem?_getD, List.getElem?_eq_getElem hj] at this
theorem szSlopes_calls (s : List Int) (T : List (List S89)) (hs : s.length ≤ maxLen) (hT : T.length ≤ maxLen) (hb : ∀ x ∈ T, x.length ≤ maxLen) (a : Int) (ha : 0 ≤ a ∧ a ≤ 1048576) : ∃ q : Int, (0 ≤ q → (0 ≤ q ∧ q ≤ 1048576) ∧ s.length ≤ 1048576 ∧ T.length ≤ 1048576 ∧ ∀ x ∈ T, x.length ≤ 1048576) ∧
    ∀ (A0 : Option Addr) (c0 : Nat) (A1 : Option Addr) (c1 : Nat) (w : World), Kd.C (Kd.int .i64) w A0 s.length s → s.length ≤ c0 → Kd.C kOS' w A1 T.length T → T.length ≤ c1 →
      Calls Try.prog 18 #[.agg #[.slice A0 s.length c0, .slice A1 T.length c1], .int .i64 a] w fun e w' => e = .returned (.int .i64 q) ∧ Below w.heap.size w w' := by
  have : ∃ q, Ev (fun k => laws_szSlopes.f k s T a) q ∧ (0 ≤ q → (0 ≤ q ∧ q ≤ 1048576) ∧ s.length ≤ 1048576 ∧ T.length ≤ 1048576 ∧ ∀ x ∈ T, x.length ≤ 1048576) := by
    unfold laws_szSlopes.f
    obtain ⟨q1, e1, p1, n1⟩ := szIntS_tells s a hs ha
    by_cases h1 : q1 < 0
    · exact ⟨-1, ev_bindc e1 (ev_pos h1 (ev_some rfl)), by omega⟩
    · obtain ⟨q2, e2, p2⟩ := szOffsetSS_ev T hT hb q1 (by omega)
      by_cases h2 : q2 < 0
      · exact ⟨-1, ev_bindc e1 (ev_neg h1 (Ev.bind e2 (ev_pos h2 (ev_some rfl)))), by omega⟩
      · have p2 := p2 (by omega)
        exact ⟨q2, ev_bindc e1 (ev_neg h1 (Ev.bind e2 (ev_neg h2 (ev_some rfl)))), fun h => ⟨⟨h, p2.1⟩, by omega, p2.2⟩⟩
  obtain ⟨q, e, hq⟩ := this
  obtain ⟨k, hk⟩ := e.rounds
  exact ⟨q, hq, fun A0 c0 A1 c1 w h1 h2 h3 h4 => laws_szSlopes.calls k A0 c0 s A1 c1 T a q w h1 h2 h3 h4 hk⟩
/- hand.FnExactArcsOf -/
theorem both (x y z : Int) (s : List Int) (T : List (List S86)) (_ : -9223372036854775808 ≤ x ∧ x ≤ 9223372036854775807) (_ : -9223372036854775808 ≤ y ∧ y ≤ 9223372036854775807) (_ : -9223372036854775808 ≤ z ∧ z ≤ 9223372036854775807) (hs : s.length ≤ 1048576) (hT : T.length ≤ 1048576) (hb : ∀ t ∈ T, t.length ≤ 1048576) :
    ∃ q : List (List Int) × Bool, Ev (fun k => spec_ArcsOf.f k x y z s T) q ∧ aoR x y z s T = q ∧ q.1.length ≤ 1048576 ∧ ∀ x ∈ q.1, x.length ≤ 1048576 := OwnArcsOf.both_ x y z s T hs hT hb
def laws_FnExactArcsOf_T5 : Bool × List (List Nat × List Nat) := (true, [([], []), ([0], [0]), ([], []), ([2, 1], [2]), ([1, 3, 3], [1, 3]), ([4], [4]), ([5], [5]), ([5], [5]), ([6, 4, 0, 1, 2, 3, 4, 5, 6], [6]), ([7, 8, 0, 1, 2, 3, 4, 5, 6, 7, 8], [7])])
def laws_FnExactArcsOf_B5 : List Nat := [0, 1, 0, 7, 15, 31, 63, 63, 127, 511]
theorem laws_FnExactArcsOf_tab5 : rtab .any (opsOf Try.f5 5) = laws_FnExactArcsOf_T5 := by kernel_rfl
theorem laws_FnExactArcsOf_bits5 : waitsOk laws_FnExactArcsOf_T5.2 laws_FnExactArcsOf_B5 = true := by kernel_rfl
def laws_FnExactArcsOf_T7 : Bool × List (List Nat × List Nat) := (true, [([], []), ([0], [0]), ([], []), ([1, 2, 1], [1, 2]), ([3], [3]), ([4], [4]), ([4], [4]), ([5, 3, 0, 1, 2, 3, 4, 5], [5]), ([6, 7, 0, 1, 2, 3, 4, 5, 6, 7], [6])])
def laws_FnExactArcsOf_B7 : List Nat := [0, 1, 0, 7, 15, 31, 31, 63, 255]
theorem laws_FnExactArcsOf_tab7 : rtab .any (opsOf Try.f5 7) = laws_FnExactArcsOf_T7 := by kernel_rfl
theorem laws_FnExactArcsOf_bits7 : waitsOk laws_FnExactArcsOf_T7.2 laws_FnExactArcsOf_B7 = true := by kernel_rfl
def laws_FnExactArcsOf_T10 : Bool × List (List Nat × List Nat) := (true, [([], []), ([], []), ([1], [1]), ([0, 2, 2], [0, 2]), ([3], [3])])
def laws_FnExactArcsOf_B10 : List Nat := [0, 0, 2, 7, 15]
theorem laws_FnExactArcsOf_tab10 : rtab .any (opsOf Try.f5 10) = laws_FnExactArcsOf_T10 := by kernel_rfl
theorem laws_FnExactArcsOf_bits10 : waitsOk laws_FnExactArcsOf_T10.2 laws_FnExactArcsOf_B10 = true := by kernel_rfl
def laws_FnExactArcsOf_T24 : Bool × List (List Nat × List Nat) := (true, [([], []), ([0], [0]), ([], []), ([2, 1], [2]), ([1, 3, 3], [1, 3]), ([4], [4]), ([5], [5]), ([5], [5]), ([6, 4, 0, 1, 2, 3, 4, 5, 6], [6]), ([7, 8, 0, 1, 2, 3, 4, 5, 6, 7, 8], [7])])
def laws_FnExactArcsOf_B24 : List Nat := [0, 1, 0, 7, 15, 31, 63, 63, 127, 511]
theorem laws_FnExactArcsOf_tab24 : rtab .any (opsOf Try.f5 24) = laws_FnExactArcsOf_T24 := by kernel_rfl
theorem laws_FnExactArcsOf_bits24 : waitsOk laws_FnExactArcsOf_T24.2 laws_FnExactArcsOf_B24 = true := by kernel_rfl
set_option maxHeartbeats 4000000 in
set_option maxRecDepth 100000 in
theorem walk (a0_0 : Int) (a0_1 : Int) (a0_2 : Int) (a1_0 : List Int) (a1_1 : List (List S89)) (Aa1_0 : Option Addr) (ca1_0 : Nat) (Aa1_1 : Option Addr) (ca1_1 : Nat) (w : World) (hra1_0 : Kd.C (Kd.int .i64) w Aa1_0 a1_0.length a1_0) (hca1_0 : a1_0.length ≤ ca1_0) (hra1_1 : Kd.C kOS' w Aa1_1 a1_1.length a1_1) (hca1_1 : a1_1.length ≤ ca1_1) (r0 : Int) (hsz0 : ∀ (Aa1_0 : Option Addr) (ca1_0 : Nat) (Aa1_1 : Option Addr) (ca1_1 : Nat) (w : World), Kd.C (Kd.int .i64) w Aa1_0 a1_0.length a1_0 → a1_0.length ≤ ca1_0 → Kd.C kOS' w Aa1_1 a1_1.length a1_1 → a1_1.length ≤ ca1_1 → Calls Try.prog 18 #[.agg #[.slice Aa1_0 a1_0.length ca1_0, .slice Aa1_1 a1_1.length ca1_1], .int .i64 1048576] w fun e w' => e = .returned (.int .i64 r0) ∧ Below w.heap.size w w') (hlt0 : ¬ r0 < 0) (ta1_1 : List (List S86)) (hta1_1 : a1_1.map cOS = ta1_1) (g0 : List (List Int)) (g1 : Bool) (hla1_0 : a1_0.length ≤ 1048576) (hlta1_1 : ta1_1.length ≤ 1048576) (hbta1_1 : ∀ x ∈ ta1_1, x.length ≤ 1048576) (hlg0 : g0.length ≤ 1048576) (hbg0 : ∀ x ∈ g0, x.length ≤ 1048576) (hs : ∃ k, spec_ArcsOf.f k a0_0 a0_1 a0_2 a1_0 ta1_1 = some (g0, g1)) (hi : aoR a0_0 a0_1 a0_2 a1_0 ta1_1 = (g0, g1)) :
    Calls Try.prog 5 #[.agg #[.int .i64 a0_0, .int .i64 a0_1, .int .i64 a0_2], .agg #[.slice Aa1_0 a1_0.length ca1_0, .slice Aa1_1 a1_1.length ca1_1]] w fun e w' => e = .returned (.bool true) ∧ Below w.heap.size w w' := by
  obtain ⟨ks, hs⟩ := hs
  have Hs := Aside0.mk hs
  have Hi := Aside0.mk hi
  have HRa1_0 := Aside0.mk hra1_0
  have HCa1_0 := Aside0.mk hca1_0
  have HLa1_0 := Aside0.mk hla1_0
  have HRa1_1 := Aside0.mk hra1_1
  have HCa1_1 := Aside0.mk hca1_1
  have HLta1_1 := Aside0.mk hlta1_1
  have HBta1_1 := Aside0.mk hbta1_1
  have HTa1_1 := Aside0.mk hta1_1
  have HLg0 := Aside0.mk hlg0
  have HBg0 := Aside0.mk hbg0
  have HSZ0 := Aside0.mk hsz0
  have d0 : decide (r0 < 0) = false := decide_eq_false hlt0
  clear hs hi hra1_0 hca1_0 hla1_0 hra1_1 hca1_1 hlta1_1 hbta1_1 hta1_1 hlg0 hbg0 hsz0 hlt0
  go_enter Try.func5, Try.ntmps5
  go_wp2_with fail
  obtain ⟨wb, hwb⟩ : ∃ z : World, z = ((w.alloc (.cells #[.int .i64 a0_0, .int .i64 a0_1, .int .i64 a0_2] 23)).alloc (.cells #[.slice Aa1_0 a1_0.length ca1_0, .slice Aa1_1 a1_1.length ca1_1] 39)) := ⟨_, rfl⟩
  rw [← hwb]
  have K0_0 : Aside0 (wb.heap[w.heap.size]? = some (.cells #[.int .i64 a0_0, .int .i64 a0_1, .int .i64 a0_2] 23 (0, 0))) := ⟨by rw [hwb]; exact blk_alloc (blk_new w _) _⟩
  have K1_0 : Aside0 (wb.heap[w.heap.size + 1]? = some (.cells #[.slice Aa1_0 a1_0.length ca1_0, .slice Aa1_1 a1_1.length ca1_1] 39 (0, 0))) := ⟨by rw [hwb, show w.heap.size + 1 = (w.alloc (.cells #[.int .i64 a0_0, .int .i64 a0_1, .int .i64 a0_2] 23)).heap.size from (Array.size_push ..).symm]; exact blk_new (w.alloc (.cells #[.int .i64 a0_0, .int .i64 a0_1, .int .i64 a0_2] 23)) _⟩
  have B0 : Aside0 (Below w.heap.size w wb) := ⟨by rw [hwb]; exact below_alloc (below_alloc (Below.refl _ _) _) _⟩
  have z0 := B0.out.size
  have zb := blk_lt K1_0.out
  clear hwb
  refine (HSZ0.out Aa1_0 ca1_0 Aa1_1 ca1_1 wb (Kd.C_below HRa1_0.out B0.out) HCa1_0.out (Kd.C_below HRa1_1.out B0.out) HCa1_1.out).mono ?_
  rintro e w1 ⟨rfl, hb⟩
  have B1 := Aside0.mk (below_step B0.out hb)
  have z1 := hb.size
  have K0_1 := Aside0.mk (blk_below K0_0.out hb)
  clear K0_0
  have K1_1 := Aside0.mk (blk_below K1_0.out hb)
  clear K1_0
  clear hb
  have hcz0_0 : w1.cell? ⟨w.heap.size, 0, none⟩ = some (.int .i64 a0_0) := (blk_cell K0_1.out 0).trans rfl
  have hfz0_0 := blk_frozen K0_1.out 0
  have hcz0_1 : w1.cell? ⟨w.heap.size, 1, none⟩ = some (.int .i64 a0_1) := (blk_cell K0_1.out 1).trans rfl
  have hfz0_1 := blk_frozen K0_1.out 1
  have hcz0_2 : w1.cell? ⟨w.heap.size, 2, none⟩ = some (.int .i64 a0_2) := (blk_cell K0_1.out 2).trans rfl
  have hfz0_2 := blk_frozen K0_1.out 2
  have hcz1_0 : w1.cell? ⟨w.heap.size + 1, 0, none⟩ = some (.slice Aa1_0 a1_0.length ca1_0) := (blk_cell K1_1.out 0).trans rfl
  have hfz1_0 := blk_frozen K1_1.out 0
  have hcz1_1 : w1.cell? ⟨w.heap.size + 1, 1, none⟩ = some (.slice Aa1_1 a1_1.length ca1_1) := (blk_cell K1_1.out 1).trans rfl
  have hfz1_1 := blk_frozen K1_1.out 1
  go_wp2_with fail
  clear hcz0_0 hfz0_0 hcz0_1 hfz0_1 hcz0_2 hfz0_2 hcz1_0 hfz1_0 hcz1_1 hfz1_1
  have K0_1d := Aside0.mk (blk_drew K0_1.out)
  clear K0_1
  have K1_1d := Aside0.mk (blk_drew K1_1.out)
  clear K1_1
  have B2 := Aside0.mk (below_drew1 B1.out)
  have z2 : w1.heap.size ≤ (w1.drew).heap.size := Nat.le_refl _
  refine start_ (n := 10) (S := fun w' => w'.cell? ⟨w.heap.size, 0, none⟩ = some (.int .i64 a0_0) ∧ w'.cell? ⟨w.heap.size, 1, none⟩ = some (.int .i64 a0_1) ∧ w'.cell? ⟨w.heap.size, 2, none⟩ = some (.int .i64 a0_2) ∧ w'.cell? ⟨w.heap.size + 1, 0, none⟩ = some (.slice Aa1_0 a1_0.length ca1_0) ∧ w'.cell? ⟨w.heap.size + 1, 1, none⟩ = some (.slice Aa1_1 a1_1.length ca1_1)) (ds := []) #[false, false, false, false, false, false, false, false, false, false] (by kernel_rfl) rfl rfl ⟨(blk_cell K0_1d.out 0).trans rfl, (blk_cell K0_1d.out 1).trans rfl, (blk_cell K0_1d.out 2).trans rfl, (blk_cell K1_1d.out 0).trans rfl, (blk_cell K1_1d.out 1).trans rfl⟩ (fun hHeld => ?_)
  refine with_tabW laws_FnExactArcsOf_tab5 laws_FnExactArcsOf_bits5 (fun HT_ HW_ => ?_)
  generalize w1.drew = w2 at K0_1d K1_1d B2 z2 hHeld ⊢
  refine take_ (i := 0) (N := some 22) (v := ?_) (a' := ?_) #[true, false, false, false, false, false, false, false, false, false] rfl rfl (take_ofW HT_.out HW_.out (by kernel_rfl)) (fun _ _ _ h => h) (Or.inl ⟨by rfl, ?_⟩) hHeld ?_ ?_
  rotate_left
  · rintro w' ⟨s0, s1, s2, s3, s4⟩
    go_simp
    with_reducible rfl
  rotate_left
  · simp only [Act.put, List.setIfInBounds_toArray, List.set_cons_zero, List.set_cons_succ, i64_w, i32_w]
    rfl
  refine take_ (i := 2) (N := some 24) (v := ?_) (a' := ?_) #[true, false, true, false, false, false, false, false, false, false] rfl rfl (take_ofW HT_.out HW_.out (by kernel_rfl)) (fun _ _ _ h => h) (Or.inl ⟨by rfl, ?_⟩) hHeld ?_ ?_
  rotate_left
  · rintro w' ⟨s0, s1, s2, s3, s4⟩
    go_simp
    with_reducible rfl
  rotate_left
  · simp only [Act.put, List.setIfInBounds_toArray, List.set_cons_zero, List.set_cons_succ, i64_w, i32_w]
    rfl
  refine one_ (i := 1) (N := some 23) #[true, true, true, false, false, false, false, false, false, false] rfl rfl (one_of HT_.out (by kernel_rfl)) (by decide) (fun K hK => ?_)
  refine goes_ Try.func11 (by kernel_rfl) rfl #[.agg #[.int .i64 a0_0, .int .i64 a0_1, .int .i64 a0_2]] (by rfl) rfl rfl (by (try simp only [List.map_toArray, List.map_cons, List.map_nil]); first | done | rfl | (simp only [List.length_drop, List.length_take]; rfl)) ?_
  refine (toGrid_calls a0_0 a0_1 a0_2  w2 ).mono ?_
  rintro e w3 ⟨rfl, hb⟩
  refine ⟨_, rfl, ?_⟩
  have B3 := Aside0.mk (below_step B2.out hb)
  have z3 := hb.size
  have K0_3 := Aside0.mk (blk_below K0_1d.out hb)
  clear K0_1d
  have K1_3 := Aside0.mk (blk_below K1_1d.out hb)
  clear K1_1d
  clear hb
  refine hK.out _ _ ⟨(blk_cell K0_3.out 0).trans rfl, (blk_cell K0_3.out 1).trans rfl, (blk_cell K0_3.out 2).trans rfl, (blk_cell K1_3.out 0).trans rfl, (blk_cell K1_3.out 1).trans rfl⟩ (fun hHeld => ?_)
  clear hK K
  refine norm_ (a' := ?_) ?_ ?_
  rotate_left
  · show Act.put _ (some 23) _ = _
    simp only [Act.put, List.setIfInBounds_toArray, List.set_cons_zero, List.set_cons_succ, i64_w, i32_w]
    rfl
  refine one_ (i := 3) (N := some 25) #[true, true, true, true, false, false, false, false, false, false] rfl rfl (one_of HT_.out (by kernel_rfl)) (by decide) (fun K hK => ?_)
  refine goes_ Try.func20 (by kernel_rfl) rfl #[.agg #[.slice Aa1_0 a1_0.length ca1_0, .slice Aa1_1 a1_1.length ca1_1]] (by rfl) rfl rfl (by (try simp only [List.map_toArray, List.map_cons, List.map_nil]); first | done | rfl | (simp only [List.length_drop, List.length_take]; rfl)) ?_
  refine (toSlopes_calls a1_0 HLa1_0.out a1_1 ta1_1 HTa1_1.out HLta1_1.out HBta1_1.out Aa1_0 ca1_0 Aa1_1 ca1_1 w3 (Kd.C_below HRa1_0.out B3.out) HCa1_0.out (Kd.C_below HRa1_1.out B3.out) HCa1_1.out).mono ?_
  rintro e w4 ⟨v0, v1, rfl, ho0, ho1, hne, hb⟩
  refine ⟨_, rfl, ?_⟩
  have B4 := Aside0.mk (below_step B3.out hb)
  have z4 := hb.size
  obtain ⟨At1_0_4, ct1_0_4, rfl⟩ := Kd.R_slice ho0
  have Ft1_0_4 := Aside0.mk (ivR (w := w) ho0 (by omega))
  clear ho0
  obtain ⟨At1_1_4, ct1_1_4, rfl⟩ := Kd.S_slice ho1
  have Ft1_1_4 := Aside0.mk (ivS (w := w) ho1 (by omega))
  clear ho1
  have Dt1 := Aside0.mk hne
  clear hne
  have K0_4 := Aside0.mk (blk_below K0_3.out hb)
  clear K0_3
  have K1_4 := Aside0.mk (blk_below K1_3.out hb)
  clear K1_3
  clear hb
  refine hK.out _ _ ⟨(blk_cell K0_4.out 0).trans rfl, (blk_cell K0_4.out 1).trans rfl, (blk_cell K0_4.out 2).trans rfl, (blk_cell K1_4.out 0).trans rfl, (blk_cell K1_4.out 1).trans rfl⟩ (fun hHeld => ?_)
  clear hK K
  refine norm_ (a' := ?_) ?_ ?_
  rotate_left
  · show Act.put _ (some 25) _ = _
    simp only [Act.put, List.setIfInBounds_toArray, List.set_cons_zero, List.set_cons_succ, i64_w, i32_w]
    rfl
  refine one_ (i := 4) (N := some 26) #[true, true, true, true, true, false, false, false, false, false] rfl rfl (one_of HT_.out (by kernel_rfl)) (by decide) (fun K hK => ?_)
  refine goes_ Try.func19 (by kernel_rfl) rfl #[.agg #[.int .i64 a0_0, .int .i64 a0_1, .int .i64 a0_2], .agg #[.slice At1_0_4 a1_0.length ct1_0_4, .slice At1_1_4 ta1_1.length ct1_1_4]] (by rfl) rfl rfl (by (try simp only [List.map_toArray, List.map_cons, List.map_nil]); first | done | rfl | (simp only [List.length_drop, List.length_take]; rfl)) ?_
  refine (spec_ArcsOf.calls ks a0_0 a0_1 a0_2 At1_0_4 ct1_0_4 a1_0 At1_1_4 ct1_1_4 ta1_1 g0 g1 w4 (readsR Ft1_0_4.out).2.2 (readsR Ft1_0_4.out).2.1 (readsS Ft1_1_4.out).2.2 (readsS Ft1_1_4.out).2.1 Hs.out).mono ?_
  rintro e w5 ⟨v, rfl, ho, hb⟩
  refine ⟨_, rfl, ?_⟩
  have ho := Kd.S_mono ho (ok' := fun _ => True) (fun _ _ => trivial)
  have B5 := Aside0.mk (below_step B4.out hb)
  have z5 := hb.size
  obtain ⟨Aw0_0_5, cw0_0_5, rfl⟩ := Kd.S_slice ho
  have Fw0_0_5 := Aside0.mk (ivS (w := w) ho (by omega))
  clear ho
  have K0_5 := Aside0.mk (blk_below K0_4.out hb)
  clear K0_4
  have K1_5 := Aside0.mk (blk_below K1_4.out hb)
  clear K1_4
  have Ft1_0_5 := Aside0.mk (Kd.R_below Ft1_0_4.out hb)
  clear Ft1_0_4
  have Ft1_1_5 := Aside0.mk (Kd.S_below Ft1_1_4.out hb)
  clear Ft1_1_4
  clear hb
  refine hK.out _ _ ⟨(blk_cell K0_5.out 0).trans rfl, (blk_cell K0_5.out 1).trans rfl, (blk_cell K0_5.out 2).trans rfl, (blk_cell K1_5.out 0).trans rfl, (blk_cell K1_5.out 1).trans rfl⟩ (fun hHeld => ?_)
  clear hK K
  refine norm_ (a' := ?_) ?_ ?_
  rotate_left
  · show Act.put _ (some 26) _ = _
    simp only [Act.put, List.setIfInBounds_toArray, List.set_cons_zero, List.set_cons_succ, i64_w, i32_w]
    rfl
  refine pure_ (i := 5) (N := some 21) (v := ?_) (a' := ?_) #[true, true, true, true, true, true, false, false, false, false] rfl rfl (any_of HT_.out (by kernel_rfl)) (fun _ _ _ h => h) (Or.inl ⟨by rfl, ?_⟩) ?_ ?_
  rotate_left
  · intro w'
    go_simp
    with_reducible rfl
  rotate_left
  · simp only [Act.put, List.setIfInBounds_toArray, List.set_cons_zero, List.set_cons_succ, i64_w, i32_w]
    rfl
  refine pure_ (i := 6) (N := some 27) (v := ?_) (a' := ?_) #[true, true, true, true, true, true, true, false, false, false] rfl rfl (any_of HT_.out (by kernel_rfl)) (fun _ _ _ h => h) (Or.inl ⟨by rfl, ?_⟩) ?_ ?_
  rotate_left
  · intro w'
    go_simp
    with_reducible rfl
  rotate_left
  · simp only [Act.put, List.setIfInBounds_toArray, List.set_cons_zero, List.set_cons_succ, i64_w, i32_w]
    rfl
  refine pure_ (i := 7) (N := some 28) (v := ?_) (a' := ?_) #[true, true, true, true, true, true, true, true, false, false] rfl rfl (any_of HT_.out (by kernel_rfl)) (fun _ _ _ h => h) (Or.inl ⟨by rfl, ?_⟩) ?_ ?_
  rotate_left
  · intro w'
    go_simp
    with_reducible rfl
  rotate_left
  · simp only [Act.put, List.setIfInBounds_toArray, List.set_cons_zero, List.set_cons_succ, i64_w, i32_w]
    rfl
  refine pure_ (i := 8) (N := some 6) (v := ?_) (a' := ?_) #[true, true, true, true, true, true, true, true, true, false] rfl rfl (any_of HT_.out (by kernel_rfl)) (fun _ _ _ h => h) (Or.inl ⟨by rfl, ?_⟩) ?_ ?_
  rotate_left
  · intro w'
    go_simp
    with_reducible rfl
  rotate_left
  · simp only [Act.put, List.setIfInBounds_toArray, List.set_cons_zero, List.set_cons_succ, i64_w, i32_w]
    rfl
  refine pure_ (i := 9) (N := some 7) (v := ?_) (a' := ?_) #[true, true, true, true, true, true, true, true, true, true] rfl rfl (any_of HT_.out (by kernel_rfl)) (fun _ _ _ h => h) (Or.inl ⟨by rfl, ?_⟩) ?_ ?_
  rotate_left
  · intro w'
    go_simp
    with_reducible rfl
  rotate_left
  · simp only [Act.put, List.setIfInBounds_toArray, List.set_cons_zero, List.set_cons_succ, i64_w, i32_w]
    rfl
  refine done_ (done_of HT_.out (by kernel_rfl)) ?_
  clear HT_ HW_
  have hcz0_0 : w5.cell? ⟨w.heap.size, 0, none⟩ = some (.int .i64 a0_0) := (blk_cell K0_5.out 0).trans rfl
  have hfz0_0 := blk_frozen K0_5.out 0
  have hcz0_1 : w5.cell? ⟨w.heap.size, 1, none⟩ = some (.int .i64 a0_1) := (blk_cell K0_5.out 1).trans rfl
  have hfz0_1 := blk_frozen K0_5.out 1
  have hcz0_2 : w5.cell? ⟨w.heap.size, 2, none⟩ = some (.int .i64 a0_2) := (blk_cell K0_5.out 2).trans rfl
  have hfz0_2 := blk_frozen K0_5.out 2
  have hcz1_0 : w5.cell? ⟨w.heap.size + 1, 0, none⟩ = some (.slice Aa1_0 a1_0.length ca1_0) := (blk_cell K1_5.out 0).trans rfl
  have hfz1_0 := blk_frozen K1_5.out 0
  have hcz1_1 : w5.cell? ⟨w.heap.size + 1, 1, none⟩ = some (.slice Aa1_1 a1_1.length ca1_1) := (blk_cell K1_5.out 1).trans rfl
  have hfz1_1 := blk_frozen K1_5.out 1
  go_wp2_with fail
  clear hcz0_0 hfz0_0 hcz0_1 hfz0_1 hcz0_2 hfz0_2 hcz1_0 hfz1_0 hcz1_1 hfz1_1
  refine (toSlopes_calls a1_0 HLa1_0.out a1_1 ta1_1 HTa1_1.out HLta1_1.out HBta1_1.out Aa1_0 ca1_0 Aa1_1 ca1_1 w5 (Kd.C_below HRa1_0.out B5.out) HCa1_0.out (Kd.C_below HRa1_1.out B5.out) HCa1_1.out).mono ?_
  rintro e w6 ⟨v0, v1, rfl, ho0, ho1, hne, hb⟩
  have B6 := Aside0.mk (below_step B5.out hb)
  have z6 := hb.size
  obtain ⟨Ax1_0_6, cx1_0_6, rfl⟩ := Kd.R_slice ho0
  have Fx1_0_6 := Aside0.mk (ivR (w := w) ho0 (by omega))
  clear ho0
  obtain ⟨Ax1_1_6, cx1_1_6, rfl⟩ := Kd.S_slice ho1
  have Fx1_1_6 := Aside0.mk (ivS (w := w) ho1 (by omega))
  clear ho1
  have Dx1 := Aside0.mk hne
  clear hne
  have K0_6 := Aside0.mk (blk_below K0_5.out hb)
  clear K0_5
  have K1_6 := Aside0.mk (blk_below K1_5.out hb)
  clear K1_5
  have Fw0_0_6 := Aside0.mk (Kd.S_below Fw0_0_5.out hb)
  clear Fw0_0_5
  clear hb
  have hcz0_0 : w6.cell? ⟨w.heap.size, 0, none⟩ = some (.int .i64 a0_0) := (blk_cell K0_6.out 0).trans rfl
  have hfz0_0 := blk_frozen K0_6.out 0
  have hcz0_1 : w6.cell? ⟨w.heap.size, 1, none⟩ = some (.int .i64 a0_1) := (blk_cell K0_6.out 1).trans rfl
  have hfz0_1 := blk_frozen K0_6.out 1
  have hcz0_2 : w6.cell? ⟨w.heap.size, 2, none⟩ = some (.int .i64 a0_2) := (blk_cell K0_6.out 2).trans rfl
  have hfz0_2 := blk_frozen K0_6.out 2
  have hcz1_0 : w6.cell? ⟨w.heap.size + 1, 0, none⟩ = some (.slice Aa1_0 a1_0.length ca1_0) := (blk_cell K1_6.out 0).trans rfl
  have hfz1_0 := blk_frozen K1_6.out 0
  have hcz1_1 : w6.cell? ⟨w.heap.size + 1, 1, none⟩ = some (.slice Aa1_1 a1_1.length ca1_1) := (blk_cell K1_6.out 1).trans rfl
  have hfz1_1 := blk_frozen K1_6.out 1
  go_wp2_with fail
  clear hcz0_0 hfz0_0 hcz0_1 hfz0_1 hcz0_2 hfz0_2 hcz1_0 hfz1_0 hcz1_1 hfz1_1
  have Fw0_0_6b := Aside0.mk (Kd.S_below Fw0_0_6.out (below_alloc (Below.refl _ _) (.cells #[.slice Ax1_0_6 a1_0.length cx1_0_6, .slice Ax1_1_6 ta1_1.length cx1_1_6] 27)))
  clear Fw0_0_6
  have Fx1_0_6b := Aside0.mk (Kd.R_below Fx1_0_6.out (below_alloc (Below.refl _ _) (.cells #[.slice Ax1_0_6 a1_0.length cx1_0_6, .slice Ax1_1_6 ta1_1.length cx1_1_6] 27)))
  clear Fx1_0_6
  have Fx1_1_6b := Aside0.mk (Kd.S_below Fx1_1_6.out (below_alloc (Below.refl _ _) (.cells #[.slice Ax1_0_6 a1_0.length cx1_0_6, .slice Ax1_1_6 ta1_1.length cx1_1_6] 27)))
  clear Fx1_1_6
  have K0_6b := Aside0.mk (blk_alloc K0_6.out (.cells #[.slice Ax1_0_6 a1_0.length cx1_0_6, .slice Ax1_1_6 ta1_1.length cx1_1_6] 27))
  clear K0_6
  have K1_6b := Aside0.mk (blk_alloc K1_6.out (.cells #[.slice Ax1_0_6 a1_0.length cx1_0_6, .slice Ax1_1_6 ta1_1.length cx1_1_6] 27))
  clear K1_6
  have B7 := Aside0.mk (below_alloc B6.out (.cells #[.slice Ax1_0_6 a1_0.length cx1_0_6, .slice Ax1_1_6 ta1_1.length cx1_1_6] 27))
  have z7 : w6.heap.size < (w6.alloc (.cells #[.slice Ax1_0_6 a1_0.length cx1_0_6, .slice Ax1_1_6 ta1_1.length cx1_1_6] 27)).heap.size := Nat.lt_of_lt_of_eq (Nat.lt_succ_self _) (Array.size_push ..).symm
  have Kx1_7 := Aside0.mk (blk_new w6 (.cells #[.slice Ax1_0_6 a1_0.length cx1_0_6, .slice Ax1_1_6 ta1_1.length cx1_1_6] 27))
  generalize w6.alloc (.cells #[.slice Ax1_0_6 a1_0.length cx1_0_6, .slice Ax1_1_6 ta1_1.length cx1_1_6] 27) = w7 at Fw0_0_6b Fx1_0_6b Fx1_1_6b K0_6b K1_6b Kx1_7 B7 z7 ⊢
  have Fw0_0_6bd := Aside0.mk (Kd.S_drew Fw0_0_6b.out)
  clear Fw0_0_6b
  have Fx1_0_6bd := Aside0.mk (Kd.R_drew Fx1_0_6b.out)
  clear Fx1_0_6b
  have Fx1_1_6bd := Aside0.mk (Kd.S_drew Fx1_1_6b.out)
  clear Fx1_1_6b
  have K0_6bd := Aside0.mk (blk_drew K0_6b.out)
  clear K0_6b
  have K1_6bd := Aside0.mk (blk_drew K1_6b.out)
  clear K1_6b
  have Kx1_7d := Aside0.mk (blk_drew Kx1_7.out)
  clear Kx1_7
  have B8 := Aside0.mk (below_drew1 B7.out)
  have z8 : w7.heap.size ≤ (w7.drew).heap.size := Nat.le_refl _
  refine start_ (n := 9) (S := fun w' => w'.cell? ⟨w.heap.size, 0, none⟩ = some (.int .i64 a0_0) ∧ w'.cell? ⟨w.heap.size, 1, none⟩ = some (.int .i64 a0_1) ∧ w'.cell? ⟨w.heap.size, 2, none⟩ = some (.int .i64 a0_2) ∧ w'.cell? ⟨w.heap.size + 1, 0, none⟩ = some (.slice Aa1_0 a1_0.length ca1_0) ∧ w'.cell? ⟨w.heap.size + 1, 1, none⟩ = some (.slice Aa1_1 a1_1.length ca1_1) ∧ w'.cell? ⟨w6.heap.size, 0, none⟩ = some (.slice Ax1_0_6 a1_0.length cx1_0_6) ∧ w'.cell? ⟨w6.heap.size, 1, none⟩ = some (.slice Ax1_1_6 ta1_1.length cx1_1_6)) (ds := []) #[false, false, false, false, false, false, false, false, false] (by kernel_rfl) rfl rfl ⟨(blk_cell K0_6bd.out 0).trans rfl, (blk_cell K0_6bd.out 1).trans rfl, (blk_cell K0_6bd.out 2).trans rfl, (blk_cell K1_6bd.out 0).trans rfl, (blk_cell K1_6bd.out 1).trans rfl, (blk_cell Kx1_7d.out 0).trans rfl, (blk_cell Kx1_7d.out 1).trans rfl⟩ (fun hHeld => ?_)
  refine with_tabW laws_FnExactArcsOf_tab7 laws_FnExactArcsOf_bits7 (fun HT_ HW_ => ?_)
  generalize w7.drew = w8 at Fw0_0_6bd Fx1_0_6bd Fx1_1_6bd K0_6bd K1_6bd Kx1_7d B8 z8 hHeld ⊢
  refine take_ (i := 0) (N := some 32) (v := ?_) (a' := ?_) #[true, false, false, false, false, false, false, false, false] rfl rfl (take_ofW HT_.out HW_.out (by kernel_rfl)) (fun _ _ _ h => h) (Or.inl ⟨by rfl, ?_⟩) hHeld ?_ ?_
  rotate_left
  · rintro w' ⟨s0, s1, s2, s3, s4, s5, s6⟩
    go_simp
    with_reducible rfl
  rotate_left
  · simp only [Act.put, List.setIfInBounds_toArray, List.set_cons_zero, List.set_cons_succ, i64_w, i32_w]
    rfl
  refine take_ (i := 2) (N := some 34) (v := ?_) (a' := ?_) #[true, false, true, false, false, false, false, false, false] rfl rfl (take_ofW HT_.out HW_.out (by kernel_rfl)) (fun _ _ _ h => h) (Or.inl ⟨by rfl, ?_⟩) hHeld ?_ ?_
  rotate_left
  · rintro w' ⟨s0, s1, s2, s3, s4, s5, s6⟩
    go_simp
    with_reducible rfl
  rotate_left
  · simp only [Act.put, List.setIfInBounds_toArray, List.set_cons_zero, List.set_cons_succ, i64_w, i32_w]
    rfl
  refine one_ (i := 1) (N := some 33) #[true, true, true, false, false, false, false, false, false] rfl rfl (one_of HT_.out (by kernel_rfl)) (by decide) (fun K hK => ?_)
  refine goes_ Try.func11 (by kernel_rfl) rfl #[.agg #[.int .i64 a0_0, .int .i64 a0_1, .int .i64 a0_2]] (by rfl) rfl rfl (by (try simp only [List.map_toArray, List.map_cons, List.map_nil]); first | done | rfl | (simp only [List.length_drop, List.length_take]; rfl)) ?_
  refine (toGrid_calls a0_0 a0_1 a0_2  w8 ).mono ?_
  rintro e w9 ⟨rfl, hb⟩
  refine ⟨_, rfl, ?_⟩
  have B9 := Aside0.mk (below_step B8.out hb)
  have z9 := hb.size
  have K0_9 := Aside0.mk (blk_below K0_6bd.out hb)
  clear K0_6bd
  have K1_9 := Aside0.mk (blk_below K1_6bd.out hb)
  clear K1_6bd
  have K2_9 := Aside0.mk (blk_below Kx1_7d.out hb)
  clear Kx1_7d
  have Fw0_0_9 := Aside0.mk (Kd.S_below Fw0_0_6bd.out hb)
  clear Fw0_0_6bd
  have Fx1_0_9 := Aside0.mk (Kd.R_below Fx1_0_6bd.out hb)
  clear Fx1_0_6bd
  have Fx1_1_9 := Aside0.mk (Kd.S_below Fx1_1_6bd.out hb)
  clear Fx1_1_6bd
  clear hb
  refine hK.out _ _ ⟨(blk_cell K0_9.out 0).trans rfl, (blk_cell K0_9.out 1).trans rfl, (blk_cell K0_9.out 2).trans rfl, (blk_cell K1_9.out 0).trans rfl, (blk_cell K1_9.out 1).trans rfl, (blk_cell K2_9.out 0).trans rfl, (blk_cell K2_9.out 1).trans rfl⟩ (fun hHeld => ?_)
  clear hK K
  refine norm_ (a' := ?_) ?_ ?_
  rotate_left
  · show Act.put _ (some 33) _ = _
    simp only [Act.put, List.setIfInBounds_toArray, List.set_cons_zero, List.set_cons_succ, i64_w, i32_w]
    rfl
  refine one_ (i := 3) (N := some 35) #[true, true, true, true, false, false, false, false, false] rfl rfl (one_of HT_.out (by kernel_rfl)) (by decide) (fun K hK => ?_)
  refine goes_ Try.func21 (by kernel_rfl) rfl #[.agg #[.int .i64 a0_0, .int .i64 a0_1, .int .i64 a0_2], .agg #[.slice Ax1_0_6 a1_0.length cx1_0_6, .slice Ax1_1_6 ta1_1.length cx1_1_6]] (by rfl) rfl rfl (by (try simp only [List.map_toArray, List.map_cons, List.map_nil]); first | done | rfl | (simp only [List.length_drop, List.length_take]; rfl)) ?_
  refine (OwnArcsOf.own_impl a0_0 a0_1 a0_2 Ax1_0_6 cx1_0_6 a1_0 Ax1_1_6 cx1_1_6 ta1_1 g0 g1 w9 (readsR Fx1_0_9.out).2.2 (readsR Fx1_0_9.out).2.1 (readsS Fx1_1_9.out).2.2 (readsS Fx1_1_9.out).2.1 HLa1_0.out HLta1_1.out HBta1_1.out Hi.out).mono ?_
  rintro e w10 ⟨v, rfl, ho, hb⟩
  refine ⟨_, rfl, ?_⟩
  have ho := Kd.S_mono ho (ok' := fun _ => True) (fun _ _ => trivial)
  have B10 := Aside0.mk (below_step B9.out hb)
  have z10 := hb.size
  obtain ⟨Ag0_0_10, cg0_0_10, rfl⟩ := Kd.S_slice ho
  have Fg0_0_10 := Aside0.mk (ivS (w := w) ho (by omega))
  clear ho
  have K0_10 := Aside0.mk (blk_below K0_9.out hb)
  clear K0_9
  have K1_10 := Aside0.mk (blk_below K1_9.out hb)
  clear K1_9
  have K2_10 := Aside0.mk (blk_below K2_9.out hb)
  clear K2_9
  have Fw0_0_10 := Aside0.mk (Kd.S_below Fw0_0_9.out hb)
  clear Fw0_0_9
  have Fx1_0_10 := Aside0.mk (Kd.R_below Fx1_0_9.out hb)
  clear Fx1_0_9
  have Fx1_1_10 := Aside0.mk (Kd.S_below Fx1_1_9.out hb)
  clear Fx1_1_9
  clear hb
  refine hK.out _ _ ⟨(blk_cell K0_10.out 0).trans rfl, (blk_cell K0_10.out 1).trans rfl, (blk_cell K0_10.out 2).trans rfl, (blk_cell K1_10.out 0).trans rfl, (blk_cell K1_10.out 1).trans rfl, (blk_cell K2_10.out 0).trans rfl, (blk_cell K2_10.out 1).trans rfl⟩ (fun hHeld => ?_)
  clear hK K
  refine norm_ (a' := ?_) ?_ ?_
  rotate_left
  · show Act.put _ (some 35) _ = _
    simp only [Act.put, List.setIfInBounds_toArray, List.set_cons_zero, List.set_cons_succ, i64_w, i32_w]
    rfl
  refine pure_ (i := 4) (N := some 31) (v := ?_) (a' := ?_) #[true, true, true, true, true, false, false, false, false] rfl rfl (any_of HT_.out (by kernel_rfl)) (fun _ _ _ h => h) (Or.inl ⟨by rfl, ?_⟩) ?_ ?_
  rotate_left
  · intro w'
    go_simp
    with_reducible rfl
  rotate_left
  · simp only [Act.put, List.setIfInBounds_toArray, List.set_cons_zero, List.set_cons_succ, i64_w, i32_w]
    rfl
  refine pure_ (i := 5) (N := some 36) (v := ?_) (a' := ?_) #[true, true, true, true, true, true, false, false, false] rfl rfl (any_of HT_.out (by kernel_rfl)) (fun _ _ _ h => h) (Or.inl ⟨by rfl, ?_⟩) ?_ ?_
  rotate_left
  · intro w'
    go_simp
    with_reducible rfl
  rotate_left
  · simp only [Act.put, List.setIfInBounds_toArray, List.set_cons_zero, List.set_cons_succ, i64_w, i32_w]
    rfl
  refine pure_ (i := 6) (N := some 37) (v := ?_) (a' := ?_) #[true, true, true, true, true, true, true, false, false] rfl rfl (any_of HT_.out (by kernel_rfl)) (fun _ _ _ h => h) (Or.inl ⟨by rfl, ?_⟩) ?_ ?_
  rotate_left
  · intro w'
    go_simp
    with_reducible rfl
  rotate_left
  · simp only [Act.put, List.setIfInBounds_toArray, List.set_cons_zero, List.set_cons_succ, i64_w, i32_w]
    rfl
  refine pure_ (i := 7) (N := some 9) (v := ?_) (a' := ?_) #[true, true, true, true, true, true, true, true, false] rfl rfl (any_of HT_.out (by kernel_rfl)) (fun _ _ _ h => h) (Or.inl ⟨by rfl, ?_⟩) ?_ ?_
  rotate_left
  · intro w'
    go_simp
    with_reducible rfl
  rotate_left
  · simp only [Act.put, List.setIfInBounds_toArray, List.set_cons_zero, List.set_cons_succ, i64_w, i32_w]
    rfl
  refine pure_ (i := 8) (N := some 10) (v := ?_) (a' := ?_) #[true, true, true, true, true, true, true, true, true] rfl rfl (any_of HT_.out (by kernel_rfl)) (fun _ _ _ h => h) (Or.inl ⟨by rfl, ?_⟩) ?_ ?_
  rotate_left
  · intro w'
    go_simp
    with_reducible rfl
  rotate_left
  · simp only [Act.put, List.setIfInBounds_toArray, List.set_cons_zero, List.set_cons_succ, i64_w, i32_w]
    rfl
  refine done_ (done_of HT_.out (by kernel_rfl)) ?_
  clear HT_ HW_
  have hcz0_0 : w10.cell? ⟨w.heap.size, 0, none⟩ = some (.int .i64 a0_0) := (blk_cell K0_10.out 0).trans rfl
  have hfz0_0 := blk_frozen K0_10.out 0
  have hcz0_1 : w10.cell? ⟨w.heap.size, 1, none⟩ = some (.int .i64 a0_1) := (blk_cell K0_10.out 1).trans rfl
  have hfz0_1 := blk_frozen K0_10.out 1
  have hcz0_2 : w10.cell? ⟨w.heap.size, 2, none⟩ = some (.int .i64 a0_2) := (blk_cell K0_10.out 2).trans rfl
  have hfz0_2 := blk_frozen K0_10.out 2
  have hcz1_0 : w10.cell? ⟨w.heap.size + 1, 0, none⟩ = some (.slice Aa1_0 a1_0.length ca1_0) := (blk_cell K1_10.out 0).trans rfl
  have hfz1_0 := blk_frozen K1_10.out 0
  have hcz1_1 : w10.cell? ⟨w.heap.size + 1, 1, none⟩ = some (.slice Aa1_1 a1_1.length ca1_1) := (blk_cell K1_10.out 1).trans rfl
  have hfz1_1 := blk_frozen K1_10.out 1
  have hcz2_0 : w10.cell? ⟨w6.heap.size, 0, none⟩ = some (.slice Ax1_0_6 a1_0.length cx1_0_6) := (blk_cell K2_10.out 0).trans rfl
  have hfz2_0 := blk_frozen K2_10.out 0
  have hcz2_1 : w10.cell? ⟨w6.heap.size, 1, none⟩ = some (.slice Ax1_1_6 ta1_1.length cx1_1_6) := (blk_cell K2_10.out 1).trans rfl
  have hfz2_1 := blk_frozen K2_10.out 1
  go_wp2_with fail
  clear hcz0_0 hfz0_0 hcz0_1 hfz0_1 hcz0_2 hfz0_2 hcz1_0 hfz1_0 hcz1_1 hfz1_1 hcz2_0 hfz2_0 hcz2_1 hfz2_1
  refine (eqIntSS_calls g0 (maxLen_val (by have := HLg0.out; omega)) (fun x hx => maxLen_val (by have := HBg0.out x hx; omega)) Ag0_0_10 Aw0_0_5 cg0_0_10 cw0_0_5 w10 (readsS Fg0_0_10.out).2.2 (readsS Fg0_0_10.out).2.1 (readsS Fw0_0_10.out).2.2 (readsS Fw0_0_10.out).2.1).mono ?_
  rintro e w11 ⟨rfl, hb⟩
  have B11 := Aside0.mk (below_step B10.out hb)
  have z11 := hb.size
  have K0_11 := Aside0.mk (blk_below K0_10.out hb)
  clear K0_10
  have K1_11 := Aside0.mk (blk_below K1_10.out hb)
  clear K1_10
  have K2_11 := Aside0.mk (blk_below K2_10.out hb)
  clear K2_10
  have Fw0_0_11 := Aside0.mk (Kd.S_below Fw0_0_10.out hb)
  clear Fw0_0_10
  have Fx1_0_11 := Aside0.mk (Kd.R_below Fx1_0_10.out hb)
  clear Fx1_0_10
  have Fx1_1_11 := Aside0.mk (Kd.S_below Fx1_1_10.out hb)
  clear Fx1_1_10
  have Fg0_0_11 := Aside0.mk (Kd.S_below Fg0_0_10.out hb)
  clear Fg0_0_10
  clear hb
  have hcz0_0 : w11.cell? ⟨w.heap.size, 0, none⟩ = some (.int .i64 a0_0) := (blk_cell K0_11.out 0).trans rfl
  have hfz0_0 := blk_frozen K0_11.out 0
  have hcz0_1 : w11.cell? ⟨w.heap.size, 1, none⟩ = some (.int .i64 a0_1) := (blk_cell K0_11.out 1).trans rfl
  have hfz0_1 := blk_frozen K0_11.out 1
  have hcz0_2 : w11.cell? ⟨w.heap.size, 2, none⟩ = some (.int .i64 a0_2) := (blk_cell K0_11.out 2).trans rfl
  have hfz0_2 := blk_frozen K0_11.out 2
  have hcz1_0 : w11.cell? ⟨w.heap.size + 1, 0, none⟩ = some (.slice Aa1_0 a1_0.length ca1_0) := (blk_cell K1_11.out 0).trans rfl
  have hfz1_0 := blk_frozen K1_11.out 0
  have hcz1_1 : w11.cell? ⟨w.heap.size + 1, 1, none⟩ = some (.slice Aa1_1 a1_1.length ca1_1) := (blk_cell K1_11.out 1).trans rfl
  have hfz1_1 := blk_frozen K1_11.out 1
  have hcz2_0 : w11.cell? ⟨w6.heap.size, 0, none⟩ = some (.slice Ax1_0_6 a1_0.length cx1_0_6) := (blk_cell K2_11.out 0).trans rfl
  have hfz2_0 := blk_frozen K2_11.out 0
  have hcz2_1 : w11.cell? ⟨w6.heap.size, 1, none⟩ = some (.slice Ax1_1_6 ta1_1.length cx1_1_6) := (blk_cell K2_11.out 1).trans rfl
  have hfz2_1 := blk_frozen K2_11.out 1
  go_wp2_with fail
  clear hcz0_0 hfz0_0 hcz0_1 hfz0_1 hcz0_2 hfz0_2 hcz1_0 hfz1_0 hcz1_1 hfz1_1 hcz2_0 hfz2_0 hcz2_1 hfz2_1
  have Fw0_0_11d := Aside0.mk (Kd.S_drew Fw0_0_11.out)
  clear Fw0_0_11
  have Fx1_0_11d := Aside0.mk (Kd.R_drew Fx1_0_11.out)
  clear Fx1_0_11
  have Fx1_1_11d := Aside0.mk (Kd.S_drew Fx1_1_11.out)
  clear Fx1_1_11
  have Fg0_0_11d := Aside0.mk (Kd.S_drew Fg0_0_11.out)
  clear Fg0_0_11
  have K0_11d := Aside0.mk (blk_drew K0_11.out)
  clear K0_11
  have K1_11d := Aside0.mk (blk_drew K1_11.out)
  clear K1_11
  have K2_11d := Aside0.mk (blk_drew K2_11.out)
  clear K2_11
  have B12 := Aside0.mk (below_drew1 B11.out)
  have z12 : w11.heap.size ≤ (w11.drew).heap.size := Nat.le_refl _
  refine start_ (n := 5) (S := fun w' => w'.cell? ⟨w.heap.size, 0, none⟩ = some (.int .i64 a0_0) ∧ w'.cell? ⟨w.heap.size, 1, none⟩ = some (.int .i64 a0_1) ∧ w'.cell? ⟨w.heap.size, 2, none⟩ = some (.int .i64 a0_2) ∧ w'.cell? ⟨w.heap.size + 1, 0, none⟩ = some (.slice Aa1_0 a1_0.length ca1_0) ∧ w'.cell? ⟨w.heap.size + 1, 1, none⟩ = some (.slice Aa1_1 a1_1.length ca1_1) ∧ w'.cell? ⟨w6.heap.size, 0, none⟩ = some (.slice Ax1_0_6 a1_0.length cx1_0_6) ∧ w'.cell? ⟨w6.heap.size, 1, none⟩ = some (.slice Ax1_1_6 ta1_1.length cx1_1_6)) (ds := []) #[false, false, false, false, false] (by kernel_rfl) rfl rfl ⟨(blk_cell K0_11d.out 0).trans rfl, (blk_cell K0_11d.out 1).trans rfl, (blk_cell K0_11d.out 2).trans rfl, (blk_cell K1_11d.out 0).trans rfl, (blk_cell K1_11d.out 1).trans rfl, (blk_cell K2_11d.out 0).trans rfl, (blk_cell K2_11d.out 1).trans rfl⟩ (fun hHeld => ?_)
  refine with_tabW laws_FnExactArcsOf_tab10 laws_FnExactArcsOf_bits10 (fun HT_ HW_ => ?_)
  generalize w11.drew = w12 at Fw0_0_11d Fx1_0_11d Fx1_1_11d Fg0_0_11d K0_11d K1_11d K2_11d B12 z12 hHeld ⊢
  refine take_ (i := 0) (N := some 47) (v := ?_) (a' := ?_) #[true, false, false, false, false] rfl rfl (take_ofW HT_.out HW_.out (by kernel_rfl)) (fun _ _ _ h => h) (Or.inl ⟨by rfl, ?_⟩) hHeld ?_ ?_
  rotate_left
  · rintro w' ⟨s0, s1, s2, s3, s4, s5, s6⟩
    go_simp
    with_reducible rfl
  rotate_left
  · simp only [Act.put, List.setIfInBounds_toArray, List.set_cons_zero, List.set_cons_succ, i64_w, i32_w]
    rfl
  refine take_ (i := 1) (N := some 48) (v := ?_) (a' := ?_) #[true, true, false, false, false] rfl rfl (take_ofW HT_.out HW_.out (by kernel_rfl)) (fun _ _ _ h => h) (Or.inl ⟨by rfl, ?_⟩) hHeld ?_ ?_
  rotate_left
  · rintro w' ⟨s0, s1, s2, s3, s4, s5, s6⟩
    go_simp
    with_reducible rfl
  rotate_left
  · simp only [Act.put, List.setIfInBounds_toArray, List.set_cons_zero, List.set_cons_succ, i64_w, i32_w]
    rfl
  refine one_ (i := 2) (N := some 49) #[true, true, true, false, false] rfl rfl (one_of HT_.out (by kernel_rfl)) (by decide) (fun K hK => ?_)
  refine goes_ Try.func20 (by kernel_rfl) rfl #[.agg #[.slice Aa1_0 a1_0.length ca1_0, .slice Aa1_1 a1_1.length ca1_1]] (by rfl) rfl rfl (by (try simp only [List.map_toArray, List.map_cons, List.map_nil]); first | done | rfl | (simp only [List.length_drop, List.length_take]; rfl)) ?_
  refine (toSlopes_calls a1_0 HLa1_0.out a1_1 ta1_1 HTa1_1.out HLta1_1.out HBta1_1.out Aa1_0 ca1_0 Aa1_1 ca1_1 w12 (Kd.C_below HRa1_0.out B12.out) HCa1_0.out (Kd.C_below HRa1_1.out B12.out) HCa1_1.out).mono ?_
  rintro e w13 ⟨v0, v1, rfl, ho0, ho1, hne, hb⟩
  refine ⟨_, rfl, ?_⟩
  have B13 := Aside0.mk (below_step B12.out hb)
  have z13 := hb.size
  obtain ⟨Au_0_13, cu_0_13, rfl⟩ := Kd.R_slice ho0
  have Fu_0_13 := Aside0.mk (ivR (w := w) ho0 (by omega))
  clear ho0
  obtain ⟨Au_1_13, cu_1_13, rfl⟩ := Kd.S_slice ho1
  have Fu_1_13 := Aside0.mk (ivS (w := w) ho1 (by omega))
  clear ho1
  have Du := Aside0.mk hne
  clear hne
  have K0_13 := Aside0.mk (blk_below K0_11d.out hb)
  clear K0_11d
  have K1_13 := Aside0.mk (blk_below K1_11d.out hb)
  clear K1_11d
  have K2_13 := Aside0.mk (blk_below K2_11d.out hb)
  clear K2_11d
  have Fw0_0_13 := Aside0.mk (Kd.S_below Fw0_0_11d.out hb)
  clear Fw0_0_11d
  have Fx1_0_13 := Aside0.mk (Kd.R_below Fx1_0_11d.out hb)
  clear Fx1_0_11d
  have Fx1_1_13 := Aside0.mk (Kd.S_below Fx1_1_11d.out hb)
  clear Fx1_1_11d
  have Fg0_0_13 := Aside0.mk (Kd.S_below Fg0_0_11d.out hb)
  clear Fg0_0_11d
  clear hb
  refine hK.out _ _ ⟨(blk_cell K0_13.out 0).trans rfl, (blk_cell K0_13.out 1).trans rfl, (blk_cell K0_13.out 2).trans rfl, (blk_cell K1_13.out 0).trans rfl, (blk_cell K1_13.out 1).trans rfl, (blk_cell K2_13.out 0).trans rfl, (blk_cell K2_13.out 1).trans rfl⟩ (fun hHeld => ?_)
  clear hK K
  refine norm_ (a' := ?_) ?_ ?_
  rotate_left
  · show Act.put _ (some 49) _ = _
    simp only [Act.put, List.setIfInBounds_toArray, List.set_cons_zero, List.set_cons_succ, i64_w, i32_w]
    rfl
  refine one_ (i := 3) (N := some 50) #[true, true, true, true, false] rfl rfl (one_of HT_.out (by kernel_rfl)) (by decide) (fun K hK => ?_)
  refine goes_ Try.func13 (by kernel_rfl) rfl #[.agg #[.slice Ax1_0_6 a1_0.length cx1_0_6, .slice Ax1_1_6 ta1_1.length cx1_1_6], .agg #[.slice Au_0_13 a1_0.length cu_0_13, .slice Au_1_13 ta1_1.length cu_1_13]] (by rfl) rfl rfl (by (try simp only [List.map_toArray, List.map_cons, List.map_nil]); first | done | rfl | (simp only [List.length_drop, List.length_take]; rfl)) ?_
  refine (eqSlopes_calls a1_0 ta1_1 (maxLen_val (by have := HLa1_0.out; omega)) (maxLen_val (by have := HLta1_1.out; omega)) (fun x hx => maxLen_val (by have := HBta1_1.out x hx; omega)) Ax1_0_6 cx1_0_6 Ax1_1_6 cx1_1_6 Au_0_13 cu_0_13 Au_1_13 cu_1_13 w13 (readsR Fx1_0_13.out).2.2 (readsR Fx1_0_13.out).2.1 (readsS Fx1_1_13.out).2.2 (readsS Fx1_1_13.out).2.1 (readsR Fu_0_13.out).2.2 (readsR Fu_0_13.out).2.1 (readsS Fu_1_13.out).2.2 (readsS Fu_1_13.out).2.1).mono ?_
  rintro e w14 ⟨rfl, hb⟩
  refine ⟨_, rfl, ?_⟩
  have B14 := Aside0.mk (below_step B13.out hb)
  have z14 := hb.size
  have K0_14 := Aside0.mk (blk_below K0_13.out hb)
  clear K0_13
  have K1_14 := Aside0.mk (blk_below K1_13.out hb)
  clear K1_13
  have K2_14 := Aside0.mk (blk_below K2_13.out hb)
  clear K2_13
  have Fw0_0_14 := Aside0.mk (Kd.S_below Fw0_0_13.out hb)
  clear Fw0_0_13
  have Fx1_0_14 := Aside0.mk (Kd.R_below Fx1_0_13.out hb)
  clear Fx1_0_13
  have Fx1_1_14 := Aside0.mk (Kd.S_below Fx1_1_13.out hb)
  clear Fx1_1_13
  have Fg0_0_14 := Aside0.mk (Kd.S_below Fg0_0_13.out hb)
  clear Fg0_0_13
  have Fu_0_14 := Aside0.mk (Kd.R_below Fu_0_13.out hb)
  clear Fu_0_13
  have Fu_1_14 := Aside0.mk (Kd.S_below Fu_1_13.out hb)
  clear Fu_1_13
  clear hb
  refine hK.out _ _ ⟨(blk_cell K0_14.out 0).trans rfl, (blk_cell K0_14.out 1).trans rfl, (blk_cell K0_14.out 2).trans rfl, (blk_cell K1_14.out 0).trans rfl, (blk_cell K1_14.out 1).trans rfl, (blk_cell K2_14.out 0).trans rfl, (blk_cell K2_14.out 1).trans rfl⟩ (fun hHeld => ?_)
  clear hK K
  refine norm_ (a' := ?_) ?_ ?_
  rotate_left
  · show Act.put _ (some 50) _ = _
    simp only [Act.put, List.setIfInBounds_toArray, List.set_cons_zero, List.set_cons_succ, i64_w, i32_w]
    rfl
  refine pure_ (i := 4) (N := some 51) (v := ?_) (a' := ?_) #[true, true, true, true, true] rfl rfl (any_of HT_.out (by kernel_rfl)) (fun _ _ _ h => h) (Or.inl ⟨by rfl, ?_⟩) ?_ ?_
  rotate_left
  · intro w'
    go_simp
    with_reducible rfl
  rotate_left
  · simp only [Act.put, List.setIfInBounds_toArray, List.set_cons_zero, List.set_cons_succ, i64_w, i32_w]
    rfl
  refine done_ (done_of HT_.out (by kernel_rfl)) ?_
  clear HT_ HW_
  have hcz0_0 : w14.cell? ⟨w.heap.size, 0, none⟩ = some (.int .i64 a0_0) := (blk_cell K0_14.out 0).trans rfl
  have hfz0_0 := blk_frozen K0_14.out 0
  have hcz0_1 : w14.cell? ⟨w.heap.size, 1, none⟩ = some (.int .i64 a0_1) := (blk_cell K0_14.out 1).trans rfl
  have hfz0_1 := blk_frozen K0_14.out 1
  have hcz0_2 : w14.cell? ⟨w.heap.size, 2, none⟩ = some (.int .i64 a0_2) := (blk_cell K0_14.out 2).trans rfl
  have hfz0_2 := blk_frozen K0_14.out 2
  have hcz1_0 : w14.cell? ⟨w.heap.size + 1, 0, none⟩ = some (.slice Aa1_0 a1_0.length ca1_0) := (blk_cell K1_14.out 0).trans rfl
  have hfz1_0 := blk_frozen K1_14.out 0
  have hcz1_1 : w14.cell? ⟨w.heap.size + 1, 1, none⟩ = some (.slice Aa1_1 a1_1.length ca1_1) := (blk_cell K1_14.out 1).trans rfl
  have hfz1_1 := blk_frozen K1_14.out 1
  have hcz2_0 : w14.cell? ⟨w6.heap.size, 0, none⟩ = some (.slice Ax1_0_6 a1_0.length cx1_0_6) := (blk_cell K2_14.out 0).trans rfl
  have hfz2_0 := blk_frozen K2_14.out 0
  have hcz2_1 : w14.cell? ⟨w6.heap.size, 1, none⟩ = some (.slice Ax1_1_6 ta1_1.length cx1_1_6) := (blk_cell K2_14.out 1).trans rfl
  have hfz2_1 := blk_frozen K2_14.out 1
  go_wp2_with fail
  clear hcz0_0 hfz0_0 hcz0_1 hfz0_1 hcz0_2 hfz0_2 hcz1_0 hfz1_0 hcz1_1 hfz1_1 hcz2_0 hfz2_0 hcz2_1 hfz2_1
  refine (markSlopes_calls a1_0 ta1_1 HLa1_0.out HLta1_1.out HBta1_1.out w5 w6 (.slice Ax1_0_6 a1_0.length cx1_0_6) (.slice Ax1_1_6 ta1_1.length cx1_1_6)  w w14 B14.out Fx1_0_14.out Fx1_1_14.out).mono ?_
  rintro e w15 ⟨rfl, hb, hk⟩
  have z15 := hk.1
  have B15 := Aside0.mk hb
  have K0_15m := Aside0.mk (blk_kept K0_14.out hk (fun h => by unfold Btw at h; omega))
  clear K0_14
  have K1_15m := Aside0.mk (blk_kept K1_14.out hk (fun h => by unfold Btw at h; omega))
  clear K1_14
  have K2_15m := Aside0.mk (blk_kept K2_14.out hk (fun h => by unfold Btw at h; omega))
  clear K2_14
  have Fw0_0_15 := Aside0.mk (Kd.S_kept Fw0_0_14.out hk (apart (by omega)))
  clear Fw0_0_14
  have Fg0_0_15 := Aside0.mk (Kd.S_kept Fg0_0_14.out hk (apart (by omega)))
  clear Fg0_0_14
  have hbd := markSl_bd a1_0 ta1_1 HLa1_0.out HLta1_1.out HBta1_1.out
  obtain ⟨m15, em15⟩ : ∃ z : Int, z = markSl a1_0 ta1_1 := ⟨_, rfl⟩
  rw [← em15] at hbd ⊢
  have lm15 : 0 ≤ m15 ∧ m15 ≤ 4398046511104 := by omega
  have dm15 : decide (m15 < 0) = false := decide_eq_false (by omega)
  have Em15 := Aside0.mk em15
  have Lm15 := Aside0.mk lm15
  clear Fx1_0_14
  clear Fx1_1_14
  clear hb hk  hbd em15 lm15
  have hcz0_0 : w15.cell? ⟨w.heap.size, 0, none⟩ = some (.int .i64 a0_0) := (blk_cell K0_15m.out 0).trans rfl
  have hfz0_0 := blk_frozen K0_15m.out 0
  have hcz0_1 : w15.cell? ⟨w.heap.size, 1, none⟩ = some (.int .i64 a0_1) := (blk_cell K0_15m.out 1).trans rfl
  have hfz0_1 := blk_frozen K0_15m.out 1
  have hcz0_2 : w15.cell? ⟨w.heap.size, 2, none⟩ = some (.int .i64 a0_2) := (blk_cell K0_15m.out 2).trans rfl
  have hfz0_2 := blk_frozen K0_15m.out 2
  have hcz1_0 : w15.cell? ⟨w.heap.size + 1, 0, none⟩ = some (.slice Aa1_0 a1_0.length ca1_0) := (blk_cell K1_15m.out 0).trans rfl
  have hfz1_0 := blk_frozen K1_15m.out 0
  have hcz1_1 : w15.cell? ⟨w.heap.size + 1, 1, none⟩ = some (.slice Aa1_1 a1_1.length ca1_1) := (blk_cell K1_15m.out 1).trans rfl
  have hfz1_1 := blk_frozen K1_15m.out 1
  have hcz2_0 : w15.cell? ⟨w6.heap.size, 0, none⟩ = some (.slice Ax1_0_6 a1_0.length cx1_0_6) := (blk_cell K2_15m.out 0).trans rfl
  have hfz2_0 := blk_frozen K2_15m.out 0
  have hcz2_1 : w15.cell? ⟨w6.heap.size, 1, none⟩ = some (.slice Ax1_1_6 ta1_1.length cx1_1_6) := (blk_cell K2_15m.out 1).trans rfl
  have hfz2_1 := blk_frozen K2_15m.out 1
  go_wp2_with fail
  clear hcz0_0 hfz0_0 hcz0_1 hfz0_1 hcz0_2 hfz0_2 hcz1_0 hfz1_0 hcz1_1 hfz1_1 hcz2_0 hfz2_0 hcz2_1 hfz2_1
  refine (eqIntSS_calls g0 (maxLen_val (by have := HLg0.out; omega)) (fun x hx => maxLen_val (by have := HBg0.out x hx; omega)) Ag0_0_10 Aw0_0_5 cg0_0_10 cw0_0_5 w15 (readsS Fg0_0_15.out).2.2 (readsS Fg0_0_15.out).2.1 (readsS Fw0_0_15.out).2.2 (readsS Fw0_0_15.out).2.1).mono ?_
  rintro e w16 ⟨rfl, hb⟩
  have B16 := Aside0.mk (below_step B15.out hb)
  have z16 := hb.size
  have K0_16 := Aside0.mk (blk_below K0_15m.out hb)
  clear K0_15m
  have K1_16 := Aside0.mk (blk_below K1_15m.out hb)
  clear K1_15m
  have K2_16 := Aside0.mk (blk_below K2_15m.out hb)
  clear K2_15m
  have Fw0_0_16 := Aside0.mk (Kd.S_below Fw0_0_15.out hb)
  clear Fw0_0_15
  have Fg0_0_16 := Aside0.mk (Kd.S_below Fg0_0_15.out hb)
  clear Fg0_0_15
  clear hb
  have hcz0_0 : w16.cell? ⟨w.heap.size, 0, none⟩ = some (.int .i64 a0_0) := (blk_cell K0_16.out 0).trans rfl
  have hfz0_0 := blk_frozen K0_16.out 0
  have hcz0_1 : w16.cell? ⟨w.heap.size, 1, none⟩ = some (.int .i64 a0_1) := (blk_cell K0_16.out 1).trans rfl
  have hfz0_1 := blk_frozen K0_16.out 1
  have hcz0_2 : w16.cell? ⟨w.heap.size, 2, none⟩ = some (.int .i64 a0_2) := (blk_cell K0_16.out 2).trans rfl
  have hfz0_2 := blk_frozen K0_16.out 2
  have hcz1_0 : w16.cell? ⟨w.heap.size + 1, 0, none⟩ = some (.slice Aa1_0 a1_0.length ca1_0) := (blk_cell K1_16.out 0).trans rfl
  have hfz1_0 := blk_frozen K1_16.out 0
  have hcz1_1 : w16.cell? ⟨w.heap.size + 1, 1, none⟩ = some (.slice Aa1_1 a1_1.length ca1_1) := (blk_cell K1_16.out 1).trans rfl
  have hfz1_1 := blk_frozen K1_16.out 1
  have hcz2_0 : w16.cell? ⟨w6.heap.size, 0, none⟩ = some (.slice Ax1_0_6 a1_0.length cx1_0_6) := (blk_cell K2_16.out 0).trans rfl
  have hfz2_0 := blk_frozen K2_16.out 0
  have hcz2_1 : w16.cell? ⟨w6.heap.size, 1, none⟩ = some (.slice Ax1_1_6 ta1_1.length cx1_1_6) := (blk_cell K2_16.out 1).trans rfl
  have hfz2_1 := blk_frozen K2_16.out 1
  go_wp2_with fail
  clear hcz0_0 hfz0_0 hcz0_1 hfz0_1 hcz0_2 hfz0_2 hcz1_0 hfz1_0 hcz1_1 hfz1_1 hcz2_0 hfz2_0 hcz2_1 hfz2_1
  refine (markIntSS_calls g0 HLg0.out HBg0.out 1 (by omega) (by have := HLg0.out; omega) (Btw w9 w10) (.slice Ag0_0_10 g0.length cg0_0_10) w w16 B16.out Fg0_0_16.out).mono ?_
  rintro e w17 ⟨rfl, ho, hb, hk⟩
  have z17 := hk.1
  have B17 := Aside0.mk hb
  have K0_17m := Aside0.mk (blk_kept K0_16.out hk (fun h => by unfold Btw at h; omega))
  clear K0_16
  have K1_17m := Aside0.mk (blk_kept K1_16.out hk (fun h => by unfold Btw at h; omega))
  clear K1_16
  have K2_17m := Aside0.mk (blk_kept K2_16.out hk (fun h => by unfold Btw at h; omega))
  clear K2_16
  have Fw0_0_17 := Aside0.mk (Kd.S_kept Fw0_0_16.out hk (apart (by omega)))
  clear Fw0_0_16
  have hbd := markAll_bd 1 g0 HBg0.out g0.length
  have hll := HLg0.out
  obtain ⟨m17, em17⟩ : ∃ z : Int, z = (markAll 1 g0 g0.length).1 := ⟨_, rfl⟩
  rw [← em17] at hbd ⊢
  have lm17 : 0 ≤ m17 ∧ m17 ≤ 1099511627777 := by omega
  have dm17 : decide (m17 < 0) = false := decide_eq_false (by omega)
  have Em17 := Aside0.mk em17
  have Lm17 := Aside0.mk lm17
  have Fg0_0_17 := Aside0.mk ho
  clear Fg0_0_16
  clear hb hk ho hll hbd em17 lm17
  have hcz0_0 : w17.cell? ⟨w.heap.size, 0, none⟩ = some (.int .i64 a0_0) := (blk_cell K0_17m.out 0).trans rfl
  have hfz0_0 := blk_frozen K0_17m.out 0
  have hcz0_1 : w17.cell? ⟨w.heap.size, 1, none⟩ = some (.int .i64 a0_1) := (blk_cell K0_17m.out 1).trans rfl
  have hfz0_1 := blk_frozen K0_17m.out 1
  have hcz0_2 : w17.cell? ⟨w.heap.size, 2, none⟩ = some (.int .i64 a0_2) := (blk_cell K0_17m.out 2).trans rfl
  have hfz0_2 := blk_frozen K0_17m.out 2
  have hcz1_0 : w17.cell? ⟨w.heap.size + 1, 0, none⟩ = some (.slice Aa1_0 a1_0.length ca1_0) := (blk_cell K1_17m.out 0).trans rfl
  have hfz1_0 := blk_frozen K1_17m.out 0
  have hcz1_1 : w17.cell? ⟨w.heap.size + 1, 1, none⟩ = some (.slice Aa1_1 a1_1.length ca1_1) := (blk_cell K1_17m.out 1).trans rfl
  have hfz1_1 := blk_frozen K1_17m.out 1
  have hcz2_0 : w17.cell? ⟨w6.heap.size, 0, none⟩ = some (.slice Ax1_0_6 a1_0.length cx1_0_6) := (blk_cell K2_17m.out 0).trans rfl
  have hfz2_0 := blk_frozen K2_17m.out 0
  have hcz2_1 : w17.cell? ⟨w6.heap.size, 1, none⟩ = some (.slice Ax1_1_6 ta1_1.length cx1_1_6) := (blk_cell K2_17m.out 1).trans rfl
  have hfz2_1 := blk_frozen K2_17m.out 1
  go_wp2_with fail
  clear hcz0_0 hfz0_0 hcz0_1 hfz0_1 hcz0_2 hfz0_2 hcz1_0 hfz1_0 hcz1_1 hfz1_1 hcz2_0 hfz2_0 hcz2_1 hfz2_1
  refine (HeldSS.heldIntSS_calls g0 HLg0.out HBg0.out Ag0_0_10 cg0_0_10 w17 (by have h := (readsS Fg0_0_17.out).2.2; rwa [Com.markAll_len] at h) (by have h := (readsS Fg0_0_17.out).2.1; rwa [Com.markAll_len] at h)).mono ?_
  rintro e w18 ⟨rfl, hb⟩
  have B18 := Aside0.mk (below_step B17.out hb)
  have z18 := hb.size
  have K0_18 := Aside0.mk (blk_below K0_17m.out hb)
  clear K0_17m
  have K1_18 := Aside0.mk (blk_below K1_17m.out hb)
  clear K1_17m
  have K2_18 := Aside0.mk (blk_below K2_17m.out hb)
  clear K2_17m
  have Fw0_0_18 := Aside0.mk (Kd.S_below Fw0_0_17.out hb)
  clear Fw0_0_17
  have Fg0_0_18 := Aside0.mk (Kd.S_below Fg0_0_17.out hb)
  clear Fg0_0_17
  rw [← Em17.out]
  clear hb
  have hcz0_0 : w18.cell? ⟨w.heap.size, 0, none⟩ = some (.int .i64 a0_0) := (blk_cell K0_18.out 0).trans rfl
  have hfz0_0 := blk_frozen K0_18.out 0
  have hcz0_1 : w18.cell? ⟨w.heap.size, 1, none⟩ = some (.int .i64 a0_1) := (blk_cell K0_18.out 1).trans rfl
  have hfz0_1 := blk_frozen K0_18.out 1
  have hcz0_2 : w18.cell? ⟨w.heap.size, 2, none⟩ = some (.int .i64 a0_2) := (blk_cell K0_18.out 2).trans rfl
  have hfz0_2 := blk_frozen K0_18.out 2
  have hcz1_0 : w18.cell? ⟨w.heap.size + 1, 0, none⟩ = some (.slice Aa1_0 a1_0.length ca1_0) := (blk_cell K1_18.out 0).trans rfl
  have hfz1_0 := blk_frozen K1_18.out 0
  have hcz1_1 : w18.cell? ⟨w.heap.size + 1, 1, none⟩ = some (.slice Aa1_1 a1_1.length ca1_1) := (blk_cell K1_18.out 1).trans rfl
  have hfz1_1 := blk_frozen K1_18.out 1
  have hcz2_0 : w18.cell? ⟨w6.heap.size, 0, none⟩ = some (.slice Ax1_0_6 a1_0.length cx1_0_6) := (blk_cell K2_18.out 0).trans rfl
  have hfz2_0 := blk_frozen K2_18.out 0
  have hcz2_1 : w18.cell? ⟨w6.heap.size, 1, none⟩ = some (.slice Ax1_1_6 ta1_1.length cx1_1_6) := (blk_cell K2_18.out 1).trans rfl
  have hfz2_1 := blk_frozen K2_18.out 1
  go_wp2_with fail
  clear hcz0_0 hfz0_0 hcz0_1 hfz0_1 hcz0_2 hfz0_2 hcz1_0 hfz1_0 hcz1_1 hfz1_1 hcz2_0 hfz2_0 hcz2_1 hfz2_1
  have Fw0_0_18d := Aside0.mk (Kd.S_drew Fw0_0_18.out)
  clear Fw0_0_18
  have Fg0_0_18d := Aside0.mk (Kd.S_drew Fg0_0_18.out)
  clear Fg0_0_18
  have K0_18d := Aside0.mk (blk_drew K0_18.out)
  clear K0_18
  have K1_18d := Aside0.mk (blk_drew K1_18.out)
  clear K1_18
  have K2_18d := Aside0.mk (blk_drew K2_18.out)
  clear K2_18
  have B19 := Aside0.mk (below_drew1 B18.out)
  have z19 : w18.heap.size ≤ (w18.drew).heap.size := Nat.le_refl _
  refine start_ (n := 10) (S := fun w' => w'.cell? ⟨w.heap.size, 0, none⟩ = some (.int .i64 a0_0) ∧ w'.cell? ⟨w.heap.size, 1, none⟩ = some (.int .i64 a0_1) ∧ w'.cell? ⟨w.heap.size, 2, none⟩ = some (.int .i64 a0_2) ∧ w'.cell? ⟨w.heap.size + 1, 0, none⟩ = some (.slice Aa1_0 a1_0.length ca1_0) ∧ w'.cell? ⟨w.heap.size + 1, 1, none⟩ = some (.slice Aa1_1 a1_1.length ca1_1) ∧ w'.cell? ⟨w6.heap.size, 0, none⟩ = some (.slice Ax1_0_6 a1_0.length cx1_0_6) ∧ w'.cell? ⟨w6.heap.size, 1, none⟩ = some (.slice Ax1_1_6 ta1_1.length cx1_1_6)) (ds := []) #[false, false, false, false, false, false, false, false, false, false] (by kernel_rfl) rfl rfl ⟨(blk_cell K0_18d.out 0).trans rfl, (blk_cell K0_18d.out 1).trans rfl, (blk_cell K0_18d.out 2).trans rfl, (blk_cell K1_18d.out 0).trans rfl, (blk_cell K1_18d.out 1).trans rfl, (blk_cell K2_18d.out 0).trans rfl, (blk_cell K2_18d.out 1).trans rfl⟩ (fun hHeld => ?_)
  refine with_tabW laws_FnExactArcsOf_tab24 laws_FnExactArcsOf_bits24 (fun HT_ HW_ => ?_)
  generalize w18.drew = w19 at Fw0_0_18d Fg0_0_18d K0_18d K1_18d K2_18d B19 z19 hHeld ⊢
  refine take_ (i := 0) (N := some 80) (v := ?_) (a' := ?_) #[true, false, false, false, false, false, false, false, false, false] rfl rfl (take_ofW HT_.out HW_.out (by kernel_rfl)) (fun _ _ _ h => h) (Or.inl ⟨by rfl, ?_⟩) hHeld ?_ ?_
  rotate_left
  · rintro w' ⟨s0, s1, s2, s3, s4, s5, s6⟩
    go_simp
    with_reducible rfl
  rotate_left
  · simp only [Act.put, List.setIfInBounds_toArray, List.set_cons_zero, List.set_cons_succ, i64_w, i32_w]
    rfl
  refine take_ (i := 2) (N := some 82) (v := ?_) (a' := ?_) #[true, false, true, false, false, false, false, false, false, false] rfl rfl (take_ofW HT_.out HW_.out (by kernel_rfl)) (fun _ _ _ h => h) (Or.inl ⟨by rfl, ?_⟩) hHeld ?_ ?_
  rotate_left
  · rintro w' ⟨s0, s1, s2, s3, s4, s5, s6⟩
    go_simp
    with_reducible rfl
  rotate_left
  · simp only [Act.put, List.setIfInBounds_toArray, List.set_cons_zero, List.set_cons_succ, i64_w, i32_w]
    rfl
  refine one_ (i := 1) (N := some 81) #[true, true, true, false, false, false, false, false, false, false] rfl rfl (one_of HT_.out (by kernel_rfl)) (by decide) (fun K hK => ?_)
  refine goes_ Try.func11 (by kernel_rfl) rfl #[.agg #[.int .i64 a0_0, .int .i64 a0_1, .int .i64 a0_2]] (by rfl) rfl rfl (by (try simp only [List.map_toArray, List.map_cons, List.map_nil]); first | done | rfl | (simp only [List.length_drop, List.length_take]; rfl)) ?_
  refine (toGrid_calls a0_0 a0_1 a0_2  w19 ).mono ?_
  rintro e w20 ⟨rfl, hb⟩
  refine ⟨_, rfl, ?_⟩
  have B20 := Aside0.mk (below_step B19.out hb)
  have z20 := hb.size
  have K0_20 := Aside0.mk (blk_below K0_18d.out hb)
  clear K0_18d
  have K1_20 := Aside0.mk (blk_below K1_18d.out hb)
  clear K1_18d
  have K2_20 := Aside0.mk (blk_below K2_18d.out hb)
  clear K2_18d
  have Fw0_0_20 := Aside0.mk (Kd.S_below Fw0_0_18d.out hb)
  clear Fw0_0_18d
  have Fg0_0_20 := Aside0.mk (Kd.S_below Fg0_0_18d.out hb)
  clear Fg0_0_18d
  clear hb
  refine hK.out _ _ ⟨(blk_cell K0_20.out 0).trans rfl, (blk_cell K0_20.out 1).trans rfl, (blk_cell K0_20.out 2).trans rfl, (blk_cell K1_20.out 0).trans rfl, (blk_cell K1_20.out 1).trans rfl, (blk_cell K2_20.out 0).trans rfl, (blk_cell K2_20.out 1).trans rfl⟩ (fun hHeld => ?_)
  clear hK K
  refine norm_ (a' := ?_) ?_ ?_
  rotate_left
  · show Act.put _ (some 81) _ = _
    simp only [Act.put, List.setIfInBounds_toArray, List.set_cons_zero, List.set_cons_succ, i64_w, i32_w]
    rfl
  refine one_ (i := 3) (N := some 83) #[true, true, true, true, false, false, false, false, false, false] rfl rfl (one_of HT_.out (by kernel_rfl)) (by decide) (fun K hK => ?_)
  refine goes_ Try.func20 (by kernel_rfl) rfl #[.agg #[.slice Aa1_0 a1_0.length ca1_0, .slice Aa1_1 a1_1.length ca1_1]] (by rfl) rfl rfl (by (try simp only [List.map_toArray, List.map_cons, List.map_nil]); first | done | rfl | (simp only [List.length_drop, List.length_take]; rfl)) ?_
  refine (toSlopes_calls a1_0 HLa1_0.out a1_1 ta1_1 HTa1_1.out HLta1_1.out HBta1_1.out Aa1_0 ca1_0 Aa1_1 ca1_1 w20 (Kd.C_below HRa1_0.out B20.out) HCa1_0.out (Kd.C_below HRa1_1.out B20.out) HCa1_1.out).mono ?_
  rintro e w21 ⟨v0, v1, rfl, ho0, ho1, hne, hb⟩
  refine ⟨_, rfl, ?_⟩
  have B21 := Aside0.mk (below_step B20.out hb)
  have z21 := hb.size
  obtain ⟨At1_0_21, ct1_0_21, rfl⟩ := Kd.R_slice ho0
  have Ft1_0_21 := Aside0.mk (ivR (w := w) ho0 (by omega))
  clear ho0
  obtain ⟨At1_1_21, ct1_1_21, rfl⟩ := Kd.S_slice ho1
  have Ft1_1_21 := Aside0.mk (ivS (w := w) ho1 (by omega))
  clear ho1
  have Dt1 := Aside0.mk hne
  clear hne
  have K0_21 := Aside0.mk (blk_below K0_20.out hb)
  clear K0_20
  have K1_21 := Aside0.mk (blk_below K1_20.out hb)
  clear K1_20
  have K2_21 := Aside0.mk (blk_below K2_20.out hb)
  clear K2_20
  have Fw0_0_21 := Aside0.mk (Kd.S_below Fw0_0_20.out hb)
  clear Fw0_0_20
  have Fg0_0_21 := Aside0.mk (Kd.S_below Fg0_0_20.out hb)
  clear Fg0_0_20
  clear hb
  refine hK.out _ _ ⟨(blk_cell K0_21.out 0).trans rfl, (blk_cell K0_21.out 1).trans rfl, (blk_cell K0_21.out 2).trans rfl, (blk_cell K1_21.out 0).trans rfl, (blk_cell K1_21.out 1).trans rfl, (blk_cell K2_21.out 0).trans rfl, (blk_cell K2_21.out 1).trans rfl⟩ (fun hHeld => ?_)
  clear hK K
  refine norm_ (a' := ?_) ?_ ?_
  rotate_left
  · show Act.put _ (some 83) _ = _
    simp only [Act.put, List.setIfInBounds_toArray, List.set_cons_zero, List.set_cons_succ, i64_w, i32_w]
    rfl
  refine one_ (i := 4) (N := some 84) #[true, true, true, true, true, false, false, false, false, false] rfl rfl (one_of HT_.out (by kernel_rfl)) (by decide) (fun K hK => ?_)
  refine goes_ Try.func21 (by kernel_rfl) rfl #[.agg #[.int .i64 a0_0, .int .i64 a0_1, .int .i64 a0_2], .agg #[.slice At1_0_21 a1_0.length ct1_0_21, .slice At1_1_21 ta1_1.length ct1_1_21]] (by rfl) rfl rfl (by (try simp only [List.map_toArray, List.map_cons, List.map_nil]); first | done | rfl | (simp only [List.length_drop, List.length_take]; rfl)) ?_
  refine (OwnArcsOf.own_impl a0_0 a0_1 a0_2 At1_0_21 ct1_0_21 a1_0 At1_1_21 ct1_1_21 ta1_1 g0 g1 w21 (readsR Ft1_0_21.out).2.2 (readsR Ft1_0_21.out).2.1 (readsS Ft1_1_21.out).2.2 (readsS Ft1_1_21.out).2.1 HLa1_0.out HLta1_1.out HBta1_1.out Hi.out).mono ?_
  rintro e w22 ⟨v, rfl, ho, hb⟩
  refine ⟨_, rfl, ?_⟩
  have ho := Kd.S_mono ho (ok' := fun _ => True) (fun _ _ => trivial)
  have B22 := Aside0.mk (below_step B21.out hb)
  have z22 := hb.size
  obtain ⟨Ah0_0_22, ch0_0_22, rfl⟩ := Kd.S_slice ho
  have Fh0_0_22 := Aside0.mk (ivS (w := w) ho (by omega))
  clear ho
  have K0_22 := Aside0.mk (blk_below K0_21.out hb)
  clear K0_21
  have K1_22 := Aside0.mk (blk_below K1_21.out hb)
  clear K1_21
  have K2_22 := Aside0.mk (blk_below K2_21.out hb)
  clear K2_21
  have Fw0_0_22 := Aside0.mk (Kd.S_below Fw0_0_21.out hb)
  clear Fw0_0_21
  have Fg0_0_22 := Aside0.mk (Kd.S_below Fg0_0_21.out hb)
  clear Fg0_0_21
  have Ft1_0_22 := Aside0.mk (Kd.R_below Ft1_0_21.out hb)
  clear Ft1_0_21
  have Ft1_1_22 := Aside0.mk (Kd.S_below Ft1_1_21.out hb)
  clear Ft1_1_21
  clear hb
  refine hK.out _ _ ⟨(blk_cell K0_22.out 0).trans rfl, (blk_cell K0_22.out 1).trans rfl, (blk_cell K0_22.out 2).trans rfl, (blk_cell K1_22.out 0).trans rfl, (blk_cell K1_22.out 1).trans rfl, (blk_cell K2_22.out 0).trans rfl, (blk_cell K2_22.out 1).trans rfl⟩ (fun hHeld => ?_)
  clear hK K
  refine norm_ (a' := ?_) ?_ ?_
  rotate_left
  · show Act.put _ (some 84) _ = _
    simp only [Act.put, List.setIfInBounds_toArray, List.set_cons_zero, List.set_cons_succ, i64_w, i32_w]
    rfl
  refine pure_ (i := 5) (N := some 79) (v := ?_) (a' := ?_) #[true, true, true, true, true, true, false, false, false, false] rfl rfl (any_of HT_.out (by kernel_rfl)) (fun _ _ _ h => h) (Or.inl ⟨by rfl, ?_⟩) ?_ ?_
  rotate_left
  · intro w'
    go_simp
    with_reducible rfl
  rotate_left
  · simp only [Act.put, List.setIfInBounds_toArray, List.set_cons_zero, List.set_cons_succ, i64_w, i32_w]
    rfl
  refine pure_ (i := 6) (N := some 85) (v := ?_) (a' := ?_) #[true, true, true, true, true, true, true, false, false, false] rfl rfl (any_of HT_.out (by kernel_rfl)) (fun _ _ _ h => h) (Or.inl ⟨by rfl, ?_⟩) ?_ ?_
  rotate_left
  · intro w'
    go_simp
    with_reducible rfl
  rotate_left
  · simp only [Act.put, List.setIfInBounds_toArray, List.set_cons_zero, List.set_cons_succ, i64_w, i32_w]
    rfl
  refine pure_ (i := 7) (N := some 86) (v := ?_) (a' := ?_) #[true, true, true, true, true, true, true, true, false, false] rfl rfl (any_of HT_.out (by kernel_rfl)) (fun _ _ _ h => h) (Or.inl ⟨by rfl, ?_⟩) ?_ ?_
  rotate_left
  · intro w'
    go_simp
    with_reducible rfl
  rotate_left
  · simp only [Act.put, List.setIfInBounds_toArray, List.set_cons_zero, List.set_cons_succ, i64_w, i32_w]
    rfl
  refine pure_ (i := 8) (N := some 14) (v := ?_) (a' := ?_) #[true, true, true, true, true, true, true, true, true, false] rfl rfl (any_of HT_.out (by kernel_rfl)) (fun _ _ _ h => h) (Or.inl ⟨by rfl, ?_⟩) ?_ ?_
  rotate_left
  · intro w'
    go_simp
    with_reducible rfl
  rotate_left
  · simp only [Act.put, List.setIfInBounds_toArray, List.set_cons_zero, List.set_cons_succ, i64_w, i32_w]
    rfl
  refine pure_ (i := 9) (N := some 15) (v := ?_) (a' := ?_) #[true, true, true, true, true, true, true, true, true, true] rfl rfl (any_of HT_.out (by kernel_rfl)) (fun _ _ _ h => h) (Or.inl ⟨by rfl, ?_⟩) ?_ ?_
  rotate_left
  · intro w'
    go_simp
    with_reducible rfl
  rotate_left
  · simp only [Act.put, List.setIfInBounds_toArray, List.set_cons_zero, List.set_cons_succ, i64_w, i32_w]
    rfl
  refine done_ (done_of HT_.out (by kernel_rfl)) ?_
  clear HT_ HW_
  have hcz0_0 : w22.cell? ⟨w.heap.size, 0, none⟩ = some (.int .i64 a0_0) := (blk_cell K0_22.out 0).trans rfl
  have hfz0_0 := blk_frozen K0_22.out 0
  have hcz0_1 : w22.cell? ⟨w.heap.size, 1, none⟩ = some (.int .i64 a0_1) := (blk_cell K0_22.out 1).trans rfl
  have hfz0_1 := blk_frozen K0_22.out 1
  have hcz0_2 : w22.cell? ⟨w.heap.size, 2, none⟩ = some (.int .i64 a0_2) := (blk_cell K0_22.out 2).trans rfl
  have hfz0_2 := blk_frozen K0_22.out 2
  have hcz1_0 : w22.cell? ⟨w.heap.size + 1, 0, none⟩ = some (.slice Aa1_0 a1_0.length ca1_0) := (blk_cell K1_22.out 0).trans rfl
  have hfz1_0 := blk_frozen K1_22.out 0
  have hcz1_1 : w22.cell? ⟨w.heap.size + 1, 1, none⟩ = some (.slice Aa1_1 a1_1.length ca1_1) := (blk_cell K1_22.out 1).trans rfl
  have hfz1_1 := blk_frozen K1_22.out 1
  have hcz2_0 : w22.cell? ⟨w6.heap.size, 0, none⟩ = some (.slice Ax1_0_6 a1_0.length cx1_0_6) := (blk_cell K2_22.out 0).trans rfl
  have hfz2_0 := blk_frozen K2_22.out 0
  have hcz2_1 : w22.cell? ⟨w6.heap.size, 1, none⟩ = some (.slice Ax1_1_6 ta1_1.length cx1_1_6) := (blk_cell K2_22.out 1).trans rfl
  have hfz2_1 := blk_frozen K2_22.out 1
  go_wp2_with fail
  clear hcz0_0 hfz0_0 hcz0_1 hfz0_1 hcz0_2 hfz0_2 hcz1_0 hfz1_0 hcz1_1 hfz1_1 hcz2_0 hfz2_0 hcz2_1 hfz2_1
  refine (eqIntSS_calls g0 (maxLen_val (by have := HLg0.out; omega)) (fun x hx => maxLen_val (by have := HBg0.out x hx; omega)) Ah0_0_22 Aw0_0_5 ch0_0_22 cw0_0_5 w22 (readsS Fh0_0_22.out).2.2 (readsS Fh0_0_22.out).2.1 (readsS Fw0_0_22.out).2.2 (readsS Fw0_0_22.out).2.1).mono ?_
  rintro e w23 ⟨rfl, hb⟩
  have B23 := Aside0.mk (below_step B22.out hb)
  have z23 := hb.size
  have K0_23 := Aside0.mk (blk_below K0_22.out hb)
  clear K0_22
  have K1_23 := Aside0.mk (blk_below K1_22.out hb)
  clear K1_22
  have K2_23 := Aside0.mk (blk_below K2_22.out hb)
  clear K2_22
  have Fw0_0_23 := Aside0.mk (Kd.S_below Fw0_0_22.out hb)
  clear Fw0_0_22
  have Fg0_0_23 := Aside0.mk (Kd.S_below Fg0_0_22.out hb)
  clear Fg0_0_22
  have Fh0_0_23 := Aside0.mk (Kd.S_below Fh0_0_22.out hb)
  clear Fh0_0_22
  clear hb
  have hcz0_0 : w23.cell? ⟨w.heap.size, 0, none⟩ = some (.int .i64 a0_0) := (blk_cell K0_23.out 0).trans rfl
  have hfz0_0 := blk_frozen K0_23.out 0
  have hcz0_1 : w23.cell? ⟨w.heap.size, 1, none⟩ = some (.int .i64 a0_1) := (blk_cell K0_23.out 1).trans rfl
  have hfz0_1 := blk_frozen K0_23.out 1
  have hcz0_2 : w23.cell? ⟨w.heap.size, 2, none⟩ = some (.int .i64 a0_2) := (blk_cell K0_23.out 2).trans rfl
  have hfz0_2 := blk_frozen K0_23.out 2
  have hcz1_0 : w23.cell? ⟨w.heap.size + 1, 0, none⟩ = some (.slice Aa1_0 a1_0.length ca1_0) := (blk_cell K1_23.out 0).trans rfl
  have hfz1_0 := blk_frozen K1_23.out 0
  have hcz1_1 : w23.cell? ⟨w.heap.size + 1, 1, none⟩ = some (.slice Aa1_1 a1_1.length ca1_1) := (blk_cell K1_23.out 1).trans rfl
  have hfz1_1 := blk_frozen K1_23.out 1
  have hcz2_0 : w23.cell? ⟨w6.heap.size, 0, none⟩ = some (.slice Ax1_0_6 a1_0.length cx1_0_6) := (blk_cell K2_23.out 0).trans rfl
  have hfz2_0 := blk_frozen K2_23.out 0
  have hcz2_1 : w23.cell? ⟨w6.heap.size, 1, none⟩ = some (.slice Ax1_1_6 ta1_1.length cx1_1_6) := (blk_cell K2_23.out 1).trans rfl
  have hfz2_1 := blk_frozen K2_23.out 1
  go_wp2_with fail
  clear hcz0_0 hfz0_0 hcz0_1 hfz0_1 hcz0_2 hfz0_2 hcz1_0 hfz1_0 hcz1_1 hfz1_1 hcz2_0 hfz2_0 hcz2_1 hfz2_1
  refine (HeldSS.heldIntSS_calls g0 HLg0.out HBg0.out Ag0_0_10 cg0_0_10 w23 (by have h := (readsS Fg0_0_23.out).2.2; rwa [Com.markAll_len] at h) (by have h := (readsS Fg0_0_23.out).2.1; rwa [Com.markAll_len] at h)).mono ?_
  rintro e w24 ⟨rfl, hb⟩
  have B24 := Aside0.mk (below_step B23.out hb)
  have z24 := hb.size
  have K0_24 := Aside0.mk (blk_below K0_23.out hb)
  clear K0_23
  have K1_24 := Aside0.mk (blk_below K1_23.out hb)
  clear K1_23
  have K2_24 := Aside0.mk (blk_below K2_23.out hb)
  clear K2_23
  have Fw0_0_24 := Aside0.mk (Kd.S_below Fw0_0_23.out hb)
  clear Fw0_0_23
  have Fg0_0_24 := Aside0.mk (Kd.S_below Fg0_0_23.out hb)
  clear Fg0_0_23
  have Fh0_0_24 := Aside0.mk (Kd.S_below Fh0_0_23.out hb)
  clear Fh0_0_23
  rw [← Em17.out]
  clear hb
  have hcz0_0 : w24.cell? ⟨w.heap.size, 0, none⟩ = some (.int .i64 a0_0) := (blk_cell K0_24.out 0).trans rfl
  have hfz0_0 := blk_frozen K0_24.out 0
  have hcz0_1 : w24.cell? ⟨w.heap.size, 1, none⟩ = some (.int .i64 a0_1) := (blk_cell K0_24.out 1).trans rfl
  have hfz0_1 := blk_frozen K0_24.out 1
  have hcz0_2 : w24.cell? ⟨w.heap.size, 2, none⟩ = some (.int .i64 a0_2) := (blk_cell K0_24.out 2).trans rfl
  have hfz0_2 := blk_frozen K0_24.out 2
  have hcz1_0 : w24.cell? ⟨w.heap.size + 1, 0, none⟩ = some (.slice Aa1_0 a1_0.length ca1_0) := (blk_cell K1_24.out 0).trans rfl
  have hfz1_0 := blk_frozen K1_24.out 0
  have hcz1_1 : w24.cell? ⟨w.heap.size + 1, 1, none⟩ = some (.slice Aa1_1 a1_1.length ca1_1) := (blk_cell K1_24.out 1).trans rfl
  have hfz1_1 := blk_frozen K1_24.out 1
  have hcz2_0 : w24.cell? ⟨w6.heap.size, 0, none⟩ = some (.slice Ax1_0_6 a1_0.length cx1_0_6) := (blk_cell K2_24.out 0).trans rfl
  have hfz2_0 := blk_frozen K2_24.out 0
  have hcz2_1 : w24.cell? ⟨w6.heap.size, 1, none⟩ = some (.slice Ax1_1_6 ta1_1.length cx1_1_6) := (blk_cell K2_24.out 1).trans rfl
  have hfz2_1 := blk_frozen K2_24.out 1
  go_wp2_with fail
  clear hcz0_0 hfz0_0 hcz0_1 hfz0_1 hcz0_2 hfz0_2 hcz1_0 hfz1_0 hcz1_1 hfz1_1 hcz2_0 hfz2_0 hcz2_1 hfz2_1
  go_ret
  exact ⟨rfl, B24.out⟩
set_option maxRecDepth 100000 in
theorem walk_neg0 (a0_0 : Int) (a0_1 : Int) (a0_2 : Int) (a1_0 : List Int) (a1_1 : List (List S89)) (Aa1_0 : Option Addr) (ca1_0 : Nat) (Aa1_1 : Option Addr) (ca1_1 : Nat) (w : World) (hra1_0 : Kd.C (Kd.int .i64) w Aa1_0 a1_0.length a1_0) (hca1_0 : a1_0.length ≤ ca1_0) (hra1_1 : Kd.C kOS' w Aa1_1 a1_1.length a1_1) (hca1_1 : a1_1.length ≤ ca1_1)  (r0 : Int) (hsz0 : ∀ (Aa1_0 : Option Addr) (ca1_0 : Nat) (Aa1_1 : Option Addr) (ca1_1 : Nat) (w : World), Kd.C (Kd.int .i64) w Aa1_0 a1_0.length a1_0 → a1_0.length ≤ ca1_0 → Kd.C kOS' w Aa1_1 a1_1.length a1_1 → a1_1.length ≤ ca1_1 → Calls Try.prog 18 #[.agg #[.slice Aa1_0 a1_0.length ca1_0, .slice Aa1_1 a1_1.length ca1_1], .int .i64 1048576] w fun e w' => e = .returned (.int .i64 r0) ∧ Below w.heap.size w w') (hlt0 : r0 < 0) : Calls Try.prog 5 #[.agg #[.int .i64 a0_0, .int .i64 a0_1, .int .i64 a0_2], .agg #[.slice Aa1_0 a1_0.length ca1_0, .slice Aa1_1 a1_1.length ca1_1]] w fun e w' => e = .returned (.bool true) ∧ Below w.heap.size w w' := by
  have HRa1_0 := Aside0.mk hra1_0
  have HRa1_1 := Aside0.mk hra1_1
  have HCa1_0 := Aside0.mk hca1_0
  have HCa1_1 := Aside0.mk hca1_1
  have HSZ0 := Aside0.mk hsz0
  have d0 : decide (r0 < 0) = true := decide_eq_true hlt0
  clear hsz0 hlt0  hra1_0 hca1_0 hra1_1 hca1_1
  go_enter Try.func5, Try.ntmps5
  go_wp2_with fail
  obtain ⟨wb, hwb⟩ : ∃ z : World, z = ((w.alloc (.cells #[.int .i64 a0_0, .int .i64 a0_1, .int .i64 a0_2] 23)).alloc (.cells #[.slice Aa1_0 a1_0.length ca1_0, .slice Aa1_1 a1_1.length ca1_1] 39)) := ⟨_, rfl⟩
  rw [← hwb]
  have K0_0 : Aside0 (wb.heap[w.heap.size]? = some (.cells #[.int .i64 a0_0, .int .i64 a0_1, .int .i64 a0_2] 23 (0, 0))) := ⟨by rw [hwb]; exact blk_alloc (blk_new w _) _⟩
  have K1_0 : Aside0 (wb.heap[w.heap.size + 1]? = some (.cells #[.slice Aa1_0 a1_0.length ca1_0, .slice Aa1_1 a1_1.length ca1_1] 39 (0, 0))) := ⟨by rw [hwb, show w.heap.size + 1 = (w.alloc (.cells #[.int .i64 a0_0, .int .i64 a0_1, .int .i64 a0_2] 23)).heap.size from (Array.size_push ..).symm]; exact blk_new (w.alloc (.cells #[.int .i64 a0_0, .int .i64 a0_1, .int .i64 a0_2] 23)) _⟩
  have B0 : Aside0 (Below w.heap.size w wb) := ⟨by rw [hwb]; exact below_alloc (below_alloc (Below.refl _ _) _) _⟩
  have z0 := B0.out.size
  have zb := blk_lt K1_0.out
  clear hwb
  refine (HSZ0.out Aa1_0 ca1_0 Aa1_1 ca1_1 wb (Kd.C_below HRa1_0.out B0.out) HCa1_0.out (Kd.C_below HRa1_1.out B0.out) HCa1_1.out).mono ?_
  rintro e w1 ⟨rfl, hb⟩
  have B1 := Aside0.mk (below_step B0.out hb)
  have K0_0n := Aside0.mk (blk_below K0_0.out hb)
  have K1_0n := Aside0.mk (blk_below K1_0.out hb)
  clear hb
  have hcz0_0 : w1.cell? ⟨w.heap.size, 0, none⟩ = some (.int .i64 a0_0) := (blk_cell K0_0n.out 0).trans rfl
  have hfz0_0 := blk_frozen K0_0n.out 0
  have hcz0_1 : w1.cell? ⟨w.heap.size, 1, none⟩ = some (.int .i64 a0_1) := (blk_cell K0_0n.out 1).trans rfl
  have hfz0_1 := blk_frozen K0_0n.out 1
  have hcz0_2 : w1.cell? ⟨w.heap.size, 2, none⟩ = some (.int .i64 a0_2) := (blk_cell K0_0n.out 2).trans rfl
  have hfz0_2 := blk_frozen K0_0n.out 2
  have hcz1_0 : w1.cell? ⟨w.heap.size + 1, 0, none⟩ = some (.slice Aa1_0 a1_0.length ca1_0) := (blk_cell K1_0n.out 0).trans rfl
  have hfz1_0 := blk_frozen K1_0n.out 0
  have hcz1_1 : w1.cell? ⟨w.heap.size + 1, 1, none⟩ = some (.slice Aa1_1 a1_1.length ca1_1) := (blk_cell K1_0n.out 1).trans rfl
  have hfz1_1 := blk_frozen K1_0n.out 1
  go_wp2_with fail
  go_ret
  exact ⟨rfl, B1.out⟩
theorem law (a0_0 : Int) (a0_1 : Int) (a0_2 : Int) (a1_0 : List Int) (a1_1 : List (List S89)) (ga0_0 : (Lit.int .i64 a0_0).wf = true) (ga0_1 : (Lit.int .i64 a0_1).wf = true) (ga0_2 : (Lit.int .i64 a0_2).wf = true) (ha1_0 : a1_0.length ≤ maxLen) (ga1_0 : ∀ x ∈ a1_0, (Lit.int .i64 x).wf = true) (ha1_1 : a1_1.length ≤ maxLen) (ga1_1 : ∀ x ∈ a1_1, x.length ≤ maxLen) (Aa1_0 : Option Addr) (ca1_0 : Nat) (Aa1_1 : Option Addr) (ca1_1 : Nat) (w : World) (hra1_0 : Kd.C (Kd.int .i64) w Aa1_0 a1_0.length a1_0) (hca1_0 : a1_0.length ≤ ca1_0) (hra1_1 : Kd.C kOS' w Aa1_1 a1_1.length a1_1) (hca1_1 : a1_1.length ≤ ca1_1) : Calls Try.prog 5 #[.agg #[.int .i64 a0_0, .int .i64 a0_1, .int .i64 a0_2], .agg #[.slice Aa1_0 a1_0.length ca1_0, .slice Aa1_1 a1_1.length ca1_1]] w fun e w' => e = .returned (.bool true) ∧ Below w.heap.size w w' := by
  obtain ⟨r0, hz0, hsz0⟩ := szSlopes_calls a1_0 a1_1 ha1_0 ha1_1 (fun x hx => (ga1_1 x hx)) 1048576 (by omega)
  by_cases hlt0 : r0 < 0
  · exact walk_neg0 a0_0 a0_1 a0_2 a1_0 a1_1 Aa1_0 ca1_0 Aa1_1 ca1_1 w hra1_0 hca1_0 hra1_1 hca1_1  r0 hsz0 hlt0
  obtain ⟨hq0, l1a1_0, l1a1_1, l2a1_1⟩ := hz0 (by omega)
  obtain ⟨⟨g0, g1⟩, hs, hi, ng0⟩ := both a0_0 a0_1 a0_2 a1_0 (a1_1.map cOS) (wf64 ga0_0) (wf64 ga0_1) (wf64 ga0_2) l1a1_0 (by rw [List.length_map]; exact l1a1_1) (map_len l2a1_1)
  exact walk a0_0 a0_1 a0_2 a1_0 a1_1 Aa1_0 ca1_0 Aa1_1 ca1_1 w hra1_0 hca1_0 hra1_1 hca1_1 r0 hsz0 hlt0 (a1_1.map cOS) rfl g0 g1 l1a1_0 (by rw [List.length_map]; exact l1a1_1) (map_len l2a1_1) ng0.1 ng0.2 hs.rounds hi
end Go.Proofs.Ytpndghkfbojokaa.WalkFnExactArcsOf
