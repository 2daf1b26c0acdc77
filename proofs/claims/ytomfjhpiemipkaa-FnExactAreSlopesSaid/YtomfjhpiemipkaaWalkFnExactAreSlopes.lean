/- The law FnExactAreSlopes, walked by hand over its callees' contracts: for every input it returns true. -/
import Derived.Test.YtomfjhpiemipkaaComE
import Derived.Test.YtomfjhpiemipkaaMFnExactAreSlopesx1
import Derived.Test.YtomfjhpiemipkaaMFnExactAreSlopesx2
namespace Go.Proofs.Ytomfjhpiemipkaa.WalkFnExactAreSlopes
open Go.RowKit Go.Proofs.Ytomfjhpiemipkaa.PFnExactAreSlopes Go.Proofs.YtomfjhpiemipkaaW.PrintWords Go.Proofs.YtomfjhpiemipkaaW.PrintLast Go.Proofs.YtomfjhpiemipkaaW.PrintMore Go.Proofs.Ytomfjhpiemipkaa.B Go.Proofs.Ytomfjhpiemipkaa.Com
set_option linter.unusedVariables false
set_option linter.unusedSimpArgs false
def Zn (W W' : World) (u : Value) (k : Nat) : Prop := Btw W W' k ∧ some k = u.ownBlock
/- com.toGrid -/
theorem toGrid_calls (x y z : Int) (w : World) : Calls Try.prog 30 #[.agg #[.int .i64 x, .int .i64 y, .int .i64 z]] w fun e w' => e = .returned (.agg #[.int .i64 x, .int .i64 y, .int .i64 z]) ∧ Below w.heap.size w w' :=
  laws_toGrid.calls x y z x y z w rfl

/- offsets -/
def cO (e : S205) : S175 := ⟨e.f0, e.f1, e.f2⟩
def befO (a b : S175) : Bool := if a.f2 = b.f2 then (if a.f1 = b.f1 then decide (a.f0 < b.f0) else decide (a.f1 < b.f1)) else decide (a.f2 < b.f2)
def okO (o : S175) : Bool := decide (-2 ≤ o.f0 ∧ o.f0 ≤ 2 ∧ -2 ≤ o.f1 ∧ o.f1 ≤ 2 ∧ 1 ≤ o.f2 ∧ o.f2 ≤ 2)
def offAt (l : List S175) (j : Nat) : Bool := okO (l.getD j z175) && (decide (j = 0) || befO (l.getD (j - 1) z175) (l.getD j z175))
def tmplOk (l : List S175) : Bool := decide (1 ≤ l.length ∧ l.length ≤ 12) && allR (offAt l) 0 l.length
theorem rdO (l : List S175) (i : Nat) : rd_T175 l (i : Int) = l.getD i z175 := by unfold rd_T175; rw [toNat_nat]

/- rowsG -/
theorem at_G {α : Type} (d : Kd α) (e0 : Nat) {w : World} {A : Option Addr} {n : Nat} {xs : List (List α)} (h : Kd.C (Kd.slice e0 d) w A n xs) (i : Int) (h0 : 0 ≤ i) (h1 : i < n) : ∃ ad A0 c0, A = some ad ∧ w.cell? (ad.add i.toNat) = some (.slice A0 (xs.getD i.toNat []).length c0) ∧ (xs.getD i.toNat []).length ≤ c0 ∧ d.C w A0 (xs.getD i.toNat []).length (xs.getD i.toNat []) := by
  obtain ⟨ad, c, e, _, hK, hc0⟩ := Kd.C_get h ([] : List α) i h0 h1
  have hc : ∀ j u, c[j]? = some u → w.cell? (ad.add (i.toNat * 1 + j)) = some u := hc0
  obtain ⟨A0, c0, rfl, l0, g0⟩ := hK
  exact ⟨ad, A0, c0, e, by have hq := hc 0 _ rfl; rwa [Nat.mul_one, Nat.add_zero] at hq, l0, g0⟩
/-- What is there behind i rounds. -/
def partG {α : Type} (l : List (List α)) (i : Nat) : List (List α) := l.take i ++ List.replicate (l.length - i) []
theorem partG_len {α : Type} (l : List (List α)) (i : Nat) (h : i ≤ l.length) : (partG l i).length = l.length := by
  unfold partG; rw [List.length_append, List.length_take, List.length_replicate]; omega
theorem partG_all {α : Type} (l : List (List α)) : partG l l.length = l := by
  unfold partG; rw [List.take_length, Nat.sub_self]; simp
theorem partG_set {α : Type} (l : List (List α)) (i : Nat) (h : i < l.length) : (partG l i).set i (l.getD i []) = partG l (i + 1) := by
  unfold partG
  rw [List.set_append_right _ _ (by rw [List.length_take]; omega), List.length_take, Nat.min_eq_left (by omega), Nat.sub_self, show l.length - i = (l.length - (i + 1)) + 1 by omega, List.replicate_succ, List.set_cons_zero,
    List.take_succ_eq_append_getElem h, List.append_assoc]
  simp [List.getD_eq_getElem?_getD, h]
/-- An inner row that was made behind the outer one is laid into it. -/
theorem lay_rowG {α : Type} (d : Kd α) (hE : d.E = []) (e0 et : Nat) {w1 : World} {B : Nat} {g n cap : Nat} {xs : List (List α)} {v : Value} {x : List α} {W : World} (hS : Kd.S (Kd.slice e0 d) et w1 B (fun k => k < W.heap.size) (.slice (some ⟨g, 0, none⟩) n cap) xs) (hR : Kd.R d e0 w1 W.heap.size (fun _ => True) v x)
    (hB : B ≤ W.heap.size) (i : Int) (h0 : 0 ≤ i) (h1 : i < n) :
    (∃ old, w1.cell? ⟨g, i.toNat, none⟩ = some old) ∧ w1.frozen? ⟨g, i.toNat, none⟩ = false ∧ Kd.S (Kd.slice e0 d) et (w1.setCell ⟨g, i.toNat, none⟩ v) B (fun _ => True) (.slice (some ⟨g, 0, none⟩) n cap) (xs.set i.toNat x) := by
  have hT := Kd.R_mono (Kd.R_tight hE hR) (ok' := fun k => some k = v.ownBlock) (fun _ h => h)
  have hbase := Kd.R_base hR
  have hX : Kd.S (Kd.slice e0 d) et w1 B (fun k => (fun _ => True) k ∧ ¬ (fun k => some k = v.ownBlock) k) (.slice (some ⟨g, 0, none⟩) n cap) xs :=
    Kd.S_mono hS (fun k hk => ⟨trivial, fun e => by have := hbase k e.symm; omega⟩)
  obtain ⟨oki, ce, hcl, hM, hcc, hfr, hoki, hH⟩ := Kd.S_elem hX [] i h0 h1
  have hn := (Kd.S_reads' hS).1
  have hval := Kd.R_val hR
  have hgo : g < W.heap.size := by
    have := hS
    obtain ⟨f, h0', _⟩ := this
    exact h0' g (by simp [Value.ownBlock])
  obtain ⟨ve, rfl, ge⟩ := hM
  have hP := Kd.S_seg hH h0 h1 (seg := [v]) (j := 0) (show 1 ≤ 1 from by decide) (x' := x)
    (Kd.M_row (Kd.R_mono (Kd.R_lower hT hB) (fun k h => Or.inr h))) (fun _ hk => hk) (fun k hk => ⟨trivial, fun e => by have := hbase k hk.symm; omega⟩)
  have hcc0 := hcc 0 _ rfl
  have hfr0 := hfr 0
  simp only [show (Kd.slice e0 d).sz = 1 from rfl, Nat.mul_one, Nat.add_zero] at hP hcc0 hfr0
  exact ⟨⟨_, hcc0⟩, hfr0, hP.1⟩

/- offsetSS -/
abbrev kOS : Kd (List S175) := Kd.slice 175 k175
abbrev kOS' : Kd (List S205) := Kd.slice 205 k205
def cOS (l : List S205) : List S175 := l.map cO
theorem infoOS : (Try.prog.info? 125).map (fun i => (i.zero, i.size, i.bytes)) = some (some (.slice none 0 0), 1, 24) := by kernel_rfl
theorem map_len {l : List (List S205)} {n : Nat} (h : ∀ x ∈ l, x.length ≤ n) : ∀ x ∈ l.map cOS, x.length ≤ n := by
  intro x hx
  obtain ⟨y, hy, rfl⟩ := List.mem_map.1 hx
  have := h y hy
  unfold cOS
  rwa [List.length_map]

/- laws_toOffsetS -/
theorem toOffsetS_l0 (l : List S205) (hl : l.length ≤ 1048576) : ∀ (d i : Nat) (m : List S175), i + d = l.length → m.length = l.length → (∀ j, j < i → m[j]? = (l.map cO)[j]?) → Ev (fun k => laws_toOffsetS.l0 k l m (i : Int)) (l.map cO) := by
  intro d
  induction d with
  | zero =>
    intro i m hi hm he
    refine Ev.step (fun k => laws_toOffsetS.l0.eq_2 l m i k) ?_
    refine ev_neg (by omega) (ev_some ?_)
    refine List.ext_getElem? (fun j => ?_)
    by_cases hj : j < i
    · exact he j hj
    · rw [List.getElem?_eq_none (by omega), List.getElem?_eq_none (by simp; omega)]
  | succ d ih =>
    intro i m hi hm he
    refine Ev.step (fun k => laws_toOffsetS.l0.eq_2 l m i k) ?_
    refine ev_pos (by omega) (ev_pos (by omega) (ev_bindc rfl (ev_pos (by omega) ?_)))
    rw [w_succ (n := l.length) (by omega) (by omega), toNat_nat]
    refine ih (i + 1) _ (by omega) (by simpa using hm) (fun j hj => ?_)
    by_cases hji : j = i
    · subst hji
      have h1 : j < l.length := by omega
      simp [List.getElem?_set, show j < m.length by omega, rd_T205, h1, cO]
    · rw [← he j (by omega), List.getElem?_set_ne (Ne.symm hji)]
theorem toOffsetS_ev (l : List S205) (hl : l.length ≤ 1048576) : Ev (fun k => laws_toOffsetS.f k l) (l.map cO) := by
  unfold laws_toOffsetS.f
  refine ev_pos (by omega) (ev_pos (by omega) ?_)
  exact toOffsetS_l0 l hl l.length 0 _ (by omega) (by simp) (fun j hj => by omega)

/- com.toOffsetS -/
theorem toOffsetS_calls (l : List S205) (t : List S175) (ht : l.map cO = t) (hl : t.length ≤ 1048576) (A : Option Addr) (c : Nat) (w : World) (hr : Kd.C k205 w A l.length l) (hc : l.length ≤ c) :
    Calls Try.prog 174 #[.slice A l.length c] w fun e w' => ∃ v : Value, e = .returned v ∧ Kd.R k175 175 w' w.heap.size (fun _ => True) v t ∧ Below w.heap.size w w' := by
  subst ht
  rw [List.length_map] at hl
  obtain ⟨k, hk⟩ := (toOffsetS_ev l hl).rounds
  exact laws_toOffsetS.calls k A c l _ w hr hc hk

/- com.toOffsetSS -/
set_option maxHeartbeats 4000000 in
set_option maxRecDepth 100000 in
theorem toOffsetSS_calls (l : List (List S205)) (t : List (List S175)) (ht : l.map cOS = t) (hl : t.length ≤ 1048576) (hb : ∀ x ∈ t, x.length ≤ 1048576) (A : Option Addr) (c : Nat) (w : World) (hr : Kd.C kOS' w A l.length l) (hc : l.length ≤ c) :
    Calls Try.prog 118 #[.slice A l.length c] w fun e w' => ∃ v : Value, e = .returned v ∧ Kd.S kOS 125 w' w.heap.size (fun _ => True) v t ∧ Below w.heap.size w w' := by
  have htl : t.length = l.length := by rw [← ht, List.length_map]
  have hat : ∀ i, i < l.length → (l.getD i []).map cO = t.getD i [] := by
    intro i hi
    rw [← ht]
    simp [List.getD_eq_getElem?_getD, hi, cOS]
  have HT := Aside0.mk htl
  have HAT := Aside0.mk hat
  rw [htl] at hl
  clear ht hat htl
  have HR := Aside0.mk hr
  have HL := Aside0.mk hl
  have HE := Aside0.mk hb
  clear hr hb
  have c0 : decide (0 ≤ (l.length : Int)) = true := decide_eq_true (by omega)
  have c1 : (l.length : Int).toNat * 24 ≤ 281474976710656 := by rw [Int.toNat_natCast]; omega
  have C1 := Aside0.mk c1
  clear c1 hl hc
  go_enter Try.func118, Try.ntmps118
  go_wp2_with (first | ((with_reducible refine gate_dst (N := 7) rfl ?_); refine Kd.S_make kOS _ 125 rfl (N := 7) rfl 50 _ _ rfl (l.length : Int) rfl rfl Try.underlying50 (.slice none 0 0) 24 infoOS rfl (by decide) (by omega) [] (ok := fun _ => True) (okp := fun _ => True) ⟨_, rfl, Kd.R_nil _ _ _ _ _⟩ (fun _ hk => hk) trivial (by omega) C1.out (Below.refl _ _) (Nat.le_refl _) ?_; intro v1 w1 ho hb hg_ hnew_; clear hg_ hnew_; have HO := Aside0.mk ho; have HB := Aside0.mk hb; clear ho hb))
  have HO0 : Aside0 (Kd.S kOS 125 w1 w.heap.size (fun _ => True) v1 (partG t (0 : Int).toNat)) := ⟨by have h := HO.out; rw [Int.toNat_natCast, ← HT.out] at h; exact h⟩
  clear HO
  go_loopg [4] (l.length) (fun d v4 wr => ∃ i : Int, v4 = .int .i64 i ∧ Aside0 (0 ≤ i ∧ i + d = l.length) ∧ Aside0 (Kd.S kOS 125 wr w.heap.size (fun _ => True) v1 (partG t i.toNat)) ∧ Aside0 (Below w.heap.size w wr))
  case atStart => exact ⟨0, rfl, ⟨by omega⟩, HO0, HB⟩
  case round =>
    clear HO0 HB
    obtain ⟨i, rfl, HI, HS, HB⟩ := hrel
    have h0 := HI.out.1
    cases gk with
    | zero =>
      have hd : decide (i < (l.length : Int)) = false := decide_eq_false (by have := HI.out.2; omega)
      have hi : i = (l.length : Int) := by have := HI.out.2; omega
      have HE2 : Aside0 (Kd.S kOS 125 wr w.heap.size (fun _ => True) v1 t) := ⟨by have h := HS.out; rw [hi, Int.toNat_natCast, ← HT.out, partG_all] at h; exact h⟩
      clear hi HS
      go_wp2
      go_ret
      exact ⟨v1, rfl, HE2.out, HB.out⟩
    | succ d =>
      have hlt : i < (l.length : Int) := by have := HI.out.2; omega
      have hd : decide (i < (l.length : Int)) = true := decide_eq_true hlt
      obtain ⟨ad, A0, ca, e0, hx, hle, hi0⟩ := at_G k205 205 HR.out i h0 hlt
      obtain ⟨row, erow⟩ : ∃ row, row = l.getD i.toNat [] := ⟨_, rfl⟩
      rw [← erow] at hx hle hi0
      have EROW := Aside0.mk erow
      clear erow
      cases e0
      replace hx := (HB.out.cell (World.block_lt_of_cell? w _ hx)).trans hx
      have hin : 0 ≤ i ∧ i.toNat < l.length := by omega
      have HRi := Aside0.mk hi0
      have HCi := Aside0.mk hle
      clear hi0 hle
      have hlen : (t.getD i.toNat []).length ≤ 1048576 := HE.out _ (getD_mem (z := []) (by rw [HT.out]; exact hin.2))
      have hpl : (partG t i.toNat).length = l.length := (partG_len t i.toNat (by rw [HT.out]; omega)).trans HT.out
      obtain ⟨g, cap, eo, gb, gl, _⟩ := Kd.S_form HS.out (by omega)
      have EO := Aside0.mk eo
      have GB := Aside0.mk gb
      have hs1 := Kd.S_mono (Kd.S_bound HS.out) (ok' := fun k => k < wr.heap.size) (fun k hk => hk.2.2.1)
      have HSZ := Aside0.mk (Below.size HB.out)
      have HLEN := Aside0.mk hlen
      have HPL := Aside0.mk hpl
      have HS1 := Aside0.mk hs1
      have HIN := Aside0.mk hin
      have hq : decide (i < ((partG t i.toNat).length : Int)) = true := decide_eq_true (by rw [hpl]; exact hlt)
      have H0 := Aside0.mk h0
      have HLT := Aside0.mk hlt
      have q0 := eq_true h0
      have q1 := eq_true hlt
      have q2 : (i < ((partG t i.toNat).length : Int)) = True := eq_true (by rw [hpl]; exact hlt)
      clear eo hs1 HS hlen hpl hin gb gl hlt h0
      go_wp2_with fail
      refine (toOffsetS_calls row (t.getD i.toNat []) (by rw [EROW.out]; exact HAT.out _ HIN.out.2) HLEN.out A0 ca wr (Kd.C_below HRi.out HB.out) HCi.out).mono ?_
      rintro e w2 ⟨v2, rfl, ho, hb⟩
      obtain rfl := EO.out
      obtain ⟨A2, c2, rfl⟩ := Kd.R_slice ho
      obtain ⟨⟨old, hold⟩, hfr, hst⟩ := lay_rowG k175 rfl 175 125 (Kd.S_below HS1.out hb) ho HSZ.out i H0.out (by have := HPL.out; have := HLT.out; omega)
      rw [partG_set t i.toNat (by rw [HT.out]; exact HIN.out.2)] at hst
      have HB2 := Aside0.mk (below_step HB.out hb)
      have HST := Aside0.mk hst
      clear hst ho hb HB HS1
      go_wp2
      go_roundg d
      case measure => omega
      case rel =>
        have e : wrap64 (i + 1) = i + 1 := by have := HLT.out; have := HL.out; have := H0.out; rw [w64 (by omega) (by omega)]
        exact ⟨i + 1, by rw [e], ⟨by have := HI.out; omega⟩, ⟨by rw [show (i + 1).toNat = i.toNat + 1 by have := H0.out; omega]; exact HST.out⟩, ⟨below_set HB2.out (Nat.le_trans (Nat.le_of_eq rfl) GB.out)⟩⟩

/- laws_toIntS -/
theorem toIntS_l0 (l : List Int) (hl : l.length ≤ 35184372088832) : ∀ (d i : Nat) (m : List Int), i + d = l.length → m.length = l.length → (∀ j, j < i → m.getD j 0 = l.getD j 0) → Ev (fun k => laws_toIntS.l0 k l m (i : Int)) l := by
  intro d
  induction d with
  | zero =>
    intro i m hi hm he
    refine Ev.step (fun k => laws_toIntS.l0.eq_2 l m i k) ?_
    refine ev_neg (by omega) (ev_some ?_)
    refine List.ext_getElem hm (fun j h1 h2 => ?_)
    have := he j (by omega)
    simpa [List.getD_eq_getElem?_getD, h1, h2] using this
  | succ d ih =>
    intro i m hi hm he
    refine Ev.step (fun k => laws_toIntS.l0.eq_2 l m i k) ?_
    refine ev_pos (by omega) (ev_pos (by omega) (ev_pos (by omega) ?_))
    rw [w_succ (n := l.length) (by omega) (by omega), toNat_nat, rd_nat]
    refine ih (i + 1) _ (by omega) (by simpa using hm) (fun j hj => ?_)
    by_cases hji : j = i
    · subst hji
      simp [List.getD_eq_getElem?_getD, show j < m.length by omega]
    · rw [← he j (by omega)]
      simp [List.getD_eq_getElem?_getD, List.getElem?_set_ne (Ne.symm hji)]
theorem toIntS_ev (l : List Int) (hl : l.length ≤ 35184372088832) : Ev (fun k => laws_toIntS.f k l) l := by
  unfold laws_toIntS.f
  refine ev_pos (by omega) (ev_pos (by omega) ?_)
  exact toIntS_l0 l hl l.length 0 _ (by omega) (by simp) (fun j hj => by omega)

/- com.toSlopes -/
set_option maxHeartbeats 8000000 in
set_option maxRecDepth 100000 in
theorem toSlopes_calls (s : List Int) (hs : s.length ≤ 1048576) (T : List (List S205)) (t : List (List S175)) (ht : T.map cOS = t) (hl : t.length ≤ 1048576) (hb : ∀ x ∈ t, x.length ≤ 1048576) (A0 : Option Addr) (c0 : Nat) (A1 : Option Addr) (c1 : Nat) (w : World)
    (h1 : Kd.C (Kd.int .i64) w A0 s.length s) (h2 : s.length ≤ c0) (h3 : Kd.C kOS' w A1 T.length T) (h4 : T.length ≤ c1) :
    Calls Try.prog 37 #[.agg #[.slice A0 s.length c0, .slice A1 T.length c1]] w fun e w' => ∃ v0 v1 : Value, e = .returned (.agg #[v0, v1]) ∧ Kd.R (Kd.int .i64) 3 w' w.heap.size (fun _ => True) v0 s ∧ Kd.S kOS 125 w' w.heap.size (fun _ => True) v1 t ∧ True ∧ Below w.heap.size w w' := by
  have hu1 := Try.underlying61
  have hu2 := Try.underlying52
  have H1 := Aside0.mk h1
  have H2 := Aside0.mk h2
  have H3 := Aside0.mk h3
  have H4 := Aside0.mk h4
  have HS := Aside0.mk hs
  have HT := Aside0.mk ht
  have HL := Aside0.mk hl
  have HBB := Aside0.mk hb
  have HB := Aside0.mk (Below.refl w.heap.size w)
  clear h1 h2 h3 h4 hs ht hl hb
  go_enter Try.func37, Try.ntmps37
  go_wp2_with (first
    | ((with_reducible refine gate_dst (N := 1) rfl ?_); refine box_event ?hg (N := 1) ?hd (cs := #[.slice A0 s.length c0, .slice A1 T.length c1]) (t := 61) ?hr ?_; (case hd => rfl); (case hg => rfl); (case hr => first | (go_simp; done) | (go_simp; rfl));
       intro g1 hg w6 hbox hb; have n0_ := Aside0.mk (below_step HB.out hb); have K1 := Aside0.mk hbox; have G1 := Aside0.mk ((by rw [hg]; exact (below_size HB.out)) : w.heap.size ≤ g1); clear HB; have HB := n0_; clear n0_; clear hb hbox hg)
    | ((with_reducible refine gate_dst (N := 2) rfl ?_); refine box_event ?hg (N := 2) ?hd (cs := #[.slice none 0 0, .slice none 0 0]) (t := 52) ?hr ?_; (case hd => rfl); (case hg => rfl); (case hr => first | (go_simp; done) | (go_simp; rfl));
       intro g2 hg w7 hbox hb; have n0_ := Aside0.mk (below_step HB.out hb); have K2 := Aside0.mk hbox; have n1_ := Aside0.mk (blk_below K1.out hb); have G2 := Aside0.mk ((by rw [hg]; exact (below_size HB.out)) : w.heap.size ≤ g2); have N12 := Aside0.mk ((by rw [hg]; exact Nat.ne_of_lt (blk_lt K1.out)) : g1 ≠ g2); clear HB K1; have HB := n0_; have K1 := n1_; clear n0_ n1_; clear hb hbox hg)
    | ((with_reducible refine gate_dst (N := 3) rfl ?_); refine box_event ?hg (N := 3) ?hd (cs := #[.slice none 0 0, .slice none 0 0]) (t := 52) ?hr ?_; (case hd => rfl); (case hg => rfl); (case hr => first | (go_simp; done) | (go_simp; rfl));
       intro g3 hg w8 hbox hb; have n0_ := Aside0.mk (below_step HB.out hb); have K3 := Aside0.mk hbox; have n1_ := Aside0.mk (blk_below K1.out hb); have n2_ := Aside0.mk (blk_below K2.out hb); have G3 := Aside0.mk ((by rw [hg]; exact (below_size HB.out)) : w.heap.size ≤ g3); have N13 := Aside0.mk ((by rw [hg]; exact Nat.ne_of_lt (blk_lt K1.out)) : g1 ≠ g3); have N23 := Aside0.mk ((by rw [hg]; exact Nat.ne_of_lt (blk_lt K2.out)) : g2 ≠ g3); clear HB K1 K2; have HB := n0_; have K1 := n1_; have K2 := n2_; clear n0_ n1_ n2_; clear hb hbox hg; have hc10 : w8.cell? ⟨g1, 0, none⟩ = some (.slice A0 s.length c0) := (blk_cell K1.out 0).trans rfl; have hc11 : w8.cell? ⟨g1, 1, none⟩ = some (.slice A1 T.length c1) := (blk_cell K1.out 1).trans rfl))
  obtain ⟨k, hk⟩ := (toIntS_ev s (by have := HS.out; omega)).rounds
  refine (laws_toIntS.calls k A0 c0 s s w8 (Kd.C_below H1.out HB.out) H2.out hk).mono ?_
  rintro e w9 ⟨v0, rfl, ho, hb⟩
  obtain ⟨Ao, co, rfl⟩ := Kd.R_slice ho
  have n0_ := Aside0.mk (below_step HB.out hb)
  have n1_ := Aside0.mk (blk_below K1.out hb)
  have n2_ := Aside0.mk (blk_below K2.out hb)
  have n3_ := Aside0.mk (blk_below K3.out hb)
  have HO := Aside0.mk (Kd.R_lower ho (below_size HB.out))
  clear HB K1 K2 K3 hc10 hc11 hk
  have HB := n0_
  have K1 := n1_
  have K2 := n2_
  have K3 := n3_
  clear n0_ n1_ n2_ n3_ ho hb
  have hc11 : w9.cell? ⟨g1, 1, none⟩ = some (.slice A1 T.length c1) := (blk_cell K1.out 1).trans rfl
  have hc30 : w9.cell? ⟨g3, 0, none⟩ = some (.slice none 0 0) := (blk_cell K3.out 0).trans rfl
  have hf30 := blk_frozen K3.out 0
  have hn13 := N13.out
  have hn31 := Ne.symm N13.out
  go_wp2_with fail
  clear hc11 hc30 hf30
  have m0_ := Aside0.mk (Kd.R_mono (Kd.R_far (p := ⟨g3, 0, none⟩) (Kd.R_types HO.out K3.out (by decide)) (fun _ hk => hk.2) (.slice Ao s.length co)) (ok' := fun _ => True) (fun _ _ => trivial))
  have m1_ := Aside0.mk (blk_far K1.out (p := ⟨g3, 0, none⟩) N13.out (.slice Ao s.length co))
  have m2_ := Aside0.mk (blk_far K2.out (p := ⟨g3, 0, none⟩) N23.out (.slice Ao s.length co))
  have m3_ := Aside0.mk (blk_put K3.out 0 (.slice Ao s.length co) (cs' := #[.slice Ao s.length co, .slice none 0 0]) rfl)
  have m4_ : Aside0 (Below w.heap.size w (w9.setCell ⟨g3, 0, none⟩ (.slice Ao s.length co))) := ⟨below_set HB.out G3.out⟩
  clear HO K1 K2 K3 HB
  generalize w9.setCell ⟨g3, 0, none⟩ (.slice Ao s.length co) = w10 at m0_ m1_ m2_ m3_ m4_ ⊢
  refine (toOffsetSS_calls T t HT.out HL.out HBB.out A1 c1 w10 (Kd.C_below H3.out m4_.out) H4.out).mono ?_
  rintro e w11 ⟨v1, rfl, ho, hb⟩
  obtain ⟨Ap, cp, rfl⟩ := Kd.S_slice ho
  have HO := Aside0.mk (Kd.R_below m0_.out hb)
  have HO1 := Aside0.mk (Kd.S_lower ho (below_size m4_.out))
  have K1 := Aside0.mk (blk_below m1_.out hb)
  have K2 := Aside0.mk (blk_below m2_.out hb)
  have K3 := Aside0.mk (blk_below m3_.out hb)
  have HB := Aside0.mk (below_step m4_.out hb)
  clear m0_ m1_ m2_ m3_ m4_ ho hb
  have hc30 : w11.cell? ⟨g3, 0, none⟩ = some (.slice Ao s.length co) := (blk_cell K3.out 0).trans rfl
  have hc31 : w11.cell? ⟨g3, 1, none⟩ = some (.slice none 0 0) := (blk_cell K3.out 1).trans rfl
  have hc20 : w11.cell? ⟨g2, 0, none⟩ = some (.slice none 0 0) := (blk_cell K2.out 0).trans rfl
  have hc21 : w11.cell? ⟨g2, 1, none⟩ = some (.slice none 0 0) := (blk_cell K2.out 1).trans rfl
  have hf31 := blk_frozen K3.out 1
  have hf20 := blk_frozen K2.out 0
  have hf21 := blk_frozen K2.out 1
  have hn23 := N23.out
  have hn32 := Ne.symm N23.out
  go_wp2_with fail
  clear hc30 hc31 hc20 hc21 hf31 hf20 hf21
  refine bodyPost_ret (results_cell_row rfl _ _ g2 52 #[.slice Ao s.length co, .slice Ap t.length cp] (0, 0) _ rfl (blk_put (cs := #[.slice Ao s.length co, .slice none 0 0]) (blk_put (cs := #[.slice none 0 0, .slice none 0 0]) (blk_far K2.out N23.out _) 0 _ rfl) 1 _ rfl) Try.underlying52 rfl (by kernel_rfl)) rfl ?_
  refine ⟨_, _, by first | rfl | (simp [errW_none, errW_some] <;> rfl) | (simp [*, errW_none, errW_some] <;> rfl), ?_, ?_, trivial, below_set (below_set (below_set HB.out G3.out) G2.out) G2.out⟩
  · exact Kd.R_mono (Kd.R_far (p := ⟨g2, 1, none⟩) (Kd.R_far (p := ⟨g2, 0, none⟩) (Kd.R_far (p := ⟨g3, 1, none⟩) (Kd.R_types (Kd.R_types HO.out K3.out (by decide)) K2.out (by decide)) (fun _ hk => hk.1.2) _) (fun _ hk => hk.2) _) (fun _ hk => hk.2) _) (fun _ _ => trivial)
  · exact Kd.S_mono (Kd.S_far (p := ⟨g2, 1, none⟩) (Kd.S_far (p := ⟨g2, 0, none⟩) (Kd.S_far (p := ⟨g3, 1, none⟩) (Kd.S_types (Kd.S_types HO1.out K3.out (by decide)) K2.out (by decide)) (fun _ hk => hk.1.2) _) (fun _ hk => hk.2) _) (fun _ hk => hk.2) _) (fun _ _ => trivial)

/- laws_eqOffsetS -/
theorem eqOffsetS_l0 (l : List S175) (hl : l.length ≤ maxLen) : ∀ (d i : Nat), i + d = l.length → Ev (fun k => laws_eqOffsetS.l0 k l l (i : Int)) true := by
  have hl := maxLen_le hl
  intro d
  induction d with
  | zero =>
    intro i hi
    exact Ev.step (fun k => laws_eqOffsetS.l0.eq_2 l l i k) (ev_neg (by omega) (ev_some rfl))
  | succ d ih =>
    intro i hi
    refine Ev.step (fun k => laws_eqOffsetS.l0.eq_2 l l i k) ?_
    rw [w_succ (n := l.length) (by omega) (by omega)]
    exact ev_pos (by omega) (ev_pos (by omega) (ev_pos (by omega) (ev_bindc (by unfold laws_eqOffset.f; rw [if_pos rfl, if_pos rfl, if_pos rfl]) (ev_pos rfl (ih (i + 1) (by omega))))))
theorem eqOffsetS_ev (l : List S175) (hl : l.length ≤ maxLen) : Ev (fun k => laws_eqOffsetS.f k l l) true := by
  unfold laws_eqOffsetS.f
  exact ev_pos rfl (eqOffsetS_l0 l hl l.length 0 (by omega))

/- laws_eqIntS -/
theorem eqIntS_l0 (l : List Int) (hl : l.length ≤ maxLen) : ∀ (d i : Nat), i + d = l.length → Ev (fun k => laws_eqIntS.l0 k l l (i : Int)) true := by
  have hl := maxLen_le hl
  intro d
  induction d with
  | zero =>
    intro i hi
    exact Ev.step (fun k => laws_eqIntS.l0.eq_2 l l i k) (ev_neg (by omega) (ev_some rfl))
  | succ d ih =>
    intro i hi
    refine Ev.step (fun k => laws_eqIntS.l0.eq_2 l l i k) ?_
    rw [w_succ (n := l.length) (by omega) (by omega)]
    exact ev_pos (by omega) (ev_pos (by omega) (ev_pos (by omega) (ev_pos rfl (ih (i + 1) (by omega)))))
theorem eqIntS_ev (l : List Int) (hl : l.length ≤ maxLen) : Ev (fun k => laws_eqIntS.f k l l) true := by
  unfold laws_eqIntS.f
  exact ev_pos rfl (eqIntS_l0 l hl l.length 0 (by omega))

/- com.eqSlopes -/
theorem eqOffsetSS_l0 (l : List (List S175)) (hl : l.length ≤ maxLen) (hb : ∀ x ∈ l, x.length ≤ maxLen) : ∀ (d i : Nat), i + d = l.length → Ev (fun k => laws_eqOffsetSS.l0 k l l (i : Int)) true := by
  have hl := maxLen_le hl
  intro d
  induction d with
  | zero =>
    intro i hi
    exact Ev.step (fun k => laws_eqOffsetSS.l0.eq_2 l l i k) (ev_neg (by omega) (ev_some rfl))
  | succ d ih =>
    intro i hi
    refine Ev.step (fun k => laws_eqOffsetSS.l0.eq_2 l l i k) ?_
    have hx : rd_L2 l (i : Int) = l.getD i [] := by unfold rd_L2; rw [toNat_nat]
    have hmem : l.getD i [] ∈ l := getD_mem (by omega)
    rw [w_succ (n := l.length) (by omega) (by omega), hx]
    exact ev_pos (by omega) (ev_pos (by omega) (ev_pos (by omega) (Ev.bind (eqOffsetS_ev _ (hb _ hmem)) (ev_pos rfl (ih (i + 1) (by omega))))))
theorem eqSlopes_calls (s : List Int) (T : List (List S175)) (hs : s.length ≤ maxLen) (hT : T.length ≤ maxLen) (hb : ∀ x ∈ T, x.length ≤ maxLen) (A0 : Option Addr) (c0 : Nat) (A1 : Option Addr) (c1 : Nat) (B0 : Option Addr) (d0 : Nat) (B1 : Option Addr) (d1 : Nat) (w : World)
    (h1 : Kd.C (Kd.int .i64) w A0 s.length s) (h2 : s.length ≤ c0) (h3 : Kd.C kOS w A1 T.length T) (h4 : T.length ≤ c1) (k1 : Kd.C (Kd.int .i64) w B0 s.length s) (k2 : s.length ≤ d0) (k3 : Kd.C kOS w B1 T.length T) (k4 : T.length ≤ d1) :
    Calls Try.prog 32 #[.agg #[.slice A0 s.length c0, .slice A1 T.length c1], .agg #[.slice B0 s.length d0, .slice B1 T.length d1]] w fun e w' => e = .returned (.bool true) ∧ Below w.heap.size w w' := by
  have : Ev (fun k => laws_eqSlopes.f k s T s T) true := by
    unfold laws_eqSlopes.f
    refine Ev.bind (eqIntS_ev s hs) (ev_pos rfl (Ev.bind (a := true) ?_ (ev_pos rfl (ev_some rfl))))
    unfold laws_eqOffsetSS.f
    exact ev_pos rfl (eqOffsetSS_l0 T hT hb T.length 0 (by omega))
  obtain ⟨k, hk⟩ := this.rounds
  exact laws_eqSlopes.calls k A0 c0 s A1 c1 T B0 d0 s B1 d1 T true w h1 h2 h3 h4 k1 k2 k3 k4 hk

/- laws_szOffsetS -/
theorem szOffsetS_tells (l : List S205) (a : Int) (hl : l.length ≤ maxLen) (ha : 0 ≤ a ∧ a ≤ 1048576) : ∃ r, laws_szOffsetS.f l a = some r ∧ (0 ≤ r → r = a - l.length) := by
  have hl := maxLen_le hl
  unfold laws_szOffsetS.f
  rw [w64 (by omega) (by omega)]
  by_cases h : a - (l.length : Int) < 0
  · exact ⟨-1, by rw [if_pos h], by omega⟩
  · exact ⟨_, by rw [if_neg h], by omega⟩

/- laws_szIntS -/
theorem szIntS_tells (l : List Int) (a : Int) (hl : l.length ≤ maxLen) (ha : 0 ≤ a ∧ a ≤ 1048576) : ∃ r, laws_szIntS.f l a = some r ∧ (0 ≤ r → r = a - l.length) ∧ (r < 0 → r = -1) := by
  have hl := maxLen_le hl
  unfold laws_szIntS.f
  rw [w64 (by omega) (by omega)]
  by_cases h : a - (l.length : Int) < 0
  · exact ⟨-1, by rw [if_pos h], by omega, by omega⟩
  · exact ⟨_, by rw [if_neg h], by omega, by omega⟩

/- com.szSlopes -/
theorem szOffsetSS_l0 (l : List (List S205)) (hl : l.length ≤ maxLen) (hb : ∀ x ∈ l, x.length ≤ maxLen) : ∀ (d i : Nat) (a : Int), i + d = l.length → 0 ≤ a → a ≤ 1048576 → (∀ j, j < i → (l.getD j []).length ≤ 1048576) →
    ∃ r, Ev (fun k => laws_szOffsetSS.l0 k l a (i : Int)) r ∧ (0 ≤ r → r ≤ 1048576 ∧ ∀ j, j < l.length → (l.getD j []).length ≤ 1048576) := by
  have hl := maxLen_le hl
  intro d
  induction d with
  | zero =>
    intro i a hi h0 h1 he
    refine ⟨a, Ev.step (fun k => laws_szOffsetSS.l0.eq_2 l a i k) (ev_neg (by omega) (ev_some rfl)), fun _ => ⟨h1, fun j hj => he j (by omega)⟩⟩
  | succ d ih =>
    intro i a hi h0 h1 he
    have hx : rd_L4 l (i : Int) = l.getD i [] := by unfold rd_L4; rw [toNat_nat]
    have hmem : l.getD i [] ∈ l := getD_mem (by omega)
    obtain ⟨r, hr, hp⟩ := szOffsetS_tells (l.getD i []) a (hb _ hmem) ⟨h0, h1⟩
    by_cases hlt : r < 0
    · refine ⟨-1, Ev.step (fun k => laws_szOffsetSS.l0.eq_2 l a i k) ?_, by omega⟩
      rw [hx]
      exact ev_pos (by omega) (ev_pos (by omega) (ev_bindc hr (ev_pos hlt (ev_some rfl))))
    · have hp := hp (by omega)
      obtain ⟨q, hq, hz⟩ := ih (i + 1) r (by omega) (by omega) (by omega) (fun j hj => by
        by_cases e : j = i
        · subst e; omega
        · exact he j (by omega))
      refine ⟨q, Ev.step (fun k => laws_szOffsetSS.l0.eq_2 l a i k) ?_, hz⟩
      rw [hx, w_succ (n := l.length) (by omega) (by omega)]
      exact ev_pos (by omega) (ev_pos (by omega) (ev_bindc hr (ev_neg hlt hq)))
theorem szOffsetSS_ev (l : List (List S205)) (hl : l.length ≤ maxLen) (hb : ∀ x ∈ l, x.length ≤ maxLen) (a : Int) (ha : 0 ≤ a ∧ a ≤ 1048576) :
    ∃ r, Ev (fun k => laws_szOffsetSS.f k l a) r ∧ (0 ≤ r → r ≤ 1048576 ∧ l.length ≤ 1048576 ∧ ∀ x ∈ l, x.length ≤ 1048576) := by
  have hl' := maxLen_le hl
  unfold laws_szOffsetSS.f
  rw [w64 (by omega) (by omega)]
  by_cases h : a - (l.length : Int) < 0
  · exact ⟨-1, ev_pos h (ev_some rfl), by omega⟩
  · obtain ⟨r, hr, hz⟩ := szOffsetSS_l0 l hl hb l.length 0 (a - (l.length : Int)) (by omega) (by omega) (by omega) (fun j hj => by omega)
    refine ⟨r, ev_neg h hr, fun h0 => ⟨(hz h0).1, by omega, fun x hx => ?_⟩⟩
    obtain ⟨j, hj, rfl⟩ := List.getElem_of_mem hx
    have := (hz h0).2 j hj
    rwa [List.getD_eq_getElem?_getD, List.getElem?_eq_getElem hj] at this
theorem szSlopes_calls (s : List Int) (T : List (List S205)) (hs : s.length ≤ maxLen) (hT : T.length ≤ maxLen) (hb : ∀ x ∈ T, x.length ≤ maxLen) (a : Int) (ha : 0 ≤ a ∧ a ≤ 1048576) : ∃ q : Int, (0 ≤ q → (0 ≤ q ∧ q ≤ 1048576) ∧ s.length ≤ 1048576 ∧ T.length ≤ 1048576 ∧ ∀ x ∈ T, x.length ≤ 1048576) ∧
    ∀ (A0 : Option Addr) (c0 : Nat) (A1 : Option Addr) (c1 : Nat) (w : World), Kd.C (Kd.int .i64) w A0 s.length s → s.length ≤ c0 → Kd.C kOS' w A1 T.length T → T.length ≤ c1 →
      Calls Try.prog 35 #[.agg #[.slice A0 s.length c0, .slice A1 T.length c1], .int .i64 a] w fun e w' => e = .returned (.int .i64 q) ∧ Below w.heap.size w w' := by
  have : ∃ q, Ev (fun k => laws_szSlopes.f k s T a) q ∧ (0 ≤ q → (0 ≤ q ∧ q ≤ 1048576) ∧ s.length ≤ 1048576 ∧ T.length ≤ 1048576 ∧ ∀ x ∈ T, x.length ≤ 1048576) := by
    unfold laws_szSlopes.f
    obtain ⟨q1, e1, p1, n1⟩ := szIntS_tells s a hs ha
    by_cases h1 : q1 < 0
    · exact ⟨-1, ev_bindc e1 (ev_pos h1 (ev_some rfl)), by omega⟩
    · obtain ⟨q2, e2, p2⟩ := szOffsetSS_ev T hT hb q1 (by omega)
      by_cases h2 : q2 < 0
      · exact ⟨-1, ev_bindc e1 (ev_neg h1 (Ev.bind e2 (ev_pos h2 (ev_some rfl)))), by omega⟩
      · have p2 := p2 (by omega)
        exact ⟨q2, ev_bindc e1 (ev_neg h1 (Ev.bind e2 (ev_neg h2 (ev_some rfl)))), fun h => ⟨⟨h, p2.1⟩, by omega, p2.2⟩⟩
  obtain ⟨q, e, hq⟩ := this
  obtain ⟨k, hk⟩ := e.rounds
  exact ⟨q, hq, fun A0 c0 A1 c1 w h1 h2 h3 h4 => laws_szSlopes.calls k A0 c0 s A1 c1 T a q w h1 h2 h3 h4 hk⟩

/- spec_l1In -/
theorem l1In_eq (a b c : Int) : spec_l1In.f a b c = some (decide (b ≤ a ∧ a ≤ c)) := by
  unfold spec_l1In.f
  by_cases h : a ≥ b
  · rw [if_pos h]; simp [show b ≤ a from h]
  · rw [if_neg h]; simp [show ¬ b ≤ a from h]

/- spec_l1All -/
theorem l1All_l0 (l : List Int) (hl : l.length ≤ maxLen) (lo hi : Int) : ∀ (d i : Nat), i + d = l.length → Ev (fun k => spec_l1All.l0 k lo hi l (l.length : Int) (i : Int)) (allR (fun j => decide (lo ≤ l.getD j 0 ∧ l.getD j 0 ≤ hi)) i l.length) := by
  have hl := maxLen_le hl
  intro d
  induction d with
  | zero =>
    intro i hi'
    exact Ev.step (fun k => spec_l1All.l0.eq_2 lo hi l l.length i k) (ev_neg (by omega) (ev_some (allR_end (by omega)).symm))
  | succ d ih =>
    intro i hi'
    refine Ev.step (fun k => spec_l1All.l0.eq_2 lo hi l l.length i k) ?_
    rw [allR_step (by omega), w_succ (n := l.length) (by omega) (by omega), rd_nat]
    refine ev_pos (by omega) (ev_pos (by omega) (ev_pos (by omega) (ev_bindc (l1In_eq _ _ _) ?_)))
    refine ev_ite (fun h => ?_) (fun h => ?_)
    · rw [h, Bool.true_and]; exact ih (i + 1) (by omega)
    · rw [Bool.not_eq_true] at h; rw [h, Bool.false_and]; exact ev_some rfl
theorem l1All_ev (l : List Int) (hl : l.length ≤ maxLen) (lo hi : Int) : Ev (fun k => spec_l1All.f k l lo hi) (allR (fun j => decide (lo ≤ l.getD j 0 ∧ l.getD j 0 ≤ hi)) 0 l.length) := by
  unfold spec_l1All.f
  exact l1All_l0 l hl lo hi l.length 0 (by omega)

/- spec_slTemplate -/
theorem slBefore_eq (a b : S175) : spec_slBefore.f a.f0 a.f1 a.f2 b.f0 b.f1 b.f2 = some (befO a b) := by
  unfold spec_slBefore.f befO
  split <;> (try split) <;> rfl
theorem slTemplate_l0 (l : List S175) (hl : l.length ≤ maxLen) : ∀ (d i : Nat), i + d = l.length →
    Ev (fun k => spec_slTemplate.l0 k l l (l.length : Int) (i : Int)) (decide (1 ≤ l.length ∧ l.length ≤ 12) && allR (offAt l) i l.length) := by
  have hl := maxLen_le hl
  intro d
  induction d with
  | zero =>
    intro i hi
    refine Ev.step (fun k => spec_slTemplate.l0.eq_2 l l l.length i k) (ev_neg (by omega) (ev_bindc (l1In_eq _ _ _) (ev_some ?_)))
    rw [allR_end (by omega), Bool.and_true, decide_eq_decide]; omega
  | succ d ih =>
    intro i hi
    refine Ev.step (fun k => spec_slTemplate.l0.eq_2 l l l.length i k) ?_
    have ih := ih (i + 1) (by omega)
    rw [allR_step (by omega), w_succ (n := l.length) (by omega) (by omega), rdO]
    have no : offAt l i = false → false = (decide (1 ≤ l.length ∧ l.length ≤ 12) && (offAt l i && allR (offAt l) (i + 1) l.length)) := by
      intro h; rw [h, Bool.false_and, Bool.and_false]
    have yes : offAt l i = true → Ev (fun k => spec_slTemplate.l0 k l l (l.length : Int) ((i + 1 : Nat) : Int)) (decide (1 ≤ l.length ∧ l.length ≤ 12) && (offAt l i && allR (offAt l) (i + 1) l.length)) := by
      intro h; rw [h, Bool.true_and]; exact ih
    have bad : okO (l.getD i z175) = false → offAt l i = false := by intro h; unfold offAt; rw [h, Bool.false_and]
    refine ev_pos (by omega) (ev_pos (by omega) (ev_pos (by omega) (ev_bindc (l1In_eq _ _ _) ?_)))
    refine ev_ite (fun h => ?_) (fun h => ev_some (no (bad (by unfold okO; simp only [decide_eq_true_eq] at h; simp only [decide_eq_false_iff_not]; omega))))
    refine ev_bindc (l1In_eq _ _ _) (ev_ite (fun h1 => ?_) (fun h1 => ev_some (no (bad (by unfold okO; simp only [decide_eq_true_eq] at h1; simp only [decide_eq_false_iff_not]; omega)))))
    refine ev_bindc (l1In_eq _ _ _) (ev_ite (fun h2 => ?_) (fun h2 => ev_some (no (bad (by unfold okO; simp only [decide_eq_true_eq] at h2; simp only [decide_eq_false_iff_not]; omega)))))
    simp only [decide_eq_true_eq] at h h1 h2
    have hok : okO (l.getD i z175) = true := decide_eq_true (by omega)
    refine ev_ite (fun h0 => ?_) (fun h0 => yes (by unfold offAt; rw [hok, decide_eq_true (show i = 0 by omega)]; rfl))
    rw [w64 (x := (i : Int) - 1) (by omega) (by omega), show (i : Int) - 1 = ((i - 1 : Nat) : Int) by omega, rdO]
    refine ev_pos (by omega) (ev_pos (by omega) (ev_bindc (slBefore_eq _ _) (ev_ite (fun h3 => yes ?_) (fun h3 => ev_some (no ?_)))))
    · unfold offAt; rw [hok, h3, Bool.or_true]; rfl
    · rw [Bool.not_eq_true] at h3; unfold offAt; rw [h3, decide_eq_false (show ¬ i = 0 by omega)]; simp
theorem slTemplate_ev (l : List S175) (hl : l.length ≤ maxLen) : Ev (fun k => spec_slTemplate.f k l) (tmplOk l) := by
  unfold spec_slTemplate.f tmplOk
  exact slTemplate_l0 l hl l.length 0 (by omega)

/- impl_compareOffsets -/
def cmpI (a b : Int) : Int := if a < b then -1 else if a > b then 1 else 0
theorem cmpI_eq (a b : Int) : cmp_Compare_int.f a b = some (cmpI a b) := by
  unfold cmp_Compare_int.f cmp_isNaN_int.f cmpI
  simp only [Option.bind_some, bne_self_eq_false]
  rw [if_neg (by simp), if_neg (by simp)]
  split
  · rfl
  · split <;> rfl
theorem cmpOr3 (x y z : Int) : Ev (fun k => cmp_Or_int.f k [x, y, z]) (if x = 0 then (if y = 0 then z else y) else x) := by
  unfold cmp_Or_int.f
  have e3 : (([x, y, z] : List Int).length : Int) = 3 := rfl
  have w1 : wrap64 (0 + 1) = 1 := by unfold wrap64; omega
  have w2 : wrap64 (1 + 1) = 2 := by unfold wrap64; omega
  have w3 : wrap64 (2 + 1) = 3 := by unfold wrap64; omega
  have r0 : rd [x, y, z] 0 = x := rfl
  have r1 : rd [x, y, z] 1 = y := rfl
  have r2 : rd [x, y, z] 2 = z := rfl
  rw [e3]
  refine Ev.step (fun k => cmp_Or_int.l0.eq_2 0 [x, y, z] 3 0 k) ?_
  rw [e3, w1, r0]
  refine ev_pos (by omega) (ev_pos (by omega) (ev_pos (by omega) (ev_ite (fun h => ?_) (fun h => ev_some (by rw [if_neg h])))))
  rw [if_pos h]
  refine Ev.step (fun k => cmp_Or_int.l0.eq_2 0 [x, y, z] 3 1 k) ?_
  rw [e3, w2, r1]
  refine ev_pos (by omega) (ev_pos (by omega) (ev_pos (by omega) (ev_ite (fun h1 => ?_) (fun h1 => ev_some (by rw [if_neg h1])))))
  rw [if_pos h1]
  refine Ev.step (fun k => cmp_Or_int.l0.eq_2 0 [x, y, z] 3 2 k) ?_
  rw [e3, w3, r2]
  refine ev_pos (by omega) (ev_pos (by omega) (ev_pos (by omega) (ev_ite (fun h2 => ?_) (fun h2 => ev_some rfl))))
  rw [h2]
  exact Ev.step (fun k => cmp_Or_int.l0.eq_2 0 [x, y, 0] 3 3 k) (ev_neg (by omega) (ev_some rfl))
def cmpO (a b : S175) : Int := if cmpI a.f2 b.f2 = 0 then (if cmpI a.f1 b.f1 = 0 then cmpI a.f0 b.f0 else cmpI a.f1 b.f1) else cmpI a.f2 b.f2
theorem cmpO_ev (a b : S175) : Ev (fun k => impl_compareOffsets.f k a.f0 a.f1 a.f2 b.f0 b.f1 b.f2) (cmpO a b) := by
  unfold impl_compareOffsets.f cmpO
  exact ev_bindc (cmpI_eq _ _) (ev_bindc (cmpI_eq _ _) (ev_bindc (cmpI_eq _ _) (ev_id (cmpOr3 _ _ _))))
theorem cmpO_neg (a b : S175) : cmpO a b < 0 ↔ befO a b = true := by
  unfold cmpO befO cmpI
  by_cases h2 : a.f2 = b.f2
  · by_cases h1 : a.f1 = b.f1
    · simp only [h2, h1, Int.lt_irrefl, gt_iff_lt, if_false, if_true, decide_eq_true_eq]
      split
      · omega
      · split <;> omega
    · simp only [h2, h1, Int.lt_irrefl, gt_iff_lt, if_false, if_true, decide_eq_true_eq]
      by_cases h : a.f1 < b.f1
      · simp [h]
      · simp [h, show b.f1 < a.f1 by omega]
  · simp only [h2, if_false, decide_eq_true_eq]
    by_cases h : a.f2 < b.f2
    · simp [h]
    · simp [h, show b.f2 < a.f2 by omega]

/- impl_IsTemplate -/
theorem IsTemplate_l0 (l : List S175) (hl : l.length ≤ maxLen) : ∀ (d i : Nat), i + d = l.length → Ev (fun k => impl_IsTemplate.l0 k l l (l.length : Int) (i : Int)) (allR (offAt l) i l.length) := by
  have hl := maxLen_le hl
  intro d
  induction d with
  | zero =>
    intro i hi
    exact Ev.step (fun k => impl_IsTemplate.l0.eq_2 l l l.length i k) (ev_neg (by omega) (ev_some (allR_end (by omega)).symm))
  | succ d ih =>
    intro i hi
    refine Ev.step (fun k => impl_IsTemplate.l0.eq_2 l l l.length i k) ?_
    have ih := ih (i + 1) (by omega)
    rw [allR_step (by omega), rdO]
    have bad : okO (l.getD i z175) = false → ∀ u v x, Ev (fun k => impl_IsTemplate.j2 k l i l l.length i true u v x) (offAt l i && allR (offAt l) (i + 1) l.length) := by
      intro h u v x
      refine Ev.step (fun k => impl_IsTemplate.j2.eq_2 l i l l.length i true u v x k) (ev_pos rfl (ev_some ?_))
      unfold offAt; rw [h, Bool.false_and, Bool.false_and]
    refine ev_pos (by omega) (ev_pos (by omega) (ev_pos (by omega) ?_))
    refine ev_ite (fun h => bad (decide_eq_false (by omega)) _ _ _) (fun h0 => ?_)
    refine ev_ite (fun h => bad (decide_eq_false (by omega)) _ _ _) (fun h1 => ?_)
    refine ev_ite (fun h => bad (decide_eq_false (by omega)) _ _ _) (fun h2 => ?_)
    refine ev_ite (fun h => bad (decide_eq_false (by omega)) _ _ _) (fun h3 => ?_)
    refine ev_ite (fun h => bad (decide_eq_false (by omega)) _ _ _) (fun h4 => ?_)
    by_cases h5 : (l.getD i z175).f2 > 2
    · rw [decide_eq_true h5]; exact bad (decide_eq_false (by omega)) _ _ _
    · rw [decide_eq_false h5]
      have hok : okO (l.getD i z175) = true := decide_eq_true (by omega)
      refine Ev.step (fun k => impl_IsTemplate.j2.eq_2 l i l l.length i false _ _ _ k) (ev_neg (by simp) ?_)
      rw [w_succ (n := l.length) (by omega) (by omega)]
      have yes : offAt l i = true → Ev (fun k => impl_IsTemplate.l0 k l l (l.length : Int) ((i + 1 : Nat) : Int)) (offAt l i && allR (offAt l) (i + 1) l.length) := by
        intro h; rw [h, Bool.true_and]; exact ih
      refine ev_ite (fun h6 => ?_) (fun h6 => yes (by unfold offAt; rw [hok, decide_eq_true (show i = 0 by omega)]; rfl))
      rw [w64 (x := (i : Int) - 1) (by omega) (by omega), show (i : Int) - 1 = ((i - 1 : Nat) : Int) by omega, rdO]
      refine ev_pos (by omega) (ev_pos (by omega) (Ev.bind (cmpO_ev _ _) ?_))
      have hc := cmpO_neg (l.getD (i - 1) z175) (l.getD i z175)
      refine ev_ite (fun h7 => ev_some ?_) (fun h7 => yes ?_)
      · have : befO (l.getD (i - 1) z175) (l.getD i z175) = false := by
          rw [← Bool.not_eq_true, ← hc]; omega
        unfold offAt; rw [this, decide_eq_false (show ¬ i = 0 by omega)]; simp
      · unfold offAt; rw [hok, hc.1 (by omega), Bool.or_true]; rfl
theorem IsTemplate_ev (l : List S175) (hl : l.length ≤ maxLen) : Ev (fun k => impl_IsTemplate.f k l) (tmplOk l) := by
  unfold impl_IsTemplate.f tmplOk
  refine ev_ite (fun h => ?_) (fun h => ?_)
  · refine Ev.step (fun k => impl_IsTemplate.j0.eq_2 l true k) (ev_pos rfl (ev_some ?_))
    rw [decide_eq_false (by omega), Bool.false_and]
  · refine Ev.step (fun k => impl_IsTemplate.j0.eq_2 l _ k) (ev_ite (fun h1 => ev_some ?_) (fun h1 => ?_))
    · simp only [decide_eq_true_eq] at h1
      rw [decide_eq_false (by omega), Bool.false_and]
    · simp only [decide_eq_true_eq] at h1
      rw [decide_eq_true (by omega), Bool.true_and]; exact IsTemplate_l0 l hl l.length 0 (by omega)

/- model -/
def gridOk (x y z : Int) : Bool := decide (1 ≤ x ∧ x ≤ 8 ∧ 1 ≤ y ∧ y ≤ 6 ∧ 1 ≤ z ∧ z ≤ 5 ∧ x * y * z ≤ 120)
theorem grid_w {x y z : Int} (h : 1 ≤ x ∧ x ≤ 8 ∧ 1 ≤ y ∧ y ≤ 6 ∧ 1 ≤ z ∧ z ≤ 5) : wrap64 (wrap64 (x * y) * z) = x * y * z ∧ 1 ≤ x * y * z ∧ x * y * z ≤ 240 := by
  obtain ⟨h1, h2, h3, h4, h5, h6⟩ := h
  have a1 : x * y ≤ 8 * 6 := Int.mul_le_mul h2 h4 (by omega) (by omega)
  have a2 : 1 * 1 ≤ x * y := Int.mul_le_mul h1 h3 (by omega) (by omega)
  have a3 : x * y * z ≤ (8 * 6) * 5 := Int.mul_le_mul a1 h6 (by omega) (by omega)
  have a4 : (1 * 1) * 1 ≤ x * y * z := Int.mul_le_mul a2 h5 (by omega) (by omega)
  rw [w64 (x := x * y) (by omega) (by omega), w64 (by omega) (by omega)]
  exact ⟨rfl, by omega, by omega⟩
theorem grid_ok {x y z : Int} (h : gridOk x y z = true) : wrap64 (wrap64 (x * y) * z) = x * y * z ∧ 1 ≤ x * y * z ∧ x * y * z ≤ 120 := by
  unfold gridOk at h
  rw [decide_eq_true_eq] at h
  have := grid_w (x := x) (y := y) (z := z) (by omega)
  exact ⟨this.1, this.2.1, by omega⟩
def inL (lo hi : Int) (l : List Int) (j : Nat) : Bool := decide (lo ≤ l.getD j 0 ∧ l.getD j 0 ≤ hi)
def blockAt (t g r : List Int) (j : Nat) : Bool := inL 0 10000 t j && (inL 0 1000 g j && inL 0 4 r j)
def modelOk (x y z : Int) (t g r : List Int) : Bool := gridOk x y z && (decide ((t.length : Int) = x * y * z ∧ (g.length : Int) = x * y * z ∧ (r.length : Int) = x * y * z) && allR (blockAt t g r) 0 t.length)
theorem inL_iff {lo hi : Int} {l : List Int} {j : Nat} : inL lo hi l j = true ↔ lo ≤ l.getD j 0 ∧ l.getD j 0 ≤ hi := by unfold inL; rw [decide_eq_true_eq]
theorem blockAt_iff {t g r : List Int} {j : Nat} : blockAt t g r j = true ↔ (0 ≤ t.getD j 0 ∧ t.getD j 0 ≤ 10000) ∧ (0 ≤ g.getD j 0 ∧ g.getD j 0 ≤ 1000) ∧ 0 ≤ r.getD j 0 ∧ r.getD j 0 ≤ 4 := by
  unfold blockAt; rw [Bool.and_eq_true, Bool.and_eq_true, inL_iff, inL_iff, inL_iff]
theorem modelOk_iff {x y z : Int} {t g r : List Int} : modelOk x y z t g r = true ↔ gridOk x y z = true ∧ ((t.length : Int) = x * y * z ∧ (g.length : Int) = x * y * z ∧ (r.length : Int) = x * y * z) ∧ ∀ j, j < t.length → (0 ≤ t.getD j 0 ∧ t.getD j 0 ≤ 10000) ∧ (0 ≤ g.getD j 0 ∧ g.getD j 0 ≤ 1000) ∧ 0 ≤ r.getD j 0 ∧ r.getD j 0 ≤ 4 := by
  unfold modelOk
  rw [Bool.and_eq_true, Bool.and_eq_true, decide_eq_true_eq, allR_iff]
  exact ⟨fun h => ⟨h.1, h.2.1, fun j hj => blockAt_iff.1 (h.2.2 j (Nat.zero_le _) hj)⟩, fun h => ⟨h.1, h.2.1, fun j _ hj => blockAt_iff.2 (h.2.2 j hj)⟩⟩
theorem model_bd {x y z : Int} {t g r : List Int} (h : modelOk x y z t g r = true) : 1 ≤ t.length ∧ t.length ≤ 120 ∧ g.length = t.length ∧ r.length = t.length ∧ (t.length : Int) = x * y * z ∧ wrap64 (wrap64 (x * y) * z) = x * y * z := by
  rw [modelOk_iff] at h
  have := grid_ok h.1
  obtain ⟨_, ⟨h1, h2, h3⟩, _⟩ := h
  exact ⟨by omega, by omega, by omega, by omega, h1, this.1⟩

/- grGood -/
theorem grGood_eq (x y z : Int) : spec_grGood.f x y z = some (gridOk x y z) := by
  unfold spec_grGood.f gridOk
  simp only [l1In_eq, Option.bind_some, decide_eq_true_eq]
  by_cases h1 : 1 ≤ x ∧ x ≤ 8
  · rw [if_pos h1]
    by_cases h2 : 1 ≤ y ∧ y ≤ 6
    · rw [if_pos h2]
      by_cases h3 : 1 ≤ z ∧ z ≤ 5
      · rw [if_pos h3]
        have := grid_w (x := x) (y := y) (z := z) (by omega)
        rw [this.1]
        congr 1
        rw [Bool.eq_iff_iff, decide_eq_true_eq, decide_eq_true_eq]
        omega
      · rw [if_neg h3, decide_eq_false (by omega)]
    · rw [if_neg h2, decide_eq_false (by omega)]
  · rw [if_neg h1, decide_eq_false (by omega)]

/- isGrid -/
theorem IsGrid_eq (x y z : Int) : impl_IsGrid.f x y z = some (gridOk x y z) := by
  unfold impl_IsGrid.f gridOk
  by_cases h : 1 ≤ x ∧ x ≤ 8 ∧ 1 ≤ y ∧ y ≤ 6 ∧ 1 ≤ z ∧ z ≤ 5
  · rw [if_pos (by omega), if_pos (by omega), if_pos (by omega), if_pos (by omega), if_pos (by omega), if_pos (by omega), (grid_w h).1]
    congr 1
    rw [Bool.eq_iff_iff, decide_eq_true_eq, decide_eq_true_eq]
    omega
  · rw [show decide (1 ≤ x ∧ x ≤ 8 ∧ 1 ≤ y ∧ y ≤ 6 ∧ 1 ≤ z ∧ z ≤ 5 ∧ x * y * z ≤ 120) = false from decide_eq_false (by omega)]
    repeat' split
    all_goals first | rfl | (exfalso; omega)

/- hand.FnExactAreSlopes -/
def slOk (m : Int) (s : List Int) (T : List (List S175)) : Bool := allR (fun j => tmplOk (T.getD j [])) 0 T.length && (decide (1 ≤ T.length ∧ T.length ≤ 4) && (decide ((s.length : Int) = m) && allR (fun j => decide (0 ≤ s.getD j 0 ∧ s.getD j 0 ≤ (T.length : Int) - 1)) 0 s.length))
theorem rdOS (T : List (List S175)) (i : Nat) : rd_L2 T (i : Int) = T.getD i [] := by unfold rd_L2; rw [toNat_nat]
theorem slGood_l0 (x y z : Int) (s : List Int) (T : List (List S175)) (hs : s.length ≤ maxLen) (hT : T.length ≤ maxLen) (hb : ∀ t ∈ T, t.length ≤ maxLen) : ∀ (d i : Nat), i + d = T.length →
    Ev (fun k => spec_slGood.l0 k T (T.length : Int) (i : Int) x y z s T) (allR (fun j => tmplOk (T.getD j [])) i T.length && (decide (1 ≤ T.length ∧ T.length ≤ 4) && (decide ((s.length : Int) = wrap64 (x * y)) && allR (fun j => decide (0 ≤ s.getD j 0 ∧ s.getD j 0 ≤ (T.length : Int) - 1)) 0 s.length))) := by
  have hT := maxLen_le hT
  intro d
  induction d with
  | zero =>
    intro i hi
    refine Ev.step (fun k => spec_slGood.l0.eq_2 T T.length i x y z s T k) (ev_neg (by omega) ?_)
    rw [allR_end (by omega), Bool.true_and]
    refine ev_bindc (l1In_eq _ _ _) (ev_ite (fun h => ?_) (fun h => ev_some ?_))
    · simp only [decide_eq_true_eq] at h
      rw [decide_eq_true (show 1 ≤ T.length ∧ T.length ≤ 4 by omega), Bool.true_and]
      refine ev_ite (fun h2 => ?_) (fun h2 => ev_some ?_)
      · rw [decide_eq_true h2, Bool.true_and, w64 (by omega) (by omega)]
        exact Ev.bind (l1All_ev s hs _ _) (ev_some rfl)
      · rw [decide_eq_false h2, Bool.false_and]
    · simp only [decide_eq_true_eq] at h
      rw [decide_eq_false (by omega), Bool.false_and]
  | succ d ih =>
    intro i hi
    refine Ev.step (fun k => spec_slGood.l0.eq_2 T T.length i x y z s T k) ?_
    have hmem : T.getD i [] ∈ T := getD_mem (by omega)
    rw [allR_step (by omega), w_succ (n := T.length) (by omega) (by omega), rdOS]
    refine ev_pos (by omega) (ev_pos (by omega) (ev_pos (by omega) (Ev.bind (slTemplate_ev _ (hb _ hmem)) (ev_ite (fun h => ?_) (fun h => ?_)))))
    · rw [h, Bool.true_and]; exact ih (i + 1) (by omega)
    · rw [Bool.not_eq_true] at h; rw [h, Bool.false_and, Bool.false_and]; exact ev_some rfl
theorem areSlopes_l1 (s : List Int) (T : List (List S175)) (hs : s.length ≤ maxLen) : ∀ (d i : Nat), i + d = s.length →
    Ev (fun k => impl_areSlopes.l1 k s (s.length : Int) (i : Int) s T) (allR (fun j => decide (0 ≤ s.getD j 0 ∧ s.getD j 0 ≤ (T.length : Int) - 1)) i s.length) := by
  have hs := maxLen_le hs
  intro d
  induction d with
  | zero =>
    intro i hi
    exact Ev.step (fun k => impl_areSlopes.l1.eq_2 s s.length i s T k) (ev_neg (by omega) (ev_some (allR_end (by omega)).symm))
  | succ d ih =>
    intro i hi
    refine Ev.step (fun k => impl_areSlopes.l1.eq_2 s s.length i s T k) ?_
    rw [allR_step (by omega), w_succ (n := s.length) (by omega) (by omega), rd_nat]
    refine ev_pos (by omega) (ev_pos (by omega) (ev_pos (by omega) (ev_ite (fun h => ev_some ?_) (fun h => ev_ite (fun h2 => ev_some ?_) (fun h2 => ?_)))))
    · rw [decide_eq_false (by omega), Bool.false_and]
    · rw [decide_eq_false (by omega), Bool.false_and]
    · rw [decide_eq_true (by omega), Bool.true_and]; exact ih (i + 1) (by omega)
theorem areSlopes_l0 (s : List Int) (T : List (List S175)) (hs : s.length ≤ maxLen) (hT : T.length ≤ maxLen) (hb : ∀ t ∈ T, t.length ≤ maxLen) : ∀ (d i : Nat), i + d = T.length →
    Ev (fun k => impl_areSlopes.l0 k T (T.length : Int) (i : Int) s T) (allR (fun j => tmplOk (T.getD j [])) i T.length && allR (fun j => decide (0 ≤ s.getD j 0 ∧ s.getD j 0 ≤ (T.length : Int) - 1)) 0 s.length) := by
  have hT := maxLen_le hT
  intro d
  induction d with
  | zero =>
    intro i hi
    refine Ev.step (fun k => impl_areSlopes.l0.eq_2 T T.length i s T k) (ev_neg (by omega) ?_)
    rw [allR_end (by omega), Bool.true_and]
    exact areSlopes_l1 s T hs s.length 0 (by omega)
  | succ d ih =>
    intro i hi
    refine Ev.step (fun k => impl_areSlopes.l0.eq_2 T T.length i s T k) ?_
    have hmem : T.getD i [] ∈ T := getD_mem (by omega)
    rw [allR_step (by omega), w_succ (n := T.length) (by omega) (by omega), rdOS]
    refine ev_pos (by omega) (ev_pos (by omega) (ev_pos (by omega) (Ev.bind (IsTemplate_ev _ (hb _ hmem)) (ev_ite (fun h => ?_) (fun h => ?_)))))
    · rw [h, Bool.true_and]; exact ih (i + 1) (by omega)
    · rw [Bool.not_eq_true] at h; rw [h, Bool.false_and, Bool.false_and]; exact ev_some rfl
theorem areSlopes_ev (x y z : Int) (s : List Int) (T : List (List S175)) (hs : s.length ≤ maxLen) (hT : T.length ≤ maxLen) (hb : ∀ t ∈ T, t.length ≤ maxLen) : Ev (fun k => impl_areSlopes.f k x y z s T) (slOk (wrap64 (x * y)) s T) := by
  unfold impl_areSlopes.f slOk
  refine ev_ite (fun h => ?_) (fun h => ev_ite (fun h2 => ?_) (fun h2 => ?_))
  · refine Ev.step (fun k => impl_areSlopes.j0.eq_2 true s T k) (ev_pos rfl (ev_some ?_))
    rw [decide_eq_false (show ¬ (1 ≤ T.length ∧ T.length ≤ 4) by omega), Bool.false_and, Bool.and_false]
  · refine Ev.step (fun k => impl_areSlopes.j0.eq_2 true s T k) (ev_pos rfl (ev_some ?_))
    rw [decide_eq_false (show ¬ (1 ≤ T.length ∧ T.length ≤ 4) by omega), Bool.false_and, Bool.and_false]
  · rw [decide_eq_true (show 1 ≤ T.length ∧ T.length ≤ 4 by omega), Bool.true_and]
    refine Ev.step (fun k => impl_areSlopes.j0.eq_2 _ s T k) (ev_ite (fun h3 => ev_some ?_) (fun h3 => ?_))
    · rw [decide_eq_false (by simpa using h3), Bool.false_and, Bool.and_false]
    · rw [decide_eq_true (by simpa using h3), Bool.true_and]
      exact areSlopes_l0 s T hs hT hb T.length 0 (by omega)
theorem both (x y z : Int) (s : List Int) (T : List (List S175)) (_ : -9223372036854775808 ≤ x ∧ x ≤ 9223372036854775807) (_ : -9223372036854775808 ≤ y ∧ y ≤ 9223372036854775807) (_ : -9223372036854775808 ≤ z ∧ z ≤ 9223372036854775807) (hs : s.length ≤ 1048576) (hT : T.length ≤ 1048576) (hb : ∀ t ∈ T, t.length ≤ 1048576) :
    ∃ q : Bool × Bool, Ev (fun k => spec_AreSlopes.f k x y z s T) q ∧ Ev (fun k => impl_AreSlopes.f k x y z s T) q := by
  have hs' := maxLen_val (show s.length ≤ 9223372036854775807 by omega)
  have hT' := maxLen_val (show T.length ≤ 9223372036854775807 by omega)
  have hb' : ∀ t ∈ T, t.length ≤ maxLen := fun t ht => maxLen_val (by have := hb t ht; omega)
  by_cases c : gridOk x y z = true
  · refine ⟨(slOk (wrap64 (x * y)) s T, true), ?_, ?_⟩
    · unfold spec_AreSlopes.f
      exact ev_bindc (grGood_eq x y z) (ev_pos c (Ev.bind (slGood_l0 x y z s T hs' hT' hb' T.length 0 (by omega)) (ev_some rfl)))
    · unfold impl_AreSlopes.f
      exact ev_bindc (IsGrid_eq x y z) (ev_pos c (Ev.bind (areSlopes_ev x y z s T hs' hT' hb') (ev_some rfl)))
  · refine ⟨(false, false), ?_, ?_⟩
    · unfold spec_AreSlopes.f
      exact ev_bindc (grGood_eq x y z) (ev_neg c (ev_some rfl))
    · unfold impl_AreSlopes.f
      exact ev_bindc (IsGrid_eq x y z) (ev_neg c (ev_some rfl))

def laws_FnExactAreSlopes_T5 : Bool × List (List Nat × List Nat) := (true, [([], []), ([0], [0]), ([], []), ([2, 1], [2]), ([1, 3, 3], [1, 3]), ([4], [4]), ([5], [5]), ([5], [5]), ([6, 4, 0, 1, 2, 3, 4, 5, 6], [6]), ([7, 8, 0, 1, 2, 3, 4, 5, 6, 7, 8], [7])])
def laws_FnExactAreSlopes_B5 : List Nat := [0, 1, 0, 7, 15, 31, 63, 63, 127, 511]
theorem laws_FnExactAreSlopes_tab5 : rtab .any (opsOf Try.f7 5) = laws_FnExactAreSlopes_T5 := by kernel_rfl
theorem laws_FnExactAreSlopes_bits5 : waitsOk laws_FnExactAreSlopes_T5.2 laws_FnExactAreSlopes_B5 = true := by kernel_rfl
def laws_FnExactAreSlopes_T7 : Bool × List (List Nat × List Nat) := (true, [([], []), ([0], [0]), ([], []), ([1, 2, 1], [1, 2]), ([3], [3]), ([4], [4]), ([4], [4]), ([5, 3, 0, 1, 2, 3, 4, 5], [5]), ([6, 7, 0, 1, 2, 3, 4, 5, 6, 7], [6])])
def laws_FnExactAreSlopes_B7 : List Nat := [0, 1, 0, 7, 15, 31, 31, 63, 255]
theorem laws_FnExactAreSlopes_tab7 : rtab .any (opsOf Try.f7 7) = laws_FnExactAreSlopes_T7 := by kernel_rfl
theorem laws_FnExactAreSlopes_bits7 : waitsOk laws_FnExactAreSlopes_T7.2 laws_FnExactAreSlopes_B7 = true := by kernel_rfl
def laws_FnExactAreSlopes_T10 : Bool × List (List Nat × List Nat) := (true, [([], []), ([], []), ([1], [1]), ([0, 2, 2], [0, 2]), ([3], [3])])
def laws_FnExactAreSlopes_B10 : List Nat := [0, 0, 2, 7, 15]
theorem laws_FnExactAreSlopes_tab10 : rtab .any (opsOf Try.f7 10) = laws_FnExactAreSlopes_T10 := by kernel_rfl
theorem laws_FnExactAreSlopes_bits10 : waitsOk laws_FnExactAreSlopes_T10.2 laws_FnExactAreSlopes_B10 = true := by kernel_rfl
set_option maxHeartbeats 4000000 in
set_option maxRecDepth 100000 in
theorem walk (a0_0 : Int) (a0_1 : Int) (a0_2 : Int) (a1_0 : List Int) (a1_1 : List (List S205)) (Aa1_0 : Option Addr) (ca1_0 : Nat) (Aa1_1 : Option Addr) (ca1_1 : Nat) (w : World) (hra1_0 : Kd.C (Kd.int .i64) w Aa1_0 a1_0.length a1_0) (hca1_0 : a1_0.length ≤ ca1_0) (hra1_1 : Kd.C kOS' w Aa1_1 a1_1.length a1_1) (hca1_1 : a1_1.length ≤ ca1_1) (r0 : Int) (hsz0 : ∀ (Aa1_0 : Option Addr) (ca1_0 : Nat) (Aa1_1 : Option Addr) (ca1_1 : Nat) (w : World), Kd.C (Kd.int .i64) w Aa1_0 a1_0.length a1_0 → a1_0.length ≤ ca1_0 → Kd.C kOS' w Aa1_1 a1_1.length a1_1 → a1_1.length ≤ ca1_1 → Calls Try.prog 35 #[.agg #[.slice Aa1_0 a1_0.length ca1_0, .slice Aa1_1 a1_1.length ca1_1], .int .i64 1048576] w fun e w' => e = .returned (.int .i64 r0) ∧ Below w.heap.size w w') (hlt0 : ¬ r0 < 0) (ta1_1 : List (List S175)) (hta1_1 : a1_1.map cOS = ta1_1) (g0 : Bool) (g1 : Bool) (hla1_0 : a1_0.length ≤ 1048576) (hlta1_1 : ta1_1.length ≤ 1048576) (hbta1_1 : ∀ x ∈ ta1_1, x.length ≤ 1048576)  (hs : ∃ k, spec_AreSlopes.f k a0_0 a0_1 a0_2 a1_0 ta1_1 = some (g0, g1)) (hi : ∃ k, impl_AreSlopes.f k a0_0 a0_1 a0_2 a1_0 ta1_1 = some (g0, g1)) :
    Calls Try.prog 7 #[.agg #[.int .i64 a0_0, .int .i64 a0_1, .int .i64 a0_2], .agg #[.slice Aa1_0 a1_0.length ca1_0, .slice Aa1_1 a1_1.length ca1_1]] w fun e w' => e = .returned (.bool true) ∧ Below w.heap.size w w' := by
  obtain ⟨ks, hs⟩ := hs
  have Hs := Aside0.mk hs
  obtain ⟨ki, hi⟩ := hi
  have Hi := Aside0.mk hi
  have HRa1_0 := Aside0.mk hra1_0
  have HCa1_0 := Aside0.mk hca1_0
  have HLa1_0 := Aside0.mk hla1_0
  have HRa1_1 := Aside0.mk hra1_1
  have HCa1_1 := Aside0.mk hca1_1
  have HLta1_1 := Aside0.mk hlta1_1
  have HBta1_1 := Aside0.mk hbta1_1
  have HTa1_1 := Aside0.mk hta1_1
  have HSZ0 := Aside0.mk hsz0
  have d0 : decide (r0 < 0) = false := decide_eq_false hlt0
  clear hs hi hra1_0 hca1_0 hla1_0 hra1_1 hca1_1 hlta1_1 hbta1_1 hta1_1 hsz0 hlt0
  go_enter Try.func7, Try.ntmps7
  go_wp2_with fail
  obtain ⟨wb, hwb⟩ : ∃ z : World, z = ((w.alloc (.cells #[.int .i64 a0_0, .int .i64 a0_1, .int .i64 a0_2] 23)).alloc (.cells #[.slice Aa1_0 a1_0.length ca1_0, .slice Aa1_1 a1_1.length ca1_1] 61)) := ⟨_, rfl⟩
  rw [← hwb]
  have K0_0 : Aside0 (wb.heap[w.heap.size]? = some (.cells #[.int .i64 a0_0, .int .i64 a0_1, .int .i64 a0_2] 23 (0, 0))) := ⟨by rw [hwb]; exact blk_alloc (blk_new w _) _⟩
  have K1_0 : Aside0 (wb.heap[w.heap.size + 1]? = some (.cells #[.slice Aa1_0 a1_0.length ca1_0, .slice Aa1_1 a1_1.length ca1_1] 61 (0, 0))) := ⟨by rw [hwb, show w.heap.size + 1 = (w.alloc (.cells #[.int .i64 a0_0, .int .i64 a0_1, .int .i64 a0_2] 23)).heap.size from (Array.size_push ..).symm]; exact blk_new (w.alloc (.cells #[.int .i64 a0_0, .int .i64 a0_1, .int .i64 a0_2] 23)) _⟩
  have B0 : Aside0 (Below w.heap.size w wb) := ⟨by rw [hwb]; exact below_alloc (below_alloc (Below.refl _ _) _) _⟩
  have z0 := B0.out.size
  have zb := blk_lt K1_0.out
  clear hwb
  refine (HSZ0.out Aa1_0 ca1_0 Aa1_1 ca1_1 wb (Kd.C_below HRa1_0.out B0.out) HCa1_0.out (Kd.C_below HRa1_1.out B0.out) HCa1_1.out).mono ?_
  rintro e w1 ⟨rfl, hb⟩
  have B1 := Aside0.mk (below_step B0.out hb)
  have z1 := hb.size
  have K0_1 := Aside0.mk (blk_below K0_0.out hb)
  clear K0_0
  have K1_1 := Aside0.mk (blk_below K1_0.out hb)
  clear K1_0
  clear hb
  have hcz0_0 : w1.cell? ⟨w.heap.size, 0, none⟩ = some (.int .i64 a0_0) := (blk_cell K0_1.out 0).trans rfl
  have hfz0_0 := blk_frozen K0_1.out 0
  have hcz0_1 : w1.cell? ⟨w.heap.size, 1, none⟩ = some (.int .i64 a0_1) := (blk_cell K0_1.out 1).trans rfl
  have hfz0_1 := blk_frozen K0_1.out 1
  have hcz0_2 : w1.cell? ⟨w.heap.size, 2, none⟩ = some (.int .i64 a0_2) := (blk_cell K0_1.out 2).trans rfl
  have hfz0_2 := blk_frozen K0_1.out 2
  have hcz1_0 : w1.cell? ⟨w.heap.size + 1, 0, none⟩ = some (.slice Aa1_0 a1_0.length ca1_0) := (blk_cell K1_1.out 0).trans rfl
  have hfz1_0 := blk_frozen K1_1.out 0
  have hcz1_1 : w1.cell? ⟨w.heap.size + 1, 1, none⟩ = some (.slice Aa1_1 a1_1.length ca1_1) := (blk_cell K1_1.out 1).trans rfl
  have hfz1_1 := blk_frozen K1_1.out 1
  go_wp2_with fail
  clear hcz0_0 hfz0_0 hcz0_1 hfz0_1 hcz0_2 hfz0_2 hcz1_0 hfz1_0 hcz1_1 hfz1_1
  have K0_1d := Aside0.mk (blk_drew K0_1.out)
  clear K0_1
  have K1_1d := Aside0.mk (blk_drew K1_1.out)
  clear K1_1
  have B2 := Aside0.mk (below_drew1 B1.out)
  have z2 : w1.heap.size ≤ (w1.drew).heap.size := Nat.le_refl _
  refine start_ (n := 10) (S := fun w' => w'.cell? ⟨w.heap.size, 0, none⟩ = some (.int .i64 a0_0) ∧ w'.cell? ⟨w.heap.size, 1, none⟩ = some (.int .i64 a0_1) ∧ w'.cell? ⟨w.heap.size, 2, none⟩ = some (.int .i64 a0_2) ∧ w'.cell? ⟨w.heap.size + 1, 0, none⟩ = some (.slice Aa1_0 a1_0.length ca1_0) ∧ w'.cell? ⟨w.heap.size + 1, 1, none⟩ = some (.slice Aa1_1 a1_1.length ca1_1)) (ds := []) #[false, false, false, false, false, false, false, false, false, false] (by kernel_rfl) rfl rfl ⟨(blk_cell K0_1d.out 0).trans rfl, (blk_cell K0_1d.out 1).trans rfl, (blk_cell K0_1d.out 2).trans rfl, (blk_cell K1_1d.out 0).trans rfl, (blk_cell K1_1d.out 1).trans rfl⟩ (fun hHeld => ?_)
  refine with_tabW laws_FnExactAreSlopes_tab5 laws_FnExactAreSlopes_bits5 (fun HT_ HW_ => ?_)
  generalize w1.drew = w2 at K0_1d K1_1d B2 z2 hHeld ⊢
  refine take_ (i := 0) (N := some 17) (v := ?_) (a' := ?_) #[true, false, false, false, false, false, false, false, false, false] rfl rfl (take_ofW HT_.out HW_.out (by kernel_rfl)) (fun _ _ _ h => h) (Or.inl ⟨by rfl, ?_⟩) hHeld ?_ ?_
  rotate_left
  · rintro w' ⟨s0, s1, s2, s3, s4⟩
    go_simp
    with_reducible rfl
  rotate_left
  · simp only [Act.put, List.setIfInBounds_toArray, List.set_cons_zero, List.set_cons_succ, i64_w, i32_w]
    rfl
  refine take_ (i := 2) (N := some 19) (v := ?_) (a' := ?_) #[true, false, true, false, false, false, false, false, false, false] rfl rfl (take_ofW HT_.out HW_.out (by kernel_rfl)) (fun _ _ _ h => h) (Or.inl ⟨by rfl, ?_⟩) hHeld ?_ ?_
  rotate_left
  · rintro w' ⟨s0, s1, s2, s3, s4⟩
    go_simp
    with_reducible rfl
  rotate_left
  · simp only [Act.put, List.setIfInBounds_toArray, List.set_cons_zero, List.set_cons_succ, i64_w, i32_w]
    rfl
  refine one_ (i := 1) (N := some 18) #[true, true, true, false, false, false, false, false, false, false] rfl rfl (one_of HT_.out (by kernel_rfl)) (by decide) (fun K hK => ?_)
  refine goes_ Try.func30 (by kernel_rfl) rfl #[.agg #[.int .i64 a0_0, .int .i64 a0_1, .int .i64 a0_2]] (by rfl) rfl rfl (by (try simp only [List.map_toArray, List.map_cons, List.map_nil]); first | done | rfl | (simp only [List.length_drop, List.length_take]; rfl)) ?_
  refine (toGrid_calls a0_0 a0_1 a0_2  w2 ).mono ?_
  rintro e w3 ⟨rfl, hb⟩
  refine ⟨_, rfl, ?_⟩
  have B3 := Aside0.mk (below_step B2.out hb)
  have z3 := hb.size
  have K0_3 := Aside0.mk (blk_below K0_1d.out hb)
  clear K0_1d
  have K1_3 := Aside0.mk (blk_below K1_1d.out hb)
  clear K1_1d
  clear hb
  refine hK.out _ _ ⟨(blk_cell K0_3.out 0).trans rfl, (blk_cell K0_3.out 1).trans rfl, (blk_cell K0_3.out 2).trans rfl, (blk_cell K1_3.out 0).trans rfl, (blk_cell K1_3.out 1).trans rfl⟩ (fun hHeld => ?_)
  clear hK K
  refine norm_ (a' := ?_) ?_ ?_
  rotate_left
  · show Act.put _ (some 18) _ = _
    simp only [Act.put, List.setIfInBounds_toArray, List.set_cons_zero, List.set_cons_succ, i64_w, i32_w]
    rfl
  refine one_ (i := 3) (N := some 20) #[true, true, true, true, false, false, false, false, false, false] rfl rfl (one_of HT_.out (by kernel_rfl)) (by decide) (fun K hK => ?_)
  refine goes_ Try.func37 (by kernel_rfl) rfl #[.agg #[.slice Aa1_0 a1_0.length ca1_0, .slice Aa1_1 a1_1.length ca1_1]] (by rfl) rfl rfl (by (try simp only [List.map_toArray, List.map_cons, List.map_nil]); first | done | rfl | (simp only [List.length_drop, List.length_take]; rfl)) ?_
  refine (toSlopes_calls a1_0 HLa1_0.out a1_1 ta1_1 HTa1_1.out HLta1_1.out HBta1_1.out Aa1_0 ca1_0 Aa1_1 ca1_1 w3 (Kd.C_below HRa1_0.out B3.out) HCa1_0.out (Kd.C_below HRa1_1.out B3.out) HCa1_1.out).mono ?_
  rintro e w4 ⟨v0, v1, rfl, ho0, ho1, hne, hb⟩
  refine ⟨_, rfl, ?_⟩
  have B4 := Aside0.mk (below_step B3.out hb)
  have z4 := hb.size
  obtain ⟨At1_0_4, ct1_0_4, rfl⟩ := Kd.R_slice ho0
  have Ft1_0_4 := Aside0.mk (ivR (w := w) ho0 (by omega))
  clear ho0
  obtain ⟨At1_1_4, ct1_1_4, rfl⟩ := Kd.S_slice ho1
  have Ft1_1_4 := Aside0.mk (ivS (w := w) ho1 (by omega))
  clear ho1
  have Dt1 := Aside0.mk hne
  clear hne
  have K0_4 := Aside0.mk (blk_below K0_3.out hb)
  clear K0_3
  have K1_4 := Aside0.mk (blk_below K1_3.out hb)
  clear K1_3
  clear hb
  refine hK.out _ _ ⟨(blk_cell K0_4.out 0).trans rfl, (blk_cell K0_4.out 1).trans rfl, (blk_cell K0_4.out 2).trans rfl, (blk_cell K1_4.out 0).trans rfl, (blk_cell K1_4.out 1).trans rfl⟩ (fun hHeld => ?_)
  clear hK K
  refine norm_ (a' := ?_) ?_ ?_
  rotate_left
  · show Act.put _ (some 20) _ = _
    simp only [Act.put, List.setIfInBounds_toArray, List.set_cons_zero, List.set_cons_succ, i64_w, i32_w]
    rfl
  refine one_ (i := 4) (N := some 21) #[true, true, true, true, true, false, false, false, false, false] rfl rfl (one_of HT_.out (by kernel_rfl)) (by decide) (fun K hK => ?_)
  refine goes_ Try.func36 (by kernel_rfl) rfl #[.agg #[.int .i64 a0_0, .int .i64 a0_1, .int .i64 a0_2], .agg #[.slice At1_0_4 a1_0.length ct1_0_4, .slice At1_1_4 ta1_1.length ct1_1_4]] (by rfl) rfl rfl (by (try simp only [List.map_toArray, List.map_cons, List.map_nil]); first | done | rfl | (simp only [List.length_drop, List.length_take]; rfl)) ?_
  refine (spec_AreSlopes.calls ks a0_0 a0_1 a0_2 At1_0_4 ct1_0_4 a1_0 At1_1_4 ct1_1_4 ta1_1 g0 g1 w4 (readsR Ft1_0_4.out).2.2 (readsR Ft1_0_4.out).2.1 (readsS Ft1_1_4.out).2.2 (readsS Ft1_1_4.out).2.1 Hs.out).mono ?_
  rintro e w5 ⟨rfl, hb⟩
  refine ⟨_, rfl, ?_⟩
  have B5 := Aside0.mk (below_step B4.out hb)
  have z5 := hb.size
  have K0_5 := Aside0.mk (blk_below K0_4.out hb)
  clear K0_4
  have K1_5 := Aside0.mk (blk_below K1_4.out hb)
  clear K1_4
  have Ft1_0_5 := Aside0.mk (Kd.R_below Ft1_0_4.out hb)
  clear Ft1_0_4
  have Ft1_1_5 := Aside0.mk (Kd.S_below Ft1_1_4.out hb)
  clear Ft1_1_4
  clear hb
  refine hK.out _ _ ⟨(blk_cell K0_5.out 0).trans rfl, (blk_cell K0_5.out 1).trans rfl, (blk_cell K0_5.out 2).trans rfl, (blk_cell K1_5.out 0).trans rfl, (blk_cell K1_5.out 1).trans rfl⟩ (fun hHeld => ?_)
  clear hK K
  refine norm_ (a' := ?_) ?_ ?_
  rotate_left
  · show Act.put _ (some 21) _ = _
    simp only [Act.put, List.setIfInBounds_toArray, List.set_cons_zero, List.set_cons_succ, i64_w, i32_w]
    rfl
  refine pure_ (i := 5) (N := some 16) (v := ?_) (a' := ?_) #[true, true, true, true, true, true, false, false, false, false] rfl rfl (any_of HT_.out (by kernel_rfl)) (fun _ _ _ h => h) (Or.inl ⟨by rfl, ?_⟩) ?_ ?_
  rotate_left
  · intro w'
    go_simp
    with_reducible rfl
  rotate_left
  · simp only [Act.put, List.setIfInBounds_toArray, List.set_cons_zero, List.set_cons_succ, i64_w, i32_w]
    rfl
  refine pure_ (i := 6) (N := some 22) (v := ?_) (a' := ?_) #[true, true, true, true, true, true, true, false, false, false] rfl rfl (any_of HT_.out (by kernel_rfl)) (fun _ _ _ h => h) (Or.inl ⟨by rfl, ?_⟩) ?_ ?_
  rotate_left
  · intro w'
    go_simp
    with_reducible rfl
  rotate_left
  · simp only [Act.put, List.setIfInBounds_toArray, List.set_cons_zero, List.set_cons_succ, i64_w, i32_w]
    rfl
  refine pure_ (i := 7) (N := some 23) (v := ?_) (a' := ?_) #[true, true, true, true, true, true, true, true, false, false] rfl rfl (any_of HT_.out (by kernel_rfl)) (fun _ _ _ h => h) (Or.inl ⟨by rfl, ?_⟩) ?_ ?_
  rotate_left
  · intro w'
    go_simp
    with_reducible rfl
  rotate_left
  · simp only [Act.put, List.setIfInBounds_toArray, List.set_cons_zero, List.set_cons_succ, i64_w, i32_w]
    rfl
  refine pure_ (i := 8) (N := some 6) (v := ?_) (a' := ?_) #[true, true, true, true, true, true, true, true, true, false] rfl rfl (any_of HT_.out (by kernel_rfl)) (fun _ _ _ h => h) (Or.inl ⟨by rfl, ?_⟩) ?_ ?_
  rotate_left
  · intro w'
    go_simp
    with_reducible rfl
  rotate_left
  · simp only [Act.put, List.setIfInBounds_toArray, List.set_cons_zero, List.set_cons_succ, i64_w, i32_w]
    rfl
  refine pure_ (i := 9) (N := some 7) (v := ?_) (a' := ?_) #[true, true, true, true, true, true, true, true, true, true] rfl rfl (any_of HT_.out (by kernel_rfl)) (fun _ _ _ h => h) (Or.inl ⟨by rfl, ?_⟩) ?_ ?_
  rotate_left
  · intro w'
    go_simp
    with_reducible rfl
  rotate_left
  · simp only [Act.put, List.setIfInBounds_toArray, List.set_cons_zero, List.set_cons_succ, i64_w, i32_w]
    rfl
  refine done_ (done_of HT_.out (by kernel_rfl)) ?_
  clear HT_ HW_
  have hcz0_0 : w5.cell? ⟨w.heap.size, 0, none⟩ = some (.int .i64 a0_0) := (blk_cell K0_5.out 0).trans rfl
  have hfz0_0 := blk_frozen K0_5.out 0
  have hcz0_1 : w5.cell? ⟨w.heap.size, 1, none⟩ = some (.int .i64 a0_1) := (blk_cell K0_5.out 1).trans rfl
  have hfz0_1 := blk_frozen K0_5.out 1
  have hcz0_2 : w5.cell? ⟨w.heap.size, 2, none⟩ = some (.int .i64 a0_2) := (blk_cell K0_5.out 2).trans rfl
  have hfz0_2 := blk_frozen K0_5.out 2
  have hcz1_0 : w5.cell? ⟨w.heap.size + 1, 0, none⟩ = some (.slice Aa1_0 a1_0.length ca1_0) := (blk_cell K1_5.out 0).trans rfl
  have hfz1_0 := blk_frozen K1_5.out 0
  have hcz1_1 : w5.cell? ⟨w.heap.size + 1, 1, none⟩ = some (.slice Aa1_1 a1_1.length ca1_1) := (blk_cell K1_5.out 1).trans rfl
  have hfz1_1 := blk_frozen K1_5.out 1
  go_wp2_with fail
  clear hcz0_0 hfz0_0 hcz0_1 hfz0_1 hcz0_2 hfz0_2 hcz1_0 hfz1_0 hcz1_1 hfz1_1
  refine (toSlopes_calls a1_0 HLa1_0.out a1_1 ta1_1 HTa1_1.out HLta1_1.out HBta1_1.out Aa1_0 ca1_0 Aa1_1 ca1_1 w5 (Kd.C_below HRa1_0.out B5.out) HCa1_0.out (Kd.C_below HRa1_1.out B5.out) HCa1_1.out).mono ?_
  rintro e w6 ⟨v0, v1, rfl, ho0, ho1, hne, hb⟩
  have B6 := Aside0.mk (below_step B5.out hb)
  have z6 := hb.size
  obtain ⟨Ax1_0_6, cx1_0_6, rfl⟩ := Kd.R_slice ho0
  have Fx1_0_6 := Aside0.mk (ivR (w := w) ho0 (by omega))
  clear ho0
  obtain ⟨Ax1_1_6, cx1_1_6, rfl⟩ := Kd.S_slice ho1
  have Fx1_1_6 := Aside0.mk (ivS (w := w) ho1 (by omega))
  clear ho1
  have Dx1 := Aside0.mk hne
  clear hne
  have K0_6 := Aside0.mk (blk_below K0_5.out hb)
  clear K0_5
  have K1_6 := Aside0.mk (blk_below K1_5.out hb)
  clear K1_5
  clear hb
  have hcz0_0 : w6.cell? ⟨w.heap.size, 0, none⟩ = some (.int .i64 a0_0) := (blk_cell K0_6.out 0).trans rfl
  have hfz0_0 := blk_frozen K0_6.out 0
  have hcz0_1 : w6.cell? ⟨w.heap.size, 1, none⟩ = some (.int .i64 a0_1) := (blk_cell K0_6.out 1).trans rfl
  have hfz0_1 := blk_frozen K0_6.out 1
  have hcz0_2 : w6.cell? ⟨w.heap.size, 2, none⟩ = some (.int .i64 a0_2) := (blk_cell K0_6.out 2).trans rfl
  have hfz0_2 := blk_frozen K0_6.out 2
  have hcz1_0 : w6.cell? ⟨w.heap.size + 1, 0, none⟩ = some (.slice Aa1_0 a1_0.length ca1_0) := (blk_cell K1_6.out 0).trans rfl
  have hfz1_0 := blk_frozen K1_6.out 0
  have hcz1_1 : w6.cell? ⟨w.heap.size + 1, 1, none⟩ = some (.slice Aa1_1 a1_1.length ca1_1) := (blk_cell K1_6.out 1).trans rfl
  have hfz1_1 := blk_frozen K1_6.out 1
  go_wp2_with fail
  clear hcz0_0 hfz0_0 hcz0_1 hfz0_1 hcz0_2 hfz0_2 hcz1_0 hfz1_0 hcz1_1 hfz1_1
  have Fx1_0_6b := Aside0.mk (Kd.R_below Fx1_0_6.out (below_alloc (Below.refl _ _) (.cells #[.slice Ax1_0_6 a1_0.length cx1_0_6, .slice Ax1_1_6 ta1_1.length cx1_1_6] 52)))
  clear Fx1_0_6
  have Fx1_1_6b := Aside0.mk (Kd.S_below Fx1_1_6.out (below_alloc (Below.refl _ _) (.cells #[.slice Ax1_0_6 a1_0.length cx1_0_6, .slice Ax1_1_6 ta1_1.length cx1_1_6] 52)))
  clear Fx1_1_6
  have K0_6b := Aside0.mk (blk_alloc K0_6.out (.cells #[.slice Ax1_0_6 a1_0.length cx1_0_6, .slice Ax1_1_6 ta1_1.length cx1_1_6] 52))
  clear K0_6
  have K1_6b := Aside0.mk (blk_alloc K1_6.out (.cells #[.slice Ax1_0_6 a1_0.length cx1_0_6, .slice Ax1_1_6 ta1_1.length cx1_1_6] 52))
  clear K1_6
  have B7 := Aside0.mk (below_alloc B6.out (.cells #[.slice Ax1_0_6 a1_0.length cx1_0_6, .slice Ax1_1_6 ta1_1.length cx1_1_6] 52))
  have z7 : w6.heap.size < (w6.alloc (.cells #[.slice Ax1_0_6 a1_0.length cx1_0_6, .slice Ax1_1_6 ta1_1.length cx1_1_6] 52)).heap.size := Nat.lt_of_lt_of_eq (Nat.lt_succ_self _) (Array.size_push ..).symm
  have Kx1_7 := Aside0.mk (blk_new w6 (.cells #[.slice Ax1_0_6 a1_0.length cx1_0_6, .slice Ax1_1_6 ta1_1.length cx1_1_6] 52))
  generalize w6.alloc (.cells #[.slice Ax1_0_6 a1_0.length cx1_0_6, .slice Ax1_1_6 ta1_1.length cx1_1_6] 52) = w7 at Fx1_0_6b Fx1_1_6b K0_6b K1_6b Kx1_7 B7 z7 ⊢
  have Fx1_0_6bd := Aside0.mk (Kd.R_drew Fx1_0_6b.out)
  clear Fx1_0_6b
  have Fx1_1_6bd := Aside0.mk (Kd.S_drew Fx1_1_6b.out)
  clear Fx1_1_6b
  have K0_6bd := Aside0.mk (blk_drew K0_6b.out)
  clear K0_6b
  have K1_6bd := Aside0.mk (blk_drew K1_6b.out)
  clear K1_6b
  have Kx1_7d := Aside0.mk (blk_drew Kx1_7.out)
  clear Kx1_7
  have B8 := Aside0.mk (below_drew1 B7.out)
  have z8 : w7.heap.size ≤ (w7.drew).heap.size := Nat.le_refl _
  refine start_ (n := 9) (S := fun w' => w'.cell? ⟨w.heap.size, 0, none⟩ = some (.int .i64 a0_0) ∧ w'.cell? ⟨w.heap.size, 1, none⟩ = some (.int .i64 a0_1) ∧ w'.cell? ⟨w.heap.size, 2, none⟩ = some (.int .i64 a0_2) ∧ w'.cell? ⟨w.heap.size + 1, 0, none⟩ = some (.slice Aa1_0 a1_0.length ca1_0) ∧ w'.cell? ⟨w.heap.size + 1, 1, none⟩ = some (.slice Aa1_1 a1_1.length ca1_1) ∧ w'.cell? ⟨w6.heap.size, 0, none⟩ = some (.slice Ax1_0_6 a1_0.length cx1_0_6) ∧ w'.cell? ⟨w6.heap.size, 1, none⟩ = some (.slice Ax1_1_6 ta1_1.length cx1_1_6)) (ds := []) #[false, false, false, false, false, false, false, false, false] (by kernel_rfl) rfl rfl ⟨(blk_cell K0_6bd.out 0).trans rfl, (blk_cell K0_6bd.out 1).trans rfl, (blk_cell K0_6bd.out 2).trans rfl, (blk_cell K1_6bd.out 0).trans rfl, (blk_cell K1_6bd.out 1).trans rfl, (blk_cell Kx1_7d.out 0).trans rfl, (blk_cell Kx1_7d.out 1).trans rfl⟩ (fun hHeld => ?_)
  refine with_tabW laws_FnExactAreSlopes_tab7 laws_FnExactAreSlopes_bits7 (fun HT_ HW_ => ?_)
  generalize w7.drew = w8 at Fx1_0_6bd Fx1_1_6bd K0_6bd K1_6bd Kx1_7d B8 z8 hHeld ⊢
  refine take_ (i := 0) (N := some 27) (v := ?_) (a' := ?_) #[true, false, false, false, false, false, false, false, false] rfl rfl (take_ofW HT_.out HW_.out (by kernel_rfl)) (fun _ _ _ h => h) (Or.inl ⟨by rfl, ?_⟩) hHeld ?_ ?_
  rotate_left
  · rintro w' ⟨s0, s1, s2, s3, s4, s5, s6⟩
    go_simp
    with_reducible rfl
  rotate_left
  · simp only [Act.put, List.setIfInBounds_toArray, List.set_cons_zero, List.set_cons_succ, i64_w, i32_w]
    rfl
  refine take_ (i := 2) (N := some 29) (v := ?_) (a' := ?_) #[true, false, true, false, false, false, false, false, false] rfl rfl (take_ofW HT_.out HW_.out (by kernel_rfl)) (fun _ _ _ h => h) (Or.inl ⟨by rfl, ?_⟩) hHeld ?_ ?_
  rotate_left
  · rintro w' ⟨s0, s1, s2, s3, s4, s5, s6⟩
    go_simp
    with_reducible rfl
  rotate_left
  · simp only [Act.put, List.setIfInBounds_toArray, List.set_cons_zero, List.set_cons_succ, i64_w, i32_w]
    rfl
  refine one_ (i := 1) (N := some 28) #[true, true, true, false, false, false, false, false, false] rfl rfl (one_of HT_.out (by kernel_rfl)) (by decide) (fun K hK => ?_)
  refine goes_ Try.func30 (by kernel_rfl) rfl #[.agg #[.int .i64 a0_0, .int .i64 a0_1, .int .i64 a0_2]] (by rfl) rfl rfl (by (try simp only [List.map_toArray, List.map_cons, List.map_nil]); first | done | rfl | (simp only [List.length_drop, List.length_take]; rfl)) ?_
  refine (toGrid_calls a0_0 a0_1 a0_2  w8 ).mono ?_
  rintro e w9 ⟨rfl, hb⟩
  refine ⟨_, rfl, ?_⟩
  have B9 := Aside0.mk (below_step B8.out hb)
  have z9 := hb.size
  have K0_9 := Aside0.mk (blk_below K0_6bd.out hb)
  clear K0_6bd
  have K1_9 := Aside0.mk (blk_below K1_6bd.out hb)
  clear K1_6bd
  have K2_9 := Aside0.mk (blk_below Kx1_7d.out hb)
  clear Kx1_7d
  have Fx1_0_9 := Aside0.mk (Kd.R_below Fx1_0_6bd.out hb)
  clear Fx1_0_6bd
  have Fx1_1_9 := Aside0.mk (Kd.S_below Fx1_1_6bd.out hb)
  clear Fx1_1_6bd
  clear hb
  refine hK.out _ _ ⟨(blk_cell K0_9.out 0).trans rfl, (blk_cell K0_9.out 1).trans rfl, (blk_cell K0_9.out 2).trans rfl, (blk_cell K1_9.out 0).trans rfl, (blk_cell K1_9.out 1).trans rfl, (blk_cell K2_9.out 0).trans rfl, (blk_cell K2_9.out 1).trans rfl⟩ (fun hHeld => ?_)
  clear hK K
  refine norm_ (a' := ?_) ?_ ?_
  rotate_left
  · show Act.put _ (some 28) _ = _
    simp only [Act.put, List.setIfInBounds_toArray, List.set_cons_zero, List.set_cons_succ, i64_w, i32_w]
    rfl
  refine one_ (i := 3) (N := some 30) #[true, true, true, true, false, false, false, false, false] rfl rfl (one_of HT_.out (by kernel_rfl)) (by decide) (fun K hK => ?_)
  refine goes_ Try.func38 (by kernel_rfl) rfl #[.agg #[.int .i64 a0_0, .int .i64 a0_1, .int .i64 a0_2], .agg #[.slice Ax1_0_6 a1_0.length cx1_0_6, .slice Ax1_1_6 ta1_1.length cx1_1_6]] (by rfl) rfl rfl (by (try simp only [List.map_toArray, List.map_cons, List.map_nil]); first | done | rfl | (simp only [List.length_drop, List.length_take]; rfl)) ?_
  refine (impl_AreSlopes.calls ki a0_0 a0_1 a0_2 Ax1_0_6 cx1_0_6 a1_0 Ax1_1_6 cx1_1_6 ta1_1 g0 g1 w9 (readsR Fx1_0_9.out).2.2 (readsR Fx1_0_9.out).2.1 (readsS Fx1_1_9.out).2.2 (readsS Fx1_1_9.out).2.1 Hi.out).mono ?_
  rintro e w10 ⟨rfl, hb⟩
  refine ⟨_, rfl, ?_⟩
  have B10 := Aside0.mk (below_step B9.out hb)
  have z10 := hb.size
  have K0_10 := Aside0.mk (blk_below K0_9.out hb)
  clear K0_9
  have K1_10 := Aside0.mk (blk_below K1_9.out hb)
  clear K1_9
  have K2_10 := Aside0.mk (blk_below K2_9.out hb)
  clear K2_9
  have Fx1_0_10 := Aside0.mk (Kd.R_below Fx1_0_9.out hb)
  clear Fx1_0_9
  have Fx1_1_10 := Aside0.mk (Kd.S_below Fx1_1_9.out hb)
  clear Fx1_1_9
  clear hb
  refine hK.out _ _ ⟨(blk_cell K0_10.out 0).trans rfl, (blk_cell K0_10.out 1).trans rfl, (blk_cell K0_10.out 2).trans rfl, (blk_cell K1_10.out 0).trans rfl, (blk_cell K1_10.out 1).trans rfl, (blk_cell K2_10.out 0).trans rfl, (blk_cell K2_10.out 1).trans rfl⟩ (fun hHeld => ?_)
  clear hK K
  refine norm_ (a' := ?_) ?_ ?_
  rotate_left
  · show Act.put _ (some 30) _ = _
    simp only [Act.put, List.setIfInBounds_toArray, List.set_cons_zero, List.set_cons_succ, i64_w, i32_w]
    rfl
  refine pure_ (i := 4) (N := some 26) (v := ?_) (a' := ?_) #[true, true, true, true, true, false, false, false, false] rfl rfl (any_of HT_.out (by kernel_rfl)) (fun _ _ _ h => h) (Or.inl ⟨by rfl, ?_⟩) ?_ ?_
  rotate_left
  · intro w'
    go_simp
    with_reducible rfl
  rotate_left
  · simp only [Act.put, List.setIfInBounds_toArray, List.set_cons_zero, List.set_cons_succ, i64_w, i32_w]
    rfl
  refine pure_ (i := 5) (N := some 31) (v := ?_) (a' := ?_) #[true, true, true, true, true, true, false, false, false] rfl rfl (any_of HT_.out (by kernel_rfl)) (fun _ _ _ h => h) (Or.inl ⟨by rfl, ?_⟩) ?_ ?_
  rotate_left
  · intro w'
    go_simp
    with_reducible rfl
  rotate_left
  · simp only [Act.put, List.setIfInBounds_toArray, List.set_cons_zero, List.set_cons_succ, i64_w, i32_w]
    rfl
  refine pure_ (i := 6) (N := some 32) (v := ?_) (a' := ?_) #[true, true, true, true, true, true, true, false, false] rfl rfl (any_of HT_.out (by kernel_rfl)) (fun _ _ _ h => h) (Or.inl ⟨by rfl, ?_⟩) ?_ ?_
  rotate_left
  · intro w'
    go_simp
    with_reducible rfl
  rotate_left
  · simp only [Act.put, List.setIfInBounds_toArray, List.set_cons_zero, List.set_cons_succ, i64_w, i32_w]
    rfl
  refine pure_ (i := 7) (N := some 9) (v := ?_) (a' := ?_) #[true, true, true, true, true, true, true, true, false] rfl rfl (any_of HT_.out (by kernel_rfl)) (fun _ _ _ h => h) (Or.inl ⟨by rfl, ?_⟩) ?_ ?_
  rotate_left
  · intro w'
    go_simp
    with_reducible rfl
  rotate_left
  · simp only [Act.put, List.setIfInBounds_toArray, List.set_cons_zero, List.set_cons_succ, i64_w, i32_w]
    rfl
  refine pure_ (i := 8) (N := some 10) (v := ?_) (a' := ?_) #[true, true, true, true, true, true, true, true, true] rfl rfl (any_of HT_.out (by kernel_rfl)) (fun _ _ _ h => h) (Or.inl ⟨by rfl, ?_⟩) ?_ ?_
  rotate_left
  · intro w'
    go_simp
    with_reducible rfl
  rotate_left
  · simp only [Act.put, List.setIfInBounds_toArray, List.set_cons_zero, List.set_cons_succ, i64_w, i32_w]
    rfl
  refine done_ (done_of HT_.out (by kernel_rfl)) ?_
  clear HT_ HW_
  have hcz0_0 : w10.cell? ⟨w.heap.size, 0, none⟩ = some (.int .i64 a0_0) := (blk_cell K0_10.out 0).trans rfl
  have hfz0_0 := blk_frozen K0_10.out 0
  have hcz0_1 : w10.cell? ⟨w.heap.size, 1, none⟩ = some (.int .i64 a0_1) := (blk_cell K0_10.out 1).trans rfl
  have hfz0_1 := blk_frozen K0_10.out 1
  have hcz0_2 : w10.cell? ⟨w.heap.size, 2, none⟩ = some (.int .i64 a0_2) := (blk_cell K0_10.out 2).trans rfl
  have hfz0_2 := blk_frozen K0_10.out 2
  have hcz1_0 : w10.cell? ⟨w.heap.size + 1, 0, none⟩ = some (.slice Aa1_0 a1_0.length ca1_0) := (blk_cell K1_10.out 0).trans rfl
  have hfz1_0 := blk_frozen K1_10.out 0
  have hcz1_1 : w10.cell? ⟨w.heap.size + 1, 1, none⟩ = some (.slice Aa1_1 a1_1.length ca1_1) := (blk_cell K1_10.out 1).trans rfl
  have hfz1_1 := blk_frozen K1_10.out 1
  have hcz2_0 : w10.cell? ⟨w6.heap.size, 0, none⟩ = some (.slice Ax1_0_6 a1_0.length cx1_0_6) := (blk_cell K2_10.out 0).trans rfl
  have hfz2_0 := blk_frozen K2_10.out 0
  have hcz2_1 : w10.cell? ⟨w6.heap.size, 1, none⟩ = some (.slice Ax1_1_6 ta1_1.length cx1_1_6) := (blk_cell K2_10.out 1).trans rfl
  have hfz2_1 := blk_frozen K2_10.out 1
  go_wp2_with fail
  clear hcz0_0 hfz0_0 hcz0_1 hfz0_1 hcz0_2 hfz0_2 hcz1_0 hfz1_0 hcz1_1 hfz1_1 hcz2_0 hfz2_0 hcz2_1 hfz2_1
  have Fx1_0_10d := Aside0.mk (Kd.R_drew Fx1_0_10.out)
  clear Fx1_0_10
  have Fx1_1_10d := Aside0.mk (Kd.S_drew Fx1_1_10.out)
  clear Fx1_1_10
  have K0_10d := Aside0.mk (blk_drew K0_10.out)
  clear K0_10
  have K1_10d := Aside0.mk (blk_drew K1_10.out)
  clear K1_10
  have K2_10d := Aside0.mk (blk_drew K2_10.out)
  clear K2_10
  have B11 := Aside0.mk (below_drew1 B10.out)
  have z11 : w10.heap.size ≤ (w10.drew).heap.size := Nat.le_refl _
  refine start_ (n := 5) (S := fun w' => w'.cell? ⟨w.heap.size, 0, none⟩ = some (.int .i64 a0_0) ∧ w'.cell? ⟨w.heap.size, 1, none⟩ = some (.int .i64 a0_1) ∧ w'.cell? ⟨w.heap.size, 2, none⟩ = some (.int .i64 a0_2) ∧ w'.cell? ⟨w.heap.size + 1, 0, none⟩ = some (.slice Aa1_0 a1_0.length ca1_0) ∧ w'.cell? ⟨w.heap.size + 1, 1, none⟩ = some (.slice Aa1_1 a1_1.length ca1_1) ∧ w'.cell? ⟨w6.heap.size, 0, none⟩ = some (.slice Ax1_0_6 a1_0.length cx1_0_6) ∧ w'.cell? ⟨w6.heap.size, 1, none⟩ = some (.slice Ax1_1_6 ta1_1.length cx1_1_6)) (ds := []) #[false, false, false, false, false] (by kernel_rfl) rfl rfl ⟨(blk_cell K0_10d.out 0).trans rfl, (blk_cell K0_10d.out 1).trans rfl, (blk_cell K0_10d.out 2).trans rfl, (blk_cell K1_10d.out 0).trans rfl, (blk_cell K1_10d.out 1).trans rfl, (blk_cell K2_10d.out 0).trans rfl, (blk_cell K2_10d.out 1).trans rfl⟩ (fun hHeld => ?_)
  refine with_tabW laws_FnExactAreSlopes_tab10 laws_FnExactAreSlopes_bits10 (fun HT_ HW_ => ?_)
  generalize w10.drew = w11 at Fx1_0_10d Fx1_1_10d K0_10d K1_10d K2_10d B11 z11 hHeld ⊢
  refine take_ (i := 0) (N := some 41) (v := ?_) (a' := ?_) #[true, false, false, false, false] rfl rfl (take_ofW HT_.out HW_.out (by kernel_rfl)) (fun _ _ _ h => h) (Or.inl ⟨by rfl, ?_⟩) hHeld ?_ ?_
  rotate_left
  · rintro w' ⟨s0, s1, s2, s3, s4, s5, s6⟩
    go_simp
    with_reducible rfl
  rotate_left
  · simp only [Act.put, List.setIfInBounds_toArray, List.set_cons_zero, List.set_cons_succ, i64_w, i32_w]
    rfl
  refine take_ (i := 1) (N := some 42) (v := ?_) (a' := ?_) #[true, true, false, false, false] rfl rfl (take_ofW HT_.out HW_.out (by kernel_rfl)) (fun _ _ _ h => h) (Or.inl ⟨by rfl, ?_⟩) hHeld ?_ ?_
  rotate_left
  · rintro w' ⟨s0, s1, s2, s3, s4, s5, s6⟩
    go_simp
    with_reducible rfl
  rotate_left
  · simp only [Act.put, List.setIfInBounds_toArray, List.set_cons_zero, List.set_cons_succ, i64_w, i32_w]
    rfl
  refine one_ (i := 2) (N := some 43) #[true, true, true, false, false] rfl rfl (one_of HT_.out (by kernel_rfl)) (by decide) (fun K hK => ?_)
  refine goes_ Try.func37 (by kernel_rfl) rfl #[.agg #[.slice Aa1_0 a1_0.length ca1_0, .slice Aa1_1 a1_1.length ca1_1]] (by rfl) rfl rfl (by (try simp only [List.map_toArray, List.map_cons, List.map_nil]); first | done | rfl | (simp only [List.length_drop, List.length_take]; rfl)) ?_
  refine (toSlopes_calls a1_0 HLa1_0.out a1_1 ta1_1 HTa1_1.out HLta1_1.out HBta1_1.out Aa1_0 ca1_0 Aa1_1 ca1_1 w11 (Kd.C_below HRa1_0.out B11.out) HCa1_0.out (Kd.C_below HRa1_1.out B11.out) HCa1_1.out).mono ?_
  rintro e w12 ⟨v0, v1, rfl, ho0, ho1, hne, hb⟩
  refine ⟨_, rfl, ?_⟩
  have B12 := Aside0.mk (below_step B11.out hb)
  have z12 := hb.size
  obtain ⟨Au_0_12, cu_0_12, rfl⟩ := Kd.R_slice ho0
  have Fu_0_12 := Aside0.mk (ivR (w := w) ho0 (by omega))
  clear ho0
  obtain ⟨Au_1_12, cu_1_12, rfl⟩ := Kd.S_slice ho1
  have Fu_1_12 := Aside0.mk (ivS (w := w) ho1 (by omega))
  clear ho1
  have Du := Aside0.mk hne
  clear hne
  have K0_12 := Aside0.mk (blk_below K0_10d.out hb)
  clear K0_10d
  have K1_12 := Aside0.mk (blk_below K1_10d.out hb)
  clear K1_10d
  have K2_12 := Aside0.mk (blk_below K2_10d.out hb)
  clear K2_10d
  have Fx1_0_12 := Aside0.mk (Kd.R_below Fx1_0_10d.out hb)
  clear Fx1_0_10d
  have Fx1_1_12 := Aside0.mk (Kd.S_below Fx1_1_10d.out hb)
  clear Fx1_1_10d
  clear hb
  refine hK.out _ _ ⟨(blk_cell K0_12.out 0).trans rfl, (blk_cell K0_12.out 1).trans rfl, (blk_cell K0_12.out 2).trans rfl, (blk_cell K1_12.out 0).trans rfl, (blk_cell K1_12.out 1).trans rfl, (blk_cell K2_12.out 0).trans rfl, (blk_cell K2_12.out 1).trans rfl⟩ (fun hHeld => ?_)
  clear hK K
  refine norm_ (a' := ?_) ?_ ?_
  rotate_left
  · show Act.put _ (some 43) _ = _
    simp only [Act.put, List.setIfInBounds_toArray, List.set_cons_zero, List.set_cons_succ, i64_w, i32_w]
    rfl
  refine one_ (i := 3) (N := some 44) #[true, true, true, true, false] rfl rfl (one_of HT_.out (by kernel_rfl)) (by decide) (fun K hK => ?_)
  refine goes_ Try.func32 (by kernel_rfl) rfl #[.agg #[.slice Ax1_0_6 a1_0.length cx1_0_6, .slice Ax1_1_6 ta1_1.length cx1_1_6], .agg #[.slice Au_0_12 a1_0.length cu_0_12, .slice Au_1_12 ta1_1.length cu_1_12]] (by rfl) rfl rfl (by (try simp only [List.map_toArray, List.map_cons, List.map_nil]); first | done | rfl | (simp only [List.length_drop, List.length_take]; rfl)) ?_
  refine (eqSlopes_calls a1_0 ta1_1 (maxLen_val (by have := HLa1_0.out; omega)) (maxLen_val (by have := HLta1_1.out; omega)) (fun x hx => maxLen_val (by have := HBta1_1.out x hx; omega)) Ax1_0_6 cx1_0_6 Ax1_1_6 cx1_1_6 Au_0_12 cu_0_12 Au_1_12 cu_1_12 w12 (readsR Fx1_0_12.out).2.2 (readsR Fx1_0_12.out).2.1 (readsS Fx1_1_12.out).2.2 (readsS Fx1_1_12.out).2.1 (readsR Fu_0_12.out).2.2 (readsR Fu_0_12.out).2.1 (readsS Fu_1_12.out).2.2 (readsS Fu_1_12.out).2.1).mono ?_
  rintro e w13 ⟨rfl, hb⟩
  refine ⟨_, rfl, ?_⟩
  have B13 := Aside0.mk (below_step B12.out hb)
  have z13 := hb.size
  have K0_13 := Aside0.mk (blk_below K0_12.out hb)
  clear K0_12
  have K1_13 := Aside0.mk (blk_below K1_12.out hb)
  clear K1_12
  have K2_13 := Aside0.mk (blk_below K2_12.out hb)
  clear K2_12
  have Fx1_0_13 := Aside0.mk (Kd.R_below Fx1_0_12.out hb)
  clear Fx1_0_12
  have Fx1_1_13 := Aside0.mk (Kd.S_below Fx1_1_12.out hb)
  clear Fx1_1_12
  have Fu_0_13 := Aside0.mk (Kd.R_below Fu_0_12.out hb)
  clear Fu_0_12
  have Fu_1_13 := Aside0.mk (Kd.S_below Fu_1_12.out hb)
  clear Fu_1_12
  clear hb
  refine hK.out _ _ ⟨(blk_cell K0_13.out 0).trans rfl, (blk_cell K0_13.out 1).trans rfl, (blk_cell K0_13.out 2).trans rfl, (blk_cell K1_13.out 0).trans rfl, (blk_cell K1_13.out 1).trans rfl, (blk_cell K2_13.out 0).trans rfl, (blk_cell K2_13.out 1).trans rfl⟩ (fun hHeld => ?_)
  clear hK K
  refine norm_ (a' := ?_) ?_ ?_
  rotate_left
  · show Act.put _ (some 44) _ = _
    simp only [Act.put, List.setIfInBounds_toArray, List.set_cons_zero, List.set_cons_succ, i64_w, i32_w]
    rfl
  refine pure_ (i := 4) (N := some 45) (v := ?_) (a' := ?_) #[true, true, true, true, true] rfl rfl (any_of HT_.out (by kernel_rfl)) (fun _ _ _ h => h) (Or.inl ⟨by rfl, ?_⟩) ?_ ?_
  rotate_left
  · intro w'
    go_simp
    with_reducible rfl
  rotate_left
  · simp only [Act.put, List.setIfInBounds_toArray, List.set_cons_zero, List.set_cons_succ, i64_w, i32_w]
    rfl
  refine done_ (done_of HT_.out (by kernel_rfl)) ?_
  clear HT_ HW_
  have hcz0_0 : w13.cell? ⟨w.heap.size, 0, none⟩ = some (.int .i64 a0_0) := (blk_cell K0_13.out 0).trans rfl
  have hfz0_0 := blk_frozen K0_13.out 0
  have hcz0_1 : w13.cell? ⟨w.heap.size, 1, none⟩ = some (.int .i64 a0_1) := (blk_cell K0_13.out 1).trans rfl
  have hfz0_1 := blk_frozen K0_13.out 1
  have hcz0_2 : w13.cell? ⟨w.heap.size, 2, none⟩ = some (.int .i64 a0_2) := (blk_cell K0_13.out 2).trans rfl
  have hfz0_2 := blk_frozen K0_13.out 2
  have hcz1_0 : w13.cell? ⟨w.heap.size + 1, 0, none⟩ = some (.slice Aa1_0 a1_0.length ca1_0) := (blk_cell K1_13.out 0).trans rfl
  have hfz1_0 := blk_frozen K1_13.out 0
  have hcz1_1 : w13.cell? ⟨w.heap.size + 1, 1, none⟩ = some (.slice Aa1_1 a1_1.length ca1_1) := (blk_cell K1_13.out 1).trans rfl
  have hfz1_1 := blk_frozen K1_13.out 1
  have hcz2_0 : w13.cell? ⟨w6.heap.size, 0, none⟩ = some (.slice Ax1_0_6 a1_0.length cx1_0_6) := (blk_cell K2_13.out 0).trans rfl
  have hfz2_0 := blk_frozen K2_13.out 0
  have hcz2_1 : w13.cell? ⟨w6.heap.size, 1, none⟩ = some (.slice Ax1_1_6 ta1_1.length cx1_1_6) := (blk_cell K2_13.out 1).trans rfl
  have hfz2_1 := blk_frozen K2_13.out 1
  go_wp2_with fail
  clear hcz0_0 hfz0_0 hcz0_1 hfz0_1 hcz0_2 hfz0_2 hcz1_0 hfz1_0 hcz1_1 hfz1_1 hcz2_0 hfz2_0 hcz2_1 hfz2_1
  go_ret
  exact ⟨rfl, B13.out⟩
set_option maxRecDepth 100000 in
theorem walk_neg0 (a0_0 : Int) (a0_1 : Int) (a0_2 : Int) (a1_0 : List Int) (a1_1 : List (List S205)) (Aa1_0 : Option Addr) (ca1_0 : Nat) (Aa1_1 : Option Addr) (ca1_1 : Nat) (w : World) (hra1_0 : Kd.C (Kd.int .i64) w Aa1_0 a1_0.length a1_0) (hca1_0 : a1_0.length ≤ ca1_0) (hra1_1 : Kd.C kOS' w Aa1_1 a1_1.length a1_1) (hca1_1 : a1_1.length ≤ ca1_1)  (r0 : Int) (hsz0 : ∀ (Aa1_0 : Option Addr) (ca1_0 : Nat) (Aa1_1 : Option Addr) (ca1_1 : Nat) (w : World), Kd.C (Kd.int .i64) w Aa1_0 a1_0.length a1_0 → a1_0.length ≤ ca1_0 → Kd.C kOS' w Aa1_1 a1_1.length a1_1 → a1_1.length ≤ ca1_1 → Calls Try.prog 35 #[.agg #[.slice Aa1_0 a1_0.length ca1_0, .slice Aa1_1 a1_1.length ca1_1], .int .i64 1048576] w fun e w' => e = .returned (.int .i64 r0) ∧ Below w.heap.size w w') (hlt0 : r0 < 0) : Calls Try.prog 7 #[.agg #[.int .i64 a0_0, .int .i64 a0_1, .int .i64 a0_2], .agg #[.slice Aa1_0 a1_0.length ca1_0, .slice Aa1_1 a1_1.length ca1_1]] w fun e w' => e = .returned (.bool true) ∧ Below w.heap.size w w' := by
  have HRa1_0 := Aside0.mk hra1_0
  have HRa1_1 := Aside0.mk hra1_1
  have HCa1_0 := Aside0.mk hca1_0
  have HCa1_1 := Aside0.mk hca1_1
  have HSZ0 := Aside0.mk hsz0
  have d0 : decide (r0 < 0) = true := decide_eq_true hlt0
  clear hsz0 hlt0  hra1_0 hca1_0 hra1_1 hca1_1
  go_enter Try.func7, Try.ntmps7
  go_wp2_with fail
  obtain ⟨wb, hwb⟩ : ∃ z : World, z = ((w.alloc (.cells #[.int .i64 a0_0, .int .i64 a0_1, .int .i64 a0_2] 23)).alloc (.cells #[.slice Aa1_0 a1_0.length ca1_0, .slice Aa1_1 a1_1.length ca1_1] 61)) := ⟨_, rfl⟩
  rw [← hwb]
  have K0_0 : Aside0 (wb.heap[w.heap.size]? = some (.cells #[.int .i64 a0_0, .int .i64 a0_1, .int .i64 a0_2] 23 (0, 0))) := ⟨by rw [hwb]; exact blk_alloc (blk_new w _) _⟩
  have K1_0 : Aside0 (wb.heap[w.heap.size + 1]? = some (.cells #[.slice Aa1_0 a1_0.length ca1_0, .slice Aa1_1 a1_1.length ca1_1] 61 (0, 0))) := ⟨by rw [hwb, show w.heap.size + 1 = (w.alloc (.cells #[.int .i64 a0_0, .int .i64 a0_1, .int .i64 a0_2] 23)).heap.size from (Array.size_push ..).symm]; exact blk_new (w.alloc (.cells #[.int .i64 a0_0, .int .i64 a0_1, .int .i64 a0_2] 23)) _⟩
  have B0 : Aside0 (Below w.heap.size w wb) := ⟨by rw [hwb]; exact below_alloc (below_alloc (Below.refl _ _) _) _⟩
  have z0 := B0.out.size
  have zb := blk_lt K1_0.out
  clear hwb
  refine (HSZ0.out Aa1_0 ca1_0 Aa1_1 ca1_1 wb (Kd.C_below HRa1_0.out B0.out) HCa1_0.out (Kd.C_below HRa1_1.out B0.out) HCa1_1.out).mono ?_
  rintro e w1 ⟨rfl, hb⟩
  have B1 := Aside0.mk (below_step B0.out hb)
  have K0_0n := Aside0.mk (blk_below K0_0.out hb)
  have K1_0n := Aside0.mk (blk_below K1_0.out hb)
  clear hb
  have hcz0_0 : w1.cell? ⟨w.heap.size, 0, none⟩ = some (.int .i64 a0_0) := (blk_cell K0_0n.out 0).trans rfl
  have hfz0_0 := blk_frozen K0_0n.out 0
  have hcz0_1 : w1.cell? ⟨w.heap.size, 1, none⟩ = some (.int .i64 a0_1) := (blk_cell K0_0n.out 1).trans rfl
  have hfz0_1 := blk_frozen K0_0n.out 1
  have hcz0_2 : w1.cell? ⟨w.heap.size, 2, none⟩ = some (.int .i64 a0_2) := (blk_cell K0_0n.out 2).trans rfl
  have hfz0_2 := blk_frozen K0_0n.out 2
  have hcz1_0 : w1.cell? ⟨w.heap.size + 1, 0, none⟩ = some (.slice Aa1_0 a1_0.length ca1_0) := (blk_cell K1_0n.out 0).trans rfl
  have hfz1_0 := blk_frozen K1_0n.out 0
  have hcz1_1 : w1.cell? ⟨w.heap.size + 1, 1, none⟩ = some (.slice Aa1_1 a1_1.length ca1_1) := (blk_cell K1_0n.out 1).trans rfl
  have hfz1_1 := blk_frozen K1_0n.out 1
  go_wp2_with fail
  go_ret
  exact ⟨rfl, B1.out⟩
theorem law (a0_0 : Int) (a0_1 : Int) (a0_2 : Int) (a1_0 : List Int) (a1_1 : List (List S205)) (ga0_0 : (Lit.int .i64 a0_0).wf = true) (ga0_1 : (Lit.int .i64 a0_1).wf = true) (ga0_2 : (Lit.int .i64 a0_2).wf = true) (ha1_0 : a1_0.length ≤ maxLen) (ga1_0 : ∀ x ∈ a1_0, (Lit.int .i64 x).wf = true) (ha1_1 : a1_1.length ≤ maxLen) (ga1_1 : ∀ x ∈ a1_1, x.length ≤ maxLen) (Aa1_0 : Option Addr) (ca1_0 : Nat) (Aa1_1 : Option Addr) (ca1_1 : Nat) (w : World) (hra1_0 : Kd.C (Kd.int .i64) w Aa1_0 a1_0.length a1_0) (hca1_0 : a1_0.length ≤ ca1_0) (hra1_1 : Kd.C kOS' w Aa1_1 a1_1.length a1_1) (hca1_1 : a1_1.length ≤ ca1_1) : Calls Try.prog 7 #[.agg #[.int .i64 a0_0, .int .i64 a0_1, .int .i64 a0_2], .agg #[.slice Aa1_0 a1_0.length ca1_0, .slice Aa1_1 a1_1.length ca1_1]] w fun e w' => e = .returned (.bool true) ∧ Below w.heap.size w w' := by
  obtain ⟨r0, hz0, hsz0⟩ := szSlopes_calls a1_0 a1_1 ha1_0 ha1_1 (fun x hx => (ga1_1 x hx)) 1048576 (by omega)
  by_cases hlt0 : r0 < 0
  · exact walk_neg0 a0_0 a0_1 a0_2 a1_0 a1_1 Aa1_0 ca1_0 Aa1_1 ca1_1 w hra1_0 hca1_0 hra1_1 hca1_1  r0 hsz0 hlt0
  obtain ⟨hq0, l1a1_0, l1a1_1, l2a1_1⟩ := hz0 (by omega)
  obtain ⟨⟨g0, g1⟩, hs, hi⟩ := both a0_0 a0_1 a0_2 a1_0 (a1_1.map cOS) (wf64 ga0_0) (wf64 ga0_1) (wf64 ga0_2) l1a1_0 (by rw [List.length_map]; exact l1a1_1) (map_len l2a1_1)
  exact walk a0_0 a0_1 a0_2 a1_0 a1_1 Aa1_0 ca1_0 Aa1_1 ca1_1 w hra1_0 hca1_0 hra1_1 hca1_1 r0 hsz0 hlt0 (a1_1.map cOS) rfl g0 g1 l1a1_0 (by rw [List.length_map]; exact l1a1_1) (map_len l2a1_1)  hs.rounds hi.rounds
end Go.Proofs.Ytomfjhpiemipkaa.WalkFnExactAreSlopes
