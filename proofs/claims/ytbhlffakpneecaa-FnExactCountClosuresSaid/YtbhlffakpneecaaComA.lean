/- Contracts of the laws' own helpers over lists and lists of lists, by hand or over a printed one: copies, comparisons; and rows told by the interval of blocks that they were made in. -/
import Derived.Test.YtbhlffakpneecaaBase
import Derived.Test.YtbhlffakpneecaaMarks
import Derived.Test.YtbhlffakpneecaaFold
import Derived.Test.YtbhlffakpneecaaPFnExactCountClosuresx2
import Derived.Test.YtbhlffakpneecaaPFnExactCountClosuresx7
import Derived.Test.YtbhlffakpneecaaPFnExactCountClosuresx12
import Derived.Test.YtbhlffakpneecaaPFnExactCountClosuresx13
namespace Go.Proofs.Ytbhlffakpneecaa.Com
open Go.RowKit Go.Proofs.Ytbhlffakpneecaa.PFnExactCountClosures Go.Proofs.YtbhlffakpneecaaW.PrintWords Go.Proofs.YtbhlffakpneecaaW.PrintLast Go.Proofs.YtbhlffakpneecaaW.PrintMore Go.Proofs.Ytbhlffakpneecaa.B
set_option linter.unusedVariables false
set_option linter.unusedSimpArgs false
theorem toIntS_l0 (l : List Int) (hl : l.length ≤ 35184372088832) : ∀ (d i : Nat) (m : List Int), i + d = l.length → m.length = l.length → (∀ j, j < i → m.getD j 0 = l.getD j 0) → Ev (fun k => laws_toIntS.l0 k l m (i : Int)) l := by
  intro d
  induction d with
  | zero =>
    intro i m hi hm he
    refine Ev.step (fun k => laws_toIntS.l0.eq_2 l m i k) ?_
    refine ev_neg (by omega) (ev_some ?_)
    refine List.ext_getElem hm (fun j h1 h2 => ?_)
    have := he j (by omega)
    simpa [List.getD_eq_getElem?_getD, h1, h2] using this
  | succ d ih =>
    intro i m hi hm he
    refine Ev.step (fun k => laws_toIntS.l0.eq_2 l m i k) ?_
    refine ev_pos (by omega) (ev_pos (by omega) (ev_pos (by omega) ?_))
    rw [w_succ (n := l.length) (by omega) (by omega), toNat_nat, rd_nat]
    refine ih (i + 1) _ (by omega) (by simpa using hm) (fun j hj => ?_)
    by_cases hji : j = i
    · subst hji
      simp [List.getD_eq_getElem?_getD, show j < m.length by omega]
    · rw [← he j (by omega)]
      simp [List.getD_eq_getElem?_getD, List.getElem?_set_ne (Ne.symm hji)]
theorem toIntS_ev (l : List Int) (hl : l.length ≤ 35184372088832) : Ev (fun k => laws_toIntS.f k l) l := by
  unfold laws_toIntS.f
  refine ev_pos (by omega) (ev_pos (by omega) ?_)
  exact toIntS_l0 l hl l.length 0 _ (by omega) (by simp) (fun j hj => by omega)
theorem toIntS_calls (l : List Int) (hl : l.length ≤ 35184372088832) (A : Option Addr) (c : Nat) (w : World) (hr : Kd.C (Kd.int .i64) w A l.length l) (hc : l.length ≤ c) :
    Calls Try.prog 48 #[.slice A l.length c] w fun e w' => ∃ v : Value, e = .returned v ∧ Kd.R (Kd.int .i64) 3 w' w.heap.size (fun _ => True) v l ∧ Below w.heap.size w w' := by
  obtain ⟨k, hk⟩ := (toIntS_ev l hl).rounds
  exact laws_toIntS.calls k A c l l w hr hc hk
theorem infoSS : (Try.prog.info? 33).map (fun i => (i.zero, i.size, i.bytes)) = some (some (.slice none 0 0), 1, 24) := by kernel_rfl
abbrev kSS : Kd (List Int) := Kd.slice 3 (Kd.int .i64)
def rdSS (xs : List (List Int)) (i : Int) : List Int := xs.getD i.toNat []
theorem at_SS {w : World} {A : Option Addr} {n : Nat} {xs : List (List Int)} (h : Kd.C kSS w A n xs) (i : Int) (h0 : 0 ≤ i) (h1 : i < n) : ∃ ad A0 c0, A = some ad ∧ w.cell? (ad.add i.toNat) = some (.slice A0 (rdSS xs i).length c0) ∧ (rdSS xs i).length ≤ c0 ∧ (Kd.int .i64).C w A0 (rdSS xs i).length (rdSS xs i) := by
  obtain ⟨ad, c, e, _, hK, hc0⟩ := Kd.C_get h ([] : List Int) i h0 h1
  have hc : ∀ j u, c[j]? = some u → w.cell? (ad.add (i.toNat * 1 + j)) = some u := hc0
  obtain ⟨A0, c0, rfl, l0, g0⟩ := hK
  exact ⟨ad, A0, c0, e, by have hq := hc 0 _ rfl; rwa [Nat.mul_one, Nat.add_zero] at hq, l0, g0⟩
theorem hb_size {w w1 : World} (h : Below w.heap.size w w1) : w.heap.size ≤ w1.heap.size := h.size
/-- What is there behind i rounds. -/
def part (l : List (List Int)) (i : Nat) : List (List Int) := l.take i ++ List.replicate (l.length - i) []
theorem part_len (l : List (List Int)) (i : Nat) (h : i ≤ l.length) : (part l i).length = l.length := by
  unfold part; rw [List.length_append, List.length_take, List.length_replicate]; omega
theorem part_all (l : List (List Int)) : part l l.length = l := by
  unfold part; rw [List.take_length, Nat.sub_self]; simp
theorem part_set (l : List (List Int)) (i : Nat) (h : i < l.length) : (part l i).set i (l.getD i []) = part l (i + 1) := by
  unfold part
  rw [List.set_append_right _ _ (by rw [List.length_take]; omega), List.length_take, Nat.min_eq_left (by omega), Nat.sub_self, show l.length - i = (l.length - (i + 1)) + 1 by omega, List.replicate_succ, List.set_cons_zero,
    List.take_succ_eq_append_getElem h, List.append_assoc]
  simp [List.getD_eq_getElem?_getD, h]
/-- An inner row that was made behind the outer one is laid into it. -/
theorem lay_row {w1 : World} {B : Nat} {g n cap : Nat} {xs : List (List Int)} {v : Value} {x : List Int} {W : World} (hS : Kd.S kSS 33 w1 B (fun k => k < W.heap.size) (.slice (some ⟨g, 0, none⟩) n cap) xs) (hR : Kd.R (Kd.int .i64) 3 w1 W.heap.size (fun _ => True) v x)
    (hB : B ≤ W.heap.size) (i : Int) (h0 : 0 ≤ i) (h1 : i < n) :
    (∃ old, w1.cell? ⟨g, i.toNat, none⟩ = some old) ∧ w1.frozen? ⟨g, i.toNat, none⟩ = false ∧ Kd.S kSS 33 (w1.setCell ⟨g, i.toNat, none⟩ v) B (fun _ => True) (.slice (some ⟨g, 0, none⟩) n cap) (xs.set i.toNat x) := by
  have hT := Kd.R_mono (Kd.R_tight rfl hR) (ok' := fun k => some k = v.ownBlock) (fun _ h => h)
  have hbase := Kd.R_base hR
  have hX : Kd.S kSS 33 w1 B (fun k => (fun _ => True) k ∧ ¬ (fun k => some k = v.ownBlock) k) (.slice (some ⟨g, 0, none⟩) n cap) xs :=
    Kd.S_mono hS (fun k hk => ⟨trivial, fun e => by have := hbase k e.symm; omega⟩)
  obtain ⟨oki, ce, hcl, hM, hcc, hfr, hoki, hH⟩ := Kd.S_elem hX [] i h0 h1
  have hn := (Kd.S_reads' hS).1
  have hval := Kd.R_val hR
  have hgo : g < W.heap.size := by
    have := hS
    obtain ⟨f, h0', _⟩ := this
    exact h0' g (by simp [Value.ownBlock])
  obtain ⟨ve, rfl, ge⟩ := hM
  have hP := Kd.S_seg hH h0 h1 (seg := [v]) (j := 0) (show 1 ≤ 1 from by decide) (x' := x)
    (Kd.M_row (Kd.R_mono (Kd.R_lower hT hB) (fun k h => Or.inr h))) (fun _ hk => hk) (fun k hk => ⟨trivial, fun e => by have := hbase k hk.symm; omega⟩)
  have hcc0 := hcc 0 _ rfl
  have hfr0 := hfr 0
  simp only [show kSS.sz = 1 from rfl, Nat.mul_one, Nat.add_zero] at hP hcc0 hfr0
  exact ⟨⟨_, hcc0⟩, hfr0, hP.1⟩
set_option maxHeartbeats 4000000 in
set_option maxRecDepth 100000 in
theorem toIntSS_calls (l : List (List Int)) (hl : l.length ≤ 1048576) (hb : ∀ x ∈ l, x.length ≤ 1048576) (A : Option Addr) (c : Nat) (w : World) (hr : Kd.C kSS w A l.length l) (hc : l.length ≤ c) :
    Calls Try.prog 8 #[.slice A l.length c] w fun e w' => ∃ v : Value, e = .returned v ∧ Kd.S kSS 33 w' w.heap.size (fun _ => True) v l ∧ Below w.heap.size w w' := by
  have HR := Aside0.mk hr
  have HL := Aside0.mk hl
  have HE := Aside0.mk hb
  clear hr hb
  have c0 : decide (0 ≤ (l.length : Int)) = true := decide_eq_true (by omega)
  have c1 : (l.length : Int).toNat * 24 ≤ 281474976710656 := by rw [Int.toNat_natCast]; omega
  have C1 := Aside0.mk c1
  clear c1 hl hc
  go_enter Try.func8, Try.ntmps8
  go_wp2_with (first | ((with_reducible refine gate_dst (N := 7) rfl ?_); refine Kd.S_make kSS _ 33 rfl (N := 7) rfl 22 _ _ rfl (l.length : Int) rfl rfl Try.underlying22 (.slice none 0 0) 24 infoSS rfl (by decide) (by omega) [] (ok := fun _ => True) (okp := fun _ => True) ⟨_, rfl, Kd.R_nil _ _ _ _ _⟩ (fun _ hk => hk) trivial (by omega) C1.out (Below.refl _ _) (Nat.le_refl _) ?_; intro v1 w1 ho hb hg_ hnew_; clear hg_ hnew_; have HO := Aside0.mk ho; have HB := Aside0.mk hb; clear ho hb))
  have HO0 : Aside0 (Kd.S kSS 33 w1 w.heap.size (fun _ => True) v1 (part l (0 : Int).toNat)) := ⟨by have h := HO.out; rw [Int.toNat_natCast] at h; exact h⟩
  clear HO
  go_loopg [4] (l.length) (fun d v4 wr => ∃ i : Int, v4 = .int .i64 i ∧ Aside0 (0 ≤ i ∧ i + d = l.length) ∧ Aside0 (Kd.S kSS 33 wr w.heap.size (fun _ => True) v1 (part l i.toNat)) ∧ Aside0 (Below w.heap.size w wr))
  case atStart => exact ⟨0, rfl, ⟨by omega⟩, HO0, HB⟩
  case round =>
    clear HO0 HB
    obtain ⟨i, rfl, HI, HS, HB⟩ := hrel
    have h0 := HI.out.1
    cases gk with
    | zero =>
      have hd : decide (i < (l.length : Int)) = false := decide_eq_false (by have := HI.out.2; omega)
      have hi : i = (l.length : Int) := by have := HI.out.2; omega
      have HE2 : Aside0 (Kd.S kSS 33 wr w.heap.size (fun _ => True) v1 l) := ⟨by have h := HS.out; rw [hi, Int.toNat_natCast, part_all] at h; exact h⟩
      clear hi HS
      go_wp2
      go_ret
      exact ⟨v1, rfl, HE2.out, HB.out⟩
    | succ d =>
      have hlt : i < (l.length : Int) := by have := HI.out.2; omega
      have hd : decide (i < (l.length : Int)) = true := decide_eq_true hlt
      obtain ⟨ad, A0, ca, e0, hx, hle, hi0⟩ := at_SS HR.out i h0 hlt
      cases e0
      replace hx := (HB.out.cell (World.block_lt_of_cell? w _ hx)).trans hx
      have hin : 0 ≤ i ∧ i.toNat < l.length := by omega
      have HRi := Aside0.mk hi0
      have HCi := Aside0.mk hle
      clear hi0 hle
      have hlen : (rdSS l i).length ≤ 35184372088832 := by have : (l.getD i.toNat []).length ≤ 1048576 := HE.out _ (getD_mem (z := []) hin.2); unfold rdSS; omega
      have hpl : (part l i.toNat).length = l.length := part_len l i.toNat (by omega)
      obtain ⟨g, cap, eo, gb, gl, _⟩ := Kd.S_form HS.out (by omega)
      have EO := Aside0.mk eo
      have GB := Aside0.mk gb
      have hs1 := Kd.S_mono (Kd.S_bound HS.out) (ok' := fun k => k < wr.heap.size) (fun k hk => hk.2.2.1)
      have HSZ := Aside0.mk (hb_size HB.out)
      have HLEN := Aside0.mk hlen
      have HPL := Aside0.mk hpl
      have HS1 := Aside0.mk hs1
      have HIN := Aside0.mk hin
      have hq : decide (i < ((part l i.toNat).length : Int)) = true := decide_eq_true (by rw [hpl]; exact hlt)
      have H0 := Aside0.mk h0
      have HLT := Aside0.mk hlt
      have q0 := eq_true h0
      have q1 := eq_true hlt
      have q2 : (i < ((part l i.toNat).length : Int)) = True := eq_true (by rw [hpl]; exact hlt)
      clear eo hs1 HS hlen hpl hin gb gl hlt h0
      go_wp2_with fail
      refine (toIntS_calls (rdSS l i) HLEN.out A0 ca wr (Kd.C_below HRi.out HB.out) HCi.out).mono ?_
      rintro e w2 ⟨v2, rfl, ho, hb⟩
      obtain rfl := EO.out
      obtain ⟨A2, c2, rfl⟩ := Kd.R_slice ho
      obtain ⟨⟨old, hold⟩, hfr, hst⟩ := lay_row (Kd.S_below HS1.out hb) ho HSZ.out i H0.out (by have := HPL.out; have := HLT.out; omega)
      rw [show rdSS l i = l.getD i.toNat [] from rfl, part_set l i.toNat HIN.out.2] at hst
      have HB2 := Aside0.mk (below_step HB.out hb)
      have HST := Aside0.mk hst
      clear hst ho hb HB HS1
      go_wp2
      go_roundg d
      case measure => omega
      case rel =>
        have e : wrap64 (i + 1) = i + 1 := by have := HLT.out; have := HL.out; have := H0.out; rw [w64 (by omega) (by omega)]
        exact ⟨i + 1, by rw [e], ⟨by have := HI.out; omega⟩, ⟨by rw [show (i + 1).toNat = i.toNat + 1 by have := H0.out; omega]; exact HST.out⟩, ⟨below_set HB2.out (Nat.le_trans (Nat.le_of_eq rfl) GB.out)⟩⟩
theorem szIntS_tells (l : List Int) (a : Int) (hl : l.length ≤ maxLen) (ha : 0 ≤ a ∧ a ≤ 1048576) : ∃ r, laws_szIntS.f l a = some r ∧ (0 ≤ r → r = a - l.length) ∧ (r < 0 → r = -1) := by
  have hl := maxLen_le hl
  unfold laws_szIntS.f
  rw [w64 (by omega) (by omega)]
  by_cases h : a - (l.length : Int) < 0
  · exact ⟨-1, by rw [if_pos h], by omega, by omega⟩
  · exact ⟨_, by rw [if_neg h], by omega, by omega⟩
theorem szIntSS_l0 (l : List (List Int)) (hl : l.length ≤ maxLen) (hb : ∀ x ∈ l, x.length ≤ maxLen) : ∀ (d i : Nat) (a : Int), i + d = l.length → 0 ≤ a → a ≤ 1048576 → (∀ j, j < i → (l.getD j []).length ≤ 1048576) →
    ∃ r, Ev (fun k => laws_szIntSS.l0 k l a (i : Int)) r ∧ (0 ≤ r → ∀ j, j < l.length → (l.getD j []).length ≤ 1048576) := by
  have hl := maxLen_le hl
  intro d
  induction d with
  | zero =>
    intro i a hi h0 h1 he
    refine ⟨a, Ev.step (fun k => laws_szIntSS.l0.eq_2 l a i k) (ev_neg (by omega) (ev_some rfl)), fun _ j hj => he j (by omega)⟩
  | succ d ih =>
    intro i a hi h0 h1 he
    have hx : rd_L1 l (i : Int) = l.getD i [] := by unfold rd_L1; rw [toNat_nat]
    have hmem : l.getD i [] ∈ l := by
      rw [List.getD_eq_getElem?_getD, List.getElem?_eq_getElem (by omega)]; exact List.getElem_mem _
    obtain ⟨r, hr, hp, hn⟩ := szIntS_tells (l.getD i []) a (hb _ hmem) ⟨h0, h1⟩
    by_cases hlt : r < 0
    · refine ⟨-1, Ev.step (fun k => laws_szIntSS.l0.eq_2 l a i k) ?_, by omega⟩
      rw [hx]
      exact ev_pos (by omega) (ev_pos (by omega) (ev_bindc hr (ev_pos hlt (ev_some rfl))))
    · have hp := hp (by omega)
      obtain ⟨q, hq, hz⟩ := ih (i + 1) r (by omega) (by omega) (by omega) (fun j hj => by
        by_cases e : j = i
        · subst e; omega
        · exact he j (by omega))
      refine ⟨q, Ev.step (fun k => laws_szIntSS.l0.eq_2 l a i k) ?_, hz⟩
      rw [hx, w_succ (n := l.length) (by omega) (by omega)]
      exact ev_pos (by omega) (ev_pos (by omega) (ev_bindc hr (ev_neg hlt hq)))
theorem szIntSS_ev (l : List (List Int)) (hl : l.length ≤ maxLen) (hb : ∀ x ∈ l, x.length ≤ maxLen) :
    ∃ r, Ev (fun k => laws_szIntSS.f k l 1048576) r ∧ (0 ≤ r → l.length ≤ 1048576 ∧ ∀ x ∈ l, x.length ≤ 1048576) := by
  have hl' := maxLen_le hl
  unfold laws_szIntSS.f
  rw [w64 (by omega) (by omega)]
  by_cases h : 1048576 - (l.length : Int) < 0
  · exact ⟨-1, ev_pos h (ev_some rfl), by omega⟩
  · obtain ⟨r, hr, hz⟩ := szIntSS_l0 l hl hb l.length 0 (1048576 - (l.length : Int)) (by omega) (by omega) (by omega) (fun j hj => by omega)
    refine ⟨r, ev_neg h hr, fun h0 => ⟨by omega, fun x hx => ?_⟩⟩
    obtain ⟨j, hj, rfl⟩ := List.getElem_of_mem hx
    have := hz h0 j hj
    rwa [List.getD_eq_getElem?_getD, List.getElem?_eq_getElem hj] at this
theorem eqIntS_l0 (l : List Int) (hl : l.length ≤ maxLen) : ∀ (d i : Nat), i + d = l.length → Ev (fun k => laws_eqIntS.l0 k l l (i : Int)) true := by
  have hl := maxLen_le hl
  intro d
  induction d with
  | zero =>
    intro i hi
    exact Ev.step (fun k => laws_eqIntS.l0.eq_2 l l i k) (ev_neg (by omega) (ev_some rfl))
  | succ d ih =>
    intro i hi
    refine Ev.step (fun k => laws_eqIntS.l0.eq_2 l l i k) ?_
    rw [w_succ (n := l.length) (by omega) (by omega)]
    exact ev_pos (by omega) (ev_pos (by omega) (ev_pos (by omega) (ev_pos rfl (ih (i + 1) (by omega)))))
theorem eqIntS_ev (l : List Int) (hl : l.length ≤ maxLen) : Ev (fun k => laws_eqIntS.f k l l) true := by
  unfold laws_eqIntS.f
  exact ev_pos rfl (eqIntS_l0 l hl l.length 0 (by omega))
theorem eqIntSS_l0 (l : List (List Int)) (hl : l.length ≤ maxLen) (hb : ∀ x ∈ l, x.length ≤ maxLen) : ∀ (d i : Nat), i + d = l.length → Ev (fun k => laws_eqIntSS.l0 k l l (i : Int)) true := by
  have hl := maxLen_le hl
  intro d
  induction d with
  | zero =>
    intro i hi
    exact Ev.step (fun k => laws_eqIntSS.l0.eq_2 l l i k) (ev_neg (by omega) (ev_some rfl))
  | succ d ih =>
    intro i hi
    refine Ev.step (fun k => laws_eqIntSS.l0.eq_2 l l i k) ?_
    have hx : rd_L1 l (i : Int) = l.getD i [] := by unfold rd_L1; rw [toNat_nat]
    have hmem : l.getD i [] ∈ l := by
      rw [List.getD_eq_getElem?_getD, List.getElem?_eq_getElem (by omega)]; exact List.getElem_mem _
    rw [w_succ (n := l.length) (by omega) (by omega), hx]
    exact ev_pos (by omega) (ev_pos (by omega) (ev_pos (by omega) (Ev.bind (eqIntS_ev _ (hb _ hmem)) (ev_pos rfl (ih (i + 1) (by omega))))))
theorem eqIntSS_ev (l : List (List Int)) (hl : l.length ≤ maxLen) (hb : ∀ x ∈ l, x.length ≤ maxLen) : Ev (fun k => laws_eqIntSS.f k l l) true := by
  unfold laws_eqIntSS.f
  exact ev_pos rfl (eqIntSS_l0 l hl hb l.length 0 (by omega))
/-- Blocks made between two worlds. -/
def Btw (W W' : World) (k : Nat) : Prop := W.heap.size ≤ k ∧ k < W'.heap.size
theorem ivR {α : Type} {d : Kd α} {e : Nat} {w W W' : World} {v : Value} {xs : List α} (h : Kd.R d e W' W.heap.size (fun _ => True) v xs) (hw : w.heap.size ≤ W.heap.size) : Kd.R d e W' w.heap.size (Btw W W') v xs :=
  Kd.R_lower (Kd.R_mono (Kd.R_bound h) (fun k hk => ⟨hk.2.1, hk.2.2.1⟩)) hw
theorem ivS {α : Type} {d : Kd α} {e : Nat} {w W W' : World} {v : Value} {xs : List α} (h : Kd.S d e W' W.heap.size (fun _ => True) v xs) (hw : w.heap.size ≤ W.heap.size) : Kd.S d e W' w.heap.size (Btw W W') v xs :=
  Kd.S_lower (Kd.S_mono (Kd.S_bound h) (fun k hk => ⟨hk.2.1, hk.2.2.1⟩)) hw
theorem readsR {α : Type} {d : Kd α} {e : Nat} {w : World} {b : Nat} {ok : Nat → Prop} {A : Option Addr} {n c : Nat} {xs : List α} (h : Kd.R d e w b ok (.slice A n c) xs) : n = xs.length ∧ xs.length ≤ c ∧ d.C w A xs.length xs := by
  obtain ⟨h1, h2, h3⟩ := Kd.R_reads' h
  subst h1
  exact ⟨rfl, h2, h3⟩
theorem readsS {α : Type} {d : Kd α} {e : Nat} {w : World} {b : Nat} {ok : Nat → Prop} {A : Option Addr} {n c : Nat} {xs : List α} (h : Kd.S d e w b ok (.slice A n c) xs) : n = xs.length ∧ xs.length ≤ c ∧ d.C w A xs.length xs := readsR (Kd.S_R h)
theorem drawn_below {w w' : World} (h : Drawn0 w w') : Below w.heap.size w w' := by
  obtain ⟨n, rfl⟩ := h
  exact pw_below_drewN (Below.refl _ _) n
theorem apart {W W' V V' : World} (h : W'.heap.size ≤ V.heap.size ∨ V'.heap.size ≤ W.heap.size) : ∀ k, Btw W W' k → ¬ Btw V V' k := by
  intro k h1 h2; unfold Btw at h1 h2; omega

theorem szIntSS_calls (a : List (List Int)) (hl : a.length ≤ maxLen) (hb : ∀ x ∈ a, x.length ≤ maxLen) : ∃ r : Int, (0 ≤ r → a.length ≤ 1048576 ∧ ∀ x ∈ a, x.length ≤ 1048576) ∧
    ∀ (A : Option Addr) (c : Nat) (w : World), Kd.C kSS w A a.length a → a.length ≤ c → Calls Try.prog 6 #[.slice A a.length c, .int .i64 1048576] w fun e w' => e = .returned (.int .i64 r) ∧ Below w.heap.size w w' := by
  obtain ⟨r, hr, hz⟩ := szIntSS_ev a hl hb
  obtain ⟨k, hk⟩ := hr.rounds
  exact ⟨r, hz, fun A c w h1 h2 => (laws_szIntSS.calls k A c a 1048576 r w h1 h2 hk).mono fun e w' h => ⟨h.1, drawn_below h.2⟩⟩
theorem eqIntS_calls (l : List Int) (hl : l.length ≤ maxLen) (A A' : Option Addr) (c c' : Nat) (w : World) (h1 : Kd.C (Kd.int .i64) w A l.length l) (h2 : l.length ≤ c) (h3 : Kd.C (Kd.int .i64) w A' l.length l) (h4 : l.length ≤ c') :
    Calls Try.prog 51 #[.slice A l.length c, .slice A' l.length c'] w fun e w' => e = .returned (.bool true) ∧ Below w.heap.size w w' := by
  obtain ⟨k, hk⟩ := (eqIntS_ev l hl).rounds
  exact (laws_eqIntS.calls k A c l A' c' l true w h1 h2 h3 h4 hk).mono fun e w' h => ⟨h.1, drawn_below h.2⟩
theorem eqIntSS_calls (l : List (List Int)) (hl : l.length ≤ maxLen) (hb : ∀ x ∈ l, x.length ≤ maxLen) (A A' : Option Addr) (c c' : Nat) (w : World) (h1 : Kd.C kSS w A l.length l) (h2 : l.length ≤ c) (h3 : Kd.C kSS w A' l.length l) (h4 : l.length ≤ c') :
    Calls Try.prog 10 #[.slice A l.length c, .slice A' l.length c'] w fun e w' => e = .returned (.bool true) ∧ Below w.heap.size w w' := by
  obtain ⟨k, hk⟩ := (eqIntSS_ev l hl hb).rounds
  exact (laws_eqIntSS.calls k A c l A' c' l true w h1 h2 h3 h4 hk).mono fun e w' h => ⟨h.1, drawn_below h.2⟩
end Go.Proofs.Ytbhlffakpneecaa.Com
