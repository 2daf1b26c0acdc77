/- Contracts of the laws' own helpers over lists and lists of lists, by hand or over a printed one: copies, marks, comparisons; and rows told by the interval of blocks that they were made in. -/
import Derived.Test.YtpndghkfbojokaaTBase
import Derived.Test.YtpndghkfbojokaaTMarks
import Derived.Test.YtpndghkfbojokaaTFold
import Derived.Test.YtpndghkfbojokaaTMFnExactArcsOfx3
import Derived.Test.YtpndghkfbojokaaTMFnExactArcsOfx3
import Derived.Test.YtpndghkfbojokaaTMFnExactArcsOfx4
import Derived.Test.YtpndghkfbojokaaTMFnExactArcsOfx4
import Derived.Test.YtpndghkfbojokaaTMFnExactArcsOfx4
namespace Go.Proofs.Ytpndghkfbojokaa.Com
open Go.RowKit Go.Proofs.Ytpndghkfbojokaa.PFnExactArcsOf Go.Proofs.YtpndghkfbojokaaW.PrintWords Go.Proofs.YtpndghkfbojokaaW.PrintLast Go.Proofs.YtpndghkfbojokaaW.PrintMore Go.Proofs.Ytpndghkfbojokaa.B
set_option linter.unusedVariables false
set_option linter.unusedSimpArgs false
theorem toIntS_l0 (l : List Int) (hl : l.length ≤ 35184372088832) : ∀ (d i : Nat) (m : List Int), i + d = l.length → m.length = l.length → (∀ j, j < i → m.getD j 0 = l.getD j 0) → Ev (fun k => laws_toIntS.l0 k l m (i : Int)) l := by
  intro d
  induction d with
  | zero =>
    intro i m hi hm he
    refine Ev.step (fun k => laws_toIntS.l0.eq_2 l m i k) ?_
    refine ev_neg (by omega) (ev_some ?_)
    refine List.ext_getElem hm (fun j h1 h2 => ?_)
    have := he j (by omega)
    simpa [List.getD_eq_getElem?_getD, h1, h2] using this
  | succ d ih =>
    intro i m hi hm he
    refine Ev.step (fun k => laws_toIntS.l0.eq_2 l m i k) ?_
    refine ev_pos (by omega) (ev_pos (by omega) (ev_pos (by omega) ?_))
    rw [w_succ (n := l.length) (by omega) (by omega), toNat_nat, rd_nat]
    refine ih (i + 1) _ (by omega) (by simpa using hm) (fun j hj => ?_)
    by_cases hji : j = i
    · subst hji
      simp [List.getD_eq_getElem?_getD, show j < m.length by omega]
    · rw [← he j (by omega)]
      simp [List.getD_eq_getElem?_getD, List.getElem?_set_ne (Ne.symm hji)]
theorem toIntS_ev (l : List Int) (hl : l.length ≤ 35184372088832) : Ev (fun k => laws_toIntS.f k l) l := by
  unfold laws_toIntS.f
  refine ev_pos (by omega) (ev_pos (by omega) ?_)
  exact toIntS_l0 l hl l.length 0 _ (by omega) (by simp) (fun j hj => by omega)
abbrev kSS : Kd (List Int) := Kd.slice 3 (Kd.int .i64)
theorem markIntS_l0 (l : List Int) (hl : l.length ≤ 1048576) (a : Int) (ha : 0 ≤ a ∧ a ≤ 4398046511104) : ∀ (d i : Nat) (m : List Int), i + d = l.length → m.length = l.length → (∀ j, j < i → m.getD j 0 = a + j) →
    ∃ r, Ev (fun k => laws_markIntS.l0 k m (a + i) (i : Int)) (a + l.length, r) ∧ r.length = l.length ∧ ∀ j, j < l.length → r.getD j 0 = a + j := by
  intro d
  induction d with
  | zero =>
    intro i m hi hm he
    obtain rfl : i = l.length := by omega
    exact ⟨m, Ev.step (fun k => laws_markIntS.l0.eq_2 m (a + l.length) l.length k) (ev_neg (by omega) (ev_some rfl)), hm, he⟩
  | succ d ih =>
    intro i m hi hm he
    obtain ⟨r, hr, hz⟩ := ih (i + 1) (m.set i (a + i)) (by omega) (by simpa using hm) (fun j hj => by
      by_cases hji : j = i
      · subst hji; simp [List.getD_eq_getElem?_getD, show j < m.length by omega]
      · rw [← he j (by omega)]; simp [List.getD_eq_getElem?_getD, List.getElem?_set_ne (Ne.symm hji)])
    refine ⟨r, Ev.step (fun k => laws_markIntS.l0.eq_2 m (a + i) i k) ?_, hz⟩
    rw [w_succ (n := l.length) (by omega) (by omega), toNat_nat, w64 (x := a + i + 1) (by omega) (by omega), show a + (i : Int) + 1 = a + ((i + 1 : Nat) : Int) by omega]
    exact ev_pos (by omega) (ev_pos (by omega) hr)
theorem heldIntS_l0 (l : List Int) (hl : l.length ≤ 1048576) (a : Int) (ha : 0 ≤ a ∧ a ≤ 4398046511104) (he : ∀ j, j < l.length → l.getD j 0 = a + j) : ∀ (d i : Nat), i + d = l.length →
    Ev (fun k => laws_heldIntS.l0 k l (a + i) (i : Int)) (a + l.length) := by
  intro d
  induction d with
  | zero =>
    intro i hi
    obtain rfl : i = l.length := by omega
    exact Ev.step (fun k => laws_heldIntS.l0.eq_2 l (a + l.length) l.length k) (ev_neg (by omega) (ev_some rfl))
  | succ d ih =>
    intro i hi
    refine Ev.step (fun k => laws_heldIntS.l0.eq_2 l (a + i) i k) ?_
    rw [w_succ (n := l.length) (by omega) (by omega), rd_nat, w64 (x := a + i + 1) (by omega) (by omega), show a + (i : Int) + 1 = a + ((i + 1 : Nat) : Int) by omega]
    exact ev_pos (by omega) (ev_pos (by omega) (ev_pos (he i (by omega)) (ih (i + 1) (by omega))))
theorem szIntS_tells (l : List Int) (a : Int) (hl : l.length ≤ maxLen) (ha : 0 ≤ a ∧ a ≤ 1048576) : ∃ r, laws_szIntS.f l a = some r ∧ (0 ≤ r → r = a - l.length) ∧ (r < 0 → r = -1) := by
  have hl := maxLen_le hl
  unfold laws_szIntS.f
  rw [w64 (by omega) (by omega)]
  by_cases h : a - (l.length : Int) < 0
  · exact ⟨-1, by rw [if_pos h], by omega, by omega⟩
  · exact ⟨_, by rw [if_neg h], by omega, by omega⟩
theorem eqIntS_l0 (l : List Int) (hl : l.length ≤ maxLen) : ∀ (d i : Nat), i + d = l.length → Ev (fun k => laws_eqIntS.l0 k l l (i : Int)) true := by
  have hl := maxLen_le hl
  intro d
  induction d with
  | zero =>
    intro i hi
    exact Ev.step (fun k => laws_eqIntS.l0.eq_2 l l i k) (ev_neg (by omega) (ev_some rfl))
  | succ d ih =>
    intro i hi
    refine Ev.step (fun k => laws_eqIntS.l0.eq_2 l l i k) ?_
    rw [w_succ (n := l.length) (by omega) (by omega)]
    exact ev_pos (by omega) (ev_pos (by omega) (ev_pos (by omega) (ev_pos rfl (ih (i + 1) (by omega)))))
theorem eqIntS_ev (l : List Int) (hl : l.length ≤ maxLen) : Ev (fun k => laws_eqIntS.f k l l) true := by
  unfold laws_eqIntS.f
  exact ev_pos rfl (eqIntS_l0 l hl l.length 0 (by omega))
theorem eqIntSS_l0 (l : List (List Int)) (hl : l.length ≤ maxLen) (hb : ∀ x ∈ l, x.length ≤ maxLen) : ∀ (d i : Nat), i + d = l.length → Ev (fun k => laws_eqIntSS.l0 k l l (i : Int)) true := by
  have hl := maxLen_le hl
  intro d
  induction d with
  | zero =>
    intro i hi
    exact Ev.step (fun k => laws_eqIntSS.l0.eq_2 l l i k) (ev_neg (by omega) (ev_some rfl))
  | succ d ih =>
    intro i hi
    refine Ev.step (fun k => laws_eqIntSS.l0.eq_2 l l i k) ?_
    have hx : rd_L5 l (i : Int) = l.getD i [] := by unfold rd_L5; rw [toNat_nat]
    have hmem : l.getD i [] ∈ l := by
      rw [List.getD_eq_getElem?_getD, List.getElem?_eq_getElem (by omega)]; exact List.getElem_mem _
    rw [w_succ (n := l.length) (by omega) (by omega), hx]
    exact ev_pos (by omega) (ev_pos (by omega) (ev_pos (by omega) (Ev.bind (eqIntS_ev _ (hb _ hmem)) (ev_pos rfl (ih (i + 1) (by omega))))))
theorem eqIntSS_ev (l : List (List Int)) (hl : l.length ≤ maxLen) (hb : ∀ x ∈ l, x.length ≤ maxLen) : Ev (fun k => laws_eqIntSS.f k l l) true := by
  unfold laws_eqIntSS.f
  exact ev_pos rfl (eqIntSS_l0 l hl hb l.length 0 (by omega))
def markRow (a : Int) (n : Nat) : List Int := (List.range n).map (fun (j : Nat) => a + (j : Int))
theorem markRow_len (a : Int) (n : Nat) : (markRow a n).length = n := by unfold markRow; simp
theorem markRow_at (a : Int) (n j : Nat) (h : j < n) : (markRow a n).getD j 0 = a + j := by
  unfold markRow; simp [List.getD_eq_getElem?_getD, h]
theorem markIntS_row (l : List Int) (hl : l.length ≤ 1048576) (a : Int) (ha : 0 ≤ a ∧ a ≤ 4398046511104) : Ev (fun k => laws_markIntS.f k l a) (a + l.length, markRow a l.length) := by
  obtain ⟨r, h1, h2, h3⟩ := markIntS_l0 l hl a ha l.length 0 l (by omega) rfl (fun j hj => by omega)
  rw [show a + ((0 : Nat) : Int) = a by omega] at h1
  have e : r = markRow a l.length := getD_ext 0 (by rw [h2, markRow_len]) (fun j hj => by rw [markRow_at _ _ _ (by omega)]; exact h3 j (by omega))
  rw [← e]; exact h1
def stepM (L : List (List Int)) (s : Int × List (List Int)) (j : Nat) : Int × List (List Int) := (s.1 + (L.getD j []).length, s.2.set j (markRow s.1 (L.getD j []).length))
def markAll (k : Int) (L : List (List Int)) (i : Nat) : Int × List (List Int) := foldR (stepM L) 0 i (k, L)
theorem markAll_zero (k : Int) (L : List (List Int)) : markAll k L 0 = (k, L) := foldR_end (Nat.le_refl _)
theorem markAll_succ (k : Int) (L : List (List Int)) (i : Nat) : markAll k L (i + 1) = stepM L (markAll k L i) i := foldR_last (Nat.zero_le _)
theorem markAll_len (k : Int) (L : List (List Int)) (i : Nat) : (markAll k L i).2.length = L.length := by
  induction i with
  | zero => rw [markAll_zero]
  | succ i ih => rw [markAll_succ]; unfold stepM; rw [List.length_set]; exact ih
theorem markAll_rest (k : Int) (L : List (List Int)) (i j : Nat) (h : i ≤ j) : (markAll k L i).2.getD j [] = L.getD j [] := by
  induction i with
  | zero => rw [markAll_zero]
  | succ i ih => rw [markAll_succ]; unfold stepM; rw [getD_set, if_neg (by omega)]; exact ih (by omega)
theorem markAll_bd (k : Int) (L : List (List Int)) (hb : ∀ x ∈ L, x.length ≤ 1048576) (i : Nat) : k ≤ (markAll k L i).1 ∧ (markAll k L i).1 ≤ k + 1048576 * i := by
  induction i with
  | zero => rw [markAll_zero]; simp
  | succ i ih =>
    rw [markAll_succ]; unfold stepM
    have : (L.getD i []).length ≤ 1048576 := by
      by_cases h : i < L.length
      · exact hb _ (getD_mem h)
      · rw [getD_none (by omega)]; simp
    show k ≤ (markAll k L i).1 + (L.getD i []).length ∧ (markAll k L i).1 + (L.getD i []).length ≤ k + 1048576 * ((i + 1 : Nat) : Int)
    omega
set_option maxHeartbeats 4000000 in
set_option maxRecDepth 100000 in
theorem markIntSS_calls (L : List (List Int)) (hl : L.length ≤ 1048576) (hb : ∀ x ∈ L, x.length ≤ 1048576) (k : Int) (hk : 0 ≤ k ∧ k ≤ 1048576) (hsum : k + 1048576 * L.length ≤ 4398046511104) (P : Nat → Prop) (u : Value) (w0 w : World) (hB : Below w0.heap.size w0 w) (hS : Kd.S kSS 24 w w0.heap.size P u L) :
    Calls Try.prog 23 #[u, .int .i64 k] w fun e w' => e = .returned (.int .i64 (markAll k L L.length).1) ∧ Kd.S kSS 24 w' w0.heap.size P u (markAll k L L.length).2 ∧ Below w0.heap.size w0 w' ∧ Kept w w' P := by
  have HS := Aside0.mk hS
  have HB := Aside0.mk hB
  have HK := Aside0.mk (Kept.refl w P)
  obtain ⟨A, c, rfl⟩ := Kd.S_slice hS
  have HE := Aside0.mk hb
  have HSUM := Aside0.mk hsum
  have HL := Aside0.mk hl
  have HK0 := Aside0.mk hk
  clear hS hB hb hsum hl hk
  go_enter Try.func23, Try.ntmps23
  go_wp2
  have HS0 : Aside0 (Kd.S kSS 24 w w0.heap.size P (.slice A L.length c) (markAll k L (0 : Int).toNat).2) := ⟨by rw [show (0 : Int).toNat = 0 from rfl, markAll_zero]; exact HS.out⟩
  have e0 : k = (markAll k L (0 : Int).toNat).1 := by rw [show (0 : Int).toNat = 0 from rfl, markAll_zero]
  have E0 := Aside0.mk e0
  clear HS e0
  go_loopg [1, 5] (L.length) (fun d v1 v5 wr => ∃ i : Int, v5 = .int .i64 i ∧ v1 = .int .i64 (markAll k L i.toNat).1 ∧ Aside0 (0 ≤ i ∧ i + d = L.length) ∧ Aside0 (Kd.S kSS 24 wr w0.heap.size P (.slice A L.length c) (markAll k L i.toNat).2) ∧ Aside0 (Below w0.heap.size w0 wr) ∧ Aside0 (Kept w wr P))
  case atStart => exact ⟨0, rfl, congrArg _ E0.out, ⟨by omega⟩, HS0, HB, HK⟩
  case round =>
    clear HS0 HB HK E0
    obtain ⟨i, rfl, rfl, HI, HS, HB, HK⟩ := hrel
    cases gk with
    | zero =>
      have hd : decide (i < (L.length : Int)) = false := decide_eq_false (by have := HI.out.2; omega)
      have hi : i.toNat = L.length := by have := HI.out; omega
      have HI2 := Aside0.mk hi
      have h0 := HI.out.1
      clear hi HI
      go_wp2
      go_ret
      exact ⟨congrArg (fun z : Nat => Ending.returned (.int .i64 (markAll k L z).1)) HI2.out, by have h := HS.out; rwa [HI2.out] at h, HB.out, HK.out⟩
    | succ d =>
      have h0 := HI.out.1
      have hlt : i < (L.length : Int) := by have := HI.out.2; omega
      have hd : decide (i < (L.length : Int)) = true := decide_eq_true hlt
      have hlen : (markAll k L i.toNat).2.length = L.length := markAll_len k L i.toNat
      have hf := Kd.S_form HS.out (by rw [hlen]; omega)
      obtain ⟨g, cap, eo, gb, gl, _⟩ := hf
      injection eo with eA en ec
      clear en
      subst eA ec
      obtain ⟨oki, ce, hcl, hM, hcc, hoki, hH⟩ := Kd.S_lend HS.out [] i h0 hlt
      obtain ⟨ve, rfl, hR⟩ := hM
      have hrow : (markAll k L i.toNat).2.getD i.toNat [] = L.getD i.toNat [] := markAll_rest k L i.toNat i.toNat (Nat.le_refl _)
      rw [hrow] at hR
      obtain ⟨Ai, ci, rfl⟩ := Kd.R_slice hR
      have hcell := hcc 0 _ rfl
      simp only [show kSS.sz = 1 from rfl, Nat.mul_one, Nat.add_zero] at hcell
      have hbd := markAll_bd k L HE.out i.toNat
      have hil : (L.getD i.toNat []).length ≤ 1048576 := HE.out _ (getD_mem (z := []) (by omega))
      obtain ⟨kk, hkk⟩ := (markIntS_row (L.getD i.toNat []) hil (markAll k L i.toNat).1 (by have := HSUM.out; have := HK0.out; omega)).rounds
      have hoki0 := hR.1
      have HR := Aside0.mk hR
      have HKK := Aside0.mk hkk
      have HHH := Aside0.mk hH
      have HOK := Aside0.mk hoki
      have HOK0 := Aside0.mk hoki0
      have HBD := Aside0.mk hbd
      have HIL := Aside0.mk hil
      have H0 := Aside0.mk h0
      have HLT := Aside0.mk hlt
      have q0 := eq_true h0
      have q1 := eq_true hlt
      have GB := Aside0.mk gb
      obtain ⟨ks, eks⟩ : ∃ ks : Int, ks = (markAll k L i.toNat).1 := ⟨_, rfl⟩
      obtain ⟨nn, enn⟩ : ∃ nn : Nat, nn = (L.getD i.toNat []).length := ⟨_, rfl⟩
      rw [← eks]
      rw [← enn] at hcell
      have EKS := Aside0.mk eks
      have ENN := Aside0.mk enn
      clear hcl hcc hH hoki hoki0 hR hkk hbd hil h0 hlt gb gl hlen hrow eks enn HS
      go_wp2_with fail
      have HR' : Kd.R (Kd.int .i64) 3 wr w0.heap.size oki (.slice Ai nn ci) (L.getD i.toNat []) := by rw [ENN.out]; exact HR.out
      obtain ⟨ks2, eks2⟩ : ∃ z : Int, z = (markAll k L (i + 1).toNat).1 := ⟨_, rfl⟩
      have EK2 := Aside0.mk eks2
      clear eks2
      have HKK' : laws_markIntS.f kk (L.getD i.toNat []) ks = some (ks2, markRow ks (L.getD i.toNat []).length) := by
        rw [EK2.out, show (i + 1).toNat = i.toNat + 1 by have := H0.out; omega, markAll_succ, EKS.out]; exact HKK.out
      refine (laws_markIntS.calls kk oki (.slice Ai nn ci) (L.getD i.toNat []) ks _ _ w0 wr HB.out HR' HKK').mono ?_
      clear HR' HKK'
      rintro e w2 ⟨rfl, hy, hb, hkp⟩
      have hy2 := Kd.R_reok (ok := oki) rfl hy (fun k e => by have h := HOK0.out k; rw [← ENN.out] at h; exact h e)
      have hh2 := Kd.H_kept HHH.out hkp (fun k _ hn h => hn h)
      have hs2 := Kd.H_back hh2 (okp := oki) (x' := markRow ks (L.getD i.toNat []).length) ⟨.slice Ai nn ci, by rw [ENN.out], hy2⟩ (fun _ h => h)
      have es : (markAll k L i.toNat).2.set i.toNat (markRow ks (L.getD i.toNat []).length) = (markAll k L (i + 1).toNat).2 := by
        rw [show (i + 1).toNat = i.toNat + 1 by have := H0.out; omega, markAll_succ, EKS.out]; rfl
      rw [es] at hs2
      have HS2 := Aside0.mk hs2
      have HB2 := Aside0.mk hb
      have HK2 := Aside0.mk (HK.out.then_ hkp (fun k h => .inl (HOK.out k h).1))
      clear hy hb hkp hy2 hh2 hs2 es HB HK HHH HR
      go_wp2
      go_roundg d
      case measure => omega
      case rel =>
        have e : wrap64 (i + 1) = i + 1 := by have := HLT.out; have := HL.out; have := H0.out; rw [w64 (by omega) (by omega)]
        exact ⟨i + 1, by rw [e], congrArg _ EK2.out, ⟨by have := HI.out; omega⟩, HS2, HB2, HK2⟩
/-- Blocks made between two worlds. -/
def Btw (W W' : World) (k : Nat) : Prop := W.heap.size ≤ k ∧ k < W'.heap.size
theorem ivR {α : Type} {d : Kd α} {e : Nat} {w W W' : World} {v : Value} {xs : List α} (h : Kd.R d e W' W.heap.size (fun _ => True) v xs) (hw : w.heap.size ≤ W.heap.size) : Kd.R d e W' w.heap.size (Btw W W') v xs :=
  Kd.R_lower (Kd.R_mono (Kd.R_bound h) (fun k hk => ⟨hk.2.1, hk.2.2.1⟩)) hw
theorem ivS {α : Type} {d : Kd α} {e : Nat} {w W W' : World} {v : Value} {xs : List α} (h : Kd.S d e W' W.heap.size (fun _ => True) v xs) (hw : w.heap.size ≤ W.heap.size) : Kd.S d e W' w.heap.size (Btw W W') v xs :=
  Kd.S_lower (Kd.S_mono (Kd.S_bound h) (fun k hk => ⟨hk.2.1, hk.2.2.1⟩)) hw
theorem readsR {α : Type} {d : Kd α} {e : Nat} {w : World} {b : Nat} {ok : Nat → Prop} {A : Option Addr} {n c : Nat} {xs : List α} (h : Kd.R d e w b ok (.slice A n c) xs) : n = xs.length ∧ xs.length ≤ c ∧ d.C w A xs.length xs := by
  obtain ⟨h1, h2, h3⟩ := Kd.R_reads' h
  subst h1
  exact ⟨rfl, h2, h3⟩
theorem readsS {α : Type} {d : Kd α} {e : Nat} {w : World} {b : Nat} {ok : Nat → Prop} {A : Option Addr} {n c : Nat} {xs : List α} (h : Kd.S d e w b ok (.slice A n c) xs) : n = xs.length ∧ xs.length ≤ c ∧ d.C w A xs.length xs := readsR (Kd.S_R h)
theorem drawn_below {w w' : World} (h : Drawn0 w w') : Below w.heap.size w w' := by
  obtain ⟨n, rfl⟩ := h
  exact pw_below_drewN (Below.refl _ _) n
theorem apart {W W' V V' : World} (h : W'.heap.size ≤ V.heap.size ∨ V'.heap.size ≤ W.heap.size) : ∀ k, Btw W W' k → ¬ Btw V V' k := by
  intro k h1 h2; unfold Btw at h1 h2; omega
theorem eqIntSS_calls (l : List (List Int)) (hl : l.length ≤ maxLen) (hb : ∀ x ∈ l, x.length ≤ maxLen) (A A' : Option Addr) (c c' : Nat) (w : World) (h1 : Kd.C kSS w A l.length l) (h2 : l.length ≤ c) (h3 : Kd.C kSS w A' l.length l) (h4 : l.length ≤ c') :
    Calls Try.prog 22 #[.slice A l.length c, .slice A' l.length c'] w fun e w' => e = .returned (.bool true) ∧ Below w.heap.size w w' := by
  obtain ⟨k, hk⟩ := (eqIntSS_ev l hl hb).rounds
  exact (laws_eqIntSS.calls k A c l A' c' l true w h1 h2 h3 h4 hk).mono fun e w' h => ⟨h.1, drawn_below h.2⟩
end Go.Proofs.Ytpndghkfbojokaa.Com
