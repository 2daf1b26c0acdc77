/- The law FnExactParseSlopes, walked by hand over its callees' contracts: for every input it returns true. -/
import Derived.Test.YtmihfgnkjjohmaaDoorTOwnParseSlopes
import Derived.Test.YtmihfgnkjjohmaaDoorTWKept
import Derived.Test.YtmihfgnkjjohmaaDoorTMFnExactParseSlopesx3
import Derived.Test.YtmihfgnkjjohmaaDoorTMFnExactParseSlopesx4
import Derived.Test.YtmihfgnkjjohmaaDoorTMFnExactParseSlopesx2
namespace Go.Proofs.YtmihfgnkjjohmaaDoor.WalkFnExactParseSlopes
open Go.RowKit Go.Proofs.YtmihfgnkjjohmaaDoor.PFnExactParseSlopes Go.Proofs.YtmihfgnkjjohmaaDoorW.PrintWords Go.Proofs.YtmihfgnkjjohmaaDoorW.PrintLast Go.Proofs.YtmihfgnkjjohmaaDoorW.PrintMore Go.Proofs.YtmihfgnkjjohmaaDoor.B
open Go.Proofs.YtmihfgnkjjohmaaDoor.Com (Btw)
set_option linter.unusedVariables false
set_option linter.unusedSimpArgs false
theorem eqIntS_l0 (l : List Int) (hl : l.length ≤ maxLen) : ∀ (d i : Nat), i + d = l.length → Ev (fun k => laws_eqIntS.l0 k l l (i : Int)) true := by
  have hl := maxLen_le hl
  intro d
  induction d with
  | zero =>
    intro i hi
    exact Ev.step (fun k => laws_eqIntS.l0.eq_2 l l i k) (ev_neg (by omega) (ev_some rfl))
  | succ d ih =>
    intro i hi
    refine Ev.step (fun k => laws_eqIntS.l0.eq_2 l l i k) ?_
    rw [w_succ (n := l.length) (by omega) (by omega)]
    exact ev_pos (by omega) (ev_pos (by omega) (ev_pos (by omega) (ev_pos rfl (ih (i + 1) (by omega)))))
theorem eqIntS_ev (l : List Int) (hl : l.length ≤ maxLen) : Ev (fun k => laws_eqIntS.f k l l) true := by
  unfold laws_eqIntS.f
  exact ev_pos rfl (eqIntS_l0 l hl l.length 0 (by omega))
abbrev kOS : Kd (List S52) := Kd.slice 52 k52
def mk3 (a : Int) (j : Nat) : S52 := ⟨a + 3 * j, a + 3 * j + 1, a + 3 * j + 2⟩
theorem markOffsetS_l0 (l : List S52) (hl : l.length ≤ 1048576) (a : Int) (ha : 0 ≤ a ∧ a ≤ 8796093022208) : ∀ (d i : Nat) (m : List S52), i + d = l.length → m.length = l.length → (∀ j, j < i → m.getD j z52 = mk3 a j) →
    ∃ r, Ev (fun k => laws_markOffsetS.l0 k m (a + 3 * i) (i : Int)) (a + 3 * l.length, r) ∧ r.length = l.length ∧ ∀ j, j < l.length → r.getD j z52 = mk3 a j := by
  intro d
  induction d with
  | zero =>
    intro i m hi hm he
    obtain rfl : i = l.length := by omega
    exact ⟨m, Ev.step (fun k => laws_markOffsetS.l0.eq_2 m (a + 3 * l.length) l.length k) (ev_neg (by omega) (ev_some rfl)), hm, he⟩
  | succ d ih =>
    intro i m hi hm he
    have hi' : i < m.length := by omega
    have e : ∀ (v : S52) (u : List S52), u.length = m.length → rd_T52 (u.set i v) (i : Int) = v := by
      intro v u hu; unfold rd_T52; rw [toNat_nat, getD_set, if_pos ⟨rfl, by omega⟩]
    obtain ⟨r, hr, hz⟩ := ih (i + 1) (((m.set i ⟨a + 3 * i, (rd_T52 m i).f1, (rd_T52 m i).f2⟩).set i ⟨a + 3 * i, a + 3 * i + 1, (rd_T52 m i).f2⟩).set i (mk3 a i)) (by omega) (by simpa using hm) (fun j hj => by
      rw [getD_set, getD_set, getD_set]
      simp only [List.length_set]
      by_cases hji : i = j
      · subst hji; rw [if_pos ⟨rfl, hi'⟩]
      · rw [if_neg (by omega), if_neg (by omega), if_neg (by omega)]; exact he j (by omega))
    refine ⟨r, Ev.step (fun k => laws_markOffsetS.l0.eq_2 m (a + 3 * i) i k) ?_, hz⟩
    rw [w_succ (n := l.length) (by omega) (by omega), toNat_nat, w64 (x := a + 3 * i + 1) (by omega) (by omega), w64 (x := a + 3 * i + 1 + 1) (by omega) (by omega), w64 (x := a + 3 * i + 1 + 1 + 1) (by omega) (by omega)]
    simp only [Option.bind_some, e _ _ rfl, List.length_set]
    refine ev_pos (by omega) (ev_pos (by omega) ?_)
    rw [e _ (m.set i _) (by simp)]
    rw [show a + 3 * (i : Int) + 1 + 1 + 1 = a + 3 * ((i + 1 : Nat) : Int) by omega]
    have e2 : a + 3 * (i : Int) + 1 + 1 = a + 3 * (i : Int) + 2 := by omega
    rw [e2]
    exact hr
-- CALLS laws_markOffsetS
def markRowO (a : Int) (n : Nat) : List S52 := (List.range n).map (mk3 a)
theorem markRowO_len (a : Int) (n : Nat) : (markRowO a n).length = n := by unfold markRowO; rw [List.length_map, List.length_range]
theorem markRowO_at (a : Int) (n j : Nat) (h : j < n) : (markRowO a n).getD j z52 = mk3 a j := by
  unfold markRowO
  rw [List.getD_eq_getElem?_getD, List.getElem?_map, List.getElem?_range h]; rfl
theorem markOffsetS_row (l : List S52) (hl : l.length ≤ 1048576) (a : Int) (ha : 0 ≤ a ∧ a ≤ 8796093022208) : Ev (fun k => laws_markOffsetS.f k l a) (a + 3 * l.length, markRowO a l.length) := by
  obtain ⟨r, h1, h2, h3⟩ := markOffsetS_l0 l hl a ha l.length 0 l (by omega) rfl (fun j hj => by omega)
  rw [show a + 3 * ((0 : Nat) : Int) = a by omega] at h1
  have : r = markRowO a l.length := getD_ext z52 (by rw [h2, markRowO_len]) (fun j hj => by rw [h3 j (by omega), markRowO_at a l.length j (by omega)])
  rw [← this]
  exact h1
def stepMO (L : List (List S52)) (s : Int × List (List S52)) (j : Nat) : Int × List (List S52) := (s.1 + 3 * ((L.getD j []).length : Int), s.2.set j (markRowO s.1 (L.getD j []).length))
def markAllO (k : Int) (L : List (List S52)) (i : Nat) : Int × List (List S52) := foldR (stepMO L) 0 i (k, L)
theorem markAllO_zero (k : Int) (L : List (List S52)) : markAllO k L 0 = (k, L) := foldR_end (Nat.le_refl _)
theorem markAllO_succ (k : Int) (L : List (List S52)) (i : Nat) : markAllO k L (i + 1) = stepMO L (markAllO k L i) i := foldR_last (Nat.zero_le _)
theorem markAllO_len (k : Int) (L : List (List S52)) (i : Nat) : (markAllO k L i).2.length = L.length := by
  induction i with
  | zero => rw [markAllO_zero]
  | succ i ih => rw [markAllO_succ]; unfold stepMO; rw [List.length_set]; exact ih
theorem markAllO_rest (k : Int) (L : List (List S52)) (i j : Nat) (h : i ≤ j) : (markAllO k L i).2.getD j [] = L.getD j [] := by
  induction i with
  | zero => rw [markAllO_zero]
  | succ i ih => rw [markAllO_succ]; unfold stepMO; rw [getD_set, if_neg (by omega)]; exact ih (by omega)
theorem markAllO_bd (k : Int) (L : List (List S52)) (hb : ∀ x ∈ L, x.length ≤ 1048576) (i : Nat) : k ≤ (markAllO k L i).1 ∧ (markAllO k L i).1 ≤ k + 3145728 * i := by
  induction i with
  | zero => rw [markAllO_zero]; simp
  | succ i ih =>
    rw [markAllO_succ]; unfold stepMO
    have : (L.getD i []).length ≤ 1048576 := by
      by_cases h : i < L.length
      · exact hb _ (getD_mem h)
      · rw [getD_none (by omega)]; simp
    show k ≤ (markAllO k L i).1 + 3 * ((L.getD i []).length : Int) ∧ (markAllO k L i).1 + 3 * ((L.getD i []).length : Int) ≤ k + 3145728 * ((i + 1 : Nat) : Int)
    omega
set_option maxHeartbeats 4000000 in
set_option maxRecDepth 100000 in
theorem markOffsetSS_calls (L : List (List S52)) (hl : L.length ≤ 1048576) (hb : ∀ x ∈ L, x.length ≤ 1048576) (k : Int) (hk : 0 ≤ k ∧ k ≤ 4294967296) (hsum : k + 3145728 * L.length ≤ 8796093022208) (P : Nat → Prop) (u : Value) (w0 w : World) (hB : Below w0.heap.size w0 w) (hS : Kd.S kOS 50 w w0.heap.size P u L) :
    Calls Tryd.prog 33 #[u, .int .i64 k] w fun e w' => e = .returned (.int .i64 (markAllO k L L.length).1) ∧ Kd.S kOS 50 w' w0.heap.size P u (markAllO k L L.length).2 ∧ Below w0.heap.size w0 w' ∧ Kept w w' P := by
  have HS := Aside0.mk hS
  have HB := Aside0.mk hB
  have HK := Aside0.mk (Kept.refl w P)
  obtain ⟨A, c, rfl⟩ := Kd.S_slice hS
  have HE := Aside0.mk hb
  have HSUM := Aside0.mk hsum
  have HL := Aside0.mk hl
  have HK0 := Aside0.mk hk
  clear hS hB hb hsum hl hk
  go_enter Tryd.func33, Tryd.ntmps33
  go_wp2
  have HS0 : Aside0 (Kd.S kOS 50 w w0.heap.size P (.slice A L.length c) (markAllO k L (0 : Int).toNat).2) := ⟨by rw [show (0 : Int).toNat = 0 from rfl, markAllO_zero]; exact HS.out⟩
  have e0 : k = (markAllO k L (0 : Int).toNat).1 := by rw [show (0 : Int).toNat = 0 from rfl, markAllO_zero]
  have E0 := Aside0.mk e0
  clear HS e0
  go_loopg [1, 5] (L.length) (fun d v1 v5 wr => ∃ i : Int, v5 = .int .i64 i ∧ v1 = .int .i64 (markAllO k L i.toNat).1 ∧ Aside0 (0 ≤ i ∧ i + d = L.length) ∧ Aside0 (Kd.S kOS 50 wr w0.heap.size P (.slice A L.length c) (markAllO k L i.toNat).2) ∧ Aside0 (Below w0.heap.size w0 wr) ∧ Aside0 (Kept w wr P))
  case atStart => exact ⟨0, rfl, congrArg _ E0.out, ⟨by omega⟩, HS0, HB, HK⟩
  case round =>
    clear HS0 HB HK E0
    obtain ⟨i, rfl, rfl, HI, HS, HB, HK⟩ := hrel
    cases gk with
    | zero =>
      have hd : decide (i < (L.length : Int)) = false := decide_eq_false (by have := HI.out.2; omega)
      have hi : i.toNat = L.length := by have := HI.out; omega
      have HI2 := Aside0.mk hi
      have h0 := HI.out.1
      clear hi HI
      go_wp2
      go_ret
      exact ⟨congrArg (fun z : Nat => Ending.returned (.int .i64 (markAllO k L z).1)) HI2.out, by have h := HS.out; rwa [HI2.out] at h, HB.out, HK.out⟩
    | succ d =>
      have h0 := HI.out.1
      have hlt : i < (L.length : Int) := by have := HI.out.2; omega
      have hd : decide (i < (L.length : Int)) = true := decide_eq_true hlt
      have hlen : (markAllO k L i.toNat).2.length = L.length := markAllO_len k L i.toNat
      have hf := Kd.S_form HS.out (by rw [hlen]; omega)
      obtain ⟨g, cap, eo, gb, gl, _⟩ := hf
      injection eo with eA en ec
      clear en
      subst eA ec
      obtain ⟨oki, ce, hcl, hM, hcc, hoki, hH⟩ := Kd.S_lend HS.out [] i h0 hlt
      obtain ⟨ve, rfl, hR⟩ := hM
      have hrow : (markAllO k L i.toNat).2.getD i.toNat [] = L.getD i.toNat [] := markAllO_rest k L i.toNat i.toNat (Nat.le_refl _)
      rw [hrow] at hR
      obtain ⟨Ai, ci, rfl⟩ := Kd.R_slice hR
      have hcell := hcc 0 _ rfl
      simp only [show kOS.sz = 1 from rfl, Nat.mul_one, Nat.add_zero] at hcell
      have hbd := markAllO_bd k L HE.out i.toNat
      have hil : (L.getD i.toNat []).length ≤ 1048576 := HE.out _ (getD_mem (z := []) (by omega))
      obtain ⟨kk, hkk⟩ := (markOffsetS_row (L.getD i.toNat []) hil (markAllO k L i.toNat).1 (by have := HSUM.out; have := HK0.out; omega)).rounds
      have hoki0 := hR.1
      have HR := Aside0.mk hR
      have HKK := Aside0.mk hkk
      have HHH := Aside0.mk hH
      have HOK := Aside0.mk hoki
      have HOK0 := Aside0.mk hoki0
      have HBD := Aside0.mk hbd
      have HIL := Aside0.mk hil
      have H0 := Aside0.mk h0
      have HLT := Aside0.mk hlt
      have q0 := eq_true h0
      have q1 := eq_true hlt
      have GB := Aside0.mk gb
      obtain ⟨ks, eks⟩ : ∃ ks : Int, ks = (markAllO k L i.toNat).1 := ⟨_, rfl⟩
      obtain ⟨nn, enn⟩ : ∃ nn : Nat, nn = (L.getD i.toNat []).length := ⟨_, rfl⟩
      rw [← eks]
      rw [← enn] at hcell
      have EKS := Aside0.mk eks
      have ENN := Aside0.mk enn
      clear hcl hcc hH hoki hoki0 hR hkk hbd hil h0 hlt gb gl hlen hrow eks enn HS
      go_wp2_with fail
      have HR' : Kd.R k52 52 wr w0.heap.size oki (.slice Ai nn ci) (L.getD i.toNat []) := by rw [ENN.out]; exact HR.out
      obtain ⟨ks2, eks2⟩ : ∃ z : Int, z = (markAllO k L (i + 1).toNat).1 := ⟨_, rfl⟩
      have EK2 := Aside0.mk eks2
      clear eks2
      have HKK' : laws_markOffsetS.f kk (L.getD i.toNat []) ks = some (ks2, markRowO ks (L.getD i.toNat []).length) := by
        rw [EK2.out, show (i + 1).toNat = i.toNat + 1 by have := H0.out; omega, markAllO_succ, EKS.out]; exact HKK.out
      refine (laws_markOffsetS.calls kk oki (.slice Ai nn ci) (L.getD i.toNat []) ks _ _ w0 wr HB.out HR' HKK').mono ?_
      clear HR' HKK'
      rintro e w2 ⟨rfl, hy, hb, hkp⟩
      have hy2 := Kd.R_reok (ok := oki) rfl hy (fun k e => by have h := HOK0.out k; rw [← ENN.out] at h; exact h e)
      have hh2 := Kd.H_kept HHH.out hkp (fun k _ hn h => hn h)
      have hs2 := Kd.H_back hh2 (okp := oki) (x' := markRowO ks (L.getD i.toNat []).length) ⟨.slice Ai nn ci, by rw [ENN.out], hy2⟩ (fun _ h => h)
      have es : (markAllO k L i.toNat).2.set i.toNat (markRowO ks (L.getD i.toNat []).length) = (markAllO k L (i + 1).toNat).2 := by
        rw [show (i + 1).toNat = i.toNat + 1 by have := H0.out; omega, markAllO_succ, EKS.out]; rfl
      rw [es] at hs2
      have HS2 := Aside0.mk hs2
      have HB2 := Aside0.mk hb
      have HK2 := Aside0.mk (HK.out.then_ hkp (fun k h => .inl (HOK.out k h).1))
      clear hy hb hkp hy2 hh2 hs2 es HB HK HHH HR
      go_wp2
      go_roundg d
      case measure => omega
      case rel =>
        have e : wrap64 (i + 1) = i + 1 := by have := HLT.out; have := HL.out; have := H0.out; rw [w64 (by omega) (by omega)]
        exact ⟨i + 1, by rw [e], congrArg _ EK2.out, ⟨by have := HI.out; omega⟩, HS2, HB2, HK2⟩
theorem markIntS_l0 (l : List Int) (hl : l.length ≤ 1048576) (a : Int) (ha : 0 ≤ a ∧ a ≤ 4398046511104) : ∀ (d i : Nat) (m : List Int), i + d = l.length → m.length = l.length → (∀ j, j < i → m.getD j 0 = a + j) →
    ∃ r, Ev (fun k => laws_markIntS.l0 k m (a + i) (i : Int)) (a + l.length, r) ∧ r.length = l.length ∧ ∀ j, j < l.length → r.getD j 0 = a + j := by
  intro d
  induction d with
  | zero =>
    intro i m hi hm he
    obtain rfl : i = l.length := by omega
    exact ⟨m, Ev.step (fun k => laws_markIntS.l0.eq_2 m (a + l.length) l.length k) (ev_neg (by omega) (ev_some rfl)), hm, he⟩
  | succ d ih =>
    intro i m hi hm he
    obtain ⟨r, hr, hz⟩ := ih (i + 1) (m.set i (a + i)) (by omega) (by simpa using hm) (fun j hj => by
      by_cases hji : j = i
      · subst hji; simp [List.getD_eq_getElem?_getD, show j < m.length by omega]
      · rw [← he j (by omega)]; simp [List.getD_eq_getElem?_getD, List.getElem?_set_ne (Ne.symm hji)])
    refine ⟨r, Ev.step (fun k => laws_markIntS.l0.eq_2 m (a + i) i k) ?_, hz⟩
    rw [w_succ (n := l.length) (by omega) (by omega), toNat_nat, w64 (x := a + i + 1) (by omega) (by omega), show a + (i : Int) + 1 = a + ((i + 1 : Nat) : Int) by omega]
    exact ev_pos (by omega) (ev_pos (by omega) hr)
def markRow (a : Int) (n : Nat) : List Int := (List.range n).map (fun (j : Nat) => a + (j : Int))
theorem markRow_len (a : Int) (n : Nat) : (markRow a n).length = n := by unfold markRow; simp
theorem markRow_at (a : Int) (n j : Nat) (h : j < n) : (markRow a n).getD j 0 = a + j := by
  unfold markRow; simp [List.getD_eq_getElem?_getD, h]
theorem markIntS_row (l : List Int) (hl : l.length ≤ 1048576) (a : Int) (ha : 0 ≤ a ∧ a ≤ 4398046511104) : Ev (fun k => laws_markIntS.f k l a) (a + l.length, markRow a l.length) := by
  obtain ⟨r, h1, h2, h3⟩ := markIntS_l0 l hl a ha l.length 0 l (by omega) rfl (fun j hj => by omega)
  rw [show a + ((0 : Nat) : Int) = a by omega] at h1
  have e : r = markRow a l.length := getD_ext 0 (by rw [h2, markRow_len]) (fun j hj => by rw [markRow_at _ _ _ (by omega)]; exact h3 j (by omega))
  rw [← e]; exact h1
-- CALLS laws_markIntS
set_option maxHeartbeats 8000000 in
set_option maxRecDepth 100000 in
theorem markSlopes_two (s : List Int) (hs : s.length ≤ 1048576) (T : List (List S52)) (hT : T.length ≤ 1048576) (hb : ∀ x ∈ T, x.length ≤ 1048576) (P0 P1 : Nat → Prop) (hap : ∀ k, P0 k → ¬ P1 k) (v0 v1 : Value) (w0 w : World) (hB : Below w0.heap.size w0 w) (hR : Kd.R (Kd.int .i64) 3 w w0.heap.size P0 v0 s) (hS : Kd.S kOS 50 w w0.heap.size P1 v1 T) :
    Calls Tryd.prog 13 #[.agg #[v0, v1], .int .i64 1] w fun e w' => e = .returned (.int .i64 (markAllO (1 + s.length) T T.length).1) ∧ Kd.R (Kd.int .i64) 3 w' w0.heap.size P0 v0 (markRow 1 s.length) ∧ Kd.S kOS 50 w' w0.heap.size P1 v1 (markAllO (1 + s.length) T T.length).2 ∧ Below w0.heap.size w0 w' ∧ Kept w w' (fun k => P0 k ∨ P1 k) := by
  have hu2 := Tryd.underlying35
  obtain ⟨A0, c0, rfl⟩ := Kd.R_slice hR
  obtain ⟨A1, c1, rfl⟩ := Kd.S_slice hS
  have HR := Aside0.mk hR
  have HS := Aside0.mk hS
  have HB := Aside0.mk hB
  have HSL := Aside0.mk hs
  have HTL := Aside0.mk hT
  have HTB := Aside0.mk hb
  have HAP := Aside0.mk hap
  have HK := Aside0.mk (Kept.refl w (fun k => P0 k ∨ P1 k))
  clear hR hS hB hs hT hb hap
  go_enter Tryd.func13, Tryd.ntmps13
  go_wp2_with (first | ((with_reducible refine gate_dst (N := 2) rfl ?_); refine box_event ?hg (N := 2) ?hd (cs := #[.slice A0 s.length c0, .slice A1 T.length c1]) (t := 35) ?hr ?_; (case hd => rfl); (case hg => rfl); (case hr => first | (go_simp; done) | (go_simp; rfl)); intro g1 hg w6 hbox hb; have n0_ := Aside0.mk (below_step HB.out hb); have K1 := Aside0.mk hbox; have n1_ := Aside0.mk (Kd.R_elderB HR.out g1 (by rw [hg]; exact Nat.le_refl _)); have n2_ := Aside0.mk (Kd.S_elderB HS.out g1 (by rw [hg]; exact Nat.le_refl _)); have n3_ := Aside0.mk (Kd.R_below n1_.out hb); have n4_ := Aside0.mk (Kd.S_below n2_.out hb); have n5_ := Aside0.mk (HK.out.below hb); clear HB HR HS HK; have HB := n0_; have HR := n3_; have HS := n4_; have HK := n5_; clear n0_ n1_ n2_ n3_ n4_ n5_ hb hbox hg; have hc0 : w6.cell? ⟨g1, 0, none⟩ = some (.slice A0 s.length c0) := (blk_cell K1.out 0).trans rfl; have hc1 : w6.cell? ⟨g1, 1, none⟩ = some (.slice A1 T.length c1) := (blk_cell K1.out 1).trans rfl))
  clear hc0 hc1
  obtain ⟨km, hkm⟩ := (markIntS_row s (by have := HSL.out; omega) 1 (by omega)).rounds
  refine (laws_markIntS.calls km _ _ s 1 _ _ w0 w6 HB.out HR.out hkm).mono ?_
  rintro e w7 ⟨rfl, ho, hb, hk⟩
  have n0_ := Aside0.mk hb
  have n1_ := Aside0.mk (Kd.R_reok rfl ho HR.out.1)
  have n2_ := Aside0.mk (Kd.S_kept HS.out hk (fun q h1 h2 => HAP.out q h2.1 h1.1))
  have n3_ := Aside0.mk (blk_kept K1.out hk (fun h => h.2 rfl))
  have n4_ := Aside0.mk (HK.out.then_ hk (fun q h => Or.inl (Or.inl h.1)))
  clear HB HR HS HK K1 ho hb hk hkm
  have HB := n0_
  have HR := n1_
  have HS := n2_
  have K1 := n3_
  have HK := n4_
  clear n0_ n1_ n2_ n3_ n4_
  have hc1 : w7.cell? ⟨g1, 1, none⟩ = some (.slice A1 T.length c1) := (blk_cell K1.out 1).trans rfl
  go_wp2_with fail
  clear hc1
  refine (markOffsetSS_calls T (by have := HTL.out; omega) HTB.out (1 + s.length) (by have := HSL.out; omega) (by have := HSL.out; have := HTL.out; omega) _ _ w0 w7 HB.out HS.out).mono ?_
  rintro e w8 ⟨rfl, ho, hb, hk⟩
  have n0_ := Aside0.mk hb
  have n1_ := Aside0.mk (Kd.R_kept HR.out hk (fun q h1 h2 => HAP.out q h1.1 h2.1))
  have n2_ := Aside0.mk ho
  have n4_ := Aside0.mk (HK.out.then_ hk (fun q h => Or.inl (Or.inr h.1)))
  clear HB HR HS HK K1 ho hb hk
  go_wp2_with fail
  go_ret
  exact ⟨rfl, Kd.R_mono n1_.out (fun _ h => h.1), Kd.S_mono n2_.out (fun _ h => h.1), n0_.out, n4_.out⟩
theorem heldIntS_l0 (l : List Int) (hl : l.length ≤ 1048576) (a : Int) (ha : 0 ≤ a ∧ a ≤ 4398046511104) (he : ∀ j, j < l.length → l.getD j 0 = a + j) : ∀ (d i : Nat), i + d = l.length →
    Ev (fun k => laws_heldIntS.l0 k l (a + i) (i : Int)) (a + l.length) := by
  intro d
  induction d with
  | zero =>
    intro i hi
    obtain rfl : i = l.length := by omega
    exact Ev.step (fun k => laws_heldIntS.l0.eq_2 l (a + l.length) l.length k) (ev_neg (by omega) (ev_some rfl))
  | succ d ih =>
    intro i hi
    refine Ev.step (fun k => laws_heldIntS.l0.eq_2 l (a + i) i k) ?_
    rw [w_succ (n := l.length) (by omega) (by omega), rd_nat, w64 (x := a + i + 1) (by omega) (by omega), show a + (i : Int) + 1 = a + ((i + 1 : Nat) : Int) by omega]
    exact ev_pos (by omega) (ev_pos (by omega) (ev_pos (he i (by omega)) (ih (i + 1) (by omega))))
theorem heldOffsetS_l0 (l : List S52) (hl : l.length ≤ 1048576) (a : Int) (ha : 0 ≤ a ∧ a ≤ 8796093022208) (he : ∀ j, j < l.length → l.getD j z52 = mk3 a j) : ∀ (d i : Nat), i + d = l.length →
    Ev (fun k => laws_heldOffsetS.l0 k l (a + 3 * i) (i : Int)) (a + 3 * l.length) := by
  intro d
  induction d with
  | zero =>
    intro i hi
    obtain rfl : i = l.length := by omega
    exact Ev.step (fun k => laws_heldOffsetS.l0.eq_2 l (a + 3 * l.length) l.length k) (ev_neg (by omega) (ev_some rfl))
  | succ d ih =>
    intro i hi
    refine Ev.step (fun k => laws_heldOffsetS.l0.eq_2 l (a + 3 * i) i k) ?_
    have hx : rd_T52 l (i : Int) = mk3 a i := by unfold rd_T52; rw [toNat_nat]; exact he i (by omega)
    rw [w_succ (n := l.length) (by omega) (by omega), hx, w64 (x := a + 3 * i + 1) (by omega) (by omega), w64 (x := a + 3 * i + 1 + 1) (by omega) (by omega), w64 (x := a + 3 * i + 1 + 1 + 1) (by omega) (by omega)]
    refine ev_pos (by omega) (ev_pos (by omega) (ev_pos rfl (ev_pos rfl (ev_pos ?_ ?_))))
    · show a + 3 * (i : Int) + 2 = _; omega
    · have := ih (i + 1) (by omega)
      rwa [show a + 3 * ((i + 1 : Nat) : Int) = a + 3 * (i : Int) + 1 + 1 + 1 by omega] at this
-- CALLS laws_heldSlopes
theorem markAllO_at (k : Int) (L : List (List S52)) (n j : Nat) (h : j < n) (hn : n ≤ L.length) : (markAllO k L n).2.getD j [] = markRowO (markAllO k L j).1 (L.getD j []).length := by
  induction n with
  | zero => omega
  | succ n ih =>
    rw [markAllO_succ]
    unfold stepMO
    have hl := markAllO_len k L n
    rw [getD_set]
    by_cases e : n = j
    · subst e; rw [if_pos ⟨rfl, by omega⟩]
    · rw [if_neg (by omega)]; exact ih (by omega) (by omega)
theorem heldOffsetSS_l0 (L : List (List S52)) (hl : L.length ≤ 1048576) (hb : ∀ x ∈ L, x.length ≤ 1048576) (k0 : Int) (hk : 0 ≤ k0 ∧ k0 ≤ 1048577) (hsum : k0 + 3145728 * L.length ≤ 1099511627776) : ∀ (d i : Nat), i + d = L.length → Ev (fun k => laws_heldOffsetSS.l0 k (markAllO k0 L L.length).2 (markAllO k0 L i).1 (i : Int)) (markAllO k0 L L.length).1 := by
  intro d
  induction d with
  | zero =>
    intro i hi
    obtain rfl : i = L.length := by omega
    have hlen := markAllO_len k0 L L.length
    exact Ev.step (fun k => laws_heldOffsetSS.l0.eq_2 _ _ _ k) (ev_neg (by omega) (ev_some rfl))
  | succ d ih =>
    intro i hi
    have hlen := markAllO_len k0 L L.length
    have hbd := markAllO_bd k0 L hb i
    have hrow : (L.getD i []).length ≤ 1048576 := hb _ (getD_mem (by omega))
    refine Ev.step (fun k => laws_heldOffsetSS.l0.eq_2 _ _ _ k) ?_
    have hx : rd_L2 (markAllO k0 L L.length).2 (i : Int) = markRowO (markAllO k0 L i).1 (L.getD i []).length := by unfold rd_L2; rw [toNat_nat]; exact markAllO_at k0 L L.length i (by omega) (Nat.le_refl _)
    rw [hx, w_succ (n := L.length) (by omega) (by omega)]
    have hh := heldOffsetS_l0 (markRowO (markAllO k0 L i).1 (L.getD i []).length) (by rw [markRowO_len]; exact hrow) (markAllO k0 L i).1 (by omega) (fun j hj => markRowO_at _ _ j (by rw [markRowO_len] at hj; exact hj)) (L.getD i []).length 0 (by rw [markRowO_len]; omega)
    rw [markRowO_len, show (markAllO k0 L i).1 + 3 * ((0 : Nat) : Int) = (markAllO k0 L i).1 by omega] at hh
    have e : (markAllO k0 L i).1 + 3 * ((L.getD i []).length : Int) = (markAllO k0 L (i + 1)).1 := by rw [markAllO_succ]; rfl
    rw [e] at hh
    have hbd' := markAllO_bd k0 L hb (i + 1)
    exact ev_pos (by omega) (ev_pos (by omega) (Ev.bind (g := fun k => laws_heldOffsetS.f k (markRowO (markAllO k0 L i).1 (L.getD i []).length) (markAllO k0 L i).1) (by unfold laws_heldOffsetS.f; exact hh) (ev_neg (by omega) (ih (i + 1) (by omega)))))
theorem heldSlopes_calls (s : List Int) (hs : s.length ≤ 1048575) (T : List (List S52)) (hT : T.length ≤ 262144) (hb : ∀ x ∈ T, x.length ≤ 1048576) (A0 : Option Addr) (c0 : Nat) (A1 : Option Addr) (c1 : Nat) (w : World)
    (h1 : Kd.C (Kd.int .i64) w A0 s.length (markRow 1 s.length)) (h2 : s.length ≤ c0) (h3 : Kd.C kOS w A1 T.length (markAllO (1 + s.length) T T.length).2) (h4 : T.length ≤ c1) :
    Calls Tryd.prog 14 #[.agg #[.slice A0 s.length c0, .slice A1 T.length c1], .int .i64 1] w fun e w' => e = .returned (.int .i64 (markAllO (1 + s.length) T T.length).1) ∧ Below w.heap.size w w' := by
  have hn := markRow_len 1 s.length
  have hn2 := markAllO_len (1 + s.length) T T.length
  have hh := heldIntS_l0 (markRow 1 s.length) (by rw [hn]; omega) 1 (by omega) (fun j hj => markRow_at 1 s.length j (by rw [hn] at hj; exact hj)) s.length 0 (by rw [hn]; omega)
  rw [hn, show (1 : Int) + ((0 : Nat) : Int) = 1 by omega] at hh
  have ho := heldOffsetSS_l0 T (by omega) hb (1 + s.length) (by omega) (by omega) T.length 0 (by omega)
  rw [markAllO_zero] at ho
  have hbd := markAllO_bd (1 + s.length) T hb T.length
  have : Ev (fun k => laws_heldSlopes.f k (markRow 1 s.length) (markAllO (1 + s.length) T T.length).2 1) (markAllO (1 + s.length) T T.length).1 := by
    unfold laws_heldSlopes.f
    exact Ev.bind (g := fun k => laws_heldIntS.f k (markRow 1 s.length) 1) (by unfold laws_heldIntS.f; exact hh) (ev_neg (by omega) (Ev.bind (g := fun k => laws_heldOffsetSS.f k (markAllO (1 + s.length) T T.length).2 (1 + s.length)) (by unfold laws_heldOffsetSS.f; exact ho) (ev_neg (by omega) (ev_some rfl))))
  obtain ⟨k, hk⟩ := this.rounds
  have := laws_heldSlopes.calls k A0 c0 (markRow 1 s.length) A1 c1 (markAllO (1 + s.length) T T.length).2 1 _ w (by rw [hn]; exact h1) (by rw [hn]; exact h2) (by rw [hn2]; exact h3) (by rw [hn2]; exact h4) hk
  rw [hn, hn2] at this
  exact this
theorem eqOffsetS_l0 (l : List S52) (hl : l.length ≤ maxLen) : ∀ (d i : Nat), i + d = l.length → Ev (fun k => laws_eqOffsetS.l0 k l l (i : Int)) true := by
  have hl := maxLen_le hl
  intro d
  induction d with
  | zero =>
    intro i hi
    exact Ev.step (fun k => laws_eqOffsetS.l0.eq_2 l l i k) (ev_neg (by omega) (ev_some rfl))
  | succ d ih =>
    intro i hi
    refine Ev.step (fun k => laws_eqOffsetS.l0.eq_2 l l i k) ?_
    rw [w_succ (n := l.length) (by omega) (by omega)]
    exact ev_pos (by omega) (ev_pos (by omega) (ev_pos (by omega) (ev_bindc (by unfold laws_eqOffset.f; rw [if_pos rfl, if_pos rfl, if_pos rfl]) (ev_pos rfl (ih (i + 1) (by omega))))))
theorem eqOffsetS_ev (l : List S52) (hl : l.length ≤ maxLen) : Ev (fun k => laws_eqOffsetS.f k l l) true := by
  unfold laws_eqOffsetS.f
  exact ev_pos rfl (eqOffsetS_l0 l hl l.length 0 (by omega))
-- OWN laws_eqIntS
-- CALLS laws_eqSlopes
theorem eqOffsetSS_l0 (l : List (List S52)) (hl : l.length ≤ maxLen) (hb : ∀ x ∈ l, x.length ≤ maxLen) : ∀ (d i : Nat), i + d = l.length → Ev (fun k => laws_eqOffsetSS.l0 k l l (i : Int)) true := by
  have hl := maxLen_le hl
  intro d
  induction d with
  | zero =>
    intro i hi
    exact Ev.step (fun k => laws_eqOffsetSS.l0.eq_2 l l i k) (ev_neg (by omega) (ev_some rfl))
  | succ d ih =>
    intro i hi
    refine Ev.step (fun k => laws_eqOffsetSS.l0.eq_2 l l i k) ?_
    have hx : rd_L2 l (i : Int) = l.getD i [] := by unfold rd_L2; rw [toNat_nat]
    have hmem : l.getD i [] ∈ l := getD_mem (by omega)
    rw [w_succ (n := l.length) (by omega) (by omega), hx]
    exact ev_pos (by omega) (ev_pos (by omega) (ev_pos (by omega) (Ev.bind (eqOffsetS_ev _ (hb _ hmem)) (ev_pos rfl (ih (i + 1) (by omega))))))
theorem eqSlopes_calls (s : List Int) (T : List (List S52)) (hs : s.length ≤ maxLen) (hT : T.length ≤ maxLen) (hb : ∀ x ∈ T, x.length ≤ maxLen) (A0 : Option Addr) (c0 : Nat) (A1 : Option Addr) (c1 : Nat) (B0 : Option Addr) (d0 : Nat) (B1 : Option Addr) (d1 : Nat) (w : World)
    (h1 : Kd.C (Kd.int .i64) w A0 s.length s) (h2 : s.length ≤ c0) (h3 : Kd.C kOS w A1 T.length T) (h4 : T.length ≤ c1) (k1 : Kd.C (Kd.int .i64) w B0 s.length s) (k2 : s.length ≤ d0) (k3 : Kd.C kOS w B1 T.length T) (k4 : T.length ≤ d1) :
    Calls Tryd.prog 10 #[.agg #[.slice A0 s.length c0, .slice A1 T.length c1], .agg #[.slice B0 s.length d0, .slice B1 T.length d1]] w fun e w' => e = .returned (.bool true) ∧ Below w.heap.size w w' := by
  have : Ev (fun k => laws_eqSlopes.f k s T s T) true := by
    unfold laws_eqSlopes.f
    refine Ev.bind (eqIntS_ev s hs) (ev_pos rfl (Ev.bind (a := true) ?_ (ev_pos rfl (ev_some rfl))))
    unfold laws_eqOffsetSS.f
    exact ev_pos rfl (eqOffsetSS_l0 T hT hb T.length 0 (by omega))
  obtain ⟨k, hk⟩ := this.rounds
  exact laws_eqSlopes.calls k A0 c0 s A1 c1 T B0 d0 s B1 d1 T true w h1 h2 h3 h4 k1 k2 k3 k4 hk
-- CALLS laws_toGrid
theorem toGrid_calls (x y z : Int) (w : World) : Calls Tryd.prog 7 #[.agg #[.int .i64 x, .int .i64 y, .int .i64 z]] w fun e w' => e = .returned (.agg #[.int .i64 x, .int .i64 y, .int .i64 z]) ∧ Below w.heap.size w w' :=
  laws_toGrid.calls x y z x y z w rfl
/-- both rows of a Slopes can be read while the blocks lo .. hi - 1 stay as they are -/
def Rd (w : World) (lo hi : Nat) (A0 : Option Addr) (c0 : Nat) (A1 : Option Addr) (c1 : Nat) (s : List Int) (T : List (List S52)) : Prop :=
  hi ≤ w.heap.size ∧ s.length ≤ c0 ∧ T.length ≤ c1 ∧ ∀ w' : World, (∀ q, lo ≤ q → q < hi → w'.heap[q]? = w.heap[q]?) → Kd.C (Kd.int .i64) w' A0 s.length s ∧ Kd.C kOS w' A1 T.length T
section
variable {w w1 : World} {lo hi base : Nat} {A0 : Option Addr} {c0 : Nat} {A1 : Option Addr} {c1 : Nat} {s : List Int} {T : List (List S52)}
theorem Rd.move (h : Rd w lo hi A0 c0 A1 c1 s T) (hs : w.heap.size ≤ w1.heap.size) (hm : ∀ q, lo ≤ q → q < hi → w1.heap[q]? = w.heap[q]?) : Rd w1 lo hi A0 c0 A1 c1 s T :=
  ⟨Nat.le_trans h.1 hs, h.2.1, h.2.2.1, fun w' hw => h.2.2.2 w' (fun q h1 h2 => (hw q h1 h2).trans (hm q h1 h2))⟩
theorem Rd.below (h : Rd w lo hi A0 c0 A1 c1 s T) (hb : Below w.heap.size w w1) : Rd w1 lo hi A0 c0 A1 c1 s T := h.move hb.size (fun q _ h2 => hb.block q (Nat.lt_of_lt_of_le h2 h.1))
theorem Rd.far (h : Rd w lo hi A0 c0 A1 c1 s T) (p : Addr) (hp : p.block < lo ∨ hi ≤ p.block) (u : Value) : Rd (w.setCell p u) lo hi A0 c0 A1 c1 s T :=
  h.move (by simp [World.setCell]) (fun q h1 h2 => Below.heap_setCell w p u q (by omega))
theorem Rd.kept {P : Nat → Prop} (h : Rd w lo hi A0 c0 A1 c1 s T) (hk : Kept w w1 P) (hP : ∀ q, P q → q < lo ∨ hi ≤ q) : Rd w1 lo hi A0 c0 A1 c1 s T :=
  h.move hk.1 (fun q h1 h2 => hk.2 q (Nat.lt_of_lt_of_le h2 h.1) (fun hp => by have := hP q hp; omega))
theorem Rd.C0 (h : Rd w lo hi A0 c0 A1 c1 s T) : Kd.C (Kd.int .i64) w A0 s.length s := (h.2.2.2 w (fun _ _ _ => rfl)).1
theorem Rd.C1 (h : Rd w lo hi A0 c0 A1 c1 s T) : Kd.C kOS w A1 T.length T := (h.2.2.2 w (fun _ _ _ => rfl)).2
theorem Rd.of_RS {ok0 ok1 : Nat → Prop} {n0 n1 : Nat} (h0 : Kd.R (Kd.int .i64) 3 w base ok0 (.slice A0 n0 c0) s) (h1 : Kd.S kOS 50 w base ok1 (.slice A1 n1 c1) T) (hh : hi ≤ w.heap.size) (hz0 : ∀ q, ok0 q → lo ≤ q ∧ q < hi) (hz1 : ∀ q, ok1 q → lo ≤ q ∧ q < hi) : Rd w lo hi A0 c0 A1 c1 s T := by
  have r0 := Kd.R_reads' h0
  have r1 := Kd.S_reads' h1
  obtain rfl := r0.1
  obtain rfl := r1.1
  exact ⟨hh, r0.2.1, r1.2.1, fun w' hw => ⟨(Kd.R_reads' (Kd.R_step h0 (fun k ho _ => hw k (hz0 k ho).1 (hz0 k ho).2))).2.2, (Kd.S_reads' (Kd.S_step h1 (fun k ho _ => hw k (hz1 k ho).1 (hz1 k ho).2))).2.2⟩⟩
/-- both rows of a Slopes are the call's own, in the blocks lo .. hi - 1 -/
def RS (w : World) (base lo hi : Nat) (v0 v1 : Value) (s : List Int) (T : List (List S52)) : Prop :=
  hi ≤ w.heap.size ∧ Kd.R (Kd.int .i64) 3 w base (fun q => (lo ≤ q ∧ q < hi) ∧ some q = v0.ownBlock) v0 s ∧ Kd.S kOS 50 w base (fun q => (lo ≤ q ∧ q < hi) ∧ some q ≠ v0.ownBlock) v1 T
variable {v0 v1 : Value}
theorem RS.make {W : World} (h0 : Kd.R (Kd.int .i64) 3 w1 w.heap.size (fun q => some q = v0.ownBlock) v0 s) (h1 : Kd.S kOS 50 w1 w.heap.size (fun q => some q ≠ v0.ownBlock) v1 T) (hb : base ≤ w.heap.size) : RS w1 base w.heap.size w1.heap.size v0 v1 s T :=
  ⟨Nat.le_refl _, Kd.R_lower (Kd.R_mono (Kd.R_bound h0) (fun q h => ⟨⟨h.2.1, h.2.2.1⟩, h.1⟩)) hb, Kd.S_lower (Kd.S_mono (Kd.S_bound h1) (fun q h => ⟨⟨h.2.1, h.2.2.1⟩, h.1⟩)) hb⟩
theorem RS.below (h : RS w base lo hi v0 v1 s T) (hb : Below w.heap.size w w1) : RS w1 base lo hi v0 v1 s T := ⟨Nat.le_trans h.1 hb.size, Kd.R_below h.2.1 hb, Kd.S_below h.2.2 hb⟩
theorem RS.far (h : RS w base lo hi v0 v1 s T) (p : Addr) (hp : p.block < lo ∨ hi ≤ p.block) (u : Value) : RS (w.setCell p u) base lo hi v0 v1 s T :=
  ⟨by have := h.1; simpa [World.setCell] using this, Kd.R_far h.2.1 (fun k hk => by have := hk.1; omega) u, Kd.S_far h.2.2 (fun k hk => by have := hk.1; omega) u⟩
theorem RS.rd {n0 n1 : Nat} (h : RS w base lo hi (.slice A0 n0 c0) (.slice A1 n1 c1) s T) : Rd w lo hi A0 c0 A1 c1 s T := Rd.of_RS h.2.1 h.2.2 h.1 (fun q hq => hq.1) (fun q hq => hq.1)
end
theorem own_calls (x y z : Int) (t : ByteArray) (g0_0 : List Int) (g0_1 : List (List S52)) (g1 : Bool) (w : World) (hmax : OwnLines.Max w) (ht : t.size ≤ 1048576) (h : OwnParseSlopes.parR x y z t = (g0_0, g0_1, g1)) :
    Calls Tryd.prog 12 #[.agg #[.int .i64 x, .int .i64 y, .int .i64 z], .string t] w fun e w' => ∃ v0 v1 : Value, e = .returned (.tuple #[.agg #[v0, v1], .bool g1]) ∧ Kd.R (Kd.int .i64) 3 w' w.heap.size (fun k => some k = v0.ownBlock) v0 g0_0 ∧ Kd.S kOS 50 w' w.heap.size (fun k => some k ≠ v0.ownBlock) v1 g0_1 ∧ Below w.heap.size w w' := by
  refine (OwnParseSlopes.own_impl x y z t g0_0 g0_1 g1 w hmax ht h).mono ?_
  rintro e w' ⟨v0, v1, rfl, h0, h1, hb⟩
  exact ⟨v0, v1, rfl, Kd.R_tight rfl h0, Kd.S_mono (Kd.S_apart' h1 (Kd.R_typed h0) (by decide)) (fun _ hk => hk.2), hb⟩
theorem both (x y z : Int) (t : ByteArray) (ht : t.size ≤ 1048576) : ∃ (g0 : List Int) (g1 : List (List S52)) (gb : Bool), (∃ ks, spec_ParseSlopes.f ks x y z t = some (g0, g1, gb)) ∧ OwnParseSlopes.parR x y z t = (g0, g1, gb) ∧ g0.length ≤ 1000 ∧ g1.length ≤ 1000 ∧ ∀ x ∈ g1, x.length ≤ 1000 := by
  have he := (OwnPrS.spec_ev x y z t ht).rounds
  unfold OwnParseSlopes.parR
  cases hp : OwnPrI.prI x y z t with
  | none =>
    rw [hp] at he
    exact ⟨_, _, _, he, rfl, by simp, by simp, fun x hx => by simp at hx⟩
  | some r =>
    obtain ⟨s, T⟩ := r
    rw [hp] at he
    obtain ⟨hg, hs, _⟩ := OwnPrI.prI_read hp
    have hF := OwnSlText.slOk_facts hg hs
    exact ⟨_, _, _, he, rfl, by have := hF.ls.2; omega, by have := hF.lT.2; omega, fun x hx => by have := (hF.row x hx).2.1; omega⟩
set_option maxHeartbeats 16000000 in
set_option maxRecDepth 100000 in
theorem walk (x y z : Int) (t : ByteArray) (ht : t.size ≤ 1048576) (g0 : List Int) (g1 : List (List S52)) (gb : Bool) (n0 : g0.length ≤ 1000) (n1 : g1.length ≤ 1000) (nb : ∀ x ∈ g1, x.length ≤ 1000) (HS0 : ∃ ks, spec_ParseSlopes.f ks x y z t = some (g0, g1, gb)) (hi : OwnParseSlopes.parR x y z t = (g0, g1, gb)) (w : World) (hmax : OwnLines.Max w) : Calls Tryd.prog 4 #[.agg #[.int .i64 x, .int .i64 y, .int .i64 z], .string t] w fun e w' => e = .returned (.bool true) ∧ Below w.heap.size w w' := by
  have hu1 := Tryd.underlying23
  have hu2 := Tryd.underlying35
  have hu3 := Tryd.underlying31
  obtain ⟨ks, HS0⟩ := HS0
  have HTS := Aside0.mk ht
  have HMX := Aside0.mk hmax
  clear hmax
  have hta : decide (1048576 < (t.size : Int)) = false := decide_eq_false (by omega)
  have htb : decide (1048576 < t.size) = false := decide_eq_false (by omega)
  have HS := Aside0.mk HS0
  have HI := Aside0.mk hi
  have N0 := Aside0.mk n0
  have N1 := Aside0.mk n1
  have NB := Aside0.mk (fun x hx => Nat.le_trans (nb x hx) (by omega : 1000 ≤ 1048576))
  have HB := Aside0.mk (Below.refl w.heap.size w)
  clear HS0 hi n0 n1 nb
  go_enter Tryd.func4, Tryd.ntmps4
  go_wp2_with (first | ((with_reducible refine gate_dst (N := 2) rfl ?_); refine box_event ?hg (N := 2) ?hd (cs := #[.int .i64 x, .int .i64 y, .int .i64 z]) (t := 23) ?hr ?_; (case hd => rfl); (case hg => rfl); (case hr => first | (go_simp; done) | (go_simp; rfl)); intro gz hg w1 hbox hb; have Kz := Aside0.mk hbox; clear hbox; have ZZ := Aside0.mk hg; clear hg; have n_HB := Aside0.mk (below_step HB.out hb); clear HB hb; have HB := n_HB; clear n_HB; have hcz0 : w1.cell? ⟨gz, 0, none⟩ = some (.int .i64 x) := (blk_cell Kz.out 0).trans rfl; have hcz1 : w1.cell? ⟨gz, 1, none⟩ = some (.int .i64 y) := (blk_cell Kz.out 1).trans rfl; have hcz2 : w1.cell? ⟨gz, 2, none⟩ = some (.int .i64 z) := (blk_cell Kz.out 2).trans rfl; have hfz0 := blk_frozen Kz.out 0; have hfz1 := blk_frozen Kz.out 1; have hfz2 := blk_frozen Kz.out 2))
  clear hcz0 hfz0 hcz1 hfz1 hcz2 hfz2
  have GZ : Aside0 (gz = w.heap.size) := ⟨ZZ.out⟩
  clear ZZ
  refine (toGrid_calls x y z w1).mono ?_
  rintro e w2 ⟨rfl, hb⟩
  have n_Kz := Aside0.mk (blk_below Kz.out hb)
  have n_HB := Aside0.mk (below_step HB.out hb)
  clear Kz HB hb
  have Kz := n_Kz
  have HB := n_HB
  clear n_Kz n_HB
  go_wp2_with fail
  refine (spec_ParseSlopes.calls ks x y z t g0 g1 gb w2 HS.out).mono ?_
  rintro e w3 ⟨v0, v1, rfl, ho0, ho1, hb⟩
  obtain ⟨Aw0, cw0, rfl⟩ := Kd.R_slice ho0
  obtain ⟨Aw1, cw1, rfl⟩ := Kd.S_slice ho1
  have n_R := Aside0.mk (Rd.of_RS (lo := w2.heap.size) (hi := w3.heap.size) (Kd.R_bound ho0) (Kd.S_bound ho1) (Nat.le_refl _) (fun q h => ⟨h.2.1, h.2.2.1⟩) (fun q h => ⟨h.2.1, h.2.2.1⟩))
  have Yw := Aside0.mk hb.size
  clear ho0 ho1
  have n_Kz := Aside0.mk (blk_below Kz.out hb)
  have n_HB := Aside0.mk (below_step HB.out hb)
  clear Kz HB hb
  have Kz := n_Kz
  have HB := n_HB
  clear n_Kz n_HB
  have Dw := n_R
  clear n_R
  have QKz := Aside0.mk (blk_lt Kz.out)
  have TDw := Aside0.mk (Dw.out.1)
  have hvw := (below_size HB.out)
  go_upto_region 4 with (first | ((with_reducible refine gate_dst (N := 5) rfl ?_); refine box_event ?hg (N := 5) ?hd (cs := #[.slice none 0 0, .slice none 0 0]) (t := 35) ?hr ?_; (case hd => rfl); (case hg => rfl); (case hr => first | (go_simp; done) | (go_simp; rfl)); intro bw hg w4 hbox hb; have Kw := Aside0.mk hbox; clear hbox; have Xw := Aside0.mk hg; clear hg; have n_Kz := Aside0.mk (blk_below Kz.out hb); have n_Dw := Aside0.mk (Dw.out.below hb); have n_HB := Aside0.mk (below_step HB.out hb); clear Kz Dw HB hb; have Kz := n_Kz; have Dw := n_Dw; have HB := n_HB; clear n_Kz n_Dw n_HB; have hcw0 : w4.cell? ⟨bw, 0, none⟩ = some (.slice none 0 0) := (blk_cell Kw.out 0).trans rfl; have hcw1 : w4.cell? ⟨bw, 1, none⟩ = some (.slice none 0 0) := (blk_cell Kw.out 1).trans rfl; have hfw0 := blk_frozen Kw.out 0; have hfw1 := blk_frozen Kw.out 1))
  clear hcw0 hfw0 hcw1 hfw1
  have n_Kz := Aside0.mk (blk_far (p := ⟨bw, 1, none⟩) (blk_far (p := ⟨bw, 0, none⟩) Kz.out (show gz ≠ bw from by rw [Xw.out]; exact Nat.ne_of_lt QKz.out) (.slice Aw0 g0.length cw0)) (show gz ≠ bw from by rw [Xw.out]; exact Nat.ne_of_lt QKz.out) (.slice Aw1 g1.length cw1))
  have n_Dw := Aside0.mk ((Dw.out.far ⟨bw, 0, none⟩ (Or.inr (show _ ≤ bw from by rw [Xw.out]; exact TDw.out)) (.slice Aw0 g0.length cw0)).far ⟨bw, 1, none⟩ (Or.inr (show _ ≤ bw from by rw [Xw.out]; exact TDw.out)) (.slice Aw1 g1.length cw1))
  have n_K := Aside0.mk (blk_put (cs := #[.slice Aw0 g0.length cw0, .slice none 0 0]) (blk_put (cs := #[.slice none 0 0, .slice none 0 0]) Kw.out 0 (.slice Aw0 g0.length cw0) rfl) 1 (.slice Aw1 g1.length cw1) (cs' := #[.slice Aw0 g0.length cw0, .slice Aw1 g1.length cw1]) rfl)
  have n_HB : Aside0 (Below w.heap.size w ((w4.setCell ⟨bw, 0, none⟩ (.slice Aw0 g0.length cw0)).setCell ⟨bw, 1, none⟩ (.slice Aw1 g1.length cw1))) := ⟨below_set (below_set HB.out (by rw [Xw.out]; exact hvw)) (by rw [Xw.out]; exact hvw)⟩
  clear Kz Dw Kw HB
  generalize ((w4.setCell ⟨bw, 0, none⟩ (.slice Aw0 g0.length cw0)).setCell ⟨bw, 1, none⟩ (.slice Aw1 g1.length cw1)) = w5 at n_Kz n_Dw n_K n_HB ⊢
  have Kz := n_Kz
  have Dw := n_Dw
  have Kw := n_K
  have HB := n_HB
  clear n_Kz n_Dw n_K n_HB
  clear QKz TDw
  have hcz0 : w5.cell? ⟨gz, 0, none⟩ = some (.int .i64 x) := (blk_cell Kz.out 0).trans rfl
  have hcz1 : w5.cell? ⟨gz, 1, none⟩ = some (.int .i64 y) := (blk_cell Kz.out 1).trans rfl
  have hcz2 : w5.cell? ⟨gz, 2, none⟩ = some (.int .i64 z) := (blk_cell Kz.out 2).trans rfl
  have hfz0 := blk_frozen Kz.out 0
  have hfz1 := blk_frozen Kz.out 1
  have hfz2 := blk_frozen Kz.out 2
  go_wp2_with fail
  clear hcz0 hfz0 hcz1 hfz1 hcz2 hfz2
  refine (toGrid_calls x y z w5).mono ?_
  rintro e w6 ⟨rfl, hb⟩
  have n_Kz := Aside0.mk (blk_below Kz.out hb)
  have n_Dw := Aside0.mk (Dw.out.below hb)
  have n_Kw := Aside0.mk (blk_below Kw.out hb)
  have n_HB := Aside0.mk (below_step HB.out hb)
  clear Kz Dw Kw HB hb
  have Kz := n_Kz
  have Dw := n_Dw
  have Kw := n_Kw
  have HB := n_HB
  clear n_Kz n_Dw n_Kw n_HB
  go_wp2_with fail
  have LKz := Aside0.mk (blk_lt Kz.out)
  have LKw := Aside0.mk (blk_lt Kw.out)
  have LDw := Aside0.mk (Dw.out.1)
  refine (own_calls x y z t g0 g1 gb w6 (OwnLines.max_below HMX.out HB.out) HTS.out HI.out).mono ?_
  rintro e w7 ⟨v0, v1, rfl, ho0, ho1, hb⟩
  obtain ⟨Ag0, cg0, rfl⟩ := Kd.R_slice ho0
  obtain ⟨Ag1, cg1, rfl⟩ := Kd.S_slice ho1
  have n_R := Aside0.mk (RS.make (W := w6) (base := w.heap.size) ho0 ho1 (below_size HB.out))
  have Yg := Aside0.mk hb.size
  clear ho0 ho1
  have n_Kz := Aside0.mk (blk_below Kz.out hb)
  have n_Dw := Aside0.mk (Dw.out.below hb)
  have n_Kw := Aside0.mk (blk_below Kw.out hb)
  have n_HB := Aside0.mk (below_step HB.out hb)
  clear Kz Dw Kw HB hb
  have Kz := n_Kz
  have Dw := n_Dw
  have Kw := n_Kw
  have HB := n_HB
  clear n_Kz n_Dw n_Kw n_HB
  have Dg := n_R
  clear n_R
  have QKz := Aside0.mk (blk_lt Kz.out)
  have TDw := Aside0.mk (Dw.out.1)
  have QKw := Aside0.mk (blk_lt Kw.out)
  have TDg := Aside0.mk (Dg.out.1)
  have LDg := Aside0.mk (Dg.out.1)
  have hvg := (below_size HB.out)
  go_upto_region 5 with (first | ((with_reducible refine gate_dst (N := 7) rfl ?_); refine box_event ?hg (N := 7) ?hd (cs := #[.slice none 0 0, .slice none 0 0]) (t := 35) ?hr ?_; (case hd => rfl); (case hg => rfl); (case hr => first | (go_simp; done) | (go_simp; rfl)); intro bg hg w8 hbox hb; have Kg := Aside0.mk hbox; clear hbox; have Xg := Aside0.mk hg; clear hg; have n_Kz := Aside0.mk (blk_below Kz.out hb); have n_Dw := Aside0.mk (Dw.out.below hb); have n_Kw := Aside0.mk (blk_below Kw.out hb); have n_Dg := Aside0.mk (Dg.out.below hb); have n_HB := Aside0.mk (below_step HB.out hb); clear Kz Dw Kw Dg HB hb; have Kz := n_Kz; have Dw := n_Dw; have Kw := n_Kw; have Dg := n_Dg; have HB := n_HB; clear n_Kz n_Dw n_Kw n_Dg n_HB; have hcg0 : w8.cell? ⟨bg, 0, none⟩ = some (.slice none 0 0) := (blk_cell Kg.out 0).trans rfl; have hcg1 : w8.cell? ⟨bg, 1, none⟩ = some (.slice none 0 0) := (blk_cell Kg.out 1).trans rfl; have hfg0 := blk_frozen Kg.out 0; have hfg1 := blk_frozen Kg.out 1))
  clear hcg0 hfg0 hcg1 hfg1
  have n_Kz := Aside0.mk (blk_far (p := ⟨bg, 1, none⟩) (blk_far (p := ⟨bg, 0, none⟩) Kz.out (show gz ≠ bg from by rw [Xg.out]; exact Nat.ne_of_lt QKz.out) (.slice Ag0 g0.length cg0)) (show gz ≠ bg from by rw [Xg.out]; exact Nat.ne_of_lt QKz.out) (.slice Ag1 g1.length cg1))
  have n_Dw := Aside0.mk ((Dw.out.far ⟨bg, 0, none⟩ (Or.inr (show _ ≤ bg from by rw [Xg.out]; exact TDw.out)) (.slice Ag0 g0.length cg0)).far ⟨bg, 1, none⟩ (Or.inr (show _ ≤ bg from by rw [Xg.out]; exact TDw.out)) (.slice Ag1 g1.length cg1))
  have n_Kw := Aside0.mk (blk_far (p := ⟨bg, 1, none⟩) (blk_far (p := ⟨bg, 0, none⟩) Kw.out (show bw ≠ bg from by rw [Xg.out]; exact Nat.ne_of_lt QKw.out) (.slice Ag0 g0.length cg0)) (show bw ≠ bg from by rw [Xg.out]; exact Nat.ne_of_lt QKw.out) (.slice Ag1 g1.length cg1))
  have n_Dg := Aside0.mk ((Dg.out.far ⟨bg, 0, none⟩ (Or.inr (show _ ≤ bg from by rw [Xg.out]; exact TDg.out)) (.slice Ag0 g0.length cg0)).far ⟨bg, 1, none⟩ (Or.inr (show _ ≤ bg from by rw [Xg.out]; exact TDg.out)) (.slice Ag1 g1.length cg1))
  have n_K := Aside0.mk (blk_put (cs := #[.slice Ag0 g0.length cg0, .slice none 0 0]) (blk_put (cs := #[.slice none 0 0, .slice none 0 0]) Kg.out 0 (.slice Ag0 g0.length cg0) rfl) 1 (.slice Ag1 g1.length cg1) (cs' := #[.slice Ag0 g0.length cg0, .slice Ag1 g1.length cg1]) rfl)
  have n_HB : Aside0 (Below w.heap.size w ((w8.setCell ⟨bg, 0, none⟩ (.slice Ag0 g0.length cg0)).setCell ⟨bg, 1, none⟩ (.slice Ag1 g1.length cg1))) := ⟨below_set (below_set HB.out (by rw [Xg.out]; exact hvg)) (by rw [Xg.out]; exact hvg)⟩
  clear Kz Dw Kw Dg Kg HB
  generalize ((w8.setCell ⟨bg, 0, none⟩ (.slice Ag0 g0.length cg0)).setCell ⟨bg, 1, none⟩ (.slice Ag1 g1.length cg1)) = w9 at n_Kz n_Dw n_Kw n_Dg n_K n_HB ⊢
  have Kz := n_Kz
  have Dw := n_Dw
  have Kw := n_Kw
  have Dg := n_Dg
  have Kg := n_K
  have HB := n_HB
  clear n_Kz n_Dw n_Kw n_Dg n_K n_HB
  clear QKz TDw QKw TDg
  have hcg0 : w9.cell? ⟨bg, 0, none⟩ = some (.slice Ag0 g0.length cg0) := (blk_cell Kg.out 0).trans rfl
  have hcg1 : w9.cell? ⟨bg, 1, none⟩ = some (.slice Ag1 g1.length cg1) := (blk_cell Kg.out 1).trans rfl
  have hfg0 := blk_frozen Kg.out 0
  have hfg1 := blk_frozen Kg.out 1
  have hcw0 : w9.cell? ⟨bw, 0, none⟩ = some (.slice Aw0 g0.length cw0) := (blk_cell Kw.out 0).trans rfl
  have hcw1 : w9.cell? ⟨bw, 1, none⟩ = some (.slice Aw1 g1.length cw1) := (blk_cell Kw.out 1).trans rfl
  have hfw0 := blk_frozen Kw.out 0
  have hfw1 := blk_frozen Kw.out 1
  go_wp2_with fail
  clear hcg0 hfg0 hcg1 hfg1
  clear hcw0 hfw0 hcw1 hfw1
  refine (eqSlopes_calls g0 g1 (maxLen_val (by have := N0.out; omega)) (maxLen_val (by have := N1.out; omega)) (fun x hx => maxLen_val (by have := NB.out x hx; omega)) Ag0 cg0 Ag1 cg1 Aw0 cw0 Aw1 cw1 w9 (Rd.C0 (Dg.out.rd)) (Dg.out.rd).2.1 (Rd.C1 (Dg.out.rd)) (Dg.out.rd).2.2.1 (Rd.C0 Dw.out) Dw.out.2.1 (Rd.C1 Dw.out) Dw.out.2.2.1).mono ?_
  rintro e w10 ⟨rfl, hb⟩
  have n_Kz := Aside0.mk (blk_below Kz.out hb)
  have n_Dw := Aside0.mk (Dw.out.below hb)
  have n_Kw := Aside0.mk (blk_below Kw.out hb)
  have n_Dg := Aside0.mk (Dg.out.below hb)
  have n_Kg := Aside0.mk (blk_below Kg.out hb)
  have n_HB := Aside0.mk (below_step HB.out hb)
  clear Kz Dw Kw Dg Kg HB hb
  have Kz := n_Kz
  have Dw := n_Dw
  have Kw := n_Kw
  have Dg := n_Dg
  have Kg := n_Kg
  have HB := n_HB
  clear n_Kz n_Dw n_Kw n_Dg n_Kg n_HB
  have hcg0 : w10.cell? ⟨bg, 0, none⟩ = some (.slice Ag0 g0.length cg0) := (blk_cell Kg.out 0).trans rfl
  have hcg1 : w10.cell? ⟨bg, 1, none⟩ = some (.slice Ag1 g1.length cg1) := (blk_cell Kg.out 1).trans rfl
  have hfg0 := blk_frozen Kg.out 0
  have hfg1 := blk_frozen Kg.out 1
  go_wp2_with fail
  clear hcg0 hfg0 hcg1 hfg1
  refine (markSlopes_two g0 (by have := N0.out; omega) g1 (by have := N1.out; omega) (fun x hx => by have := NB.out x hx; omega) _ _ (fun q h1 h2 => h2.2 h1.2) _ _ w w10 HB.out Dg.out.2.1 Dg.out.2.2).mono ?_
  rintro e w11 ⟨rfl, ho0, ho1, hb, hk⟩
  have n_Dg := Aside0.mk (Rd.of_RS (lo := w6.heap.size) (hi := w7.heap.size) ho0 ho1 (Nat.le_trans Dg.out.1 hk.1) (fun q h => h.1) (fun q h => h.1))
  have RKz : Aside0 (gz < w6.heap.size) := ⟨LKz.out⟩
  have RKw : Aside0 (bw < w6.heap.size) := ⟨LKw.out⟩
  have RDw : Aside0 (w3.heap.size ≤ w6.heap.size) := ⟨LDw.out⟩
  have RKg : Aside0 (w7.heap.size ≤ bg) := ⟨by rw [Xg.out]; exact LDg.out⟩
  have hyg := Yg.out
  have hyw := Yw.out
  have n_Kz := Aside0.mk (blk_kept Kz.out hk (fun h => by have h2 : w6.heap.size ≤ _ ∧ _ < w7.heap.size := (by rcases h with h | h <;> exact h.1); have h3_ := RKz.out; omega))
  have n_Dw := Aside0.mk (Dw.out.kept hk (fun q h => by have h2 : w6.heap.size ≤ q ∧ q < w7.heap.size := (by rcases h with h | h <;> exact h.1); have h3_ := RDw.out; omega))
  have n_Kw := Aside0.mk (blk_kept Kw.out hk (fun h => by have h2 : w6.heap.size ≤ _ ∧ _ < w7.heap.size := (by rcases h with h | h <;> exact h.1); have h3_ := RKw.out; omega))
  have n_Kg := Aside0.mk (blk_kept Kg.out hk (fun h => by have h2 : w6.heap.size ≤ _ ∧ _ < w7.heap.size := (by rcases h with h | h <;> exact h.1); have h3_ := RKg.out; omega))
  have n_HB := Aside0.mk hb
  have hml := markRow_len 1 g0.length
  have hml2 := markAllO_len (1 + g0.length) g1 g1.length
  have hbd := markAllO_bd (1 + g0.length) g1 NB.out g1.length
  obtain ⟨m1, em1⟩ : ∃ z : Int, z = (markAllO (1 + g0.length) g1 g1.length).1 := ⟨_, rfl⟩
  rw [← em1]
  have EM := Aside0.mk em1
  have dm : decide (m1 < 0) = false := decide_eq_false (by omega)
  clear Dg Kz Dw Kw Kg HB ho0 ho1 hb hk hyg hyw hml hml2 hbd em1
  have Dg := n_Dg
  have Kz := n_Kz
  have Dw := n_Dw
  have Kw := n_Kw
  have Kg := n_Kg
  have HB := n_HB
  clear n_Dg n_Kz n_Dw n_Kw n_Kg n_HB
  have hcg0 : w11.cell? ⟨bg, 0, none⟩ = some (.slice Ag0 g0.length cg0) := (blk_cell Kg.out 0).trans rfl
  have hcg1 : w11.cell? ⟨bg, 1, none⟩ = some (.slice Ag1 g1.length cg1) := (blk_cell Kg.out 1).trans rfl
  have hfg0 := blk_frozen Kg.out 0
  have hfg1 := blk_frozen Kg.out 1
  go_wp2_with fail
  clear hcg0 hfg0 hcg1 hfg1
  have k0 := Dg.out.C0
  have k1 := Dg.out.C1
  have k2 := Dg.out.2.1
  have k3 := Dg.out.2.2.1
  rw [markRow_len] at k0 k2
  rw [markAllO_len] at k1 k3
  refine (heldSlopes_calls g0 (by have := N0.out; omega) g1 (by have := N1.out; omega) (fun x hx => by have := NB.out x hx; omega) Ag0 cg0 Ag1 cg1 w11 k0 k2 k1 k3).mono ?_
  rintro e w12 ⟨rfl, hb⟩
  clear k0 k1 k2 k3
  rw [← EM.out]
  have n_Kz := Aside0.mk (blk_below Kz.out hb)
  have n_Dw := Aside0.mk (Dw.out.below hb)
  have n_Kw := Aside0.mk (blk_below Kw.out hb)
  have n_Dg := Aside0.mk (Dg.out.below hb)
  have n_Kg := Aside0.mk (blk_below Kg.out hb)
  have n_HB := Aside0.mk (below_step HB.out hb)
  clear Kz Dw Kw Dg Kg HB hb
  have Kz := n_Kz
  have Dw := n_Dw
  have Kw := n_Kw
  have Dg := n_Dg
  have Kg := n_Kg
  have HB := n_HB
  clear n_Kz n_Dw n_Kw n_Dg n_Kg n_HB
  have hcz0 : w12.cell? ⟨gz, 0, none⟩ = some (.int .i64 x) := (blk_cell Kz.out 0).trans rfl
  have hcz1 : w12.cell? ⟨gz, 1, none⟩ = some (.int .i64 y) := (blk_cell Kz.out 1).trans rfl
  have hcz2 : w12.cell? ⟨gz, 2, none⟩ = some (.int .i64 z) := (blk_cell Kz.out 2).trans rfl
  have hfz0 := blk_frozen Kz.out 0
  have hfz1 := blk_frozen Kz.out 1
  have hfz2 := blk_frozen Kz.out 2
  go_wp2_with fail
  clear hcz0 hfz0 hcz1 hfz1 hcz2 hfz2
  refine (toGrid_calls x y z w12).mono ?_
  rintro e w13 ⟨rfl, hb⟩
  have n_Kz := Aside0.mk (blk_below Kz.out hb)
  have n_Dw := Aside0.mk (Dw.out.below hb)
  have n_Kw := Aside0.mk (blk_below Kw.out hb)
  have n_Dg := Aside0.mk (Dg.out.below hb)
  have n_Kg := Aside0.mk (blk_below Kg.out hb)
  have n_HB := Aside0.mk (below_step HB.out hb)
  clear Kz Dw Kw Dg Kg HB hb
  have Kz := n_Kz
  have Dw := n_Dw
  have Kw := n_Kw
  have Dg := n_Dg
  have Kg := n_Kg
  have HB := n_HB
  clear n_Kz n_Dw n_Kw n_Dg n_Kg n_HB
  go_wp2_with fail
  refine (own_calls x y z t g0 g1 gb w13 (OwnLines.max_below HMX.out HB.out) HTS.out HI.out).mono ?_
  rintro e w14 ⟨v0, v1, rfl, ho0, ho1, hb⟩
  obtain ⟨Ah0, ch0, rfl⟩ := Kd.R_slice ho0
  obtain ⟨Ah1, ch1, rfl⟩ := Kd.S_slice ho1
  have n_R := Aside0.mk ((RS.make (W := w13) ho0 ho1 (Nat.le_refl _)).rd)
  have Yh := Aside0.mk hb.size
  clear ho0 ho1
  have n_Kz := Aside0.mk (blk_below Kz.out hb)
  have n_Dw := Aside0.mk (Dw.out.below hb)
  have n_Kw := Aside0.mk (blk_below Kw.out hb)
  have n_Dg := Aside0.mk (Dg.out.below hb)
  have n_Kg := Aside0.mk (blk_below Kg.out hb)
  have n_HB := Aside0.mk (below_step HB.out hb)
  clear Kz Dw Kw Dg Kg HB hb
  have Kz := n_Kz
  have Dw := n_Dw
  have Kw := n_Kw
  have Dg := n_Dg
  have Kg := n_Kg
  have HB := n_HB
  clear n_Kz n_Dw n_Kw n_Dg n_Kg n_HB
  have Dh := n_R
  clear n_R
  have QKz := Aside0.mk (blk_lt Kz.out)
  have TDw := Aside0.mk (Dw.out.1)
  have QKw := Aside0.mk (blk_lt Kw.out)
  have TDg := Aside0.mk (Dg.out.1)
  have QKg := Aside0.mk (blk_lt Kg.out)
  have TDh := Aside0.mk (Dh.out.1)
  have hvh := (below_size HB.out)
  go_upto_region 16 with (first | ((with_reducible refine gate_dst (N := 11) rfl ?_); refine box_event ?hg (N := 11) ?hd (cs := #[.slice none 0 0, .slice none 0 0]) (t := 35) ?hr ?_; (case hd => rfl); (case hg => rfl); (case hr => first | (go_simp; done) | (go_simp; rfl)); intro bh hg w15 hbox hb; have Kh := Aside0.mk hbox; clear hbox; have Xh := Aside0.mk hg; clear hg; have n_Kz := Aside0.mk (blk_below Kz.out hb); have n_Dw := Aside0.mk (Dw.out.below hb); have n_Kw := Aside0.mk (blk_below Kw.out hb); have n_Dg := Aside0.mk (Dg.out.below hb); have n_Kg := Aside0.mk (blk_below Kg.out hb); have n_Dh := Aside0.mk (Dh.out.below hb); have n_HB := Aside0.mk (below_step HB.out hb); clear Kz Dw Kw Dg Kg Dh HB hb; have Kz := n_Kz; have Dw := n_Dw; have Kw := n_Kw; have Dg := n_Dg; have Kg := n_Kg; have Dh := n_Dh; have HB := n_HB; clear n_Kz n_Dw n_Kw n_Dg n_Kg n_Dh n_HB; have hch0 : w15.cell? ⟨bh, 0, none⟩ = some (.slice none 0 0) := (blk_cell Kh.out 0).trans rfl; have hch1 : w15.cell? ⟨bh, 1, none⟩ = some (.slice none 0 0) := (blk_cell Kh.out 1).trans rfl; have hfh0 := blk_frozen Kh.out 0; have hfh1 := blk_frozen Kh.out 1))
  clear hch0 hfh0 hch1 hfh1
  have n_Kz := Aside0.mk (blk_far (p := ⟨bh, 1, none⟩) (blk_far (p := ⟨bh, 0, none⟩) Kz.out (show gz ≠ bh from by rw [Xh.out]; exact Nat.ne_of_lt QKz.out) (.slice Ah0 g0.length ch0)) (show gz ≠ bh from by rw [Xh.out]; exact Nat.ne_of_lt QKz.out) (.slice Ah1 g1.length ch1))
  have n_Dw := Aside0.mk ((Dw.out.far ⟨bh, 0, none⟩ (Or.inr (show _ ≤ bh from by rw [Xh.out]; exact TDw.out)) (.slice Ah0 g0.length ch0)).far ⟨bh, 1, none⟩ (Or.inr (show _ ≤ bh from by rw [Xh.out]; exact TDw.out)) (.slice Ah1 g1.length ch1))
  have n_Kw := Aside0.mk (blk_far (p := ⟨bh, 1, none⟩) (blk_far (p := ⟨bh, 0, none⟩) Kw.out (show bw ≠ bh from by rw [Xh.out]; exact Nat.ne_of_lt QKw.out) (.slice Ah0 g0.length ch0)) (show bw ≠ bh from by rw [Xh.out]; exact Nat.ne_of_lt QKw.out) (.slice Ah1 g1.length ch1))
  have n_Dg := Aside0.mk ((Dg.out.far ⟨bh, 0, none⟩ (Or.inr (show _ ≤ bh from by rw [Xh.out]; exact TDg.out)) (.slice Ah0 g0.length ch0)).far ⟨bh, 1, none⟩ (Or.inr (show _ ≤ bh from by rw [Xh.out]; exact TDg.out)) (.slice Ah1 g1.length ch1))
  have n_Kg := Aside0.mk (blk_far (p := ⟨bh, 1, none⟩) (blk_far (p := ⟨bh, 0, none⟩) Kg.out (show bg ≠ bh from by rw [Xh.out]; exact Nat.ne_of_lt QKg.out) (.slice Ah0 g0.length ch0)) (show bg ≠ bh from by rw [Xh.out]; exact Nat.ne_of_lt QKg.out) (.slice Ah1 g1.length ch1))
  have n_Dh := Aside0.mk ((Dh.out.far ⟨bh, 0, none⟩ (Or.inr (show _ ≤ bh from by rw [Xh.out]; exact TDh.out)) (.slice Ah0 g0.length ch0)).far ⟨bh, 1, none⟩ (Or.inr (show _ ≤ bh from by rw [Xh.out]; exact TDh.out)) (.slice Ah1 g1.length ch1))
  have n_K := Aside0.mk (blk_put (cs := #[.slice Ah0 g0.length ch0, .slice none 0 0]) (blk_put (cs := #[.slice none 0 0, .slice none 0 0]) Kh.out 0 (.slice Ah0 g0.length ch0) rfl) 1 (.slice Ah1 g1.length ch1) (cs' := #[.slice Ah0 g0.length ch0, .slice Ah1 g1.length ch1]) rfl)
  have n_HB : Aside0 (Below w.heap.size w ((w15.setCell ⟨bh, 0, none⟩ (.slice Ah0 g0.length ch0)).setCell ⟨bh, 1, none⟩ (.slice Ah1 g1.length ch1))) := ⟨below_set (below_set HB.out (by rw [Xh.out]; exact hvh)) (by rw [Xh.out]; exact hvh)⟩
  clear Kz Dw Kw Dg Kg Dh Kh HB
  generalize ((w15.setCell ⟨bh, 0, none⟩ (.slice Ah0 g0.length ch0)).setCell ⟨bh, 1, none⟩ (.slice Ah1 g1.length ch1)) = w16 at n_Kz n_Dw n_Kw n_Dg n_Kg n_Dh n_K n_HB ⊢
  have Kz := n_Kz
  have Dw := n_Dw
  have Kw := n_Kw
  have Dg := n_Dg
  have Kg := n_Kg
  have Dh := n_Dh
  have Kh := n_K
  have HB := n_HB
  clear n_Kz n_Dw n_Kw n_Dg n_Kg n_Dh n_K n_HB
  clear QKz TDw QKw TDg QKg TDh
  have hch0 : w16.cell? ⟨bh, 0, none⟩ = some (.slice Ah0 g0.length ch0) := (blk_cell Kh.out 0).trans rfl
  have hch1 : w16.cell? ⟨bh, 1, none⟩ = some (.slice Ah1 g1.length ch1) := (blk_cell Kh.out 1).trans rfl
  have hfh0 := blk_frozen Kh.out 0
  have hfh1 := blk_frozen Kh.out 1
  have hcw0 : w16.cell? ⟨bw, 0, none⟩ = some (.slice Aw0 g0.length cw0) := (blk_cell Kw.out 0).trans rfl
  have hcw1 : w16.cell? ⟨bw, 1, none⟩ = some (.slice Aw1 g1.length cw1) := (blk_cell Kw.out 1).trans rfl
  have hfw0 := blk_frozen Kw.out 0
  have hfw1 := blk_frozen Kw.out 1
  go_wp2_with fail
  clear hch0 hfh0 hch1 hfh1
  clear hcw0 hfw0 hcw1 hfw1
  refine (eqSlopes_calls g0 g1 (maxLen_val (by have := N0.out; omega)) (maxLen_val (by have := N1.out; omega)) (fun x hx => maxLen_val (by have := NB.out x hx; omega)) Ah0 ch0 Ah1 ch1 Aw0 cw0 Aw1 cw1 w16 (Rd.C0 (Dh.out)) (Dh.out).2.1 (Rd.C1 (Dh.out)) (Dh.out).2.2.1 (Rd.C0 Dw.out) Dw.out.2.1 (Rd.C1 Dw.out) Dw.out.2.2.1).mono ?_
  rintro e w17 ⟨rfl, hb⟩
  have n_Kz := Aside0.mk (blk_below Kz.out hb)
  have n_Dw := Aside0.mk (Dw.out.below hb)
  have n_Kw := Aside0.mk (blk_below Kw.out hb)
  have n_Dg := Aside0.mk (Dg.out.below hb)
  have n_Kg := Aside0.mk (blk_below Kg.out hb)
  have n_Dh := Aside0.mk (Dh.out.below hb)
  have n_Kh := Aside0.mk (blk_below Kh.out hb)
  have n_HB := Aside0.mk (below_step HB.out hb)
  clear Kz Dw Kw Dg Kg Dh Kh HB hb
  have Kz := n_Kz
  have Dw := n_Dw
  have Kw := n_Kw
  have Dg := n_Dg
  have Kg := n_Kg
  have Dh := n_Dh
  have Kh := n_Kh
  have HB := n_HB
  clear n_Kz n_Dw n_Kw n_Dg n_Kg n_Dh n_Kh n_HB
  have hcg0 : w17.cell? ⟨bg, 0, none⟩ = some (.slice Ag0 g0.length cg0) := (blk_cell Kg.out 0).trans rfl
  have hcg1 : w17.cell? ⟨bg, 1, none⟩ = some (.slice Ag1 g1.length cg1) := (blk_cell Kg.out 1).trans rfl
  have hfg0 := blk_frozen Kg.out 0
  have hfg1 := blk_frozen Kg.out 1
  go_wp2_with fail
  clear hcg0 hfg0 hcg1 hfg1
  have k0 := Dg.out.C0
  have k1 := Dg.out.C1
  have k2 := Dg.out.2.1
  have k3 := Dg.out.2.2.1
  rw [markRow_len] at k0 k2
  rw [markAllO_len] at k1 k3
  refine (heldSlopes_calls g0 (by have := N0.out; omega) g1 (by have := N1.out; omega) (fun x hx => by have := NB.out x hx; omega) Ag0 cg0 Ag1 cg1 w17 k0 k2 k1 k3).mono ?_
  rintro e w18 ⟨rfl, hb⟩
  clear k0 k1 k2 k3
  rw [← EM.out]
  have n_Kz := Aside0.mk (blk_below Kz.out hb)
  have n_Dw := Aside0.mk (Dw.out.below hb)
  have n_Kw := Aside0.mk (blk_below Kw.out hb)
  have n_Dg := Aside0.mk (Dg.out.below hb)
  have n_Kg := Aside0.mk (blk_below Kg.out hb)
  have n_Dh := Aside0.mk (Dh.out.below hb)
  have n_Kh := Aside0.mk (blk_below Kh.out hb)
  have n_HB := Aside0.mk (below_step HB.out hb)
  clear Kz Dw Kw Dg Kg Dh Kh HB hb
  have Kz := n_Kz
  have Dw := n_Dw
  have Kw := n_Kw
  have Dg := n_Dg
  have Kg := n_Kg
  have Dh := n_Dh
  have Kh := n_Kh
  have HB := n_HB
  clear n_Kz n_Dw n_Kw n_Dg n_Kg n_Dh n_Kh n_HB
  go_wp2_with fail
  go_ret
  exact ⟨rfl, HB.out⟩
set_option maxRecDepth 100000 in
theorem law (x y z : Int) (t : ByteArray) (hx : (Lit.int .i64 x).wf = true) (hy : (Lit.int .i64 y).wf = true) (hz : (Lit.int .i64 z).wf = true) (hl : t.size ≤ maxLen) (w : World) (hmax : OwnLines.Max w) : Calls Tryd.prog 4 #[.agg #[.int .i64 x, .int .i64 y, .int .i64 z], .string t] w fun e w' => e = .returned (.bool true) ∧ Below w.heap.size w w' := by
  by_cases ht : t.size ≤ 1048576
  · obtain ⟨g0, g1, gb, hs, hi, n0, n1, nb⟩ := both x y z t ht
    exact walk x y z t ht g0 g1 gb n0 n1 nb hs hi w hmax
  · have hta : decide (1048576 < (t.size : Int)) = true := decide_eq_true (by omega)
    have htb : decide (1048576 < t.size) = true := decide_eq_true (by omega)
    have HB := Aside0.mk (Below.refl w.heap.size w)
    have hu1 := Tryd.underlying23
    clear hmax hx hy hz hl ht
    go_enter Tryd.func4, Tryd.ntmps4
    go_wp2_with (first | ((with_reducible refine gate_dst (N := 2) rfl ?_); refine box_event ?hg (N := 2) ?hd (cs := #[.int .i64 x, .int .i64 y, .int .i64 z]) (t := 23) ?hr ?_; (case hd => rfl); (case hg => rfl); (case hr => first | (go_simp; done) | (go_simp; rfl)); intro gz hg w1 hbox hb; have n_HB := Aside0.mk (below_step HB.out hb); clear HB hb hbox hg; have HB := n_HB; clear n_HB))
    go_ret
    exact ⟨rfl, HB.out⟩
end Go.Proofs.YtmihfgnkjjohmaaDoor.WalkFnExactParseSlopes
