/- Contracts of the laws' own helpers over lists of whole numbers; and rows told by the interval of blocks that they were made in. -/
import Derived.Test.YtpndghkfbojokaaTBase
import Derived.Test.YtpndghkfbojokaaTMarks
import Derived.Test.YtpndghkfbojokaaTFold
import Derived.Test.YtpndghkfbojokaaTMFnExactTopBlocksx3
import Derived.Test.YtpndghkfbojokaaTMFnExactTopBlocksx3
import Derived.Test.YtpndghkfbojokaaTMFnExactTopBlocksx4
import Derived.Test.YtpndghkfbojokaaTMFnExactTopBlocksx4
namespace Go.Proofs.Ytpndghkfbojokaa.Com
open Go.RowKit Go.Proofs.Ytpndghkfbojokaa.PFnExactTopBlocks Go.Proofs.YtpndghkfbojokaaW.PrintWords Go.Proofs.YtpndghkfbojokaaW.PrintLast Go.Proofs.YtpndghkfbojokaaW.PrintMore Go.Proofs.Ytpndghkfbojokaa.B
set_option linter.unusedVariables false
set_option linter.unusedSimpArgs false
theorem toIntS_l0 (l : List Int) (hl : l.length ≤ 35184372088832) : ∀ (d i : Nat) (m : List Int), i + d = l.length → m.length = l.length → (∀ j, j < i → m.getD j 0 = l.getD j 0) → Ev (fun k => laws_toIntS.l0 k l m (i : Int)) l := by
  intro d
  induction d with
  | zero =>
    intro i m hi hm he
    refine Ev.step (fun k => laws_toIntS.l0.eq_2 l m i k) ?_
    refine ev_neg (by omega) (ev_some ?_)
    refine List.ext_getElem hm (fun j h1 h2 => ?_)
    have := he j (by omega)
    simpa [List.getD_eq_getElem?_getD, h1, h2] using this
  | succ d ih =>
    intro i m hi hm he
    refine Ev.step (fun k => laws_toIntS.l0.eq_2 l m i k) ?_
    refine ev_pos (by omega) (ev_pos (by omega) (ev_pos (by omega) ?_))
    rw [w_succ (n := l.length) (by omega) (by omega), toNat_nat, rd_nat]
    refine ih (i + 1) _ (by omega) (by simpa using hm) (fun j hj => ?_)
    by_cases hji : j = i
    · subst hji
      simp [List.getD_eq_getElem?_getD, show j < m.length by omega]
    · rw [← he j (by omega)]
      simp [List.getD_eq_getElem?_getD, List.getElem?_set_ne (Ne.symm hji)]
theorem toIntS_ev (l : List Int) (hl : l.length ≤ 35184372088832) : Ev (fun k => laws_toIntS.f k l) l := by
  unfold laws_toIntS.f
  refine ev_pos (by omega) (ev_pos (by omega) ?_)
  exact toIntS_l0 l hl l.length 0 _ (by omega) (by simp) (fun j hj => by omega)
theorem markIntS_l0 (l : List Int) (hl : l.length ≤ 1048576) (a : Int) (ha : 0 ≤ a ∧ a ≤ 4398046511104) : ∀ (d i : Nat) (m : List Int), i + d = l.length → m.length = l.length → (∀ j, j < i → m.getD j 0 = a + j) →
    ∃ r, Ev (fun k => laws_markIntS.l0 k m (a + i) (i : Int)) (a + l.length, r) ∧ r.length = l.length ∧ ∀ j, j < l.length → r.getD j 0 = a + j := by
  intro d
  induction d with
  | zero =>
    intro i m hi hm he
    obtain rfl : i = l.length := by omega
    exact ⟨m, Ev.step (fun k => laws_markIntS.l0.eq_2 m (a + l.length) l.length k) (ev_neg (by omega) (ev_some rfl)), hm, he⟩
  | succ d ih =>
    intro i m hi hm he
    obtain ⟨r, hr, hz⟩ := ih (i + 1) (m.set i (a + i)) (by omega) (by simpa using hm) (fun j hj => by
      by_cases hji : j = i
      · subst hji; simp [List.getD_eq_getElem?_getD, show j < m.length by omega]
      · rw [← he j (by omega)]; simp [List.getD_eq_getElem?_getD, List.getElem?_set_ne (Ne.symm hji)])
    refine ⟨r, Ev.step (fun k => laws_markIntS.l0.eq_2 m (a + i) i k) ?_, hz⟩
    rw [w_succ (n := l.length) (by omega) (by omega), toNat_nat, w64 (x := a + i + 1) (by omega) (by omega), show a + (i : Int) + 1 = a + ((i + 1 : Nat) : Int) by omega]
    exact ev_pos (by omega) (ev_pos (by omega) hr)
def markRow (a : Int) (n : Nat) : List Int := (List.range n).map (fun (j : Nat) => a + (j : Int))
theorem markRow_len (a : Int) (n : Nat) : (markRow a n).length = n := by unfold markRow; simp
theorem markRow_at (a : Int) (n j : Nat) (h : j < n) : (markRow a n).getD j 0 = a + j := by
  unfold markRow; simp [List.getD_eq_getElem?_getD, h]
theorem markIntS_row (l : List Int) (hl : l.length ≤ 1048576) (a : Int) (ha : 0 ≤ a ∧ a ≤ 4398046511104) : Ev (fun k => laws_markIntS.f k l a) (a + l.length, markRow a l.length) := by
  obtain ⟨r, h1, h2, h3⟩ := markIntS_l0 l hl a ha l.length 0 l (by omega) rfl (fun j hj => by omega)
  rw [show a + ((0 : Nat) : Int) = a by omega] at h1
  have e : r = markRow a l.length := getD_ext 0 (by rw [h2, markRow_len]) (fun j hj => by rw [markRow_at _ _ _ (by omega)]; exact h3 j (by omega))
  rw [← e]; exact h1
theorem heldIntS_l0 (l : List Int) (hl : l.length ≤ 1048576) (a : Int) (ha : 0 ≤ a ∧ a ≤ 4398046511104) (he : ∀ j, j < l.length → l.getD j 0 = a + j) : ∀ (d i : Nat), i + d = l.length →
    Ev (fun k => laws_heldIntS.l0 k l (a + i) (i : Int)) (a + l.length) := by
  intro d
  induction d with
  | zero =>
    intro i hi
    obtain rfl : i = l.length := by omega
    exact Ev.step (fun k => laws_heldIntS.l0.eq_2 l (a + l.length) l.length k) (ev_neg (by omega) (ev_some rfl))
  | succ d ih =>
    intro i hi
    refine Ev.step (fun k => laws_heldIntS.l0.eq_2 l (a + i) i k) ?_
    rw [w_succ (n := l.length) (by omega) (by omega), rd_nat, w64 (x := a + i + 1) (by omega) (by omega), show a + (i : Int) + 1 = a + ((i + 1 : Nat) : Int) by omega]
    exact ev_pos (by omega) (ev_pos (by omega) (ev_pos (he i (by omega)) (ih (i + 1) (by omega))))
theorem eqIntS_l0 (l : List Int) (hl : l.length ≤ maxLen) : ∀ (d i : Nat), i + d = l.length → Ev (fun k => laws_eqIntS.l0 k l l (i : Int)) true := by
  have hl := maxLen_le hl
  intro d
  induction d with
  | zero =>
    intro i hi
    exact Ev.step (fun k => laws_eqIntS.l0.eq_2 l l i k) (ev_neg (by omega) (ev_some rfl))
  | succ d ih =>
    intro i hi
    refine Ev.step (fun k => laws_eqIntS.l0.eq_2 l l i k) ?_
    rw [w_succ (n := l.length) (by omega) (by omega)]
    exact ev_pos (by omega) (ev_pos (by omega) (ev_pos (by omega) (ev_pos rfl (ih (i + 1) (by omega)))))
theorem eqIntS_ev (l : List Int) (hl : l.length ≤ maxLen) : Ev (fun k => laws_eqIntS.f k l l) true := by
  unfold laws_eqIntS.f
  exact ev_pos rfl (eqIntS_l0 l hl l.length 0 (by omega))
def Btw (W W' : World) (k : Nat) : Prop := W.heap.size ≤ k ∧ k < W'.heap.size
theorem ivR {α : Type} {d : Kd α} {e : Nat} {w W W' : World} {v : Value} {xs : List α} (h : Kd.R d e W' W.heap.size (fun _ => True) v xs) (hw : w.heap.size ≤ W.heap.size) : Kd.R d e W' w.heap.size (Btw W W') v xs :=
  Kd.R_lower (Kd.R_mono (Kd.R_bound h) (fun k hk => ⟨hk.2.1, hk.2.2.1⟩)) hw
theorem ivS {α : Type} {d : Kd α} {e : Nat} {w W W' : World} {v : Value} {xs : List α} (h : Kd.S d e W' W.heap.size (fun _ => True) v xs) (hw : w.heap.size ≤ W.heap.size) : Kd.S d e W' w.heap.size (Btw W W') v xs :=
  Kd.S_lower (Kd.S_mono (Kd.S_bound h) (fun k hk => ⟨hk.2.1, hk.2.2.1⟩)) hw
theorem readsR {α : Type} {d : Kd α} {e : Nat} {w : World} {b : Nat} {ok : Nat → Prop} {A : Option Addr} {n c : Nat} {xs : List α} (h : Kd.R d e w b ok (.slice A n c) xs) : n = xs.length ∧ xs.length ≤ c ∧ d.C w A xs.length xs := by
  obtain ⟨h1, h2, h3⟩ := Kd.R_reads' h
  subst h1
  exact ⟨rfl, h2, h3⟩
theorem readsS {α : Type} {d : Kd α} {e : Nat} {w : World} {b : Nat} {ok : Nat → Prop} {A : Option Addr} {n c : Nat} {xs : List α} (h : Kd.S d e w b ok (.slice A n c) xs) : n = xs.length ∧ xs.length ≤ c ∧ d.C w A xs.length xs := readsR (Kd.S_R h)
theorem drawn_below {w w' : World} (h : Drawn0 w w') : Below w.heap.size w w' := by
  obtain ⟨n, rfl⟩ := h
  exact pw_below_drewN (Below.refl _ _) n
theorem apart {W W' V V' : World} (h : W'.heap.size ≤ V.heap.size ∨ V'.heap.size ≤ W.heap.size) : ∀ k, Btw W W' k → ¬ Btw V V' k := by
  intro k h1 h2; unfold Btw at h1 h2; omega
theorem eqIntS_calls (l : List Int) (hl : l.length ≤ maxLen) (A A' : Option Addr) (c c' : Nat) (w : World) (h1 : Kd.C (Kd.int .i64) w A l.length l) (h2 : l.length ≤ c) (h3 : Kd.C (Kd.int .i64) w A' l.length l) (h4 : l.length ≤ c') :
    Calls Try.prog 29 #[.slice A l.length c, .slice A' l.length c'] w fun e w' => e = .returned (.bool true) ∧ Below w.heap.size w w' := by
  obtain ⟨k, hk⟩ := (eqIntS_ev l hl).rounds
  exact (laws_eqIntS.calls k A c l A' c' l true w h1 h2 h3 h4 hk).mono fun e w' h => ⟨h.1, drawn_below h.2⟩
theorem markIntS_calls (l : List Int) (hl : l.length ≤ 1048576) (a : Int) (ha : 0 ≤ a ∧ a ≤ 4398046511104) (P : Nat → Prop) (u : Value) (w0 w : World) (hB : Below w0.heap.size w0 w) (hR : Kd.R (Kd.int .i64) 3 w w0.heap.size P u l) :
    Calls Try.prog 30 #[u, .int .i64 a] w fun e w' => e = .returned (.int .i64 (a + l.length)) ∧ Kd.R (Kd.int .i64) 3 w' w0.heap.size P u (markRow a l.length) ∧ Below w0.heap.size w0 w' ∧ Kept w w' P := by
  obtain ⟨k, hk⟩ := (markIntS_row l hl a (by omega)).rounds
  exact (laws_markIntS.calls k P u l a _ _ w0 w hB hR hk).mono fun e w' h => ⟨h.1, Kd.R_reok rfl h.2.1 hR.1, h.2.2.1, h.2.2.2⟩
theorem heldIntS_calls (n : Nat) (hl : n ≤ 1048576) (a : Int) (ha : 0 ≤ a ∧ a ≤ 4398046511104) (A : Option Addr) (c : Nat) (w : World) (h1 : Kd.C (Kd.int .i64) w A n (markRow a n)) (h2 : n ≤ c) :
    Calls Try.prog 31 #[.slice A n c, .int .i64 a] w fun e w' => e = .returned (.int .i64 (a + n)) ∧ Below w.heap.size w w' := by
  have hn := markRow_len a n
  have h := heldIntS_l0 (markRow a n) (by rw [hn]; exact hl) a (by omega) (fun j hj => markRow_at a n j (by rw [hn] at hj; exact hj)) n 0 (by rw [hn]; omega)
  rw [hn, show a + ((0 : Nat) : Int) = a by omega] at h
  obtain ⟨k, hk⟩ := h.rounds
  have := laws_heldIntS.calls k A c (markRow a n) a (a + n) w (by rw [hn]; exact h1) (by rw [hn]; exact h2) hk
  rw [hn] at this
  exact this.mono fun e w' h => ⟨h.1, drawn_below h.2⟩
end Go.Proofs.Ytpndghkfbojokaa.Com
