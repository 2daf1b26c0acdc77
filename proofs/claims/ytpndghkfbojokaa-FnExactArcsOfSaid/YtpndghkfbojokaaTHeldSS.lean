/- The contract of laws.heldIntSS over rows that were marked by laws.markIntSS. -/
import Derived.Test.YtpndghkfbojokaaTComS
import Derived.Test.YtpndghkfbojokaaTMFnExactArcsOfx4
namespace Go.Proofs.Ytpndghkfbojokaa.HeldSS
open Go.RowKit Go.Proofs.Ytpndghkfbojokaa.PFnExactArcsOf Go.Proofs.YtpndghkfbojokaaW.PrintWords Go.Proofs.YtpndghkfbojokaaW.PrintLast Go.Proofs.YtpndghkfbojokaaW.PrintMore Go.Proofs.Ytpndghkfbojokaa.B
set_option linter.unusedVariables false
set_option linter.unusedSimpArgs false
open Go.Proofs.Ytpndghkfbojokaa.Com (markRow markRow_len markRow_at stepM markAll markAll_zero markAll_succ markAll_len markAll_bd kSS drawn_below)
theorem heldIntS_l0 (l : List Int) (hl : l.length ≤ 1048576) (a : Int) (ha : 0 ≤ a ∧ a ≤ 4398046511104) (he : ∀ j, j < l.length → l.getD j 0 = a + j) : ∀ (d i : Nat), i + d = l.length →
    Ev (fun k => laws_heldIntS.l0 k l (a + i) (i : Int)) (a + l.length) := by
  intro d
  induction d with
  | zero =>
    intro i hi
    obtain rfl : i = l.length := by omega
    exact Ev.step (fun k => laws_heldIntS.l0.eq_2 l (a + l.length) l.length k) (ev_neg (by omega) (ev_some rfl))
  | succ d ih =>
    intro i hi
    refine Ev.step (fun k => laws_heldIntS.l0.eq_2 l (a + i) i k) ?_
    rw [w_succ (n := l.length) (by omega) (by omega), rd_nat, w64 (x := a + i + 1) (by omega) (by omega), show a + (i : Int) + 1 = a + ((i + 1 : Nat) : Int) by omega]
    exact ev_pos (by omega) (ev_pos (by omega) (ev_pos (he i (by omega)) (ih (i + 1) (by omega))))
theorem markAll_at (k : Int) (L : List (List Int)) (n j : Nat) (h : j < n) (hn : n ≤ L.length) : (markAll k L n).2.getD j [] = markRow (markAll k L j).1 (L.getD j []).length := by
  induction n with
  | zero => omega
  | succ n ih =>
    rw [markAll_succ]
    unfold stepM
    have hl := markAll_len k L n
    rw [getD_set]
    by_cases e : n = j
    · subst e; rw [if_pos ⟨rfl, by omega⟩]
    · rw [if_neg (by omega)]; exact ih (by omega) (by omega)
theorem heldIntSS_l0 (L : List (List Int)) (hl : L.length ≤ 1048576) (hb : ∀ x ∈ L, x.length ≤ 1048576) : ∀ (d i : Nat), i + d = L.length → Ev (fun k => laws_heldIntSS.l0 k (markAll 1 L L.length).2 (markAll 1 L i).1 (i : Int)) (markAll 1 L L.length).1 := by
  intro d
  induction d with
  | zero =>
    intro i hi
    obtain rfl : i = L.length := by omega
    have hlen := markAll_len 1 L L.length
    exact Ev.step (fun k => laws_heldIntSS.l0.eq_2 _ _ _ k) (ev_neg (by omega) (ev_some rfl))
  | succ d ih =>
    intro i hi
    have hlen := markAll_len 1 L L.length
    have hbd := markAll_bd 1 L hb i
    have hrow : (L.getD i []).length ≤ 1048576 := hb _ (getD_mem (by omega))
    refine Ev.step (fun k => laws_heldIntSS.l0.eq_2 _ _ _ k) ?_
    have hx : rd_L5 (markAll 1 L L.length).2 (i : Int) = markRow (markAll 1 L i).1 (L.getD i []).length := by unfold rd_L5; rw [toNat_nat]; exact markAll_at 1 L L.length i (by omega) (Nat.le_refl _)
    rw [hx, w_succ (n := L.length) (by omega) (by omega)]
    have hh := heldIntS_l0 (markRow (markAll 1 L i).1 (L.getD i []).length) (by rw [markRow_len]; exact hrow) (markAll 1 L i).1 (by omega) (fun j hj => markRow_at _ _ j (by rw [markRow_len] at hj; exact hj)) (L.getD i []).length 0 (by rw [markRow_len]; omega)
    rw [markRow_len, show (markAll 1 L i).1 + ((0 : Nat) : Int) = (markAll 1 L i).1 by omega] at hh
    have e : (markAll 1 L i).1 + ((L.getD i []).length : Int) = (markAll 1 L (i + 1)).1 := by rw [markAll_succ]; rfl
    rw [e] at hh
    have hbd' := markAll_bd 1 L hb (i + 1)
    exact ev_pos (by omega) (ev_pos (by omega) (Ev.bind (g := fun k => laws_heldIntS.f k (markRow (markAll 1 L i).1 (L.getD i []).length) (markAll 1 L i).1) (by unfold laws_heldIntS.f; exact hh) (ev_neg (by omega) (ih (i + 1) (by omega)))))
theorem heldIntSS_calls (L : List (List Int)) (hl : L.length ≤ 1048576) (hb : ∀ x ∈ L, x.length ≤ 1048576) (A : Option Addr) (c : Nat) (w : World) (h1 : Kd.C kSS w A L.length (markAll 1 L L.length).2) (h2 : L.length ≤ c) :
    Calls Try.prog 24 #[.slice A L.length c, .int .i64 1] w fun e w' => e = .returned (.int .i64 (markAll 1 L L.length).1) ∧ Below w.heap.size w w' := by
  have hlen := markAll_len 1 L L.length
  have h := heldIntSS_l0 L hl hb L.length 0 (by omega)
  rw [markAll_zero] at h
  obtain ⟨k, hk⟩ := h.rounds
  have := laws_heldIntSS.calls k A c (markAll 1 L L.length).2 1 (markAll 1 L L.length).1 w (by rw [hlen]; exact h1) (by rw [hlen]; exact h2) hk
  rw [hlen] at this
  exact this.mono fun e w' h => ⟨h.1, drawn_below h.2⟩
end Go.Proofs.Ytpndghkfbojokaa.HeldSS
