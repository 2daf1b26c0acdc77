/- The contract of impl.allIn, over the printed one. -/
import Derived.Test.YtbhlffakpneecaaTBase
import Derived.Test.YtbhlffakpneecaaTMarks
import Derived.Test.YtbhlffakpneecaaTMFnClosuresx6
namespace Go.Proofs.Ytbhlffakpneecaa.OwnAllIn
open Go.RowKit Go.Proofs.Ytbhlffakpneecaa.PFnClosures Go.Proofs.YtbhlffakpneecaaW.PrintWords Go.Proofs.YtbhlffakpneecaaW.PrintLast Go.Proofs.YtbhlffakpneecaaW.PrintMore Go.Proofs.Ytbhlffakpneecaa.B
set_option linter.unusedVariables false
set_option linter.unusedSimpArgs false
theorem rdB (m : List Bool) (x : Int) : rdOf false m x = at_ m x := rfl
theorem allIn_l0 (m : List Bool) (l : List Int) (hl : l.length ≤ maxLen) (hm : ∀ x ∈ l, 0 ≤ x ∧ x < m.length) : ∀ (d i : Nat), i + d = l.length → Ev (fun k => impl_allIn.l0 k m l (l.length : Int) (i : Int)) (allR (inAt m l) i l.length) := by
 have hl := maxLen_le hl
 intro d
 induction d with
 | zero =>
  intro i hi
  exact Ev.step (fun k => impl_allIn.l0.eq_2 m l l.length i k) (ev_neg (by omega) (ev_some (allR_end (by omega)).symm))
 | succ d ih =>
  intro i hi
  refine Ev.step (fun k => impl_allIn.l0.eq_2 m l l.length i k) ?_
  have hx := hm _ (getD_mem (z := 0) (show i < l.length by omega))
  rw [allR_step (by omega), w_succ (n := l.length) (by omega) (by omega), rd_nat, rdB]
  refine ev_pos (by omega) (ev_pos (by omega) (ev_pos (by omega) (ev_pos (by omega) (ev_pos (by omega) ?_))))
  refine ev_ite (fun h => ?_) (fun h => ?_)
  ·rw [show inAt m l i = true from h, Bool.true_and]; exact ih (i + 1) (by omega)
  ·rw [Bool.not_eq_true] at h; rw [show inAt m l i = false from h, Bool.false_and]; exact ev_some rfl
theorem allIn_ev (m : List Bool) (l : List Int) (hl : l.length ≤ maxLen) (hm : ∀ x ∈ l, 0 ≤ x ∧ x < m.length) : Ev (fun k => impl_allIn.f k m l) (allIn m l) := by
 unfold impl_allIn.f allIn
 exact allIn_l0 m l hl hm l.length 0 (by omega)
theorem drawn_below' {w w' : World} (h : Drawn0 w w') : Below w.heap.size w w' := by
 obtain ⟨n, rfl⟩ := h
 exact pw_below_drewN (Below.refl _ _) n
theorem allIn_calls (A : Option Addr) (c : Nat) (m : List Bool) (A1 : Option Addr) (c1 : Nat) (l : List Int) (hl : l.length ≤ maxLen) (hm : ∀ x ∈ l, 0 ≤ x ∧ x < m.length) (w : World) (h1 : Kd.C Kd.bool w A m.length m) (e1 : m.length ≤ c) (h2 : Kd.C (Kd.int .i64) w A1 l.length l) (e2 : l.length ≤ c1) :
  Calls Try.prog 50 #[.slice A m.length c, .slice A1 l.length c1] w fun e w' => e = .returned (.bool (allIn m l)) ∧ Below w.heap.size w w' := by
 obtain ⟨k, hk⟩ := (allIn_ev m l hl hm).rounds
 exact (impl_allIn.calls k A c m A1 c1 l _ w h1 e1 h2 e2 hk).mono fun e w' h => ⟨h.1, drawn_below' h.2⟩
end Go.Proofs.Ytbhlffakpneecaa.OwnAllIn
