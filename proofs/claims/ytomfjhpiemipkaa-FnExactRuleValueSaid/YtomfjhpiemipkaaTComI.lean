/- Contracts of the laws' own helpers over lists of whole numbers; and rows told by the interval of blocks that they were made in. -/
import Derived.Test.YtomfjhpiemipkaaTBase
import Derived.Test.YtomfjhpiemipkaaTMarks
import Derived.Test.YtomfjhpiemipkaaTFold
import Derived.Test.YtomfjhpiemipkaaTMFnExactRuleValuesx1
import Derived.Test.YtomfjhpiemipkaaTMFnExactRuleValuesx4
import Derived.Test.YtomfjhpiemipkaaTMFnExactRuleValuesx0
import Derived.Test.YtomfjhpiemipkaaTMFnExactRuleValuesx0
namespace Go.Proofs.Ytomfjhpiemipkaa.Com
open Go.RowKit Go.Proofs.Ytomfjhpiemipkaa.PFnExactRuleValues Go.Proofs.YtomfjhpiemipkaaW.PrintWords Go.Proofs.YtomfjhpiemipkaaW.PrintLast Go.Proofs.YtomfjhpiemipkaaW.PrintMore Go.Proofs.Ytomfjhpiemipkaa.B
set_option linter.unusedVariables false
set_option linter.unusedSimpArgs false
theorem toIntS_l0 (l : List Int) (hl : l.length ≤ 35184372088832) : ∀ (d i : Nat) (m : List Int), i + d = l.length → m.length = l.length → (∀ j, j < i → m.getD j 0 = l.getD j 0) → Ev (fun k => laws_toIntS.l0 k l m (i : Int)) l := by
  intro d
  induction d with
  | zero =>
    intro i m hi hm he
    refine Ev.step (fun k => laws_toIntS.l0.eq_2 l m i k) ?_
    refine ev_neg (by omega) (ev_some ?_)
    refine List.ext_getElem hm (fun j h1 h2 => ?_)
    have := he j (by omega)
    simpa [List.getD_eq_getElem?_getD, h1, h2] using this
  | succ d ih =>
    intro i m hi hm he
    refine Ev.step (fun k => laws_toIntS.l0.eq_2 l m i k) ?_
    refine ev_pos (by omega) (ev_pos (by omega) (ev_pos (by omega) ?_))
    rw [w_succ (n := l.length) (by omega) (by omega), toNat_nat, rd_nat]
    refine ih (i + 1) _ (by omega) (by simpa using hm) (fun j hj => ?_)
    by_cases hji : j = i
    · subst hji
      simp [List.getD_eq_getElem?_getD, show j < m.length by omega]
    · rw [← he j (by omega)]
      simp [List.getD_eq_getElem?_getD, List.getElem?_set_ne (Ne.symm hji)]
theorem toIntS_ev (l : List Int) (hl : l.length ≤ 35184372088832) : Ev (fun k => laws_toIntS.f k l) l := by
  unfold laws_toIntS.f
  refine ev_pos (by omega) (ev_pos (by omega) ?_)
  exact toIntS_l0 l hl l.length 0 _ (by omega) (by simp) (fun j hj => by omega)
theorem eqIntS_l0 (l : List Int) (hl : l.length ≤ maxLen) : ∀ (d i : Nat), i + d = l.length → Ev (fun k => laws_eqIntS.l0 k l l (i : Int)) true := by
  have hl := maxLen_le hl
  intro d
  induction d with
  | zero =>
    intro i hi
    exact Ev.step (fun k => laws_eqIntS.l0.eq_2 l l i k) (ev_neg (by omega) (ev_some rfl))
  | succ d ih =>
    intro i hi
    refine Ev.step (fun k => laws_eqIntS.l0.eq_2 l l i k) ?_
    rw [w_succ (n := l.length) (by omega) (by omega)]
    exact ev_pos (by omega) (ev_pos (by omega) (ev_pos (by omega) (ev_pos rfl (ih (i + 1) (by omega)))))
theorem eqIntS_ev (l : List Int) (hl : l.length ≤ maxLen) : Ev (fun k => laws_eqIntS.f k l l) true := by
  unfold laws_eqIntS.f
  exact ev_pos rfl (eqIntS_l0 l hl l.length 0 (by omega))
def Btw (W W' : World) (k : Nat) : Prop := W.heap.size ≤ k ∧ k < W'.heap.size
theorem ivR {α : Type} {d : Kd α} {e : Nat} {w W W' : World} {v : Value} {xs : List α} (h : Kd.R d e W' W.heap.size (fun _ => True) v xs) (hw : w.heap.size ≤ W.heap.size) : Kd.R d e W' w.heap.size (Btw W W') v xs :=
  Kd.R_lower (Kd.R_mono (Kd.R_bound h) (fun k hk => ⟨hk.2.1, hk.2.2.1⟩)) hw
theorem readsR {α : Type} {d : Kd α} {e : Nat} {w : World} {b : Nat} {ok : Nat → Prop} {A : Option Addr} {n c : Nat} {xs : List α} (h : Kd.R d e w b ok (.slice A n c) xs) : n = xs.length ∧ xs.length ≤ c ∧ d.C w A xs.length xs := by
  obtain ⟨h1, h2, h3⟩ := Kd.R_reads' h
  subst h1
  exact ⟨rfl, h2, h3⟩
theorem drawn_below {w w' : World} (h : Drawn0 w w') : Below w.heap.size w w' := by
  obtain ⟨n, rfl⟩ := h
  exact pw_below_drewN (Below.refl _ _) n
theorem apart {W W' V V' : World} (h : W'.heap.size ≤ V.heap.size ∨ V'.heap.size ≤ W.heap.size) : ∀ k, Btw W W' k → ¬ Btw V V' k := by
  intro k h1 h2; unfold Btw at h1 h2; omega
end Go.Proofs.Ytomfjhpiemipkaa.Com
