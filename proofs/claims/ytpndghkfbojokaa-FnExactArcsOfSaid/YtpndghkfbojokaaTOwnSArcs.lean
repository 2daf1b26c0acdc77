/- spec.slArcs and spec.slBoth: what they tell (plain laws over the printed functions). -/
import Derived.Test.YtpndghkfbojokaaTOwnArcs
import Derived.Test.YtpndghkfbojokaaTMFnExactArcsOfx1
import Derived.Test.YtpndghkfbojokaaTMFnExactArcsOfx1
namespace Go.Proofs.Ytpndghkfbojokaa.OwnArcs
open Go.RowKit Go.Proofs.Ytpndghkfbojokaa.PFnExactArcsOf Go.Proofs.YtpndghkfbojokaaW.PrintWords Go.Proofs.YtpndghkfbojokaaW.PrintLast Go.Proofs.YtpndghkfbojokaaW.PrintMore Go.Proofs.Ytpndghkfbojokaa.B Go.Proofs.Ytpndghkfbojokaa.OwnSort
set_option linter.unusedVariables false
set_option linter.unusedSimpArgs false
theorem l1Put_l0 (l : List Int) (hl : l.length ≤ 1048576) (hs : l.Pairwise (· < ·)) (n : Int) : ∀ (d i : Nat), i + d = l.length → (∀ j, j < i → l.getD j 0 < n) →
    ∃ r, Ev (fun k => spec_l1Put.l0 k l n (i : Int)) r ∧ r.Pairwise (· < ·) ∧ (∀ x, x ∈ r ↔ x ∈ l ∨ x = n) ∧ r.length ≤ l.length + 1 := by
  intro d
  induction d with
  | zero =>
    intro i hi h
    obtain rfl : i = l.length := by omega
    have hp := put_sorted hs (Nat.le_refl _) h (fun hc => by omega)
    refine ⟨_, Ev.step (fun k => spec_l1Put.l0.eq_2 l n l.length k) (ev_neg (by omega) ?_), hp.1, hp.2, by simp⟩
    simp only [Option.bind_some, toNat_nat, List.nil_append, List.length_append, List.length_take, List.length_drop, List.length_cons, List.length_nil]
    exact ev_pos (by omega) (ev_pos (by omega) (ev_pos (by omega) (ev_pos (by omega) (ev_pos (by omega) (ev_some rfl)))))
  | succ d ih =>
    intro i hi h
    by_cases h1 : l.getD i 0 < n
    · obtain ⟨r, hr, hz⟩ := ih (i + 1) (by omega) (fun j hj => by
        by_cases e : j = i
        · subst e; exact h1
        · exact h j (by omega))
      refine ⟨r, Ev.step (fun k => spec_l1Put.l0.eq_2 l n i k) ?_, hz⟩
      rw [w_succ (n := l.length) (by omega) (by omega), rd_nat]
      exact ev_pos (by omega) (ev_pos (by omega) (ev_pos h1 hr))
    · by_cases h2 : l.getD i 0 = n
      · refine ⟨l, Ev.step (fun k => spec_l1Put.l0.eq_2 l n i k) ?_, hs, fun x => ⟨.inl, ?_⟩, by omega⟩
        · rw [rd_nat]; exact ev_pos (by omega) (ev_pos (by omega) (ev_neg h1 (ev_pos h2 (ev_some rfl))))
        · rintro (h3 | rfl)
          · exact h3
          · rw [← h2]; exact getD_mem (by omega)
      · have hp := put_sorted hs (show i ≤ l.length by omega) h (fun _ => by omega)
        refine ⟨_, Ev.step (fun k => spec_l1Put.l0.eq_2 l n i k) ?_, hp.1, hp.2, by simp; omega⟩
        rw [rd_nat]
        refine ev_pos (by omega) (ev_pos (by omega) (ev_neg h1 (ev_neg h2 ?_)))
        simp only [Option.bind_some, toNat_nat, List.nil_append, List.length_append, List.length_take, List.length_drop, List.length_cons, List.length_nil]
        exact ev_pos (by omega) (ev_pos (by omega) (ev_pos (by omega) (ev_pos (by omega) (ev_some rfl))))
theorem l1Put_ev (l : List Int) (hl : l.length ≤ 1048576) (hs : l.Pairwise (· < ·)) (n : Int) :
    ∃ r, Ev (fun k => spec_l1Put.f k l n) r ∧ r.Pairwise (· < ·) ∧ (∀ x, x ∈ r ↔ x ∈ l ∨ x = n) ∧ r.length ≤ l.length + 1 := by
  unfold spec_l1Put.f
  exact l1Put_l0 l hl hs n l.length 0 (by omega) (fun j hj => by omega)
theorem slBoth_ev (x y z : Int) (s : List Int) (T : List (List S86)) (hs : s.length ≤ 1048576) (hT : T.length ≤ 1048576) (hb : ∀ t ∈ T, t.length ≤ 1048576) : Ev (fun k => spec_slBoth.f k x y z s T) (gridOk x y z && slOk (wrap64 (x * y)) s T) := by
  have hs' := maxLen_val (show s.length ≤ 9223372036854775807 by omega)
  have hT' := maxLen_val (show T.length ≤ 9223372036854775807 by omega)
  have hb' : ∀ t ∈ T, t.length ≤ maxLen := fun t ht => maxLen_val (by have := hb t ht; omega)
  unfold spec_slBoth.f
  refine ev_bindc (grGood_eq x y z) (ev_ite (fun h => ?_) (fun h => ?_))
  · rw [h, Bool.true_and]
    exact Ev.bind (slGood_l0 x y z s T hs' hT' hb' T.length 0 (by omega)) (ev_some rfl)
  · rw [Bool.not_eq_true] at h
    rw [h, Bool.false_and]
    exact ev_some rfl
theorem grAt_eq {X Y Z : Int} (h : gridOk X Y Z = true) (a b c : Int) : spec_grAt.f X Y Z a b c = some (match spot X Y Z a b c with | some v => v | none => -1) := by
  have hb := grid_bd h
  unfold spec_grAt.f spot
  rw [w64 (x := X - 1) (by omega) (by omega), w64 (x := Y - 1) (by omega) (by omega), w64 (x := Z - 1) (by omega) (by omega), l1In_eq, l1In_eq, l1In_eq]
  simp only [Option.bind_some, decide_eq_true_eq]
  by_cases h1 : 0 ≤ a ∧ a ≤ X - 1
  · rw [if_pos h1]
    by_cases h2 : 0 ≤ b ∧ b ≤ Y - 1
    · rw [if_pos h2]
      by_cases h3 : 0 ≤ c ∧ c ≤ Z - 1
      · rw [if_pos h3, if_pos (by omega)]
      · rw [if_neg h3, if_neg (by omega)]
    · rw [if_neg h2, if_neg (by omega)]
  · rw [if_neg h1, if_neg (by omega)]
theorem slArcs_l1 {X Y Z : Int} (h : gridOk X Y Z = true) (x5 : List (List Int)) (i : Nat) (hi : i < 120) (t : List S86) (s : List Int) (T : List (List S86)) (R : List Int) (hR : Srt (rawL X Y Z i t) R) (hl : t.length ≤ 12) (h5 : x5.length ≤ 120) (r : List (List Int))
    (hn : Ev (fun k => spec_slArcs.l0 k (x5 ++ [R]) ((i + 1 : Nat) : Int) X Y Z s T) r) :
    ∀ (d j : Nat) (l : List Int), j + d = t.length → l.Pairwise (· < ·) → (∀ v, v ∈ l ↔ v ∈ rawL X Y Z i (t.take j)) → l.length ≤ j →
      Ev (fun k => spec_slArcs.l1 k x5 (i : Int) (pX X i) (pY X Y i) (pZ X Y i) l t (t.length : Int) (j : Int) X Y Z s T) r := by
  intro d
  induction d with
  | zero =>
    intro j l hj hp hm hlen
    obtain rfl : j = t.length := by omega
    have e : l = R := sorted_ext hp hR.2.1 (fun v => (hm v).trans (by rw [List.take_length]; exact (hR.2.2 v).symm))
    subst e
    refine Ev.step (fun k => spec_slArcs.l1.eq_2 x5 i (pX X i) (pY X Y i) (pZ X Y i) l t t.length t.length X Y Z s T k) (ev_neg (by omega) (ev_pos (by omega) ?_))
    rw [w_succ (n := 121) (by omega) (by omega)]
    exact hn
  | succ d ih =>
    intro j l hj hp hm hlen
    refine Ev.step (fun k => spec_slArcs.l1.eq_2 x5 i (pX X i) (pY X Y i) (pZ X Y i) l t t.length j X Y Z s T k) ?_
    rw [rdO, w_succ (n := t.length) (by omega) (by omega)]
    have hstep := rawL_step X Y Z i t j (by omega)
    refine ev_pos (by omega) (ev_pos (by omega) (ev_pos (by omega) (ev_bindc (grAt_eq h _ _ _) ?_)))
    have e : spot X Y Z (wrap64 (pX X i + (t.getD j z86).f0)) (wrap64 (pY X Y i + (t.getD j z86).f1)) (wrap64 (pZ X Y i - (t.getD j z86).f2)) = spotO X Y Z i (t.getD j z86) := rfl
    rw [e]
    cases ho : spotO X Y Z i (t.getD j z86) with
    | none =>
      rw [ho] at hstep
      refine ev_neg (by show ¬ (-1 : Int) ≥ 0; omega) (ih (j + 1) l (by omega) hp (fun v => by rw [hm, hstep, List.append_nil]) (by omega))
    | some v =>
      rw [ho] at hstep
      have hv := (spot_some h ho).2.2.2.2
      obtain ⟨q, hq, hq1, hq2, hq3⟩ := l1Put_ev l (by omega) hp v
      refine ev_pos hv (Ev.bind hq (ih (j + 1) q (by omega) hq1 (fun u => ?_) (by omega)))
      rw [hq2, hm, hstep, List.mem_append, List.mem_singleton]
theorem slArcs_ev {X Y Z : Int} (h : gridOk X Y Z = true) (n : Nat) (hn : (n : Int) = X * Y * Z) (s : List Int) (T : List (List S86)) (hs : slOk (wrap64 (X * Y)) s T = true) : Ev (fun k => spec_slArcs.f k X Y Z s T) (arcsL X Y Z s T n) := by
  have hb := grid_bd h
  have hg := grid_ok h
  have hc : spec_grCount.f X Y Z = some (n : Int) := by unfold spec_grCount.f; rw [hg.1, hn]
  have key : ∀ (d i : Nat), i + d = n → Ev (fun k => spec_slArcs.l0 k (arcsL X Y Z s T i) (i : Int) X Y Z s T) (arcsL X Y Z s T n) := by
    intro d
    induction d with
    | zero =>
      intro i hi
      obtain rfl : i = n := by omega
      exact Ev.step (fun k => spec_slArcs.l0.eq_2 (arcsL X Y Z s T i) i X Y Z s T k) (ev_bindc hc (ev_neg (by omega) (ev_some rfl)))
    | succ d ih =>
      intro i hi
      have hse := sect h hs i (by omega)
      have hsrt := (arcL_sort h hs i (by omega)).2
      refine Ev.step (fun k => spec_slArcs.l0.eq_2 (arcsL X Y Z s T i) i X Y Z s T k) (ev_bindc hc (ev_pos (by omega) ?_))
      refine ev_bindc (a := pX X i) (by unfold spec_grX.f; rw [if_neg (by omega)]; rfl) ?_
      refine ev_bindc (a := pY X Y i) (by unfold spec_grY.f; rw [if_neg (by omega), if_neg (by omega)]; rfl) ?_
      refine ev_bindc (a := pZ X Y i) (by unfold spec_grZ.f; rw [if_neg (by omega), if_neg (by omega)]; rfl) ?_
      have e1 : wrap64 (wrap64 (pY X Y i * X) + pX X i) = sq X Y i := rfl
      have e2 : rd s (sq X Y i) = s.getD (sq X Y i).toNat 0 := rfl
      have e3 : rd_L2 T (s.getD (sq X Y i).toNat 0) = tmAt X Y s T i := rfl
      rw [e1, e2, e3]
      refine ev_pos hse.1.1 (ev_pos hse.1.2 (ev_pos hse.2.1.1 (ev_pos hse.2.1.2 ?_)))
      refine slArcs_l1 h _ i (by omega) _ s T (arcL X Y Z s T i) hsrt (tmpl_pairwise hse.2.2).1 (by rw [arcsL_len]; omega) _ ?_ (tmAt X Y s T i).length 0 [] (by omega) List.Pairwise.nil (fun v => by rw [List.take_zero]; exact Iff.rfl) (Nat.le_refl _)
      have e : arcsL X Y Z s T i ++ [arcL X Y Z s T i] = arcsL X Y Z s T (i + 1) := by unfold arcsL; rw [List.range_succ, List.map_append]; rfl
      rw [e]
      exact ih (i + 1) (by omega)
  unfold spec_slArcs.f
  exact key n 0 (by omega)
end Go.Proofs.Ytpndghkfbojokaa.OwnArcs
