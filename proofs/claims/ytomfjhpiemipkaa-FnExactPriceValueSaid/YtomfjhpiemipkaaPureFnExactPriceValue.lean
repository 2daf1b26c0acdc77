/- The pure side of the law FnExactPriceValue: the printed functions, one by one, and what the law says of them. -/
import Derived.Test.YtomfjhpiemipkaaStmtFnExactPriceValue
import Derived.Test.YtomfjhpiemipkaaBase
import Derived.Test.YtomfjhpiemipkaaMarks
namespace Go.Proofs.Ytomfjhpiemipkaa.PureFnExactPriceValue
open Go.RowKit Go.Proofs.Ytomfjhpiemipkaa.PFnExactPriceValue Go.Proofs.YtomfjhpiemipkaaW.PrintWords Go.Proofs.YtomfjhpiemipkaaW.PrintLast Go.Proofs.YtomfjhpiemipkaaW.PrintMore Go.Proofs.Ytomfjhpiemipkaa.B
set_option linter.unusedVariables false
set_option linter.unusedSimpArgs false
/- laws_toIntS -/
theorem toIntS_l0 (l : List Int) (hl : l.length ≤ 35184372088832) : ∀ (d i : Nat) (m : List Int), i + d = l.length → m.length = l.length → (∀ j, j < i → m.getD j 0 = l.getD j 0) → Ev (fun k => laws_toIntS.l0 k l m (i : Int)) l := by
  intro d
  induction d with
  | zero =>
    intro i m hi hm he
    refine Ev.step (fun k => laws_toIntS.l0.eq_2 l m i k) ?_
    refine ev_neg (by omega) (ev_some ?_)
    refine List.ext_getElem hm (fun j h1 h2 => ?_)
    have := he j (by omega)
    simpa [List.getD_eq_getElem?_getD, h1, h2] using this
  | succ d ih =>
    intro i m hi hm he
    refine Ev.step (fun k => laws_toIntS.l0.eq_2 l m i k) ?_
    refine ev_pos (by omega) (ev_pos (by omega) (ev_pos (by omega) ?_))
    rw [w_succ (n := l.length) (by omega) (by omega), toNat_nat, rd_nat]
    refine ih (i + 1) _ (by omega) (by simpa using hm) (fun j hj => ?_)
    by_cases hji : j = i
    · subst hji
      simp [List.getD_eq_getElem?_getD, show j < m.length by omega]
    · rw [← he j (by omega)]
      simp [List.getD_eq_getElem?_getD, List.getElem?_set_ne (Ne.symm hji)]
theorem toIntS_ev (l : List Int) (hl : l.length ≤ 35184372088832) : Ev (fun k => laws_toIntS.f k l) l := by
  unfold laws_toIntS.f
  refine ev_pos (by omega) (ev_pos (by omega) ?_)
  exact toIntS_l0 l hl l.length 0 _ (by omega) (by simp) (fun j hj => by omega)

/- laws_eqIntS -/
theorem eqIntS_l0 (l : List Int) (hl : l.length ≤ maxLen) : ∀ (d i : Nat), i + d = l.length → Ev (fun k => laws_eqIntS.l0 k l l (i : Int)) true := by
  have hl := maxLen_le hl
  intro d
  induction d with
  | zero =>
    intro i hi
    exact Ev.step (fun k => laws_eqIntS.l0.eq_2 l l i k) (ev_neg (by omega) (ev_some rfl))
  | succ d ih =>
    intro i hi
    refine Ev.step (fun k => laws_eqIntS.l0.eq_2 l l i k) ?_
    rw [w_succ (n := l.length) (by omega) (by omega)]
    exact ev_pos (by omega) (ev_pos (by omega) (ev_pos (by omega) (ev_pos rfl (ih (i + 1) (by omega)))))
theorem eqIntS_ev (l : List Int) (hl : l.length ≤ maxLen) : Ev (fun k => laws_eqIntS.f k l l) true := by
  unfold laws_eqIntS.f
  exact ev_pos rfl (eqIntS_l0 l hl l.length 0 (by omega))

/- laws_szIntS -/
theorem szIntS_tells (l : List Int) (a : Int) (hl : l.length ≤ maxLen) (ha : 0 ≤ a ∧ a ≤ 1048576) : ∃ r, laws_szIntS.f l a = some r ∧ (0 ≤ r → r = a - l.length) ∧ (r < 0 → r = -1) := by
  have hl := maxLen_le hl
  unfold laws_szIntS.f
  rw [w64 (by omega) (by omega)]
  by_cases h : a - (l.length : Int) < 0
  · exact ⟨-1, by rw [if_pos h], by omega, by omega⟩
  · exact ⟨_, by rw [if_neg h], by omega, by omega⟩

/- laws_model -/
theorem szModel_eq (x y z : Int) (t g r : List Int) (ht : t.length ≤ maxLen) (hg : g.length ≤ maxLen) (hr : r.length ≤ maxLen) : ∃ q, laws_szModel.f x y z t g r 1048576 = some q ∧ (0 ≤ q → t.length ≤ 1048576 ∧ g.length ≤ 1048576 ∧ r.length ≤ 1048576) := by
  unfold laws_szModel.f
  obtain ⟨q1, e1, p1, n1⟩ := szIntS_tells t 1048576 ht (by omega)
  rw [e1, Option.bind_some]
  split
  · exact ⟨-1, rfl, fun h => by omega⟩
  · rename_i h1
    obtain ⟨q2, e2, p2, n2⟩ := szIntS_tells g q1 hg (by omega)
    rw [e2, Option.bind_some]
    split
    · exact ⟨-1, rfl, fun h => by omega⟩
    · rename_i h2
      obtain ⟨q3, e3, p3, n3⟩ := szIntS_tells r q2 hr (by omega)
      rw [e3, Option.bind_some]
      split
      · exact ⟨-1, rfl, fun h => by omega⟩
      · rename_i h3
        exact ⟨q3, rfl, fun h => by omega⟩
theorem toModel_ev (x y z : Int) (t g r : List Int) (ht : t.length ≤ 1048576) (hg : g.length ≤ 1048576) (hr : r.length ≤ 1048576) : Ev (fun k => laws_toModel.f k x y z t g r) (x, y, z, t, g, r) := by
  unfold laws_toModel.f
  exact ev_bindc (a := (x, y, z)) rfl (Ev.bind (toIntS_ev t (by omega)) (Ev.bind (toIntS_ev g (by omega)) (Ev.bind (toIntS_ev r (by omega)) (ev_some rfl))))
theorem eqModel_ev (x y z : Int) (t g r : List Int) (ht : t.length ≤ maxLen) (hg : g.length ≤ maxLen) (hr : r.length ≤ maxLen) : Ev (fun k => laws_eqModel.f k x y z t g r x y z t g r) true := by
  unfold laws_eqModel.f
  refine ev_bindc (a := true) (by unfold laws_eqGrid.f; simp) (ev_pos rfl ?_)
  exact Ev.bind (eqIntS_ev t ht) (ev_pos rfl (Ev.bind (eqIntS_ev g hg) (ev_pos rfl (Ev.bind (eqIntS_ev r hr) (ev_pos rfl (ev_some rfl))))))

/- model -/
def gridOk (x y z : Int) : Bool := decide (1 ≤ x ∧ x ≤ 8 ∧ 1 ≤ y ∧ y ≤ 6 ∧ 1 ≤ z ∧ z ≤ 5 ∧ x * y * z ≤ 120)
theorem grid_w {x y z : Int} (h : 1 ≤ x ∧ x ≤ 8 ∧ 1 ≤ y ∧ y ≤ 6 ∧ 1 ≤ z ∧ z ≤ 5) : wrap64 (wrap64 (x * y) * z) = x * y * z ∧ 1 ≤ x * y * z ∧ x * y * z ≤ 240 := by
  obtain ⟨h1, h2, h3, h4, h5, h6⟩ := h
  have a1 : x * y ≤ 8 * 6 := Int.mul_le_mul h2 h4 (by omega) (by omega)
  have a2 : 1 * 1 ≤ x * y := Int.mul_le_mul h1 h3 (by omega) (by omega)
  have a3 : x * y * z ≤ (8 * 6) * 5 := Int.mul_le_mul a1 h6 (by omega) (by omega)
  have a4 : (1 * 1) * 1 ≤ x * y * z := Int.mul_le_mul a2 h5 (by omega) (by omega)
  rw [w64 (x := x * y) (by omega) (by omega), w64 (by omega) (by omega)]
  exact ⟨rfl, by omega, by omega⟩
theorem grid_ok {x y z : Int} (h : gridOk x y z = true) : wrap64 (wrap64 (x * y) * z) = x * y * z ∧ 1 ≤ x * y * z ∧ x * y * z ≤ 120 := by
  unfold gridOk at h
  rw [decide_eq_true_eq] at h
  have := grid_w (x := x) (y := y) (z := z) (by omega)
  exact ⟨this.1, this.2.1, by omega⟩
def inL (lo hi : Int) (l : List Int) (j : Nat) : Bool := decide (lo ≤ l.getD j 0 ∧ l.getD j 0 ≤ hi)
def blockAt (t g r : List Int) (j : Nat) : Bool := inL 0 10000 t j && (inL 0 1000 g j && inL 0 4 r j)
def modelOk (x y z : Int) (t g r : List Int) : Bool := gridOk x y z && (decide ((t.length : Int) = x * y * z ∧ (g.length : Int) = x * y * z ∧ (r.length : Int) = x * y * z) && allR (blockAt t g r) 0 t.length)
theorem inL_iff {lo hi : Int} {l : List Int} {j : Nat} : inL lo hi l j = true ↔ lo ≤ l.getD j 0 ∧ l.getD j 0 ≤ hi := by unfold inL; rw [decide_eq_true_eq]
theorem blockAt_iff {t g r : List Int} {j : Nat} : blockAt t g r j = true ↔ (0 ≤ t.getD j 0 ∧ t.getD j 0 ≤ 10000) ∧ (0 ≤ g.getD j 0 ∧ g.getD j 0 ≤ 1000) ∧ 0 ≤ r.getD j 0 ∧ r.getD j 0 ≤ 4 := by
  unfold blockAt; rw [Bool.and_eq_true, Bool.and_eq_true, inL_iff, inL_iff, inL_iff]
theorem modelOk_iff {x y z : Int} {t g r : List Int} : modelOk x y z t g r = true ↔ gridOk x y z = true ∧ ((t.length : Int) = x * y * z ∧ (g.length : Int) = x * y * z ∧ (r.length : Int) = x * y * z) ∧ ∀ j, j < t.length → (0 ≤ t.getD j 0 ∧ t.getD j 0 ≤ 10000) ∧ (0 ≤ g.getD j 0 ∧ g.getD j 0 ≤ 1000) ∧ 0 ≤ r.getD j 0 ∧ r.getD j 0 ≤ 4 := by
  unfold modelOk
  rw [Bool.and_eq_true, Bool.and_eq_true, decide_eq_true_eq, allR_iff]
  exact ⟨fun h => ⟨h.1, h.2.1, fun j hj => blockAt_iff.1 (h.2.2 j (Nat.zero_le _) hj)⟩, fun h => ⟨h.1, h.2.1, fun j _ hj => blockAt_iff.2 (h.2.2 j hj)⟩⟩
theorem model_bd {x y z : Int} {t g r : List Int} (h : modelOk x y z t g r = true) : 1 ≤ t.length ∧ t.length ≤ 120 ∧ g.length = t.length ∧ r.length = t.length ∧ (t.length : Int) = x * y * z ∧ wrap64 (wrap64 (x * y) * z) = x * y * z := by
  rw [modelOk_iff] at h
  have := grid_ok h.1
  obtain ⟨_, ⟨h1, h2, h3⟩, _⟩ := h
  exact ⟨by omega, by omega, by omega, by omega, h1, this.1⟩

/- spec_l1In -/
theorem l1In_eq (a b c : Int) : spec_l1In.f a b c = some (decide (b ≤ a ∧ a ≤ c)) := by
  unfold spec_l1In.f
  by_cases h : a ≥ b
  · rw [if_pos h]; simp [show b ≤ a from h]
  · rw [if_neg h]; simp [show ¬ b ≤ a from h]

/- spec_l1All -/
theorem l1All_l0 (l : List Int) (hl : l.length ≤ maxLen) (lo hi : Int) : ∀ (d i : Nat), i + d = l.length → Ev (fun k => spec_l1All.l0 k lo hi l (l.length : Int) (i : Int)) (allR (fun j => decide (lo ≤ l.getD j 0 ∧ l.getD j 0 ≤ hi)) i l.length) := by
  have hl := maxLen_le hl
  intro d
  induction d with
  | zero =>
    intro i hi'
    exact Ev.step (fun k => spec_l1All.l0.eq_2 lo hi l l.length i k) (ev_neg (by omega) (ev_some (allR_end (by omega)).symm))
  | succ d ih =>
    intro i hi'
    refine Ev.step (fun k => spec_l1All.l0.eq_2 lo hi l l.length i k) ?_
    rw [allR_step (by omega), w_succ (n := l.length) (by omega) (by omega), rd_nat]
    refine ev_pos (by omega) (ev_pos (by omega) (ev_pos (by omega) (ev_bindc (l1In_eq _ _ _) ?_)))
    refine ev_ite (fun h => ?_) (fun h => ?_)
    · rw [h, Bool.true_and]; exact ih (i + 1) (by omega)
    · rw [Bool.not_eq_true] at h; rw [h, Bool.false_and]; exact ev_some rfl
theorem l1All_ev (l : List Int) (hl : l.length ≤ maxLen) (lo hi : Int) : Ev (fun k => spec_l1All.f k l lo hi) (allR (fun j => decide (lo ≤ l.getD j 0 ∧ l.getD j 0 ≤ hi)) 0 l.length) := by
  unfold spec_l1All.f
  exact l1All_l0 l hl lo hi l.length 0 (by omega)

/- spec_moGood -/
theorem grGood_eq (x y z : Int) : spec_grGood.f x y z = some (gridOk x y z) := by
  unfold spec_grGood.f gridOk
  simp only [l1In_eq, Option.bind_some, decide_eq_true_eq]
  by_cases h1 : 1 ≤ x ∧ x ≤ 8
  · rw [if_pos h1]
    by_cases h2 : 1 ≤ y ∧ y ≤ 6
    · rw [if_pos h2]
      by_cases h3 : 1 ≤ z ∧ z ≤ 5
      · rw [if_pos h3]
        have := grid_w (x := x) (y := y) (z := z) (by omega)
        rw [this.1]
        congr 1
        rw [Bool.eq_iff_iff, decide_eq_true_eq, decide_eq_true_eq]
        omega
      · rw [if_neg h3, decide_eq_false (by omega)]
    · rw [if_neg h2, decide_eq_false (by omega)]
  · rw [if_neg h1, decide_eq_false (by omega)]
theorem moGood_ev (x y z : Int) (t g r : List Int) (ht : t.length ≤ maxLen) (hg : g.length ≤ maxLen) (hr : r.length ≤ maxLen) : Ev (fun k => spec_moGood.f k x y z t g r) (modelOk x y z t g r) := by
  unfold spec_moGood.f
  refine ev_bindc (grGood_eq x y z) (ev_ite (fun h => ?_) (fun h => ev_some ?_))
  · have hw := grid_ok h
    refine ev_bindc (a := x * y * z) (by unfold spec_grCount.f; rw [hw.1]) ?_
    have no : ¬ ((t.length : Int) = x * y * z ∧ (g.length : Int) = x * y * z ∧ (r.length : Int) = x * y * z) → false = modelOk x y z t g r := by
      intro hn; unfold modelOk; rw [decide_eq_false hn, Bool.false_and, Bool.and_false]
    refine ev_ite (fun h1 => ev_ite (fun h2 => ev_ite (fun h3 => ?_) (fun h3 => ev_some (no (by omega)))) (fun h2 => ev_some (no (by omega)))) (fun h1 => ev_some (no (by omega)))
    have e : modelOk x y z t g r = (allR (inL 0 10000 t) 0 t.length && (allR (inL 0 1000 g) 0 g.length && allR (inL 0 4 r) 0 r.length)) := by
      rw [Bool.eq_iff_iff, modelOk_iff, Bool.and_eq_true, Bool.and_eq_true, allR_iff, allR_iff, allR_iff]
      constructor
      · rintro ⟨_, _, hb⟩
        exact ⟨fun j _ hj => inL_iff.2 (hb j hj).1, fun j _ hj => inL_iff.2 (hb j (by omega)).2.1, fun j _ hj => inL_iff.2 (hb j (by omega)).2.2⟩
      · rintro ⟨b1, b2, b3⟩
        exact ⟨h, ⟨h1, h2, h3⟩, fun j hj => ⟨inL_iff.1 (b1 j (Nat.zero_le _) hj), inL_iff.1 (b2 j (Nat.zero_le _) (by omega)), inL_iff.1 (b3 j (Nat.zero_le _) (by omega))⟩⟩
    rw [e]
    refine Ev.bind (l1All_ev t ht 0 10000) (ev_ite (fun q1 => ?_) (fun q1 => ev_some ?_))
    · rw [show allR (inL 0 10000 t) 0 t.length = true from q1, Bool.true_and]
      refine Ev.bind (l1All_ev g hg 0 1000) (ev_ite (fun q2 => ?_) (fun q2 => ev_some ?_))
      · rw [show allR (inL 0 1000 g) 0 g.length = true from q2, Bool.true_and]
        exact ev_id (l1All_ev r hr 0 4)
      · rw [Bool.not_eq_true] at q2; rw [show allR (inL 0 1000 g) 0 g.length = false from q2, Bool.false_and]
    · rw [Bool.not_eq_true] at q1; rw [show allR (inL 0 10000 t) 0 t.length = false from q1, Bool.false_and]
  · rw [Bool.not_eq_true] at h; unfold modelOk; rw [h, Bool.false_and]

/- impl_IsModel -/
theorem IsGrid_eq (x y z : Int) : impl_IsGrid.f x y z = some (gridOk x y z) := by
  unfold impl_IsGrid.f gridOk
  by_cases h : 1 ≤ x ∧ x ≤ 8 ∧ 1 ≤ y ∧ y ≤ 6 ∧ 1 ≤ z ∧ z ≤ 5
  · rw [if_pos (by omega), if_pos (by omega), if_pos (by omega), if_pos (by omega), if_pos (by omega), if_pos (by omega), (grid_w h).1]
    congr 1
    rw [Bool.eq_iff_iff, decide_eq_true_eq, decide_eq_true_eq]
    omega
  · rw [show decide (1 ≤ x ∧ x ≤ 8 ∧ 1 ≤ y ∧ y ≤ 6 ∧ 1 ≤ z ∧ z ≤ 5 ∧ x * y * z ≤ 120) = false from decide_eq_false (by omega)]
    repeat' split
    all_goals first | rfl | (exfalso; omega)
theorem IsModel_l0 (x y z : Int) (t g r : List Int) (hl : t.length ≤ maxLen) (h1 : g.length = t.length) (h2 : r.length = t.length) : ∀ (d i : Nat), i + d = t.length → Ev (fun k => impl_IsModel.l0 k (t.length : Int) (i : Int) x y z t g r) (allR (blockAt t g r) i t.length) := by
  have hl := maxLen_le hl
  intro d
  induction d with
  | zero =>
    intro i hi
    exact Ev.step (fun k => impl_IsModel.l0.eq_2 t.length i x y z t g r k) (ev_neg (by omega) (ev_some (allR_end (by omega)).symm))
  | succ d ih =>
    intro i hi
    refine Ev.step (fun k => impl_IsModel.l0.eq_2 t.length i x y z t g r k) ?_
    rw [allR_step (by omega), w_succ (n := t.length) (by omega) (by omega), rd_nat, rd_nat, rd_nat]
    have no : ¬ ((0 ≤ t.getD i 0 ∧ t.getD i 0 ≤ 10000) ∧ (0 ≤ g.getD i 0 ∧ g.getD i 0 ≤ 1000) ∧ 0 ≤ r.getD i 0 ∧ r.getD i 0 ≤ 4) → false = (blockAt t g r i && allR (blockAt t g r) (i + 1) t.length) := by
      intro h
      have : blockAt t g r i = false := by rw [← Bool.not_eq_true, blockAt_iff]; exact h
      rw [this, Bool.false_and]
    refine ev_pos (by omega) (ev_pos (by omega) (ev_pos (by omega) (ev_ite (fun q => ev_some (no (by omega))) (fun q1 => ev_ite (fun q => ev_some (no (by omega))) (fun q2 => ev_pos (by omega) (ev_ite (fun q => ev_some (no (by omega))) (fun q3 => ev_ite (fun q => ev_some (no (by omega))) (fun q4 => ev_pos (by omega) (ev_ite (fun q => ev_some (no (by omega))) (fun q5 => ev_ite (fun q => ev_some (no (by omega))) (fun q6 => ?_)))))))))))
    rw [blockAt_iff.2 (by omega), Bool.true_and]
    exact ih (i + 1) (by omega)
theorem IsModel_ev (x y z : Int) (t g r : List Int) (ht : t.length ≤ maxLen) : Ev (fun k => impl_IsModel.f k x y z t g r) (modelOk x y z t g r) := by
  unfold impl_IsModel.f
  refine ev_bindc (IsGrid_eq x y z) (ev_ite (fun h => ?_) (fun h => ev_some ?_))
  · have hw := grid_ok h
    refine ev_bindc (a := x * y * z) (by unfold impl_blocksOf.f; rw [hw.1]) ?_
    have no : ¬ ((t.length : Int) = x * y * z ∧ (g.length : Int) = x * y * z ∧ (r.length : Int) = x * y * z) → false = modelOk x y z t g r := by
      intro hn; unfold modelOk; rw [decide_eq_false hn, Bool.false_and, Bool.and_false]
    have bad : ∀ b : Bool, b = true → ¬ ((t.length : Int) = x * y * z ∧ (g.length : Int) = x * y * z ∧ (r.length : Int) = x * y * z) → Ev (fun k => impl_IsModel.j0 k (x * y * z) b x y z t g r) (modelOk x y z t g r) := by
      intro b hb hn
      exact Ev.step (fun k => impl_IsModel.j0.eq_2 _ b x y z t g r k) (ev_pos hb (ev_some (no hn)))
    refine ev_ite (fun h1 => ev_ite (fun h2 => ?_) (fun h2 => bad _ rfl (by omega))) (fun h1 => bad _ rfl (by omega))
    by_cases h3 : (r.length : Int) = x * y * z
    · refine Ev.step (fun k => impl_IsModel.j0.eq_2 _ _ x y z t g r k) (ev_neg (by simp [h3]) ?_)
      have := IsModel_l0 x y z t g r ht (by omega) (by omega) t.length 0 (by omega)
      unfold modelOk
      rw [h, decide_eq_true ⟨h1, h2, h3⟩, Bool.true_and, Bool.true_and, ← h1]
      exact this
    · exact bad _ (by simp [h3]) (by omega)
  · rw [Bool.not_eq_true] at h; unfold modelOk; rw [h, Bool.false_and]

/- priceP -/
def priceX (t g : List Int) (p0 p1 p2 p3 i : Int) : Int := wrap64 ((mx 0 (wrap64 ((wrap64 (Int.tdiv (wrap64 ((wrap64 ((wrap64 ((rd t i) * (rd g i))) * p1)) * p0)) 1000)) - (wrap64 ((rd t i) * p2))))) - (wrap64 ((rd t i) * p3)))
def downP (x : Int) : Int := if Int.tmod x 10000 < 0 then wrap64 (wrap64 (Int.tdiv x 10000) - 1) else wrap64 (Int.tdiv x 10000)
theorem tmod_pos {x y : Int} (h : 0 ≤ x) : 0 ≤ Int.tmod x y := by
  rw [Int.tmod_eq_emod_of_nonneg h]
  by_cases hy : y = 0
  · subst hy; simpa using h
  · exact Int.emod_nonneg x hy
theorem tmod_neg {x y : Int} (h : x ≤ 0) : Int.tmod x y ≤ 0 := by
  have : Int.tmod (-(-x)) y = -Int.tmod (-x) y := Int.neg_tmod _ _
  rw [Int.neg_neg] at this
  have := tmod_pos (x := -x) (y := y) (by omega)
  omega
theorem ruDown_eq (x : Int) : spec_ruDown.f x 10000 = some (downP x) := by
  unfold spec_ruDown.f downP
  rw [if_neg (by omega)]
  by_cases h : Int.tmod x 10000 = 0
  · rw [if_pos h, if_neg (by omega)]
  · rw [if_neg h]
    by_cases hx : x < 0
    · have := tmod_neg (x := x) (y := 10000) (by omega)
      rw [if_pos (show Int.tmod x 10000 < 0 by omega), if_pos (by simp [hx])]
    · have := tmod_pos (x := x) (y := 10000) (by omega)
      rw [if_neg (show ¬ Int.tmod x 10000 < 0 by omega), if_neg (by simp [hx])]
theorem floorDiv_eq (x : Int) : impl_floorDiv.f x 10000 = some (downP x) := by
  unfold impl_floorDiv.f downP
  rw [if_neg (by omega)]
  split <;> rfl
theorem most_eq (x : Int) : spec_l1Most.f 0 x = some (mx 0 x) := by
  unfold spec_l1Most.f mx
  by_cases h : 0 > x
  · rw [if_pos h, if_neg (by omega)]
  · rw [if_neg h]
    by_cases h1 : 0 < x
    · rw [if_pos h1]
    · rw [if_neg h1, show x = 0 by omega]
theorem vaPrice_eq (x y z : Int) (t g r : List Int) (p0 p1 p2 p3 i : Int) (h0 : 0 ≤ i) (h1 : i < t.length) (h2 : g.length = t.length) : spec_vaPrice.f x y z t g r p0 p1 p2 p3 i = some (downP (priceX t g p0 p1 p2 p3 i)) := by
  unfold spec_vaPrice.f spec_moMetal.f
  rw [if_pos h0, if_pos h1, if_pos (by omega), Option.bind_some, if_pos h0, if_pos h1, most_eq, Option.bind_some, ruDown_eq]
  rfl
theorem priceValue_eq (x y z : Int) (t g r : List Int) (p0 p1 p2 p3 i : Int) (h0 : 0 ≤ i) (h1 : i < t.length) (h2 : g.length = t.length) : impl_priceValue.f x y z t g r p0 p1 p2 p3 i = some (downP (priceX t g p0 p1 p2 p3 i)) := by
  unfold impl_priceValue.f
  rw [if_pos h0, if_pos h1, if_pos (by omega), floorDiv_eq]
  rfl
def pricesOk (p0 p1 p2 p3 : Int) : Bool := allR (inL 0 1000 [p0, p1, p2, p3]) 0 4
theorem vaPrices_ev (p0 p1 p2 p3 : Int) : Ev (fun k => spec_vaPrices.f k p0 p1 p2 p3) (pricesOk p0 p1 p2 p3) := by
  unfold spec_vaPrices.f
  exact ev_id (l1All_ev [p0, p1, p2, p3] (maxLen_val (by simp)) 0 1000)
theorem ArePrices_l0 (l : List Int) (hl : l.length ≤ maxLen) : ∀ (d i : Nat), i + d = l.length → Ev (fun k => impl_ArePrices.l0 k l (l.length : Int) (i : Int)) (allR (inL 0 1000 l) i l.length) := by
  have hl := maxLen_le hl
  intro d
  induction d with
  | zero =>
    intro i hi
    exact Ev.step (fun k => impl_ArePrices.l0.eq_2 l l.length i k) (ev_neg (by omega) (ev_some (allR_end (by omega)).symm))
  | succ d ih =>
    intro i hi
    refine Ev.step (fun k => impl_ArePrices.l0.eq_2 l l.length i k) ?_
    rw [allR_step (by omega), w_succ (n := l.length) (by omega) (by omega), rd_nat]
    have no : ¬ (0 ≤ l.getD i 0 ∧ l.getD i 0 ≤ 1000) → false = (inL 0 1000 l i && allR (inL 0 1000 l) (i + 1) l.length) := by
      intro h; rw [show inL 0 1000 l i = false from decide_eq_false h, Bool.false_and]
    refine ev_pos (by omega) (ev_pos (by omega) (ev_pos (by omega) ?_))
    refine ev_ite (fun h => ev_some (no (by omega))) (fun h => ?_)
    refine ev_ite (fun h1 => ev_some (no (by omega))) (fun h1 => ?_)
    rw [show inL 0 1000 l i = true from decide_eq_true (by omega), Bool.true_and]; exact ih (i + 1) (by omega)
theorem ArePrices_ev (p0 p1 p2 p3 : Int) : Ev (fun k => impl_ArePrices.f k p0 p1 p2 p3) (pricesOk p0 p1 p2 p3) := by
  unfold impl_ArePrices.f
  refine ev_bindc (a := [p0, p1, p2, p3]) rfl ?_
  exact ArePrices_l0 [p0, p1, p2, p3] (maxLen_val (by simp)) 4 0 (by simp)

/- law.FnExactPriceValue -/
theorem price_both (x y z : Int) (t g r : List Int) (ht : t.length ≤ maxLen) (hg : g.length ≤ maxLen) (hr : r.length ≤ maxLen) (p0 p1 p2 p3 i : Int) :
    ∃ q, Ev (fun k => spec_PriceValue.f k x y z t g r p0 p1 p2 p3 i) q ∧ Ev (fun k => impl_PriceValue.f k x y z t g r p0 p1 p2 p3 i) q := by
  have hm := moGood_ev x y z t g r ht hg hr
  have hi := IsModel_ev x y z t g r ht
  have hs := vaPrices_ev p0 p1 p2 p3
  have hp := ArePrices_ev p0 p1 p2 p3
  by_cases c0 : modelOk x y z t g r = true ∧ pricesOk p0 p1 p2 p3 = true ∧ 0 ≤ i ∧ i < t.length
  · obtain ⟨c1, c2, c3, c4⟩ := c0
    have hb := model_bd c1
    refine ⟨(downP (priceX t g p0 p1 p2 p3 i), true), ?_, ?_⟩
    · unfold spec_PriceValue.f spec_moHas.f
      refine Ev.bind (a := true) (Ev.bind hm (ev_pos c1 (ev_bindc (a := x * y * z) (by unfold spec_grCount.f; rw [hb.2.2.2.2.2]) ?_))) (ev_pos rfl (Ev.bind hs (ev_pos c2 (ev_bindc (vaPrice_eq x y z t g r p0 p1 p2 p3 i c3 c4 hb.2.2.1) (ev_some rfl)))))
      rw [w64 (by omega) (by omega)]
      exact ev_bindc (l1In_eq _ _ _) (ev_some (decide_eq_true (by omega)))
    · unfold impl_PriceValue.f
      exact Ev.bind hi (ev_pos c1 (Ev.bind hp (ev_pos c2 (ev_neg (by omega) (ev_neg (by omega) (ev_bindc (priceValue_eq x y z t g r p0 p1 p2 p3 i c3 c4 hb.2.2.1) (ev_some rfl)))))))
  · refine ⟨(0, false), ?_, ?_⟩
    · unfold spec_PriceValue.f spec_moHas.f
      refine Ev.bind (a := modelOk x y z t g r && decide (0 ≤ i ∧ i < t.length)) (Ev.bind hm (ev_ite (fun h => ?_) (fun h => ev_some ?_))) (ev_ite (fun h => Ev.bind hs (ev_ite (fun h1 => ?_) (fun _ => ev_some rfl))) (fun _ => ev_some rfl))
      · have hb := model_bd h
        refine ev_bindc (a := x * y * z) (by unfold spec_grCount.f; rw [hb.2.2.2.2.2]) ?_
        rw [w64 (by omega) (by omega), h, Bool.true_and]
        refine ev_bindc (l1In_eq _ _ _) (ev_some ?_)
        rw [Bool.eq_iff_iff, decide_eq_true_eq, decide_eq_true_eq]
        omega
      · rw [Bool.not_eq_true] at h; rw [h, Bool.false_and]
      · rw [Bool.and_eq_true, decide_eq_true_eq] at h
        exact absurd ⟨h.1, h1, h.2⟩ c0
    · unfold impl_PriceValue.f
      refine Ev.bind hi (ev_ite (fun h => Ev.bind hp (ev_ite (fun h1 => ev_ite (fun _ => ev_some rfl) (fun h2 => ev_ite (fun _ => ev_some rfl) (fun h3 => ?_))) (fun _ => ev_some rfl))) (fun _ => ev_some rfl))
      exact absurd ⟨h, h1, by omega, by omega⟩ c0
theorem FnExactPriceValue : Pure := by
  intro x y z t g r p0 p1 p2 p3 i _ _ _ ht _ hg _ hr _ _ _ _ _ _
  refine Ev.rounds ?_
  unfold laws_FnExactPriceValue.f
  obtain ⟨q, eq, hq⟩ := szModel_eq x y z t g r ht hg hr
  refine ev_bindc eq (ev_ite (fun _ => ev_some rfl) (fun h3 => ?_))
  obtain ⟨b1, b2, b3⟩ := hq (by omega)
  have tm := toModel_ev x y z t g r b1 b2 b3
  obtain ⟨p, ps, pi⟩ := price_both x y z t g r ht hg hr p0 p1 p2 p3 i
  refine Ev.bind tm (ev_bindc (a := (p0, p1, p2, p3)) rfl (Ev.bind ps (Ev.bind tm (ev_bindc (a := (p0, p1, p2, p3)) rfl (Ev.bind pi (ev_pos rfl ?_))))))
  refine Ev.step (fun k => laws_FnExactPriceValue.j0.eq_2 _ x y z t g r x y z t g r k) (ev_neg (by simp) ?_)
  exact Ev.bind tm (Ev.bind (eqModel_ev x y z t g r ht hg hr) (ev_pos rfl (ev_some rfl)))

end Go.Proofs.Ytomfjhpiemipkaa.PureFnExactPriceValue
