namespace Go.Proofs.Ytbhlffakpneecaa.CountMath
def cntP (p : Nat → Bool) : Nat → Nat
 | 0 => 0
 | n + 1 => cntP p n + if p n = true then 1 else 0
theorem cntP_split {p q r : Nat → Bool} (n : Nat) (h : ∀ t, t < n → p t = (q t || r t)) (h2 : ∀ t, t < n → ¬ (q t = true ∧ r t = true)) : cntP p n = cntP q n + cntP r n := by
 induction n with
 | zero => rfl
 | succ n ih =>
  have e := ih (fun t ht => h t (by omega)) (fun t ht => h2 t (by omega))
  have a := h n (by omega)
  have b := h2 n (by omega)
  simp only [cntP, e, a]
  cases hq : q n <;> cases hr : r n <;> simp_all <;> omega
theorem cntP_none {p : Nat → Bool} (n : Nat) (h : ∀ t, t < n → p t = false) : cntP p n = 0 := by
 induction n with
 | zero => rfl
 | succ n ih => simp only [cntP, ih (fun t ht => h t (by omega)), h n (by omega)]; simp
theorem cntP_eq {p q : Nat → Bool} (n : Nat) (h : ∀ t, t < n → p t = q t) : cntP p n = cntP q n := by
 induction n with
 | zero => rfl
 | succ n ih => simp only [cntP, ih (fun t ht => h t (by omega)), h n (by omega)]
theorem cntP_one {p : Nat → Bool} (s n : Nat) (hs : s < n) (h : ∀ t, t < n → p t = decide (t = s)) : cntP p n = 1 := by
 induction n with
 | zero => omega
 | succ n ih =>
  by_cases e : s = n
  ·subst e
   simp only [cntP]
   rw [cntP_none s (fun t ht => by rw [h t (by omega)]; exact decide_eq_false (by omega)), h s (by omega)]; simp
  ·simp only [cntP]
   rw [ih (by omega) (fun t ht => h t (by omega)), h n (by omega), if_neg (by simp; omega)]
theorem cntP_le (p : Nat → Bool) (n : Nat) : cntP p n ≤ n := by
 induction n with
 | zero => exact Nat.le_refl _
 | succ n ih => simp only [cntP]; split <;> omega
/-- all blocks that block i rests on are in the set t -/
def sub (U : Nat → List Nat) (i t : Nat) : Bool := (U i).all fun k => t.testBit k
/-- the set t is closed for the blocks i .. i + d - 1 -/
def okF (U : Nat → List Nat) (t : Nat) : Nat → Nat → Bool
 | _, 0 => true
 | i, d + 1 => (!t.testBit i || sub U i t) && okF U t (i + 1) d
/-- the program's count: d blocks left, from block i on, s marked so far -/
def C (U : Nat → List Nat) : Nat → Nat → Nat → Nat
 | 0, _, _ => 1
 | d + 1, i, s => C U d (i + 1) s + if sub U i s = true then C U d (i + 1) (s + 2 ^ i) else 0
theorem sub_low {U : Nat → List Nat} {i t : Nat} (h : ∀ k ∈ U i, k < i) : sub U i t = sub U i (t % 2 ^ i) := by
 unfold sub
 rw [Bool.eq_iff_iff, List.all_eq_true, List.all_eq_true]
 constructor
 ·intro a k hk; have := a k hk; rw [Nat.testBit_mod_two_pow]; simp [h k hk, this]
 ·intro a k hk; have := a k hk; rw [Nat.testBit_mod_two_pow] at this; simp [h k hk] at this; exact this
theorem mod_step (t i : Nat) : t % 2 ^ (i + 1) = t % 2 ^ i + (if t.testBit i = true then 2 ^ i else 0) := by
 rw [Nat.pow_succ, Nat.mod_mul, Nat.testBit_eq_decide_div_mod_eq]
 have : t / 2 ^ i % 2 = 0 ∨ t / 2 ^ i % 2 = 1 := by omega
 rcases this with e | e <;> rw [e] <;> simp
theorem C_eq (U : Nat → List Nat) (hU : ∀ i, ∀ k ∈ U i, k < i) : ∀ (d i s : Nat), s < 2 ^ i → C U d i s = cntP (fun t => decide (t % 2 ^ i = s) && okF U t i d) (2 ^ (i + d)) := by
 intro d
 induction d with
 | zero =>
  intro i s hs
  unfold C
  symm
  refine cntP_one s _ (by simpa using hs) (fun t ht => ?_)
  simp only [okF, Bool.and_true]
  rw [Nat.mod_eq_of_lt (by simpa using ht)]
 | succ d ih =>
  intro i s hs
  unfold C
  have hp : (2 : Nat) ^ (i + 1) = 2 ^ i + 2 ^ i := by rw [Nat.pow_succ]; omega
  rw [ih (i + 1) s (by omega), show i + 1 + d = i + (d + 1) by omega]
  have hb : ∀ t : Nat, t.testBit i = true ∨ t.testBit i = false := fun t => by cases t.testBit i <;> simp
  have hlt : ∀ t : Nat, t % 2 ^ i < 2 ^ i := fun t => Nat.mod_lt _ (Nat.two_pow_pos i)
  by_cases c : sub U i s = true
  ·rw [if_pos c, ih (i + 1) (s + 2 ^ i) (by omega), show i + 1 + d = i + (d + 1) by omega]
   symm
   refine cntP_split _ (fun t ht => ?_) (fun t ht => ?_)
   ·simp only [okF]
    have m := mod_step t i
    have l := hlt t
    rcases hb t with e | e
    ·rw [e, if_pos rfl] at m
     rw [m, e]
     have e1 : decide (t % 2 ^ i + 2 ^ i = s) = false := decide_eq_false (by omega)
     rw [e1, Bool.false_and, Bool.false_or]
     by_cases e2 : t % 2 ^ i = s
     ·rw [sub_low (hU i), e2, c]; simp
     ·rw [decide_eq_false e2, decide_eq_false (by omega)]; simp
    ·rw [e, if_neg (by simp)] at m
     rw [m, e]
     have e1 : decide (t % 2 ^ i + 0 = s + 2 ^ i) = false := decide_eq_false (by omega)
     rw [e1]; simp
   ·simp only [Bool.and_eq_true, decide_eq_true_eq]
    rintro ⟨⟨h1, _⟩, h2, _⟩
    omega
  ·rw [if_neg c, Nat.add_zero]
   refine (cntP_eq _ (fun t ht => ?_)).symm
   simp only [okF]
   have m := mod_step t i
   have l := hlt t
   rcases hb t with e | e
   ·rw [e, if_pos rfl] at m
    rw [m, e]
    have e1 : decide (t % 2 ^ i + 2 ^ i = s) = false := decide_eq_false (by omega)
    rw [e1]
    by_cases e2 : t % 2 ^ i = s
    ·rw [sub_low (hU i), e2]; simp [c]
    ·rw [decide_eq_false e2]; simp
   ·rw [e, if_neg (by simp)] at m
    rw [m, e]; simp
theorem C_all (U : Nat → List Nat) (hU : ∀ i, ∀ k ∈ U i, k < i) (L : Nat) : C U L 0 0 = cntP (fun t => okF U t 0 L) (2 ^ L) := by
 rw [C_eq U hU L 0 0 (by simp), Nat.zero_add]
 exact cntP_eq _ (fun t _ => by simp [Nat.mod_one])
end Go.Proofs.Ytbhlffakpneecaa.CountMath
