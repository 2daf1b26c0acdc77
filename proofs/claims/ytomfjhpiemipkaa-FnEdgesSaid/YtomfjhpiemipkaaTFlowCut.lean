/- Least and greatest cuts of greatest flows, in plain Lean; nothing of the program. -/
import Derived.Test.YtomfjhpiemipkaaTFlowFlip
namespace Go.Proofs.Ytomfjhpiemipkaa.Flow
open Go.RowKit Go.Proofs.YtomfjhpiemipkaaW.PrintWords Go.Proofs.YtomfjhpiemipkaaW.PrintMore Go.Proofs.Ytomfjhpiemipkaa.B
set_option linter.unusedVariables false
set_option linter.unusedSimpArgs false
def exF (tos left : List Int) (g : Int → Int) : Nat → Int
  | 0 => 0
  | m + 1 => exF tos left g m + rd left (2 * (m : Int) + 1) * (g (rd tos (2 * (m : Int) + 1)) - g (rd tos (2 * (m : Int))))
theorem ex_exF (tos left : List Int) (v : Int) (m : Nat) : ex tos left v m = exF tos left (fun u => if u = v then 1 else 0) m := by
  induction m with
  | zero => rfl
  | succ m ih => unfold ex exF; rw [ih]
theorem exF_add (tos left : List Int) (g h : Int → Int) (m : Nat) : exF tos left (fun u => g u + h u) m = exF tos left g m + exF tos left h m := by
  induction m with
  | zero => rfl
  | succ m ih =>
    unfold exF; rw [ih]
    have : ∀ a b c d e : Int, e * (a + b - (c + d)) = e * (a - c) + e * (b - d) := by intros; rw [← Int.mul_add]; congr 1; omega
    rw [this]; omega
theorem exF_mul (tos left : List Int) (c : Int) (g : Int → Int) (m : Nat) : exF tos left (fun u => c * g u) m = c * exF tos left g m := by
  induction m with
  | zero => unfold exF; rw [Int.mul_zero]
  | succ m ih => unfold exF; rw [ih, ← Int.mul_sub, Int.mul_add]; congr 1; rw [← Int.mul_assoc, ← Int.mul_assoc, Int.mul_comm c]
theorem exF_congr {tos left : List Int} {g h : Int → Int} {m : Nat} (hh : ∀ e : Int, 0 ≤ e → e < 2 * (m : Int) → g (rd tos e) = h (rd tos e)) : exF tos left g m = exF tos left h m := by
  induction m with
  | zero => rfl
  | succ m ih => unfold exF; rw [ih (fun e h0 h1 => hh e h0 (by omega)), hh _ (by omega) (by omega), hh (2 * (m : Int)) (by omega) (by omega)]
def nodeSum (f : Int → Int) : Nat → Int
  | 0 => 0
  | j + 1 => nodeSum f j + f j
theorem exF_upto (tos left : List Int) (g : Int → Int) (m j : Nat) : exF tos left (fun u => if 0 ≤ u ∧ u < j then g u else 0) m = nodeSum (fun v => g v * ex tos left v m) j := by
  induction j with
  | zero =>
    have : exF tos left (fun u => if 0 ≤ u ∧ u < ((0 : Nat) : Int) then g u else 0) m = exF tos left (fun u => 0 * g u) m := by congr 1; funext u; rw [if_neg (by omega), Int.zero_mul]
    rw [this, exF_mul, Int.zero_mul]; rfl
  | succ j ih =>
    have : exF tos left (fun u => if 0 ≤ u ∧ u < ((j + 1 : Nat) : Int) then g u else 0) m = exF tos left (fun u => (if 0 ≤ u ∧ u < (j : Int) then g u else 0) + g j * (if u = j then 1 else 0)) m := by
      congr 1; funext u
      by_cases h : u = j
      · subst h; rw [if_pos (by omega), if_neg (by omega), if_pos rfl]; omega
      · by_cases h2 : 0 ≤ u ∧ u < (j : Int)
        · rw [if_pos (by omega), if_pos h2, if_neg h]; omega
        · rw [if_neg (by omega), if_neg h2, if_neg h]; omega
    rw [this, exF_add, exF_mul, ih, ← ex_exF]; rfl
theorem exF_nodes {n m : Nat} {tos left : List Int} (hr : ∀ e : Int, 0 ≤ e → e < 2 * (m : Int) → 0 ≤ rd tos e ∧ rd tos e < n) (g : Int → Int) : exF tos left g m = nodeSum (fun v => g v * ex tos left v m) n := by
  rw [← exF_upto]
  exact exF_congr fun e h0 h1 => by rw [if_pos (hr e h0 h1)]
theorem nodeSum_one {f : Int → Int} {n : Nat} (hn : 0 < n) (h : ∀ v : Int, 0 < v → v < n → f v = 0) : nodeSum f n = f 0 := by
  induction n with
  | zero => omega
  | succ n ih =>
    unfold nodeSum
    by_cases e : n = 0
    · subst e; unfold nodeSum; rw [Int.zero_add]; rfl
    · rw [ih (by omega) (fun v h0 h1 => h v h0 (by omega)), h n (by omega) (by omega), Int.add_zero]
/-- a set of nodes with node 0 and without the sink -/
def cutF (tos l0 : List Int) (C : Int → Bool) : Nat → Int
  | 0 => 0
  | m + 1 => cutF tos l0 C m + (if C (rd tos (2 * (m : Int) + 1)) = true ∧ C (rd tos (2 * (m : Int))) = false then rd l0 (2 * (m : Int)) + rd l0 (2 * (m : Int) + 1) else 0)
theorem cut_val {n m : Nat} {tos l0 left : List Int} {snk val : Int} (hn : 0 < n) (hr : ∀ e : Int, 0 ≤ e → e < 2 * (m : Int) → 0 ≤ rd tos e ∧ rd tos e < n) (hF : Flows n m tos l0 snk val left) {C : Int → Bool} (c0 : C 0 = true) (cs : C snk = false) : exF tos left (fun u => if C u then 1 else 0) m = val := by
  rw [exF_nodes hr, nodeSum_one hn]
  · show (if C 0 = true then 1 else 0) * _ = _
    rw [if_pos c0, hF.val, Int.one_mul]
  · intro v v0 v1
    by_cases h : v = snk
    · subst h
      show (if C v = true then 1 else 0) * _ = _
      rw [if_neg (by rw [cs]; decide), Int.zero_mul]
    · show _ * ex tos left v m = 0
      rw [hF.bal v (by omega) v1 (by omega) h, Int.mul_zero]
theorem cut_terms {tos l0 left : List Int} {C : Int → Bool} {m M : Nat} (hM : m ≤ M) (hg : Good M left) (hp : ∀ e : Int, 0 ≤ e → e < 2 * (M : Int) → rd left e + rd left (par e) = rd l0 e + rd l0 (par e)) :
    exF tos left (fun u => if C u then 1 else 0) m ≤ cutF tos l0 C m ∧ (cutF tos l0 C m = exF tos left (fun u => if C u then 1 else 0) m ↔ ∀ e : Int, 0 ≤ e → e < 2 * (m : Int) → C (rd tos (par e)) = true → C (rd tos e) = false → rd left e = 0) := by
  induction m with
  | zero => exact ⟨Int.le_refl _, fun _ e h0 h1 => by omega, fun _ => rfl⟩
  | succ m ih =>
    obtain ⟨i1, i2⟩ := ih (by omega)
    have g0 := hg.2 (2 * (m : Int)) (by omega) (by omega)
    have g1 := hg.2 (2 * (m : Int) + 1) (by omega) (by omega)
    have p0 := hp (2 * (m : Int)) (by omega) (by omega)
    have q0 : par (2 * (m : Int)) = 2 * (m : Int) + 1 := by unfold par; rw [if_pos (by omega)]
    have q1 : par (2 * (m : Int) + 1) = 2 * (m : Int) := by unfold par; rw [if_neg (by omega)]; omega
    rw [q0] at p0
    unfold exF cutF
    have split2 : ∀ (P : Int → Prop), (∀ e : Int, 0 ≤ e → e < 2 * ((m + 1 : Nat) : Int) → P e) ↔ (∀ e : Int, 0 ≤ e → e < 2 * (m : Int) → P e) ∧ P (2 * (m : Int)) ∧ P (2 * (m : Int) + 1) := by
      intro P
      constructor
      · intro h; exact ⟨fun e h0 h1 => h e h0 (by omega), h _ (by omega) (by omega), h _ (by omega) (by omega)⟩
      · rintro ⟨h1, h2, h3⟩ e e0 e1
        by_cases a : e < 2 * (m : Int)
        · exact h1 e e0 a
        · by_cases b : e = 2 * (m : Int)
          · rw [b]; exact h2
          · rw [show e = 2 * (m : Int) + 1 by omega]; exact h3
    rw [split2 (fun e => C (rd tos (par e)) = true → C (rd tos e) = false → rd left e = 0), ← i2]
    show _ ∧ (_ ↔ _ ∧ (C (rd tos (par (2 * (m : Int)))) = true → C (rd tos (2 * (m : Int))) = false → rd left (2 * (m : Int)) = 0) ∧ (C (rd tos (par (2 * (m : Int) + 1))) = true → C (rd tos (2 * (m : Int) + 1)) = false → rd left (2 * (m : Int) + 1) = 0))
    rw [q0, q1]
    cases ca : C (rd tos (2 * (m : Int) + 1)) <;> cases cb : C (rd tos (2 * (m : Int))) <;> simp <;> omega
theorem weak {n m : Nat} {tos l0 left : List Int} {snk val : Int} (hn : 0 < n) (hr : ∀ e : Int, 0 ≤ e → e < 2 * (m : Int) → 0 ≤ rd tos e ∧ rd tos e < n) (hF : Flows n m tos l0 snk val left) {C : Int → Bool} (c0 : C 0 = true) (cs : C snk = false) : val ≤ cutF tos l0 C m := by
  rw [← cut_val hn hr hF c0 cs]; exact (cut_terms (Nat.le_refl _) hF.good hF.pair).1
theorem tight {n m : Nat} {tos l0 left : List Int} {snk val : Int} (hn : 0 < n) (hr : ∀ e : Int, 0 ≤ e → e < 2 * (m : Int) → 0 ≤ rd tos e ∧ rd tos e < n) (hF : Flows n m tos l0 snk val left) {C : Int → Bool} (c0 : C 0 = true) (cs : C snk = false) :
    cutF tos l0 C m = val ↔ ∀ e : Int, 0 ≤ e → e < 2 * (m : Int) → C (rd tos (par e)) = true → C (rd tos e) = false → rd left e = 0 := by
  rw [← cut_val hn hr hF c0 cs]; exact (cut_terms (Nat.le_refl _) hF.good hF.pair).2
/-- what is reached -/
def R (d : List Int) (u : Int) : Bool := decide (0 ≤ rd d u)
theorem lev_clos {n m : Nat} {tos : List Int} {adj : List (List Int)} {o : Int} {left d : List Int} (N : Net n m tos adj) (L : Lev n m tos adj o left d [] (-1) 0) {e : Int} (h0 : 0 ≤ e) (h1 : e < 2 * (m : Int)) (h : 0 < rd left e) (hu : 0 ≤ rd d (rd tos (par e))) : 0 ≤ rd d (rd tos e) := by
  have hp := par_bd h0 h1
  have hT := N.rng _ hp.1 hp.2
  exact L.clos _ hT.1 hT.2 hu (List.not_mem_nil) (by omega) e (N.all e h0 h1) h
theorem R_tight {n m : Nat} {tos : List Int} {adj : List (List Int)} {l0 left d : List Int} {snk val : Int} (N : Net n m tos adj) (hF : Flows n m tos l0 snk val left) (L : Lev n m tos adj 0 left d [] (-1) 0) (hs : rd d snk < 0) : cutF tos l0 (R d) m = val := by
  have hn := N.nd
  refine (tight (by omega) N.rng hF (by unfold R; rw [L.src]; rfl) (by unfold R; exact decide_eq_false (by omega))).2 ?_
  intro e h0 h1 c1 c2
  unfold R at c1 c2
  have c1 := of_decide_eq_true c1
  have c2 := of_decide_eq_false c2
  have hg := (hF.good.2 e h0 h1).1
  by_cases h : 0 < rd left e
  · exact absurd (lev_clos N L h0 h1 h c1) c2
  · omega
/-- a run's flow is greatest -/
theorem run_most {n m : Nat} {tos : List Int} {adj : List (List Int)} {l0 left d left' : List Int} {snk val val' : Int} (N : Net n m tos adj) (hF : Flows n m tos l0 snk val left) (L : Lev n m tos adj 0 left d [] (-1) 0) (hs : rd d snk < 0) (hF' : Flows n m tos l0 snk val' left') : val' ≤ val := by
  have hn := N.nd
  rw [← R_tight N hF L hs]
  exact weak (by omega) N.rng hF' (by unfold R; rw [L.src]; rfl) (by unfold R; exact decide_eq_false (by omega))
/-- levels against the edges, from the sink -/
structure Bk (n m : Nat) (tos : List Int) (snk : Int) (left : List Int) (b : Int → Int) : Prop where
  src : b snk = 0
  clos : ∀ e : Int, 0 ≤ e → e < 2 * (m : Int) → 0 < rd left e → 0 ≤ b (rd tos e) → 0 ≤ b (rd tos (par e))
  zero : ∀ v : Int, 0 ≤ v → v < n → b v = 0 → v = snk
  pred : ∀ v : Int, 0 ≤ v → v < n → 0 < b v → ∃ e : Int, (0 ≤ e ∧ e < 2 * (m : Int)) ∧ 0 < rd left e ∧ rd tos (par e) = v ∧ b (rd tos e) + 1 = b v
theorem bk_in {n m : Nat} {tos left : List Int} {snk : Int} {b : Int → Int} {T : Int → Bool} (hr : ∀ e : Int, 0 ≤ e → e < 2 * (m : Int) → 0 ≤ rd tos e ∧ rd tos e < n) (B : Bk n m tos snk left b) (hs : T snk = true) (hc : ∀ e : Int, 0 ≤ e → e < 2 * (m : Int) → 0 < rd left e → T (rd tos e) = true → T (rd tos (par e)) = true) : ∀ v : Int, 0 ≤ v → v < n → 0 ≤ b v → T v = true := by
  have all : ∀ t : Nat, ∀ v : Int, 0 ≤ v → v < n → b v = t → T v = true := by
    intro t
    induction t with
    | zero => intro v v0 v1 hv; rw [B.zero v v0 v1 hv]; exact hs
    | succ t ih =>
      intro v v0 v1 hv
      obtain ⟨e, a1, a2, a3, a4⟩ := B.pred v v0 v1 (by omega)
      have hT := hr e a1.1 a1.2
      have := hc e a1.1 a1.2 a2 (ih _ hT.1 hT.2 (by omega))
      rwa [a3] at this
  intro v v0 v1 hv
  exact all (b v).toNat v v0 v1 (by omega)
theorem bk_z0 {n m : Nat} {tos : List Int} {adj : List (List Int)} {left d : List Int} {snk : Int} {b : Int → Int} (N : Net n m tos adj) (L : Lev n m tos adj 0 left d [] (-1) 0) (hd : rd d snk < 0) (B : Bk n m tos snk left b) : ¬ 0 ≤ b 0 := by
  have hn := N.nd
  have apart := bk_in (T := fun u => !R d u) N.rng B (by show (!R d snk) = true; unfold R; rw [decide_eq_false (by omega)]; rfl) (by
    intro e h0 h1 h h2
    have h2 : R d (rd tos e) = false := by simpa using h2
    show (!R d (rd tos (par e))) = true
    rw [Bool.not_eq_true']
    unfold R at h2 ⊢
    have h2 := of_decide_eq_false h2
    exact decide_eq_false fun hh => h2 (lev_clos N L h0 h1 h hh))
  intro h
  have := apart 0 (by omega) (by omega) h
  replace this : (!R d 0) = true := this
  unfold R at this
  rw [L.src] at this
  exact absurd this (by decide)
/-- who reaches the sink is the same for each greatest flow -/
theorem bk_sub {n m : Nat} {tos : List Int} {adj : List (List Int)} {l0 left left' : List Int} {snk val : Int} {b b' : Int → Int} (N : Net n m tos adj) (hs : 0 ≤ snk ∧ snk < n)
    (hF : Flows n m tos l0 snk val left) (z0 : ¬ 0 ≤ b 0) (B : Bk n m tos snk left b)
    (hF' : Flows n m tos l0 snk val left') (B' : Bk n m tos snk left' b') : ∀ v : Int, 0 ≤ v → v < n → 0 ≤ b' v → 0 ≤ b v := by
  have hn := N.nd
  have hT := (tight (C := fun u => !decide (0 ≤ b u)) (by omega) N.rng hF (by show (!decide (0 ≤ b 0)) = true; rw [decide_eq_false z0]; rfl) (by show (!decide (0 ≤ b snk)) = false; rw [B.src]; rfl)).2 (by
    intro e h0 h1 c1 c2
    have c1 : ¬ 0 ≤ b (rd tos (par e)) := by simpa using c1
    have c2 : 0 ≤ b (rd tos e) := by simpa using c2
    have hg := (hF.good.2 e h0 h1).1
    by_cases h : 0 < rd left e
    · exact absurd (B.clos e h0 h1 h c2) c1
    · omega)
  have hT' := (tight (C := fun u => !decide (0 ≤ b u)) (by omega) N.rng hF' (by show (!decide (0 ≤ b 0)) = true; rw [decide_eq_false z0]; rfl) (by show (!decide (0 ≤ b snk)) = false; rw [B.src]; rfl)).1 hT
  have := bk_in (T := fun u => decide (0 ≤ b u)) N.rng B' (by show decide (0 ≤ b snk) = true; rw [B.src]; rfl) (by
    intro e h0 h1 h h2
    have h2 : 0 ≤ b (rd tos e) := of_decide_eq_true h2
    show decide (0 ≤ b (rd tos (par e))) = true
    by_cases c : 0 ≤ b (rd tos (par e))
    · exact decide_eq_true c
    · exfalso
      have := hT' e h0 h1 (by show (!decide _) = true; rw [decide_eq_false c]; rfl) (by show (!decide _) = false; rw [decide_eq_true h2]; rfl)
      omega)
  intro v v0 v1 hv
  exact of_decide_eq_true (this v v0 v1 hv)
theorem bk_of {n m : Nat} {tos : List Int} {adj : List (List Int)} {left b : List Int} {snk : Int} (N : Net n m tos adj) (hl : left.length = 2 * m) (L : Lev n m tos adj snk (flipL left) b [] (-1) 0) : Bk n m tos snk left (rd b) := by
  refine ⟨L.src, ?_, L.zero, ?_⟩
  · intro e h0 h1 h hu
    have hp := par_bd h0 h1
    refine lev_clos N L hp.1 hp.2 (by rw [rd_flip hp.1 (by omega), par_par]; exact h) (by rw [par_par]; exact hu)
  · intro v v0 v1 hv
    obtain ⟨u, e, a1, a2, a3, a4, a5⟩ := L.pred v v0 v1 hv
    have hE := N.row u a1.1 a1.2 e a2
    have hp := par_bd hE.1.1 hE.1.2
    rw [rd_flip hE.1.1 (by omega)] at a3
    exact ⟨par e, hp, a3, by rw [par_par]; exact a4, by rw [hE.2]; exact a5⟩
/-- the turned network -/
structure Turn (n m : Nat) (tos tos' : List Int) : Prop where
  eq : ∀ e : Int, 0 ≤ e → e < 2 * (m : Int) → rd tos' e = n - 1 - rd tos (par e)
theorem turn_ex {n m M : Nat} {tos tos' left : List Int} (hM : m ≤ M) (T : Turn n M tos tos') (v : Int) : ex tos left v m = - ex tos' left (n - 1 - v) m := by
  induction m with
  | zero => rfl
  | succ m ih =>
    have q0 : par (2 * (m : Int)) = 2 * (m : Int) + 1 := by unfold par; rw [if_pos (by omega)]
    have q1 : par (2 * (m : Int) + 1) = 2 * (m : Int) := by unfold par; rw [if_neg (by omega)]; omega
    have t0 := T.eq (2 * (m : Int)) (by omega) (by omega)
    have t1 := T.eq (2 * (m : Int) + 1) (by omega) (by omega)
    rw [q0] at t0
    rw [q1] at t1
    unfold ex
    rw [ih (by omega), t0, t1, Int.neg_add, ← Int.mul_neg]
    congr 2
    have e1 : ((n : Int) - 1 - rd tos (2 * (m : Int)) = n - 1 - v) ↔ rd tos (2 * (m : Int)) = v := by omega
    have e2 : ((n : Int) - 1 - rd tos (2 * (m : Int) + 1) = n - 1 - v) ↔ rd tos (2 * (m : Int) + 1) = v := by omega
    simp only [e1, e2]
    omega
theorem nodeSum_two {f : Int → Int} {n : Nat} (hn : 2 ≤ n) (h : ∀ v : Int, 0 < v → v < n - 1 → f v = 0) : nodeSum f n = f 0 + f ((n : Int) - 1) := by
  obtain ⟨k, rfl⟩ : ∃ k, n = k + 1 := ⟨n - 1, by omega⟩
  unfold nodeSum
  rw [nodeSum_one (n := k) (by omega) (fun v h0 h1 => h v h0 (by omega))]
  congr 2
  omega
theorem turn_flows {n m : Nat} {tos tos' l0 left : List Int} {val : Int} (hn : 2 ≤ n) (hr : ∀ e : Int, 0 ≤ e → e < 2 * (m : Int) → 0 ≤ rd tos' e ∧ rd tos' e < n) (T : Turn n m tos tos') (hF : Flows n m tos' l0 ((n : Int) - 1) val left) : Flows n m tos l0 ((n : Int) - 1) val left := by
  refine ⟨hF.good, hF.pair, ?_, ?_⟩
  · have h1 := exF_nodes (left := left) hr (fun _ => 1)
    have h2 : exF tos' left (fun _ => 1) m = 0 := by
      have : exF tos' left (fun _ => 1) m = exF tos' left (fun u => 0 * 1) m + exF tos' left (fun _ => 1) m := by
        rw [exF_mul, Int.zero_mul, Int.zero_add]
      have z : ∀ q : Nat, exF tos' left (fun _ => 1) q = 0 := by
        intro q
        induction q with
        | zero => rfl
        | succ q ih => unfold exF; rw [ih, Int.sub_self, Int.mul_zero]; rfl
      exact z m
    rw [h2, nodeSum_two hn (fun v v0 v1 => by show 1 * _ = _; rw [Int.one_mul]; exact hF.bal v (by omega) (by omega) (by omega) (by omega))] at h1
    replace h1 : 0 = 1 * ex tos' left 0 m + 1 * ex tos' left ((n : Int) - 1) m := h1
    rw [turn_ex (Nat.le_refl m) T 0, Int.sub_zero]
    have := hF.val
    omega
  · intro v v0 v1 h1 h2
    rw [turn_ex (Nat.le_refl m) T v, hF.bal _ (by omega) (by omega) (by omega) (by omega)]; rfl
theorem turn_bk {n m : Nat} {tos tos' left d' : List Int} {adj' : List (List Int)} (hr : ∀ e : Int, 0 ≤ e → e < 2 * (m : Int) → 0 ≤ rd tos e ∧ rd tos e < n) (N' : Net n m tos' adj') (T : Turn n m tos tos') (L : Lev n m tos' adj' 0 left d' [] (-1) 0) : Bk n m tos ((n : Int) - 1) left (fun v => rd d' (n - 1 - v)) := by
  have hn := N'.nd
  refine ⟨?_, ?_, ?_, ?_⟩
  · show rd d' ((n : Int) - 1 - ((n : Int) - 1)) = 0
    rw [Int.sub_self]; exact L.src
  · intro e h0 h1 h hu
    have hp := par_bd h0 h1
    have t0 := T.eq e h0 h1
    have t1 := T.eq (par e) hp.1 hp.2
    rw [par_par] at t1
    show 0 ≤ rd d' ((n : Int) - 1 - rd tos (par e))
    rw [← t0]
    exact lev_clos N' L h0 h1 h (by rw [t1]; exact hu)
  · intro v v0 v1 hv
    have := L.zero _ (by omega) (by omega) hv
    omega
  · intro v v0 v1 hv
    obtain ⟨u, e, a1, a2, a3, a4, a5⟩ := L.pred ((n : Int) - 1 - v) (by omega) (by omega) hv
    have hE := N'.row u a1.1 a1.2 e a2
    have hp := par_bd hE.1.1 hE.1.2
    have t0 := T.eq e hE.1.1 hE.1.2
    have t1 := T.eq (par e) hp.1 hp.2
    rw [par_par] at t1
    refine ⟨e, hE.1, a3, by omega, ?_⟩
    show rd d' ((n : Int) - 1 - rd tos e) + 1 = rd d' ((n : Int) - 1 - v)
    rw [← t1, hE.2]; exact a5
/-- the greatest cut is what the least cut of the turned network leaves -/
theorem turned {n m : Nat} {tos tos' : List Int} {adj adj' : List (List Int)} {l0 left d b left' d' : List Int} {val val' : Int} (N : Net n m tos adj) (N' : Net n m tos' adj') (T : Turn n m tos tos')
    (hF : Flows n m tos l0 ((n : Int) - 1) val left) (L : Lev n m tos adj 0 left d [] (-1) 0) (hd : rd d ((n : Int) - 1) < 0) (Lb : Lev n m tos adj ((n : Int) - 1) (flipL left) b [] (-1) 0)
    (hF' : Flows n m tos' l0 ((n : Int) - 1) val' left') (L' : Lev n m tos' adj' 0 left' d' [] (-1) 0) (hd' : rd d' ((n : Int) - 1) < 0) : ∀ v : Int, 0 ≤ v → v < n → (0 ≤ rd b v ↔ 0 ≤ rd d' (n - 1 - v)) := by
  have hn := N.nd
  have F2 := turn_flows N.nd N'.rng T hF'
  have T' : Turn n m tos' tos := ⟨fun e h0 h1 => by
    have hp := par_bd h0 h1
    have := T.eq _ hp.1 hp.2
    rw [par_par] at this
    omega⟩
  have F3 := turn_flows N.nd N.rng T' hF
  have h1 := run_most N hF L hd F2
  have h2 := run_most N' hF' L' hd' F3
  obtain rfl : val = val' := by omega
  have B := bk_of N hF.good.1 Lb
  have B2 := turn_bk N.rng N' T L'
  intro v v0 v1
  constructor
  · exact bk_sub N (by omega) F2 (by show ¬ 0 ≤ rd d' ((n : Int) - 1 - 0); rw [Int.sub_zero]; omega) B2 hF B v v0 v1
  · exact bk_sub N (by omega) hF (bk_z0 N L hd B) B F2 B2 v v0 v1
end Go.Proofs.Ytomfjhpiemipkaa.Flow
