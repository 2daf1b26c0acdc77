/- The law FnExactCountClosures, walked by hand over its callees' contracts: for every input it returns true. -/
import Derived.Test.YtbhlffakpneecaaComA
import Derived.Test.YtbhlffakpneecaaPFnExactCountClosuresx6
import Derived.Test.YtbhlffakpneecaaOwnCountClosures
namespace Go.Proofs.Ytbhlffakpneecaa.WalkFnExactCountClosures
open Go.RowKit Go.Proofs.Ytbhlffakpneecaa.PFnExactCountClosures Go.Proofs.YtbhlffakpneecaaW.PrintWords Go.Proofs.YtbhlffakpneecaaW.PrintLast Go.Proofs.YtbhlffakpneecaaW.PrintMore Go.Proofs.Ytbhlffakpneecaa.B Go.Proofs.Ytbhlffakpneecaa.Com Go.Proofs.Ytbhlffakpneecaa.OwnCountClosures
set_option linter.unusedVariables false
set_option linter.unusedSimpArgs false
def Zn (W W' : World) (u : Value) (k : Nat) : Prop := Btw W W' k ∧ some k = u.ownBlock
/- spec_l1In -/
theorem l1In_eq (a b c : Int) : spec_l1In.f a b c = some (decide (b ≤ a ∧ a ≤ c)) := by
  unfold spec_l1In.f
  by_cases h : a ≥ b
  · rw [if_pos h]; simp [show b ≤ a from h]
  · rw [if_neg h]; simp [show ¬ b ≤ a from h]

/- spec_l1Rising -/
theorem l1Rising_l0 (l : List Int) (hl : l.length ≤ maxLen) (n : Int) : ∀ (d i : Nat), i + d = l.length → Ev (fun k => spec_l1Rising.l0 k l 0 (n - 1) l (l.length : Int) (i : Int)) (allR (ascAt l n) i l.length) := by
  have hl := maxLen_le hl
  intro d
  induction d with
  | zero =>
    intro i hi
    exact Ev.step (fun k => spec_l1Rising.l0.eq_2 l 0 (n - 1) l l.length i k) (ev_neg (by omega) (ev_some (allR_end (by omega)).symm))
  | succ d ih =>
    intro i hi
    refine Ev.step (fun k => spec_l1Rising.l0.eq_2 l 0 (n - 1) l l.length i k) ?_
    rw [allR_step (by omega), w_succ (n := l.length) (by omega) (by omega), rd_nat]
    refine ev_pos (by omega) (ev_pos (by omega) (ev_pos (by omega) (ev_bindc (l1In_eq _ _ _) ?_)))
    refine ev_ite (fun h => ?_) (fun h => ?_)
    · simp only [decide_eq_true_eq] at h
      refine ev_ite (fun h0 => ?_) (fun h0 => ?_)
      · rw [w64 (x := (i : Int) - 1) (by omega) (by omega), show (i : Int) - 1 = ((i - 1 : Nat) : Int) by omega, rd_nat]
        refine ev_pos (by omega) (ev_pos (by omega) ?_)
        refine ev_ite (fun h1 => ?_) (fun h1 => ?_)
        · refine ev_some ?_
          have : ascAt l n i = false := by unfold ascAt; simp only [decide_eq_false_iff_not]; intro hc; have := hc.2.2 (by omega); omega
          rw [this]; rfl
        · have : ascAt l n i = true := by unfold ascAt; simp only [decide_eq_true_eq]; exact ⟨by omega, by omega, fun _ => by omega⟩
          rw [this]; exact ih (i + 1) (by omega)
      · have : ascAt l n i = true := by unfold ascAt; simp only [decide_eq_true_eq]; exact ⟨by omega, by omega, fun _ => by omega⟩
        rw [this]; exact ih (i + 1) (by omega)
    · refine ev_some ?_
      have : ascAt l n i = false := by
        unfold ascAt; simp only [decide_eq_true_eq] at h; simp only [decide_eq_false_iff_not]; intro hc; exact h ⟨hc.1, by omega⟩
      rw [this]; rfl
theorem l1Rising_ev (l : List Int) (hl : l.length ≤ maxLen) (n : Int) : Ev (fun k => spec_l1Rising.f k l 0 (n - 1)) (asc l n) := by
  unfold spec_l1Rising.f asc
  exact l1Rising_l0 l hl n l.length 0 (by omega)

/- spec_clArcs -/
theorem clArcs_l0 (a : List (List Int)) (hl : a.length ≤ maxLen) (hb : ∀ x ∈ a, x.length ≤ maxLen) : ∀ (d i : Nat), i + d = a.length →
    Ev (fun k => spec_clArcs.l0 k a a (a.length : Int) (i : Int)) (decide (1 ≤ a.length ∧ a.length ≤ 120) && allR (fun i => asc (a.getD i []) i) i a.length) := by
  have hl := maxLen_le hl
  intro d
  induction d with
  | zero =>
    intro i hi
    refine Ev.step (fun k => spec_clArcs.l0.eq_2 a a a.length i k) (ev_neg (by omega) (ev_bindc (l1In_eq _ _ _) (ev_some ?_)))
    rw [allR_end (by omega), Bool.and_true, decide_eq_decide]; omega
  | succ d ih =>
    intro i hi
    refine Ev.step (fun k => spec_clArcs.l0.eq_2 a a a.length i k) ?_
    have hx : rd_L1 a (i : Int) = a.getD i [] := by unfold rd_L1; rw [toNat_nat]
    have hmem : a.getD i [] ∈ a := by
      rw [List.getD_eq_getElem?_getD, List.getElem?_eq_getElem (by omega)]; exact List.getElem_mem _
    rw [allR_step (by omega), w_succ (n := a.length) (by omega) (by omega), hx, w64 (x := (i : Int) - 1) (by omega) (by omega)]
    refine ev_pos (by omega) (ev_pos (by omega) (ev_pos (by omega) (Ev.bind (l1Rising_ev _ (hb _ hmem) _) ?_)))
    refine ev_ite (fun h => ?_) (fun h => ?_)
    · rw [h, Bool.true_and]; exact ih (i + 1) (by omega)
    · rw [Bool.not_eq_true] at h; rw [h, Bool.false_and, Bool.and_false]; exact ev_some rfl
theorem clArcs_ev (a : List (List Int)) (hl : a.length ≤ maxLen) (hb : ∀ x ∈ a, x.length ≤ maxLen) : Ev (fun k => spec_clArcs.f k a) (arcsOk a) := by
  unfold spec_clArcs.f arcsOk
  exact clArcs_l0 a hl hb a.length 0 (by omega)

/- rdL1 -/
theorem rdL1 (a : List (List Int)) (i : Nat) : rd_L1 a (i : Int) = a.getD i [] := by unfold rd_L1; rw [toNat_nat]
theorem rdL1' (a : List (List Int)) (x : Int) : rd_L1 a x = a.getD x.toNat [] := rfl

/- hand.FnExactCountClosures -/
theorem i64_small {x : Int} (h0 : 0 ≤ x) (h1 : x < 4611686018427387904) : IntKind.i64.wrap x = x := by simp [IntKind.wrap, IntKind.bits, IntKind.signed]; omega
theorem bits_two (a b : Nat) (ha : a < 2 ^ 21) (hb : b < 2 ^ 21) : Go.bits .and .i64 (a : Int) (b : Int) = ((a &&& b : Nat) : Int) ∧ Go.bits .or .i64 (a : Int) (b : Int) = ((a ||| b : Nat) : Int) := by
  have h1 : (BitVec.ofInt 64 (a : Int)).toNat = a := by
    rw [BitVec.ofInt_natCast, BitVec.toNat_ofNat]; exact Nat.mod_eq_of_lt (by omega)
  have h2 : (BitVec.ofInt 64 (b : Int)).toNat = b := by
    rw [BitVec.ofInt_natCast, BitVec.toNat_ofNat]; exact Nat.mod_eq_of_lt (by omega)
  have h3 : a &&& b < 2 ^ 21 := Nat.and_lt_two_pow a hb
  have h4 : a ||| b < 2 ^ 21 := Nat.or_lt_two_pow ha hb
  constructor
  · show IntKind.i64.wrap ((BitVec.ofInt 64 (a : Int) &&& BitVec.ofInt 64 (b : Int)).toNat : Int) = _
    rw [BitVec.toNat_and, h1, h2, i64_small (by omega) (by omega)]
  · show IntKind.i64.wrap ((BitVec.ofInt 64 (a : Int) ||| BitVec.ofInt 64 (b : Int)).toNat : Int) = _
    rw [BitVec.toNat_or, h1, h2, i64_small (by omega) (by omega)]
theorem u64_small {x : Int} (h0 : 0 ≤ x) (h1 : x < 64) : IntKind.u64.wrap x = x := by simp [IntKind.wrap, IntKind.bits, IntKind.signed]; omega
theorem pow_lt20 {k : Nat} (h : k ≤ 20) : 2 ^ k < 2 ^ 21 := Nat.pow_lt_pow_right (by omega) (by omega)
theorem shl_eq (k : Nat) (h : k ≤ 20) : shl .i64 1 (IntKind.u64.wrap (k : Int)) = ((2 ^ k : Nat) : Int) := by
  rw [u64_small (by omega) (by omega)]
  unfold shl
  rw [Int.toNat_natCast, show min k IntKind.i64.bits = k from Nat.min_eq_left (by show k ≤ 64; omega), Int.one_mul]
  have := pow_lt20 h
  have e : (2 : Int) ^ k = ((2 ^ k : Nat) : Int) := by simp
  rw [e, i64_small (by exact Int.natCast_nonneg _) (by omega)]
theorem shr_eq (t k : Nat) (h : k ≤ 20) : shr .i64 (t : Int) (IntKind.u64.wrap (k : Int)) = ((t / 2 ^ k : Nat) : Int) := by
  rw [u64_small (by omega) (by omega)]
  unfold shr
  rw [Int.toNat_natCast, show min k IntKind.i64.bits = k from Nat.min_eq_left (by show k ≤ 64; omega)]
  have e : (2 : Int) ^ k = ((2 ^ k : Nat) : Int) := by simp
  rw [e]; simp
def orU (l : List Nat) : Nat := l.foldl (fun s k => s ||| 2 ^ k) 0
theorem orU_snoc (l : List Nat) (k : Nat) : orU (l ++ [k]) = orU l ||| 2 ^ k := by unfold orU; rw [List.foldl_append]; rfl
theorem orU_bit (l : List Nat) (j : Nat) : (orU l).testBit j = decide (j ∈ l) := by
  suffices ∀ (l : List Nat) (s : Nat), (l.foldl (fun s k => s ||| 2 ^ k) s).testBit j = (s.testBit j || decide (j ∈ l)) by
    unfold orU; rw [this l 0, Nat.zero_testBit, Bool.false_or]
  intro l
  induction l with
  | nil => intro s; simp
  | cons x l ih =>
    intro s
    rw [List.foldl_cons, ih, Nat.testBit_or, Nat.testBit_two_pow, Bool.or_assoc]
    congr 1
    rw [Bool.eq_iff_iff]
    simp only [Bool.or_eq_true, decide_eq_true_eq, List.mem_cons]
    exact or_congr ⟨fun h => h.symm, fun h => h.symm⟩ Iff.rfl
theorem orU_lt (l : List Nat) (n : Nat) (h : ∀ k ∈ l, k < n) : orU l < 2 ^ n := by
  refine Nat.lt_pow_two_of_testBit _ (fun i hi => ?_)
  rw [orU_bit]
  exact decide_eq_false (fun hm => by have := h i hm; omega)
theorem and_iff (t : Nat) (l : List Nat) : t &&& orU l = orU l ↔ (l.all fun k => t.testBit k) = true := by
  rw [List.all_eq_true]
  constructor
  · intro h k hk
    have := congrArg (fun z : Nat => z.testBit k) h
    simp only [Nat.testBit_and, orU_bit, decide_eq_true hk, Bool.and_true] at this
    exact this
  · intro h
    refine Nat.eq_of_testBit_eq (fun k => ?_)
    rw [Nat.testBit_and, orU_bit]
    by_cases hk : k ∈ l
    · rw [h k hk]; simp [hk]
    · simp [hk]
open Go.Proofs.Ytbhlffakpneecaa.CountMath Go.Proofs.Ytbhlffakpneecaa.OwnCountClosures
def upsL (a : List (List Int)) (i : Nat) : List Int := (List.range a.length).map (fun (j : Nat) => if j < i then ((orU (U a j) : Nat) : Int) else 0)
theorem upsL_len (a : List (List Int)) (i : Nat) : (upsL a i).length = a.length := by unfold upsL; rw [List.length_map, List.length_range]
theorem upsL_at (a : List (List Int)) (i j : Nat) (h : j < a.length) : (upsL a i).getD j 0 = if j < i then ((orU (U a j) : Nat) : Int) else 0 := by
  unfold upsL; rw [List.getD_eq_getElem?_getD, List.getElem?_map, List.getElem?_range h]; rfl
theorem upsL_step (a : List (List Int)) (i : Nat) (h : i < a.length) : (upsL a i).set i ((orU (U a i) : Nat) : Int) = upsL a (i + 1) := by
  refine getD_ext 0 (by rw [List.length_set, upsL_len, upsL_len]) (fun j hj => ?_)
  rw [List.length_set, upsL_len] at hj
  rw [getD_set, upsL_len, upsL_at a i j hj, upsL_at a (i + 1) j hj]
  by_cases e : i = j
  · subst e; rw [if_pos ⟨rfl, hj⟩, if_pos (by omega)]
  · rw [if_neg (fun z => e z.1)]
    by_cases h2 : j < i
    · rw [if_pos h2, if_pos (by omega)]
    · rw [if_neg h2, if_neg (by omega)]
theorem U_len (a : List (List Int)) (i : Nat) : (U a i).length = (a.getD i []).length := by unfold U; rw [List.length_map]
theorem cc_l1 (a : List (List Int)) (ha : Arcs a) (hL : a.length ≤ 20) (q : Int × Bool) (i : Nat) (hi : i < a.length) (hq : Ev (fun k => spec_CountClosures.l0 k a (upsL a (i + 1)) a (a.length : Int) ((i + 1 : Nat) : Int)) q) : ∀ (d j : Nat), j + d = (a.getD i []).length →
    Ev (fun k => spec_CountClosures.l1 k a ((upsL a i).set i ((orU ((U a i).take j) : Nat) : Int)) (i : Int) a (a.length : Int) (i : Int) (a.getD i []) ((a.getD i []).length : Int) (j : Int)) q := by
  have hul := U_len a i
  have hal := arc_len ha hi
  intro d
  induction d with
  | zero =>
    intro j hj
    refine Ev.step (fun k => spec_CountClosures.l1.eq_2 _ _ _ _ _ _ _ _ _ k) (ev_neg (by omega) ?_)
    rw [List.take_of_length_le (by omega), upsL_step a i hi, w_succ (n := a.length) (by omega) (by omega)]
    exact hq
  | succ d ih =>
    intro j hj
    have hx := arc_row ha hi ((a.getD i []).getD j 0) (getD_mem (by omega))
    obtain ⟨x, ex⟩ : ∃ x : Nat, (x : Int) = (a.getD i []).getD j 0 := ⟨((a.getD i []).getD j 0).toNat, by omega⟩
    have hUx : (U a i).getD j 0 = x := by
      unfold U
      have h2 : j < (a.getD i []).length := by omega
      rw [List.getD_eq_getElem?_getD, List.getElem?_map, List.getElem?_eq_getElem h2]
      have e : (a.getD i [])[j] = (x : Int) := by rw [ex, List.getD_eq_getElem?_getD (l := a.getD i []), List.getElem?_eq_getElem h2]; rfl
      rw [e]; simp
    refine Ev.step (fun k => spec_CountClosures.l1.eq_2 _ _ _ _ _ _ _ _ _ k) ?_
    have hget : rd ((upsL a i).set i ((orU ((U a i).take j) : Nat) : Int)) (i : Int) = ((orU ((U a i).take j) : Nat) : Int) := by
      rw [rd_nat, getD_set, upsL_len, if_pos ⟨rfl, hi⟩]
    have hor : orU ((U a i).take j) < 2 ^ 21 := Nat.lt_of_lt_of_le (orU_lt _ i (fun k hk => U_lt ha i k (List.mem_of_mem_take hk))) (Nat.pow_le_pow_right (by omega) (by omega))
    have hset : ((upsL a i).set i ((orU ((U a i).take j) : Nat) : Int)).set i ((orU ((U a i).take (j + 1)) : Nat) : Int) = (upsL a i).set i ((orU ((U a i).take (j + 1)) : Nat) : Int) := by rw [List.set_set]
    have hsnoc : (U a i).take (j + 1) = (U a i).take j ++ [x] := by
      rw [List.take_succ_eq_append_getElem (by omega : j < (U a i).length)]
      congr 2
      rw [← hUx, List.getD_eq_getElem?_getD, List.getElem?_eq_getElem (by omega : j < (U a i).length)]; rfl
    have ih := ih (j + 1) (by omega)
    rw [rd_nat, ← ex, hget, shl_eq x (by omega), (bits_two _ (2 ^ x) hor (pow_lt20 (by omega))).2, ← orU_snoc, ← hsnoc, toNat_nat, hset, w_succ (n := (a.getD i []).length) (by omega) (by omega)]
    exact ev_pos (by omega) (ev_pos (by omega) (ev_pos (by omega) (ev_pos (by omega) (ev_pos (by rw [List.length_set, upsL_len]; omega) (ev_pos (by rw [u64_small (by omega) (by omega)]; omega) ih)))))
theorem cc_l3 (a : List (List Int)) (ha : Arcs a) (hL : a.length ≤ 20) (n t : Nat) (hn : n ≤ 2 ^ 20) (ht : t < 2 ^ a.length) (q : Int × Bool)
    (hy : okF (U a) t 0 a.length = true → Ev (fun k => spec_CountClosures.l2 k a (upsL a a.length) ((n + 1 : Nat) : Int) ((t + 1 : Nat) : Int)) q) (hno : okF (U a) t 0 a.length = false → Ev (fun k => spec_CountClosures.l2 k a (upsL a a.length) (n : Int) ((t + 1 : Nat) : Int)) q) :
    ∀ (d i : Nat), i + d = a.length → okF (U a) t 0 a.length = okF (U a) t i d →
    Ev (fun k => spec_CountClosures.l3 k a (upsL a a.length) (n : Int) (t : Int) true (upsL a a.length) ((upsL a a.length).length : Int) (i : Int)) q := by
  have ht21 : t < 2 ^ 21 := Nat.lt_of_lt_of_le ht (Nat.pow_le_pow_right (by omega) (by omega))
  have hw1 : wrap64 ((n : Int) + 1) = ((n + 1 : Nat) : Int) := w_succ (n := 2 ^ 20 + 1) (by omega) (by omega)
  have hw2 : wrap64 ((t : Int) + 1) = ((t + 1 : Nat) : Int) := w_succ (n := 2 ^ 21) (by omega) (by omega)
  rw [upsL_len]
  intro d
  induction d with
  | zero =>
    intro i hi hok
    refine Ev.step (fun k => spec_CountClosures.l3.eq_2 _ _ _ _ _ _ _ _ k) (ev_neg (by omega) (ev_pos rfl ?_))
    rw [hw1, hw2]
    exact hy (by rw [hok]; rfl)
  | succ d ih =>
    intro i hi hok
    refine Ev.step (fun k => spec_CountClosures.l3.eq_2 _ _ _ _ _ _ _ _ k) ?_
    have hup : rd (upsL a a.length) (i : Int) = ((orU (U a i) : Nat) : Int) := by rw [rd_nat, upsL_at a _ i (by omega), if_pos (by omega)]
    have hub : orU (U a i) < 2 ^ 21 := Nat.lt_of_lt_of_le (orU_lt _ i (U_lt ha i)) (Nat.pow_le_pow_right (by omega) (by omega))
    have htd : t / 2 ^ i < 2 ^ 21 := Nat.lt_of_le_of_lt (Nat.div_le_self _ _) ht21
    have hb1 : Go.bits .and .i64 ((t / 2 ^ i : Nat) : Int) 1 = ((t / 2 ^ i &&& 1 : Nat) : Int) := (bits_two (t / 2 ^ i) 1 htd (by omega)).1
    rw [hup, shr_eq t i (by omega), hb1, (bits_two t _ ht21 hub).1, hw2, w_succ (n := a.length) (by omega) (by omega)]
    have hbit : t.testBit i = true ↔ t / 2 ^ i &&& 1 = 1 := by rw [Nat.testBit_eq_decide_div_mod_eq, decide_eq_true_eq, Nat.and_one_is_mod]
    have hsub : sub (U a) i t = true ↔ t &&& orU (U a i) = orU (U a i) := (and_iff t (U a i)).symm
    have hok2 : okF (U a) t i (d + 1) = ((!t.testBit i || sub (U a) i t) && okF (U a) t (i + 1) d) := rfl
    refine ev_pos (by omega) (ev_pos (by omega) (ev_pos (by rw [upsL_len]; omega) (ev_pos (by rw [u64_small (by omega) (by omega)]; omega) (ev_ite (fun h1 => ev_ite (fun h2 => ?_) (fun h2 => ?_)) (fun h1 => ?_)))))
    · refine ih (i + 1) (by omega) ?_
      rw [hok, hok2, hsub.2 (by omega)]; simp
    · refine hno ?_
      have h3 : ¬ sub (U a) i t = true := fun z => h2 (by rw [hsub.1 z])
      rw [Bool.not_eq_true] at h3
      rw [hok, hok2, h3, hbit.2 (by omega)]; rfl
    · refine ih (i + 1) (by omega) ?_
      have h3 : ¬ t.testBit i = true := fun z => h1 (by rw [hbit.1 z]; rfl)
      rw [Bool.not_eq_true] at h3
      rw [hok, hok2, h3]; simp
theorem cc_l2 (a : List (List Int)) (ha : Arcs a) (hL : a.length ≤ 20) : ∀ (d t : Nat), t + d = 2 ^ a.length →
    Ev (fun k => spec_CountClosures.l2 k a (upsL a a.length) ((cntP (fun t => okF (U a) t 0 a.length) t : Nat) : Int) (t : Int)) (((cntP (fun t => okF (U a) t 0 a.length) (2 ^ a.length) : Nat) : Int), true) := by
  intro d
  induction d with
  | zero =>
    intro t ht
    refine Ev.step (fun k => spec_CountClosures.l2.eq_2 _ _ _ _ k) ?_
    rw [shl_eq _ hL]
    refine ev_pos (by rw [u64_small (by omega) (by omega)]; omega) (ev_neg (by omega) (ev_some ?_))
    rw [show t = 2 ^ a.length by omega]
  | succ d ih =>
    intro t ht
    have ih := ih (t + 1) (by omega)
    have hc := cntP_le (fun t => okF (U a) t 0 a.length) t
    have hp : 2 ^ a.length ≤ 2 ^ 20 := Nat.pow_le_pow_right (by omega) hL
    refine Ev.step (fun k => spec_CountClosures.l2.eq_2 _ _ _ _ k) ?_
    rw [shl_eq _ hL]
    refine ev_pos (by rw [u64_small (by omega) (by omega)]; omega) (ev_pos (by omega) ?_)
    refine cc_l3 a ha hL _ t (by omega) (by omega) _ (fun h => ?_) (fun h => ?_) a.length 0 (by omega) rfl
    · have e : cntP (fun t => okF (U a) t 0 a.length) (t + 1) = cntP (fun t => okF (U a) t 0 a.length) t + 1 := by show cntP (fun t => okF (U a) t 0 a.length) t + (if okF (U a) t 0 a.length = true then 1 else 0) = _; rw [if_pos h]
      rw [e] at ih; exact ih
    · have e : cntP (fun t => okF (U a) t 0 a.length) (t + 1) = cntP (fun t => okF (U a) t 0 a.length) t := by show cntP (fun t => okF (U a) t 0 a.length) t + (if okF (U a) t 0 a.length = true then 1 else 0) = _; rw [if_neg (by rw [h]; simp), Nat.add_zero]
      rw [e] at ih; exact ih
theorem cc_l0 (a : List (List Int)) (ha : Arcs a) (hL : a.length ≤ 20) : ∀ (d i : Nat), i + d = a.length →
    Ev (fun k => spec_CountClosures.l0 k a (upsL a i) a (a.length : Int) (i : Int)) (((cntP (fun t => okF (U a) t 0 a.length) (2 ^ a.length) : Nat) : Int), true) := by
  intro d
  induction d with
  | zero =>
    intro i hi
    obtain rfl : i = a.length := by omega
    exact Ev.step (fun k => spec_CountClosures.l0.eq_2 _ _ _ _ _ k) (ev_neg (by omega) (cc_l2 a ha hL (2 ^ a.length) 0 (by omega)))
  | succ d ih =>
    intro i hi
    refine Ev.step (fun k => spec_CountClosures.l0.eq_2 _ _ _ _ _ k) ?_
    rw [rdL1]
    have h := cc_l1 a ha hL _ i (by omega) (ih (i + 1) (by omega)) (a.getD i []).length 0 (by omega)
    have e : (upsL a i).set i ((orU ((U a i).take 0) : Nat) : Int) = upsL a i := by
      refine getD_ext 0 (by rw [List.length_set]) (fun j hj => ?_)
      rw [List.length_set, upsL_len] at hj
      rw [getD_set, upsL_len]
      by_cases e : i = j
      · subst e; rw [if_pos ⟨rfl, hj⟩, upsL_at a i i hj, if_neg (by omega)]; rfl
      · rw [if_neg (fun z => e z.1)]
    rw [e] at h
    exact ev_pos (by omega) (ev_pos (by omega) (ev_pos (by omega) h))
theorem both (a : List (List Int)) (hl : a.length ≤ 1048576) (hb : ∀ x ∈ a, x.length ≤ 1048576) : ∃ q : Int × Bool, Ev (fun k => spec_CountClosures.f k a) q ∧ ccR a = q := by
  refine ⟨ccR a, ?_, rfl⟩
  have hc := clArcs_ev a (maxLen_val (by omega)) (fun x hx => maxLen_val (by have := hb x hx; omega))
  unfold spec_CountClosures.f ccR
  by_cases h : arcsOk a = true
  · by_cases h2 : a.length ≤ 20
    · have ha := arcsOk_iff.1 h
      rw [if_pos ⟨h, h2⟩, C_all (U a) (U_lt ha) a.length]
      refine Ev.bind hc (ev_pos h (Ev.step (fun k => spec_CountClosures.j0.eq_2 _ _ k) (ev_neg (by simp; omega) (ev_pos (by omega) (ev_pos (by omega) ?_)))))
      have e : List.replicate ((a.length : Int)).toNat (0 : Int) = upsL a 0 := by
        refine getD_ext 0 (by rw [List.length_replicate, upsL_len, toNat_nat]) (fun j hj => ?_)
        rw [List.length_replicate, toNat_nat] at hj
        rw [upsL_at a 0 j hj, if_neg (by omega), List.getD_eq_getElem?_getD, List.getElem?_replicate_of_lt (by rw [toNat_nat]; exact hj)]; rfl
      rw [e]
      exact cc_l0 a ha h2 a.length 0 (by omega)
    · rw [if_neg (fun z => h2 z.2)]
      exact Ev.bind hc (ev_pos h (Ev.step (fun k => spec_CountClosures.j0.eq_2 _ _ k) (ev_pos (by simp; omega) (ev_some rfl))))
  · rw [if_neg (fun z => h z.1)]
    exact Ev.bind hc (ev_neg h (Ev.step (fun k => spec_CountClosures.j0.eq_2 _ _ k) (ev_pos rfl (ev_some rfl))))

set_option maxHeartbeats 4000000 in
set_option maxRecDepth 100000 in
theorem walk (a0 : List (List Int)) (Aa0 : Option Addr) (ca0 : Nat) (w : World) (hra0 : Kd.C kSS w Aa0 a0.length a0) (hca0 : a0.length ≤ ca0) (r0 : Int) (hsz0 : ∀ (Aa0 : Option Addr) (ca0 : Nat) (w : World), Kd.C kSS w Aa0 a0.length a0 → a0.length ≤ ca0 → Calls Try.prog 6 #[.slice Aa0 a0.length ca0, .int .i64 1048576] w fun e w' => e = .returned (.int .i64 r0) ∧ Below w.heap.size w w') (hlt0 : ¬ r0 < 0)  (g0 : Int) (g1 : Bool) (hla0 : a0.length ≤ 1048576) (hba0 : ∀ x ∈ a0, x.length ≤ 1048576)  (hs : ∃ k, spec_CountClosures.f k a0 = some (g0, g1)) (hi : ccR a0 = (g0, g1)) :
    Calls Try.prog 3 #[.slice Aa0 a0.length ca0] w fun e w' => e = .returned (.bool true) ∧ Below w.heap.size w w' := by
  obtain ⟨ks, hs⟩ := hs
  have Hs := Aside0.mk hs
  have Hi := Aside0.mk hi
  have HRa0 := Aside0.mk hra0
  have HCa0 := Aside0.mk hca0
  have HLa0 := Aside0.mk hla0
  have HBa0 := Aside0.mk hba0
  have HSZ0 := Aside0.mk hsz0
  have d0 : decide (r0 < 0) = false := decide_eq_false hlt0
  clear hs hi hra0 hca0 hla0 hba0 hsz0 hlt0
  go_enter Try.func3, Try.ntmps3
  go_wp2_with fail
  refine (HSZ0.out Aa0 ca0 w HRa0.out HCa0.out).mono ?_
  rintro e w1 ⟨rfl, hb⟩
  have B1 := Aside0.mk hb
  have z1 := hb.size
  clear hb
  go_wp2_with fail
  refine (toIntSS_calls a0 HLa0.out HBa0.out Aa0 ca0 w1 (Kd.C_below HRa0.out B1.out) HCa0.out).mono ?_
  rintro e w2 ⟨v, rfl, ho, hb⟩
  have B2 := Aside0.mk (below_step B1.out hb)
  have z2 := hb.size
  obtain ⟨At0_0_2, ct0_0_2, rfl⟩ := Kd.S_slice ho
  have Ft0_0_2 := Aside0.mk (ivS (w := w) ho (by omega))
  clear ho
  clear hb
  go_wp2_with fail
  refine (spec_CountClosures.calls ks At0_0_2 ct0_0_2 a0 g0 g1 w2 (readsS Ft0_0_2.out).2.2 (readsS Ft0_0_2.out).2.1 Hs.out).mono ?_
  rintro e w3 ⟨rfl, hb⟩
  have B3 := Aside0.mk (below_step B2.out hb)
  have z3 := hb.size
  have Ft0_0_3 := Aside0.mk (Kd.S_below Ft0_0_2.out hb)
  clear Ft0_0_2
  clear hb
  go_wp2_with fail
  refine (toIntSS_calls a0 HLa0.out HBa0.out Aa0 ca0 w3 (Kd.C_below HRa0.out B3.out) HCa0.out).mono ?_
  rintro e w4 ⟨v, rfl, ho, hb⟩
  have B4 := Aside0.mk (below_step B3.out hb)
  have z4 := hb.size
  obtain ⟨Ax0_0_4, cx0_0_4, rfl⟩ := Kd.S_slice ho
  have Fx0_0_4 := Aside0.mk (ivS (w := w) ho (by omega))
  clear ho
  clear hb
  go_wp2_with fail
  refine (OwnCountClosures.own_impl Ax0_0_4 cx0_0_4 a0 g0 g1 w4 (readsS Fx0_0_4.out).2.2 (readsS Fx0_0_4.out).2.1 HLa0.out HBa0.out Hi.out).mono ?_
  rintro e w5 ⟨rfl, hb⟩
  have B5 := Aside0.mk (below_step B4.out hb)
  have z5 := hb.size
  have Fx0_0_5 := Aside0.mk (Kd.S_below Fx0_0_4.out hb)
  clear Fx0_0_4
  clear hb
  go_wp2_with fail
  refine (toIntSS_calls a0 HLa0.out HBa0.out Aa0 ca0 w5 (Kd.C_below HRa0.out B5.out) HCa0.out).mono ?_
  rintro e w6 ⟨v, rfl, ho, hb⟩
  have B6 := Aside0.mk (below_step B5.out hb)
  have z6 := hb.size
  obtain ⟨Au_0_6, cu_0_6, rfl⟩ := Kd.S_slice ho
  have Fu_0_6 := Aside0.mk (ivS (w := w) ho (by omega))
  clear ho
  have Fx0_0_6 := Aside0.mk (Kd.S_below Fx0_0_5.out hb)
  clear Fx0_0_5
  clear hb
  go_wp2_with fail
  refine (eqIntSS_calls a0 (maxLen_val (by have := HLa0.out; omega)) (fun x hx => maxLen_val (by have := HBa0.out x hx; omega)) Ax0_0_4 Au_0_6 cx0_0_4 cu_0_6 w6 (readsS Fx0_0_6.out).2.2 (readsS Fx0_0_6.out).2.1 (readsS Fu_0_6.out).2.2 (readsS Fu_0_6.out).2.1).mono ?_
  rintro e w7 ⟨rfl, hb⟩
  have B7 := Aside0.mk (below_step B6.out hb)
  have z7 := hb.size
  have Fx0_0_7 := Aside0.mk (Kd.S_below Fx0_0_6.out hb)
  clear Fx0_0_6
  have Fu_0_7 := Aside0.mk (Kd.S_below Fu_0_6.out hb)
  clear Fu_0_6
  clear hb
  go_wp2_with fail
  go_ret
  exact ⟨rfl, B7.out⟩
set_option maxRecDepth 100000 in
theorem walk_neg0 (a0 : List (List Int)) (Aa0 : Option Addr) (ca0 : Nat) (w : World) (hra0 : Kd.C kSS w Aa0 a0.length a0) (hca0 : a0.length ≤ ca0)  (r0 : Int) (hsz0 : ∀ (Aa0 : Option Addr) (ca0 : Nat) (w : World), Kd.C kSS w Aa0 a0.length a0 → a0.length ≤ ca0 → Calls Try.prog 6 #[.slice Aa0 a0.length ca0, .int .i64 1048576] w fun e w' => e = .returned (.int .i64 r0) ∧ Below w.heap.size w w') (hlt0 : r0 < 0) : Calls Try.prog 3 #[.slice Aa0 a0.length ca0] w fun e w' => e = .returned (.bool true) ∧ Below w.heap.size w w' := by
  have HRa0 := Aside0.mk hra0
  have HCa0 := Aside0.mk hca0
  have HSZ0 := Aside0.mk hsz0
  have d0 : decide (r0 < 0) = true := decide_eq_true hlt0
  clear hsz0 hlt0  hra0 hca0
  go_enter Try.func3, Try.ntmps3
  go_wp2_with fail
  refine (HSZ0.out Aa0 ca0 w HRa0.out HCa0.out).mono ?_
  rintro e w1 ⟨rfl, hb⟩
  have B1 := Aside0.mk hb
  clear hb
  go_wp2_with fail
  go_ret
  exact ⟨rfl, B1.out⟩
theorem law (a0 : List (List Int)) (ha0 : a0.length ≤ maxLen) (ga0 : ∀ x ∈ a0, x.length ≤ maxLen ∧ ∀ y0 ∈ x, (Lit.int .i64 y0).wf = true) (Aa0 : Option Addr) (ca0 : Nat) (w : World) (hra0 : Kd.C kSS w Aa0 a0.length a0) (hca0 : a0.length ≤ ca0) : Calls Try.prog 3 #[.slice Aa0 a0.length ca0] w fun e w' => e = .returned (.bool true) ∧ Below w.heap.size w w' := by
  obtain ⟨r0, hz, hsz0⟩ := szIntSS_calls a0 ha0 (fun x hx => (ga0 x hx).1)
  by_cases hlt0 : r0 < 0
  · exact walk_neg0 a0 Aa0 ca0 w hra0 hca0  r0 hsz0 hlt0
  obtain ⟨l1a0, l2a0⟩ := hz (by omega)
  obtain ⟨⟨g0, g1⟩, hs, hi⟩ := both a0 l1a0 l2a0
  exact walk a0 Aa0 ca0 w hra0 hca0 r0 hsz0 hlt0  g0 g1 l1a0 l2a0  hs.rounds hi
end Go.Proofs.Ytbhlffakpneecaa.WalkFnExactCountClosures
