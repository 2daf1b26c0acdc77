/- The network of a pit is one, in plain Lean over the edges. -/
import Derived.Test.YtogjpimhlkinkaaOwnNet
import Derived.Test.YtogjpimhlkinkaaPitMath
namespace Go.Proofs.Ytogjpimhlkinkaa.PitBest
open Go.RowKit Go.Proofs.Ytogjpimhlkinkaa.PFnPitBest Go.Proofs.YtogjpimhlkinkaaW.PrintWords Go.Proofs.YtogjpimhlkinkaaW.PrintLast Go.Proofs.YtogjpimhlkinkaaW.PrintMore Go.Proofs.Ytogjpimhlkinkaa.B Go.Proofs.Ytogjpimhlkinkaa.Flow Go.Proofs.Ytogjpimhlkinkaa.OwnRows Go.Proofs.Ytogjpimhlkinkaa.OwnNet Go.Proofs.Ytogjpimhlkinkaa.PitMath
set_option linter.unusedVariables false
set_option linter.unusedSimpArgs false
def valAt (l : List Int) (j : Nat) : Bool := decide (-1000000 ≤ l.getD j 0 ∧ l.getD j 0 ≤ 1000000)
def valsOk (l : List Int) : Bool := decide (1 ≤ l.length ∧ l.length ≤ 120) && allR (valAt l) 0 l.length
theorem valsOk_iff {l : List Int} : valsOk l = true ↔ 1 ≤ l.length ∧ l.length ≤ 120 ∧ ∀ j, j < l.length → -1000000 ≤ l.getD j 0 ∧ l.getD j 0 ≤ 1000000 := by
  unfold valsOk valAt
  rw [Bool.and_eq_true, decide_eq_true_eq, allR_iff]
  constructor
  · rintro ⟨⟨h1, h2⟩, h3⟩; exact ⟨h1, h2, fun j hj => by have := h3 j (Nat.zero_le _) hj; simpa using this⟩
  · rintro ⟨h1, h2, h3⟩; exact ⟨⟨h1, h2⟩, fun j _ hj => by simpa using h3 j hj⟩
def sumAt (v l : List Int) (s : Int) (j : Nat) : Int := s + v.getD (l.getD j 0).toNat 0
def valSum (v l : List Int) : Int := foldR (sumAt v l) 0 l.length 0
theorem valSum_bound {v l : List Int} (hv : ∀ j, j < v.length → -1000000 ≤ v.getD j 0 ∧ v.getD j 0 ≤ 1000000) (hl : ∀ j, j < l.length → 0 ≤ l.getD j 0 ∧ l.getD j 0 < v.length) (m : Nat) (hm : m ≤ l.length) : -1000000 * (m : Int) ≤ foldR (sumAt v l) 0 m 0 ∧ foldR (sumAt v l) 0 m 0 ≤ 1000000 * (m : Int) := by
  induction m with
  | zero => rw [foldR_end (Nat.le_refl _)]; omega
  | succ m ih =>
    have ih := ih (by omega)
    rw [foldR_last (by omega)]
    have h1 := hl m (by omega)
    have h2 := hv (l.getD m 0).toNat (by omega)
    unfold sumAt at *
    omega

def goodC (a : List (List Int)) (l : List Int) : Bool := arcsOk a && (asc l a.length && isClo a l)
theorem goodC_iff {a : List (List Int)} {l : List Int} : goodC a l = true ↔ Arcs a ∧ asc l a.length = true ∧ isClo a l = true := by
  unfold goodC; rw [Bool.and_eq_true, Bool.and_eq_true, arcsOk_iff]

def posAt (v : List Int) (s : Int) (j : Nat) : Int := s + max 0 (v.getD j 0)
def posSum (v : List Int) : Int := foldR (posAt v) 0 v.length 0
def valuedB (a : List (List Int)) (v : List Int) : Bool := arcsOk a && (valsOk v && decide ((v.length : Int) = a.length))
def cutP (a : List (List Int)) (v p : List Int) : Int × Bool := if valuedB a v && (asc p a.length && isClo a p) then (posSum v - valSum v p, true) else (0, false)
theorem posAt_bd {v : List Int} (hv : valsOk v = true) (i : Nat) (hi : i ≤ v.length) : 0 ≤ foldR (posAt v) 0 i 0 ∧ foldR (posAt v) 0 i 0 ≤ 1000000 * (i : Int) := by
  rw [valsOk_iff] at hv
  induction i with
  | zero => rw [foldR_end (Nat.le_refl _)]; omega
  | succ i ih =>
    have ih := ih (by omega)
    rw [foldR_last (Nat.zero_le _)]
    have := hv.2.2 i (by omega)
    unfold posAt at *
    omega
theorem valued_arcs {a : List (List Int)} {v : List Int} (h : valuedB a v = true) : Arcs a ∧ valsOk v = true ∧ v.length = a.length := by
  unfold valuedB at h
  rw [Bool.and_eq_true, Bool.and_eq_true, decide_eq_true_eq, arcsOk_iff] at h
  exact ⟨h.1, h.2.1, by omega⟩

def arcE (i : Nat) (x : Int) : S68 := ⟨(i : Int) + 1, x + 1, 1000000000⟩
def pitAt (a : List (List Int)) (v : List Int) (o : List S68) (i : Nat) : List S68 :=
  (if v.getD i 0 < 0 then (if v.getD i 0 > 0 then o ++ [⟨0, (i : Int) + 1, v.getD i 0⟩] else o) ++ [⟨(i : Int) + 1, (a.length : Int) + 1, -(v.getD i 0)⟩] else (if v.getD i 0 > 0 then o ++ [⟨0, (i : Int) + 1, v.getD i 0⟩] else o)) ++ (a.getD i []).map (arcE i)
def pitE (a : List (List Int)) (v : List Int) : List S68 := foldR (pitAt a v) 0 a.length []
theorem pitAt_len {a : List (List Int)} (ha : Arcs a) (v : List Int) (m : Nat) : (foldR (pitAt a v) 0 m []).length ≤ 122 * m := by
  induction m with
  | zero => rw [foldR_end (Nat.le_refl _)]; simp
  | succ m ih =>
    rw [foldR_last (Nat.zero_le _)]
    have := ha.len m
    generalize foldR (pitAt a v) 0 m [] = o at *
    unfold pitAt
    rw [List.length_append, List.length_map]
    split <;> split <;> (try simp only [List.length_append, List.length_cons, List.length_nil]) <;> omega
/-- Values that a network is made of. -/
def flowVals (v : List Int) : Prop := ∀ j, j < v.length → -1000000000 ≤ v.getD j 0 ∧ v.getD j 0 ≤ 1000000000
theorem valued_flow {a : List (List Int)} {v : List Int} (h : valuedB a v = true) : flowVals v := fun j hj => by
  have := (valsOk_iff.1 (valued_arcs h).2.1).2.2 j hj
  omega
/-- the network of a pit is one -/
theorem arcE_ok {N i : Nat} {x : Int} (hi : i < N) (hx : 0 ≤ x ∧ x < N) : edgeOk ((N + 2 : Nat) : Int) (arcE i x) := by
  unfold edgeOk arcE
  show 0 ≤ (i : Int) + 1 ∧ (i : Int) + 1 < _ ∧ 0 ≤ x + 1 ∧ x + 1 < _ ∧ (0 : Int) ≤ 1000000000 ∧ (1000000000 : Int) ≤ 1000000000
  omega
theorem pit_edges {a : List (List Int)} {v : List Int} (ha : Arcs a) (hv : flowVals v) (hn : v.length = a.length) : ∀ e ∈ pitE a v, edgeOk ((a.length + 2 : Nat) : Int) e := by
  have all : ∀ m, m ≤ a.length → ∀ e ∈ foldR (pitAt a v) 0 m [], edgeOk ((a.length + 2 : Nat) : Int) e := by
    intro m
    induction m with
    | zero => intro _ e he; rw [foldR_end (Nat.le_refl _)] at he; simp at he
    | succ m ih =>
      intro hm e he
      rw [foldR_last (Nat.zero_le _)] at he
      have hvm := hv m (by omega)
      have src : 0 < v.getD m 0 → edgeOk ((a.length + 2 : Nat) : Int) ⟨0, (m : Int) + 1, v.getD m 0⟩ := by
        intro h; unfold edgeOk
        show (0 : Int) ≤ 0 ∧ (0 : Int) < _ ∧ 0 ≤ (m : Int) + 1 ∧ (m : Int) + 1 < _ ∧ 0 ≤ v.getD m 0 ∧ v.getD m 0 ≤ _
        omega
      have snk : v.getD m 0 < 0 → edgeOk ((a.length + 2 : Nat) : Int) ⟨(m : Int) + 1, (a.length : Int) + 1, -(v.getD m 0)⟩ := by
        intro h; unfold edgeOk
        show 0 ≤ (m : Int) + 1 ∧ (m : Int) + 1 < _ ∧ 0 ≤ (a.length : Int) + 1 ∧ (a.length : Int) + 1 < _ ∧ 0 ≤ -(v.getD m 0) ∧ -(v.getD m 0) ≤ _
        omega
      unfold pitAt at he
      rw [List.mem_append] at he
      rcases he with he | he
      · by_cases h1 : v.getD m 0 < 0
        · rw [if_pos h1, if_neg (by omega), List.mem_append, List.mem_singleton] at he
          rcases he with he | rfl
          · exact ih (by omega) e he
          · exact snk h1
        · rw [if_neg h1] at he
          by_cases h2 : v.getD m 0 > 0
          · rw [if_pos h2, List.mem_append, List.mem_singleton] at he
            rcases he with he | rfl
            · exact ih (by omega) e he
            · exact src h2
          · rw [if_neg h2] at he
            exact ih (by omega) e he
      · obtain ⟨x, hx, rfl⟩ := List.mem_map.1 he
        have := ha.down hx
        exact arcE_ok (by omega) (by omega)
  exact all _ (Nat.le_refl _)
theorem pit_at {a : List (List Int)} {v : List Int} (ha : Arcs a) (hv : flowVals v) (hn : v.length = a.length) : ∀ j, j < (pitE a v).length → edgeOk ((a.length + 2 : Nat) : Int) ((pitE a v).getD j z68) := fun j hj => pit_edges ha hv hn _ (getD_mem hj)
theorem down_len {l : List Int} {i : Nat} (h : asc l i = true) : l.length ≤ i := asc_len h
theorem pitE_len {a : List (List Int)} (ha : Arcs a) (v : List Int) : (pitE a v).length ≤ 8000 := by
  have all : ∀ m, m ≤ a.length → 2 * (foldR (pitAt a v) 0 m []).length ≤ m * (m + 1) := by
    intro m
    induction m with
    | zero => intro _; rw [foldR_end (Nat.le_refl _)]; simp
    | succ m ih =>
      intro hm
      rw [foldR_last (Nat.zero_le _)]
      have h1 := ih (by omega)
      have h2 := asc_len (ha.row m (by omega))
      have h3 : (m + 1) * (m + 1 + 1) = m * (m + 1) + 2 * (m + 1) := by rw [show m + 1 + 1 = m + 2 from rfl, Nat.mul_add, Nat.mul_comm (m + 1) m, Nat.mul_comm (m + 1) 2]
      generalize foldR (pitAt a v) 0 m [] = o at *
      have h4 : (if v.getD m 0 < 0 then (if v.getD m 0 > 0 then o ++ [⟨0, (m : Int) + 1, v.getD m 0⟩] else o) ++ [⟨(m : Int) + 1, (a.length : Int) + 1, -(v.getD m 0)⟩] else (if v.getD m 0 > 0 then o ++ [⟨0, (m : Int) + 1, v.getD m 0⟩] else o)).length ≤ o.length + 1 := by
        by_cases c1 : v.getD m 0 < 0
        · rw [if_pos c1, if_neg (by omega), List.length_append]; simp
        · rw [if_neg c1]
          by_cases c2 : v.getD m 0 > 0
          · rw [if_pos c2, List.length_append]; simp
          · rw [if_neg c2]; omega
      unfold pitAt
      rw [List.length_append, List.length_map, h3]
      omega
  have := all a.length (Nat.le_refl _)
  have hl := ha.le
  have h5 : a.length * (a.length + 1) ≤ 120 * 121 := Nat.mul_le_mul hl (by omega)
  unfold pitE
  omega
end Go.Proofs.Ytogjpimhlkinkaa.PitBest
