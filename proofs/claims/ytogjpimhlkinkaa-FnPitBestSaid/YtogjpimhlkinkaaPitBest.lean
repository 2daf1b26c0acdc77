/- The best pit is a closure, none is worth more, and it lies in each that is worth as much; in plain Lean over the edges. -/
import Derived.Test.YtogjpimhlkinkaaPitNet
import Derived.Test.YtogjpimhlkinkaaFlowCut
namespace Go.Proofs.Ytogjpimhlkinkaa.PitBest
open Go.RowKit Go.Proofs.Ytogjpimhlkinkaa.PFnPitBest Go.Proofs.YtogjpimhlkinkaaW.PrintWords Go.Proofs.YtogjpimhlkinkaaW.PrintLast Go.Proofs.YtogjpimhlkinkaaW.PrintMore Go.Proofs.Ytogjpimhlkinkaa.B Go.Proofs.Ytogjpimhlkinkaa.Flow Go.Proofs.Ytogjpimhlkinkaa.OwnRows Go.Proofs.Ytogjpimhlkinkaa.OwnNet Go.Proofs.Ytogjpimhlkinkaa.PitMath
set_option linter.unusedVariables false
set_option linter.unusedSimpArgs false
/-- the value of a cut, edge by edge -/
def term (C : Int → Bool) (e : S68) : Int := if C e.f0 = true ∧ C e.f1 = false then e.f2 else 0
def cutE (C : Int → Bool) : List S68 → Int
 | [] => 0
 | e :: l => term C e + cutE C l
theorem cutE_app (C : Int → Bool) (l m : List S68) : cutE C (l ++ m) = cutE C l + cutE C m := by
 induction l with
 | nil => show cutE C m = 0 + cutE C m; omega
 | cons e l ih => show term C e + cutE C (l ++ m) = term C e + cutE C l + cutE C m; rw [ih]; omega
theorem cutF_edges (l : List S68) (C : Int → Bool) : cutF (tosL l) (leftL l) C l.length = cutE C l := by
 have all : ∀ m, m ≤ l.length → cutF (tosL l) (leftL l) C m = cutE C (l.take m) := by
  intro m
  induction m with
  | zero => intro _; rfl
  | succ m ih =>
   intro hm
   have ht := tos_at l m (by omega) (by omega)
   have hl := left_at l m (by omega) (by omega)
   rw [Int.toNat_natCast] at ht hl
   unfold cutF
   rw [ih (by omega), take_snoc l m (by omega), cutE_app, ht.1, ht.2, hl.1, hl.2, Int.add_zero]
   show _ = _ + (term C _ + 0)
   rw [Int.add_zero]
   rfl
 rw [all _ (Nat.le_refl _), List.take_length]
/-- the nodes of some blocks, with the source -/
def nodeC (m : List Bool) (u : Int) : Bool := decide (u = 0) || (decide (0 < u) && m.getD (u - 1).toNat false)
theorem node0 (m : List Bool) : nodeC m 0 = true := rfl
theorem nodeS (m : List Bool) (i : Nat) : nodeC m ((i : Int) + 1) = m.getD i false := by
 unfold nodeC
 rw [decide_eq_false (by omega), decide_eq_true (by omega), Bool.false_or, Bool.true_and, show ((i : Int) + 1 - 1).toNat = i by omega]
def arcSum (m : List Bool) (i : Nat) : List Int → Int
 | [] => 0
 | x :: l => (if m.getD i false = true ∧ m.getD x.toNat false = false then 1000000000 else 0) + arcSum m i l
theorem arcs_cut (m : List Bool) (i : Nat) (l : List Int) (h : ∀ x ∈ l, 0 ≤ x) : cutE (nodeC m) (l.map (arcE i)) = arcSum m i l := by
 induction l with
 | nil => rfl
 | cons x l ih =>
  rw [List.map_cons]
  unfold cutE arcSum
  rw [ih (fun y hy => h y (List.mem_cons_of_mem _ hy))]
  have hx := h x (List.mem_cons_self ..)
  congr 1
  unfold term arcE
  show (if nodeC m ((i : Int) + 1) = true ∧ nodeC m (x + 1) = false then (1000000000 : Int) else 0) = _
  rw [nodeS, show x + 1 = ((x.toNat : Nat) : Int) + 1 by omega, nodeS]
theorem arcSum_nn (m : List Bool) (i : Nat) (l : List Int) : 0 ≤ arcSum m i l := by
 induction l with
 | nil => exact Int.le_refl 0
 | cons x l ih => unfold arcSum; split <;> omega
theorem arcSum_zero (m : List Bool) (i : Nat) (l : List Int) (h : m.getD i false = true → ∀ x ∈ l, m.getD x.toNat false = true) : arcSum m i l = 0 := by
 induction l with
 | nil => rfl
 | cons x l ih =>
  unfold arcSum
  rw [ih (fun hi y hy => h hi y (List.mem_cons_of_mem _ hy)), if_neg]; · rfl
  rintro ⟨h1, h2⟩
  rw [h h1 x (List.mem_cons_self ..)] at h2
  cases h2
theorem arcSum_big (m : List Bool) (i : Nat) (l : List Int) (hi : m.getD i false = true) {x : Int} (hx : x ∈ l) (h : m.getD x.toNat false = false) : 1000000000 ≤ arcSum m i l := by
 induction l with
 | nil => simp at hx
 | cons y l ih =>
  unfold arcSum
  have := arcSum_nn m i l
  rcases List.mem_cons.1 hx with rfl | hx
  ·rw [if_pos ⟨hi, h⟩]; omega
  ·have := ih hx
   split <;> omega
def selAt (m : List Bool) (v : List Int) (s : Int) (i : Nat) : Int := s + (if m.getD i false = true then v.getD i 0 else 0)
def arcAt (m : List Bool) (a : List (List Int)) (s : Int) (i : Nat) : Int := s + arcSum m i (a.getD i [])
theorem cut_split {a : List (List Int)} (ha : Arcs a) (v : List Int) (m : List Bool) (hm : m.length = a.length) (i : Nat) (hi : i ≤ a.length) :
  cutE (nodeC m) (foldR (pitAt a v) 0 i []) = foldR (posAt v) 0 i 0 - foldR (selAt m v) 0 i 0 + foldR (arcAt m a) 0 i 0 := by
 induction i with
 | zero => rw [foldR_end (Nat.le_refl _), foldR_end (Nat.le_refl _), foldR_end (Nat.le_refl _), foldR_end (Nat.le_refl _)]; rfl
 | succ i ih =>
  have ih := ih (by omega)
  rw [foldR_last (Nat.zero_le _), foldR_last (Nat.zero_le _), foldR_last (Nat.zero_le _), foldR_last (Nat.zero_le _)]
  have hsnk : nodeC m ((a.length : Int) + 1) = false := by rw [nodeS, getD_none (by omega)]
  generalize foldR (pitAt a v) 0 i [] = o at *
  generalize foldR (posAt v) 0 i 0 = p at *
  generalize foldR (selAt m v) 0 i 0 = q at *
  generalize foldR (arcAt m a) 0 i 0 = r at *
  unfold pitAt posAt selAt arcAt
  rw [cutE_app, arcs_cut m i _ (fun x hx => (ha.down hx).1)]
  have hs : ∀ c : Int, cutE (nodeC m) [⟨0, (i : Int) + 1, c⟩] = if m.getD i false = true then 0 else c := by
   intro c
   show term (nodeC m) _ + 0 = _
   unfold term
   show (if nodeC m 0 = true ∧ nodeC m ((i : Int) + 1) = false then c else 0) + 0 = _
   rw [node0, nodeS]
   cases m.getD i false <;> simp
  have ht : ∀ c : Int, cutE (nodeC m) [⟨(i : Int) + 1, (a.length : Int) + 1, c⟩] = if m.getD i false = true then c else 0 := by
   intro c
   show term (nodeC m) _ + 0 = _
   unfold term
   show (if nodeC m ((i : Int) + 1) = true ∧ nodeC m ((a.length : Int) + 1) = false then c else 0) + 0 = _
   rw [hsnk, nodeS]
   cases m.getD i false <;> simp
  generalize v.getD i 0 = vi at *
  generalize m.getD i false = mi at *
  by_cases h1 : vi < 0
  ·rw [if_pos h1, if_neg (by omega), cutE_app, ht, ih]
   cases mi <;> simp <;> omega
  ·rw [if_neg h1]
   by_cases h2 : vi > 0
   ·rw [if_pos h2, cutE_app, hs, ih]
    cases mi <;> simp <;> omega
   ·rw [if_neg h2, ih]
    cases mi <;> simp <;> omega
def selSum (m : List Bool) (v : List Int) (n : Nat) : Int := foldR (selAt m v) 0 n 0
theorem arcs_nn (m : List Bool) (a : List (List Int)) (n : Nat) : 0 ≤ foldR (arcAt m a) 0 n 0 := by
 induction n with
 | zero => rw [foldR_end (Nat.le_refl _)]; exact Int.le_refl 0
 | succ n ih => rw [foldR_last (Nat.zero_le _)]; have := arcSum_nn m n (a.getD n []); unfold arcAt at *; omega
def Closed (m : List Bool) (a : List (List Int)) : Prop := ∀ i, i < a.length → m.getD i false = true → ∀ x ∈ a.getD i [], m.getD x.toNat false = true
theorem arcs_zero {m : List Bool} {a : List (List Int)} (h : Closed m a) (n : Nat) (hn : n ≤ a.length) : foldR (arcAt m a) 0 n 0 = 0 := by
 induction n with
 | zero => rw [foldR_end (Nat.le_refl _)]
 | succ n ih => rw [foldR_last (Nat.zero_le _)]; have h1 := arcSum_zero m n (a.getD n []) (h n (by omega)); have := ih (by omega); unfold arcAt at *; omega
theorem arcs_big {m : List Bool} {a : List (List Int)} {i : Nat} {x : Int} (hi : m.getD i false = true) (hx : x ∈ a.getD i []) (h : m.getD x.toNat false = false) (n : Nat) (hn : i < n) : 1000000000 ≤ foldR (arcAt m a) 0 n 0 := by
 induction n with
 | zero => omega
 | succ n ih =>
  rw [foldR_last (Nat.zero_le _)]
  by_cases e : i < n
  ·have := ih e; have := arcSum_nn m n (a.getD n []); unfold arcAt at *; omega
  ·obtain rfl : i = n := by omega
   have := arcSum_big m i _ hi hx h; have := arcs_nn m a i; unfold arcAt at *; omega
theorem sel_none (v : List Int) (N n : Nat) : selSum (List.replicate N false) v n = 0 := by
 unfold selSum
 induction n with
 | zero => rw [foldR_end (Nat.le_refl _)]
 | succ n ih =>
  rw [foldR_last (Nat.zero_le _)]
  unfold selAt at *
  rw [ih, if_neg]; · rfl
  rw [List.getD_eq_getElem?_getD, List.getElem?_replicate]
  split <;> simp
theorem cut_closed {a : List (List Int)} (ha : Arcs a) {v : List Int} (hn : v.length = a.length) {m : List Bool} (hm : m.length = a.length) (h : Closed m a) : cutE (nodeC m) (pitE a v) = posSum v - selSum m v a.length := by
 have h1 := cut_split ha v m hm a.length (Nat.le_refl _)
 have h2 := arcs_zero h a.length (Nat.le_refl _)
 unfold pitE posSum selSum
 rw [h1, h2, hn]
 omega
/-- what the source reaches lies in each set of nodes that no edge with something left leads out of -/
theorem reach_in {n m : Nat} {tos : List Int} {adj : List (List Int)} {left d : List Int} {T : Int → Bool} (N : Net n m tos adj) (L : Lev n m tos adj 0 left d [] (-1) 0) (h0 : T 0 = true) (hc : ∀ e : Int, 0 ≤ e → e < 2 * (m : Int) → 0 < rd left e → T (rd tos (par e)) = true → T (rd tos e) = true) : ∀ v : Int, 0 ≤ v → v < n → 0 ≤ rd d v → T v = true := by
 have all : ∀ t : Nat, ∀ v : Int, 0 ≤ v → v < n → rd d v = t → T v = true := by
  intro t
  induction t with
  | zero => intro v v0 v1 hv; rw [L.zero v v0 v1 hv]; exact h0
  | succ t ih =>
   intro v v0 v1 hv
   obtain ⟨u, e, a1, a2, a3, a4, a5⟩ := L.pred v v0 v1 (by omega)
   have hE := N.row u a1.1 a1.2 e a2
   rw [← a4]
   exact hc e hE.1.1 hE.1.2 a3 (by rw [hE.2]; exact ih u a1.1 a1.2 (by omega))
 intro v v0 v1 hv
 exact all (rd d v).toNat v v0 v1 (by omega)
theorem nodeC_reach {N : Nat} {d : List Int} (hd : d.length = N + 2) (h0 : rd d 0 = 0) (hs : rd d ((N : Int) + 1) < 0) {m : List Bool} (hm : ∀ i, i < N → m.getD i false = decide (0 ≤ d.getD (i + 1) 0)) (hl : m.length = N) (u : Int) (u0 : 0 ≤ u) (u1 : u < ((N + 2 : Nat) : Int)) : nodeC m u = R d u := by
 unfold R
 by_cases e0 : u = 0
 ·subst e0; rw [node0, h0]; rfl
 ·obtain ⟨i, rfl⟩ : ∃ i : Nat, u = (i : Int) + 1 := ⟨(u - 1).toNat, by omega⟩
  rw [nodeS]
  by_cases e1 : i < N
  ·rw [hm i e1, rd_def, show ((i : Int) + 1).toNat = i + 1 by omega]
  ·obtain rfl : i = N := by omega
   rw [getD_none (by omega), decide_eq_false (by omega)]
theorem cutF_congr {tos l0 : List Int} {C C' : Int → Bool} {m : Nat} (h : ∀ e : Int, 0 ≤ e → e < 2 * (m : Int) → C (rd tos e) = C' (rd tos e)) : cutF tos l0 C m = cutF tos l0 C' m := by
 induction m with
 | zero => rfl
 | succ m ih => unfold cutF; rw [ih (fun e h0 h1 => h e h0 (by omega)), h _ (by omega) (by omega), h (2 * (m : Int)) (by omega) (by omega)]
theorem posSum_bd {v : List Int} (hv : valsOk v = true) : 0 ≤ posSum v ∧ posSum v ≤ 120000000 := by
 have h := posAt_bd hv v.length (Nat.le_refl _)
 have := (valsOk_iff.1 hv).2.1
 unfold posSum
 omega
/-- What the marks that a run leaves are: a closure, worth as much as is left of all positive values by the flow, none is worth more, and it lies in each that is worth as much. -/
structure Best (a : List (List Int)) (v : List Int) (m : List Bool) : Prop where
 len : m.length = a.length
 clo : Closed m a
 most : ∀ m' : List Bool, m'.length = a.length → Closed m' a → selSum m' v a.length ≤ selSum m v a.length
 sub : ∀ m' : List Bool, m'.length = a.length → Closed m' a → selSum m' v a.length = selSum m v a.length → ∀ i, i < a.length → m.getD i false = true → m'.getD i false = true
theorem best_of {a : List (List Int)} {v : List Int} (h : valuedB a v = true) {val : Int} {left d : List Int} {m : List Bool} (hF : Flows (a.length + 2) (pitE a v).length (tosL (pitE a v)) (leftL (pitE a v)) (((a.length + 2 : Nat) : Int) - 1) val left)
  (L : Lev (a.length + 2) (pitE a v).length (tosL (pitE a v)) (adjL (pitE a v) (a.length + 2) (pitE a v).length) 0 left d [] (-1) 0) (hd : rd d (((a.length + 2 : Nat) : Int) - 1) < 0) (hl : m.length = a.length) (hm : ∀ i, i < a.length → m.getD i false = decide (0 ≤ d.getD (i + 1) 0)) : Best a v m := by
 obtain ⟨hA, hV, hN⟩ := valued_arcs h
 have hE := pit_at hA (valued_flow h) hN
 have N := net_of (a.length + 2) (pitE a v) (by omega) hE
 have hd' : rd d ((a.length : Int) + 1) < 0 := by rw [show ((a.length : Int) + 1) = ((a.length + 2 : Nat) : Int) - 1 by omega]; exact hd
 have snkF : ∀ m' : List Bool, m'.length = a.length → nodeC m' (((a.length + 2 : Nat) : Int) - 1) = false := by
  intro m' h'; rw [show ((a.length + 2 : Nat) : Int) - 1 = (a.length : Int) + 1 by omega, nodeS, getD_none (by omega)]
 have hval : cutE (nodeC m) (pitE a v) = val := by
  rw [← cutF_edges, ← R_tight N hF L hd]
  exact cutF_congr fun e h0 h1 => nodeC_reach L.len L.src hd' hm hl _ (N.rng e h0 h1).1 (N.rng e h0 h1).2
 have weakE : ∀ m' : List Bool, m'.length = a.length → val ≤ cutE (nodeC m') (pitE a v) := by
  intro m' h'
  rw [← cutF_edges]
  exact weak (by omega) N.rng hF (node0 m') (snkF m' h')
 have hpb := posSum_bd hV
 have h0 := weakE (List.replicate a.length false) List.length_replicate
 have c0 : Closed (List.replicate a.length false) a := by
  intro i hi hx
  rw [getD_replicate hi] at hx; cases hx
 rw [cut_closed hA hN List.length_replicate c0, sel_none, Int.sub_zero] at h0
 have hsel : ∀ m' : List Bool, foldR (selAt m' v) 0 a.length 0 ≤ foldR (posAt v) 0 a.length 0 := by
  intro m'
  have all : ∀ n : Nat, foldR (selAt m' v) 0 n 0 ≤ foldR (posAt v) 0 n 0 := by
   intro n
   induction n with
   | zero => rw [foldR_end (Nat.le_refl _), foldR_end (Nat.le_refl _)]; exact Int.le_refl 0
   | succ n ih =>
    rw [foldR_last (Nat.zero_le _), foldR_last (Nat.zero_le _)]
    unfold selAt posAt at *
    split <;> omega
  exact all _
 have clo : Closed m a := by
  intro i hi hmi x hx
  by_cases c : m.getD x.toNat false = true
  ·exact c
  ·exfalso
   have big := arcs_big hmi hx (by simpa using c) a.length hi
   have sp := cut_split hA v m hl a.length (Nat.le_refl _)
   have hs := hsel m
   unfold pitE at hval
   rw [hval] at sp
   omega
 have hc := cut_closed hA hN hl clo
 refine ⟨hl, clo, ?_, ?_⟩
 ·intro m' h' c'
  have := weakE m' h'
  rw [cut_closed hA hN h' c'] at this
  omega
 ·intro m' h' c' he i hi hmi
  have hc' := cut_closed hA hN h' c'
  have ht := (Go.Proofs.Ytogjpimhlkinkaa.Flow.tight (C := nodeC m') (by omega) N.rng hF (node0 m') (snkF m' h')).1 (by rw [cutF_edges]; omega)
  have hin := reach_in (T := nodeC m') N L (node0 m') (by
   intro e e0 e1 hp hT
   cases hcase : nodeC m' (rd (tosL (pitE a v)) e) with
   | true => rfl
   | false => have := ht e e0 e1 hT hcase; omega)
  have hr := hin ((i : Int) + 1) (by omega) (by omega) (by
   rw [hm i hi] at hmi
   rw [rd_def, show ((i : Int) + 1).toNat = i + 1 by omega]
   exact of_decide_eq_true hmi)
  rwa [nodeS] at hr
end Go.Proofs.Ytogjpimhlkinkaa.PitBest
