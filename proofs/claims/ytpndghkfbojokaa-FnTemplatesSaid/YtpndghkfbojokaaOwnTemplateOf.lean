/- The contracts of impl.TemplateOf and spec.TemplateOf, by hand: both list the offsets of a standard template. -/
-- OWN impl tmplR %s = %s
import Derived.Test.YtpndghkfbojokaaBase
import Derived.Test.YtpndghkfbojokaaMarks
import Derived.Test.YtpndghkfbojokaaFold
import Derived.Test.YtpndghkfbojokaaMFnTemplatesx0
import Derived.Test.YtpndghkfbojokaaWTab
namespace Go.Proofs.Ytpndghkfbojokaa.OwnTemplateOf
open Go.RowKit Go.Proofs.Ytpndghkfbojokaa.PFnTemplates Go.Proofs.YtpndghkfbojokaaW.PrintWords Go.Proofs.YtpndghkfbojokaaW.PrintLast Go.Proofs.YtpndghkfbojokaaW.PrintMore Go.Proofs.Ytpndghkfbojokaa.B
set_option linter.unusedVariables false
set_option linter.unusedSimpArgs false
attribute [local go_sem] max2_int min2_int
theorem infO : (Try.prog.info? 86).map (fun i => (i.zero, i.size, i.bytes)) = some (some (.agg #[(.int .i64 0), (.int .i64 0), (.int .i64 0)]), 3, 24) := by kernel_rfl
theorem drawn_below' {w w' : World} (h : Drawn0 w w') : Below w.heap.size w w' := by
  obtain ⟨n, rfl⟩ := h
  exact pw_below_drewN (Below.refl _ _) n
/-- whether standard template k has an offset, by what it is away -/
def tA (k x y u : Int) : Bool := (u == 1 && ((k == 1 && x + y == 0) || (((k == 2 || k == 4) && decide (x + y ≤ 1)) || (k == 3 && decide (max x y ≤ 1))))) || (u == 2 && (k == 4 && (max x y == 2 && x + y == 2)))
def tB (k s n u : Int) : Bool := (u == 1 && ((k == 1 && s == 0) || (((k == 2 || k == 4) && decide (s ≤ 1)) || (k == 3 && decide (n ≤ 1))))) || (u == 2 && (k == 4 && (n == 2 && s == 2)))
theorem tA_eq (k x y u : Int) : tA k x y u = tB k (x + y) (max x y) u := rfl
def absI (x : Int) : Int := if x < 0 then -x else x
def tP (k dx dy u : Int) : Bool := tA k (absI dx) (absI dy) u
def row1 (k u dy : Int) (o : List S86) (j : Nat) : List S86 := if tP k ((j : Int) - 2) dy u = true then o ++ [⟨(j : Int) - 2, dy, u⟩] else o
def row2 (k u : Int) (o : List S86) (j : Nat) : List S86 := foldR (row1 k u ((j : Int) - 2)) 0 5 o
def lev (k : Int) (o : List S86) (j : Nat) : List S86 := foldR (row2 k ((j : Int) + 1)) 0 5 o
def tmpl (k : Int) : List S86 := foldR (lev k) 0 2 []
def tmplR (k : Int) : List S86 × Bool := if 1 ≤ k ∧ k ≤ 4 then (tmpl k, true) else ([], false)
theorem row1_len (k u dy : Int) (i : Nat) (o : List S86) : (foldR (row1 k u dy) 0 i o).length ≤ o.length + i := by
  induction i with
  | zero => rw [foldR_end (Nat.le_refl _)]; exact Nat.le_refl _
  | succ i ih =>
    rw [foldR_last (Nat.zero_le _)]
    generalize foldR (row1 k u dy) 0 i o = q at *
    unfold row1
    split
    · rw [List.length_append]; simp; omega
    · omega
theorem row2_len (k u : Int) (i : Nat) (o : List S86) : (foldR (row2 k u) 0 i o).length ≤ o.length + 5 * i := by
  induction i with
  | zero => rw [foldR_end (Nat.le_refl _)]; exact Nat.le_refl _
  | succ i ih =>
    rw [foldR_last (Nat.zero_le _)]
    have := row1_len k u ((i : Int) - 2) 5 (foldR (row2 k u) 0 i o)
    unfold row2 at *
    omega
theorem lev_len (k : Int) (i : Nat) : (foldR (lev k) 0 i []).length ≤ 25 * i := by
  induction i with
  | zero => rw [foldR_end (Nat.le_refl _)]; exact Nat.le_refl _
  | succ i ih =>
    rw [foldR_last (Nat.zero_le _)]
    have := row2_len k ((i : Int) + 1) 5 (foldR (lev k) 0 i [])
    unfold lev at *
    omega
theorem tmpl_len (k : Int) : (tmpl k).length ≤ 50 := lev_len k 2
/-! the reference's side -/
theorem five {x : Int} (h : -2 ≤ x ∧ x ≤ 2) : x = -2 ∨ x = -1 ∨ x = 0 ∨ x = 1 ∨ x = 2 := by omega
theorem slHas_all : (([1, 2, 3, 4] : List Int).all fun k => ([-2, -1, 0, 1, 2] : List Int).all fun dx => ([-2, -1, 0, 1, 2] : List Int).all fun dy => ([1, 2] : List Int).all fun u => decide (spec_slHas.f k dx dy u = some (tP k dx dy u))) = true := by kernel_rfl
theorem slHas_eq {k dx dy u : Int} (hk : 1 ≤ k ∧ k ≤ 4) (hx : -2 ≤ dx ∧ dx ≤ 2) (hy : -2 ≤ dy ∧ dy ≤ 2) (hu : u = 1 ∨ u = 2) : spec_slHas.f k dx dy u = some (tP k dx dy u) := by
  have hk' : k = 1 ∨ k = 2 ∨ k = 3 ∨ k = 4 := by omega
  have h := slHas_all
  simp only [List.all_eq_true] at h
  refine of_decide_eq_true (h k ?_ dx ?_ dy ?_ u ?_)
  · rcases hk' with rfl | rfl | rfl | rfl <;> simp
  · rcases five hx with rfl | rfl | rfl | rfl | rfl <;> simp
  · rcases five hy with rfl | rfl | rfl | rfl | rfl <;> simp
  · rcases hu with rfl | rfl <;> simp
theorem slStandard_l2 (k : Int) (hk : 1 ≤ k ∧ k ≤ 4) (u dy : Int) (hu : u = 1 ∨ u = 2) (hy : -2 ≤ dy ∧ dy ≤ 2) (o : List S86) (ho : o.length ≤ 1000) (q : List S86)
    (hq : Ev (fun n => spec_slStandard.l1 n k (foldR (row1 k u dy) 0 5 o) u (wrap64 (dy + 1))) q) : ∀ (d i : Nat), i + d = 5 → Ev (fun n => spec_slStandard.l2 n k (foldR (row1 k u dy) 0 i o) u dy ((i : Int) - 2)) q := by
  intro d
  induction d with
  | zero =>
    intro i hi
    obtain rfl : i = 5 := by omega
    exact Ev.step (fun n => spec_slStandard.l2.eq_2 k (foldR (row1 k u dy) 0 5 o) u dy _ n) (ev_neg (by omega) hq)
  | succ d ih =>
    intro i hi
    have ih := ih (i + 1) (by omega)
    rw [foldR_last (Nat.zero_le _)] at ih
    have hl := row1_len k u dy i o
    refine Ev.step (fun n => spec_slStandard.l2.eq_2 k (foldR (row1 k u dy) 0 i o) u dy _ n) (ev_pos (by omega) ?_)
    refine ev_bindc (slHas_eq hk (by omega) hy hu) ?_
    have hw : wrap64 ((i : Int) - 2 + 1) = ((i + 1 : Nat) : Int) - 2 := by rw [w64 (by omega) (by omega)]; omega
    rw [hw]
    refine ev_ite (fun h => ev_pos (by omega) ?_) (fun h => ?_)
    · rwa [show row1 k u dy (foldR (row1 k u dy) 0 i o) i = foldR (row1 k u dy) 0 i o ++ [⟨(i : Int) - 2, dy, u⟩] from if_pos h] at ih
    · rwa [show row1 k u dy (foldR (row1 k u dy) 0 i o) i = foldR (row1 k u dy) 0 i o from if_neg h] at ih
theorem slStandard_l1 (k : Int) (hk : 1 ≤ k ∧ k ≤ 4) (u : Int) (hu : u = 1 ∨ u = 2) (o : List S86) (ho : o.length ≤ 500) (q : List S86)
    (hq : Ev (fun n => spec_slStandard.l0 n k (foldR (row2 k u) 0 5 o) (wrap64 (u + 1))) q) : ∀ (d i : Nat), i + d = 5 → Ev (fun n => spec_slStandard.l1 n k (foldR (row2 k u) 0 i o) u ((i : Int) - 2)) q := by
  intro d
  induction d with
  | zero =>
    intro i hi
    obtain rfl : i = 5 := by omega
    exact Ev.step (fun n => spec_slStandard.l1.eq_2 k (foldR (row2 k u) 0 5 o) u _ n) (ev_neg (by omega) hq)
  | succ d ih =>
    intro i hi
    have ih := ih (i + 1) (by omega)
    rw [foldR_last (Nat.zero_le _)] at ih
    have hl := row2_len k u i o
    refine Ev.step (fun n => spec_slStandard.l1.eq_2 k (foldR (row2 k u) 0 i o) u _ n) (ev_pos (by omega) ?_)
    have h2 := slStandard_l2 k hk u ((i : Int) - 2) hu (by omega) (foldR (row2 k u) 0 i o) (by omega) q (by
      rw [show wrap64 ((i : Int) - 2 + 1) = ((i + 1 : Nat) : Int) - 2 by rw [w64 (by omega) (by omega)]; omega]
      exact ih) 5 0 (by omega)
    rw [foldR_end (Nat.le_refl _)] at h2
    exact h2
theorem slStandard_ev (k : Int) (hk : 1 ≤ k ∧ k ≤ 4) : Ev (fun n => spec_slStandard.f n k) (tmpl k) := by
  unfold spec_slStandard.f
  have e3 : Ev (fun n => spec_slStandard.l0 n k (foldR (lev k) 0 2 []) 3) (tmpl k) := Ev.step (fun n => spec_slStandard.l0.eq_2 k _ 3 n) (ev_neg (by omega) (ev_some rfl))
  have e2 : Ev (fun n => spec_slStandard.l0 n k (foldR (lev k) 0 1 []) 2) (tmpl k) := by
    refine Ev.step (fun n => spec_slStandard.l0.eq_2 k _ 2 n) (ev_pos (by omega) ?_)
    have h := slStandard_l1 k hk 2 (Or.inr rfl) (foldR (lev k) 0 1 []) (by have := lev_len k 1; omega) (tmpl k) (by
      rw [foldR_last (Nat.zero_le 1)] at e3
      rw [show (foldR (row2 k 2) 0 5 (foldR (lev k) 0 1 [])) = lev k (foldR (lev k) 0 1 []) 1 from rfl, show wrap64 ((2 : Int) + 1) = 3 by rw [w64 (by omega) (by omega)]; rfl]
      exact e3) 5 0 (by omega)
    rw [foldR_end (Nat.le_refl _)] at h
    exact h
  refine Ev.step (fun n => spec_slStandard.l0.eq_2 k _ 1 n) (ev_pos (by omega) ?_)
  have h := slStandard_l1 k hk 1 (Or.inl rfl) [] (by simp) (tmpl k) (by
    rw [foldR_last (Nat.zero_le 0), foldR_end (Nat.le_refl _)] at e2
    rw [show (foldR (row2 k 1) 0 5 []) = lev k [] 0 from rfl, show wrap64 ((1 : Int) + 1) = 2 by rw [w64 (by omega) (by omega)]; rfl]
    exact e2) 5 0 (by omega)
  rw [foldR_end (Nat.le_refl _)] at h
  exact h
/-! the program's side -/
section
attribute [local go_sem] max_two min_two
theorem abs_calls (x r : Int) (hx : -2 ≤ x ∧ x ≤ 2) (h : absI x = r) (w : World) : Calls Try.prog 76 #[.int .i64 x] w fun e w' => e = .returned (.int .i64 r) ∧ w = w' := by
  have hw : wrap64 (-x) = -x := w64 (by omega) (by omega)
  have HR := Aside0.mk h
  clear h hx
  go_enter Try.func76, Try.ntmps76
  go_wp2_with fail
  all_goals
    go_ret
    refine ⟨congrArg (fun z => Ending.returned (.int .i64 z)) ?_, rfl⟩
    have h := HR.out
    unfold absI at h
    split at h <;> omega
end
theorem three {x : Int} (h : -2 ≤ x ∧ x ≤ 2) : absI x = 0 ∨ absI x = 1 ∨ absI x = 2 := by unfold absI; split <;> omega
set_option maxHeartbeats 32000000 in
set_option maxRecDepth 100000 in
theorem own_impl (k : Int) (g0 : List S86) (g1 : Bool) (w : World) (h : tmplR k = (g0, g1)) :
    Calls Try.prog 47 #[.int .i64 k] w fun e w' => ∃ v : Value, e = .returned (.tuple #[v, .bool g1]) ∧ Kd.R k86 86 w' w.heap.size (fun _ => True) v g0 ∧ Below w.heap.size w w' := by
  unfold tmplR at h
  by_cases hk : 1 ≤ k ∧ k ≤ 4
  · rw [if_pos hk] at h
    injection h with h0 h1
    subst h0 h1
    have c0 : decide (k < 1) = false := decide_eq_false (by omega)
    have c1 : decide (4 < k) = false := decide_eq_false (by omega)
    have HK := Aside0.mk (show k = 1 ∨ k = 2 ∨ k = 3 ∨ k = 4 by omega)
    have HB := Aside0.mk (Below.refl w.heap.size w)
    have hu68 := Try.underlying86
    clear hk
    go_enter Try.func47, Try.ntmps47
    go_wp2_with (first | ((with_reducible refine gate_dst (N := 18) rfl ?_); refine Kd.R_lit k86 _ 86 ?hg (N := 18) ?hd (xs := ([] : List S86)) (inner := []) (ok := fun _ => True) (okp := fun _ => True) ?hr ?hp (fun _ hk => hk) trivial (Below.refl _ _) (Nat.le_refl _) (by simp) ?_; (case hd => rfl); (case hg => rfl); (case hr => first | (go_simp; done) | (go_simp; rfl)); (case hp => exact (Reps.none _ _)); intro v0 w1 ho hb hg_ hnew_; clear hg_ hnew_; have n0_ := Aside0.mk ho; have n1_ := Aside0.mk (below_step HB.out hb); clear HB; have HO := n0_; have HB := n1_; clear n0_ n1_ ho hb))
    clear c0 c1
    go_loopg [4, 5] (2) (fun q v4 v5 wr => ∃ (u : Int), v5 = .int .i64 u ∧ Aside0 (1 ≤ u ∧ u + q = 3) ∧ Aside0 (Kd.R k86 86 wr w.heap.size (fun _ => True) v4 (foldR (lev k) 0 (u - 1).toNat [])) ∧ Aside0 (Below w.heap.size w wr))
    case atStart => exact ⟨1, rfl, ⟨by omega⟩, ⟨by rw [show ((1 : Int) - 1).toNat = 0 from rfl, foldR_end (Nat.le_refl _)]; exact HO.out⟩, HB⟩
    case round =>
      clear HO HB
      obtain ⟨u, rfl, HU, HO, HB⟩ := hrel
      have hu := HU.out
      cases gk with
      | zero =>
        have t1 : decide (u ≤ 2) = false := decide_eq_false (by omega)
        have hu2 : (u - 1).toNat = 2 := by omega
        rw [hu2] at HO
        clear hu hu2
        go_wp2_with fail
        go_ret2
        exact ⟨_, rfl, HO.out, HB.out⟩
      | succ qu =>
        have t1 : decide (u ≤ 2) = true := decide_eq_true (by omega)
        have HLL := Aside0.mk (lev_len k (u - 1).toNat)
        obtain ⟨ou, eou⟩ : ∃ z, z = foldR (lev k) 0 (u - 1).toNat [] := ⟨_, rfl⟩
        rw [← eou] at HO HLL
        have EOU := Aside0.mk eou
        clear hu eou
        go_wp2_with fail
        clear t1
        go_loopg [4, 6] (5) (fun q v4 v6 wr => ∃ (y : Int), v6 = .int .i64 y ∧ Aside0 (-2 ≤ y ∧ y + q = 3) ∧ Aside0 (Kd.R k86 86 wr w.heap.size (fun _ => True) v4 (foldR (row2 k u) 0 (y + 2).toNat ou)) ∧ Aside0 (Below w.heap.size w wr))
        case atStart => exact ⟨-2, rfl, ⟨by omega⟩, ⟨by rw [show ((-2 : Int) + 2).toNat = 0 from rfl, foldR_end (Nat.le_refl _)]; exact HO.out⟩, HB⟩
        case round =>
          clear HO HB
          obtain ⟨y, rfl, HY, HO, HB⟩ := hrel
          have hy := HY.out
          cases gk with
          | zero =>
            have t1 : decide (y ≤ 2) = false := decide_eq_false (by omega)
            have hy2 : (y + 2).toNat = 5 := by omega
            have hu := HU.out
            have hw : wrap64 (u + 1) = u + 1 := w64 (by omega) (by omega)
            rw [hy2] at HO
            clear hy hy2 hu
            go_wp2_with fail
            go_roundg qu
            case measure => omega
            case rel =>
              have hu := HU.out
              refine ⟨u + 1, by rw [w64 (by omega) (by omega)], ⟨by omega⟩, ⟨?_⟩, HB⟩
              rw [show (u + 1 - 1).toNat = (u - 1).toNat + 1 by omega, foldR_last (Nat.zero_le _), ← EOU.out]
              unfold lev
              rw [show (((u - 1).toNat : Nat) : Int) + 1 = u by omega]
              exact HO.out
          | succ qy =>
            have t1 : decide (y ≤ 2) = true := decide_eq_true (by omega)
            have HLY := Aside0.mk (row2_len k u (y + 2).toNat ou)
            obtain ⟨oy, eoy⟩ : ∃ z, z = foldR (row2 k u) 0 (y + 2).toNat ou := ⟨_, rfl⟩
            rw [← eoy] at HO HLY
            have EOY := Aside0.mk eoy
            clear hy eoy
            go_wp2_with fail
            clear t1
            go_loopg [4, 7] (5) (fun q v4 v7 wr => ∃ (x : Int), v7 = .int .i64 x ∧ Aside0 (-2 ≤ x ∧ x + q = 3) ∧ Aside0 (Kd.R k86 86 wr w.heap.size (fun _ => True) v4 (foldR (row1 k u y) 0 (x + 2).toNat oy)) ∧ Aside0 (Below w.heap.size w wr))
            case atStart => exact ⟨-2, rfl, ⟨by omega⟩, ⟨by rw [show ((-2 : Int) + 2).toNat = 0 from rfl, foldR_end (Nat.le_refl _)]; exact HO.out⟩, HB⟩
            case round =>
              clear HO HB
              obtain ⟨x, rfl, HX, HO, HB⟩ := hrel
              have hx := HX.out
              cases gk with
              | zero =>
                have t1 : decide (x ≤ 2) = false := decide_eq_false (by omega)
                have hx2 : (x + 2).toNat = 5 := by omega
                have hy := HY.out
                have hw : wrap64 (y + 1) = y + 1 := w64 (by omega) (by omega)
                rw [hx2] at HO
                clear hx hx2 hy
                go_wp2_with fail
                go_roundg qy
                case measure => omega
                case rel =>
                  have hy := HY.out
                  refine ⟨y + 1, by rw [w64 (by omega) (by omega)], ⟨by omega⟩, ⟨?_⟩, HB⟩
                  rw [show (y + 1 + 2).toNat = (y + 2).toNat + 1 by omega, foldR_last (Nat.zero_le _), ← EOY.out]
                  unfold row2
                  rw [show (((y + 2).toNat : Nat) : Int) - 2 = y by omega]
                  exact HO.out
              | succ qx =>
                have t1 : decide (x ≤ 2) = true := decide_eq_true (by omega)
                have hw : wrap64 (x + 1) = x + 1 := w64 (by omega) (by omega)
                have HXB := Aside0.mk (show -2 ≤ x ∧ x ≤ 2 by omega)
                have HYB := Aside0.mk (show -2 ≤ y ∧ y ≤ 2 by have := HY.out; omega)
                have HUB := Aside0.mk (show u = 1 ∨ u = 2 by have := HU.out; omega)
                have HLX := Aside0.mk (row1_len k u y (x + 2).toNat oy)
                obtain ⟨ax, eax⟩ : ∃ z, absI x = z := ⟨_, rfl⟩
                obtain ⟨ay, eay⟩ : ∃ z, absI y = z := ⟨_, rfl⟩
                have HAX := Aside0.mk (And.intro eax (eax ▸ three HXB.out : ax = 0 ∨ ax = 1 ∨ ax = 2))
                have HAY := Aside0.mk (And.intro eay (eay ▸ three HYB.out : ay = 0 ∨ ay = 1 ∨ ay = 2))
                obtain ⟨A6, c6, e6⟩ := Kd.R_slice HO.out
                obtain ⟨ol, eol⟩ : ∃ z, z = foldR (row1 k u y) 0 (x + 2).toNat oy := ⟨_, rfl⟩
                rw [← eol] at HO HLX e6
                have EOL := Aside0.mk eol
                obtain ⟨m6, em6⟩ : ∃ z, z = ol.length := ⟨_, rfl⟩
                rw [← em6] at e6
                subst e6
                obtain ⟨st, est⟩ : ∃ z, z = ax + ay := ⟨_, rfl⟩
                by_cases hlt : ax < ay
                · have hmx : max ax ay = ay := by omega
                  have hst : wrap64 (ax + ay) = st := by have := HAX.out.2; have := HAY.out.2; rw [est, w64 (by omega) (by omega)]
                  have hcs : (k = 1 ∧ (st == 0) = true) ∨ (k = 1 ∧ (st == 0) = false) ∨ (k = 2 ∧ decide (st ≤ 1) = true) ∨ (k = 2 ∧ decide (st ≤ 1) = false) ∨ (k = 3 ∧ decide (ay ≤ 1) = true) ∨ (k = 3 ∧ decide (ay ≤ 1) = false) ∨ (k = 4 ∧ st = 1 ∧ ay = 1) ∨ (k = 4 ∧ st = 2 ∧ ay = 2) ∨ (k = 4 ∧ st = 3 ∧ ay = 2) := by
                    have h1 := HAX.out.2
                    have h2 := HAY.out.2
                    have h4 : (k = 4 → (k = 4 ∧ st = 1 ∧ ay = 1) ∨ (k = 4 ∧ st = 2 ∧ ay = 2) ∨ (k = 4 ∧ st = 3 ∧ ay = 2)) := by omega
                    rcases HK.out with e | e | e | e
                    · cases hz : (st == 0) with
                      | true => exact Or.inl ⟨e, rfl⟩
                      | false => exact Or.inr (Or.inl ⟨e, rfl⟩)
                    · cases hz : decide (st ≤ 1) with
                      | true => exact Or.inr (Or.inr (Or.inl ⟨e, rfl⟩))
                      | false => exact Or.inr (Or.inr (Or.inr (Or.inl ⟨e, rfl⟩)))
                    · cases hz : decide (ay ≤ 1) with
                      | true => exact Or.inr (Or.inr (Or.inr (Or.inr (Or.inl ⟨e, rfl⟩))))
                      | false => exact Or.inr (Or.inr (Or.inr (Or.inr (Or.inr (Or.inl ⟨e, rfl⟩)))))
                    · have h5 := h4 e
                      simp only [e, true_and]
                      exact Or.inr (Or.inr (Or.inr (Or.inr (Or.inr (Or.inr (by simpa [e] using h5))))))
                  have hnext : (foldR (row1 k u y) 0 (x + 1 + 2).toNat oy) = if tB k st ay u = true then ol ++ [⟨x, y, u⟩] else ol := by
                    rw [show (x + 1 + 2).toNat = (x + 2).toNat + 1 by omega, foldR_last (Nat.zero_le _), ← eol]
                    unfold row1 tP
                    rw [show (((x + 2).toNat : Nat) : Int) - 2 = x by omega, eax, eay, tA_eq, ← est, hmx]
                  have HNEXT := Aside0.mk hnext
                  have HCS := Aside0.mk hcs
                  have HLIM : Aside0 (ol.length + 1 ≤ 100) := ⟨by have h1 := HLX.out; have h2 := HLY.out; have h3 := HLL.out; have := HX.out; have := HY.out; have := HU.out; omega⟩
                  have hl2 : (ax < ay) = True := eq_true hlt
                  clear hx eax eay eol em6 hnext EOL EOY EOU est hcs hlt hmx
                  go_upto_region 15 with (first
                    | (go_at_call 76; ((with_reducible refine (abs_calls x _ HXB.out HAX.out.1 _).mono ?_); rintro e w4 ⟨rfl, rfl⟩))
                    | (go_at_call 76; ((with_reducible refine (abs_calls y _ HYB.out HAY.out.1 _).mono ?_); rintro e w4 ⟨rfl, rfl⟩)))
                  clear hst hl2 HAX HAY HXB HYB
                  have HU2 := HUB.out
                  have HC2 := HCS.out
                  clear HK HUB HCS
                  rcases HU2 with rfl | rfl <;> rcases HC2 with ⟨rfl, hb⟩ | ⟨rfl, hb⟩ | ⟨rfl, hb⟩ | ⟨rfl, hb⟩ | ⟨rfl, hb⟩ | ⟨rfl, hb⟩ | ⟨rfl, rfl, rfl⟩ | ⟨rfl, rfl, rfl⟩ | ⟨rfl, rfl, rfl⟩ <;>
                    (go_wp2_with (first | ((with_reducible refine gate_builtin (b := .append) (xs := #[.tmp 89, .tmp 94]) rfl ?_); at_builtin; refine Kd.R_append k86 (w0 := w) w.heap.size rfl (.tmp 89) (.tmp 94) 56 86 (.agg #[(.int .i64 0), (.int .i64 0), (.int .i64 0)]) 24 rfl Try.underlying56 infO rfl (by decide) (by omega) (.slice A6 m6 c6) ol (⟨x, y, 1⟩ : S86) [.int .i64 x, .int .i64 y, .int .i64 1] (fun _ => True) (fun _ => False) rfl rfl ?aP (fun _ hk => hk.elim) ?aF ?aO ?aB ?aS ?aL ?_; (case aP => exact k86_mkM _ _ _ (⟨x, y, 1⟩ : S86)); (case aB => exact (by repeat (first | (with_reducible first | exact HB.out | apply below_alloc | apply pw_below_drewN | apply below_drew1) | exact HB.out))); (case aF => exact (fun _ _ => trivial)); (case aO => exact (by (with_reducible repeat (first | apply Kd.R_alloc | apply Kd.R_drewN | apply Kd.R_drew)); exact HO.out)); (case aS => exact (below_size (by repeat (first | (with_reducible first | exact HB.out | apply below_alloc | apply pw_below_drewN | apply below_drew1) | exact HB.out)))); (case aL => have h1_ := HLIM.out; omega); intro v112 w8 ho hb hg hat; have n0_ := Aside0.mk hb; have n1_ := Aside0.mk ho; clear HB HO; have HB := n0_; have HO := n1_; clear n0_ n1_; clear ho hb hg hat) | ((with_reducible refine gate_builtin (b := .append) (xs := #[.tmp 89, .tmp 94]) rfl ?_); at_builtin; refine Kd.R_append k86 (w0 := w) w.heap.size rfl (.tmp 89) (.tmp 94) 56 86 (.agg #[(.int .i64 0), (.int .i64 0), (.int .i64 0)]) 24 rfl Try.underlying56 infO rfl (by decide) (by omega) (.slice A6 m6 c6) ol (⟨x, y, 2⟩ : S86) [.int .i64 x, .int .i64 y, .int .i64 2] (fun _ => True) (fun _ => False) rfl rfl ?aP (fun _ hk => hk.elim) ?aF ?aO ?aB ?aS ?aL ?_; (case aP => exact k86_mkM _ _ _ (⟨x, y, 2⟩ : S86)); (case aB => exact (by repeat (first | (with_reducible first | exact HB.out | apply below_alloc | apply pw_below_drewN | apply below_drew1) | exact HB.out))); (case aF => exact (fun _ _ => trivial)); (case aO => exact (by (with_reducible repeat (first | apply Kd.R_alloc | apply Kd.R_drewN | apply Kd.R_drew)); exact HO.out)); (case aS => exact (below_size (by repeat (first | (with_reducible first | exact HB.out | apply below_alloc | apply pw_below_drewN | apply below_drew1) | exact HB.out)))); (case aL => have h1_ := HLIM.out; omega); intro v112 w8 ho hb hg hat; have n0_ := Aside0.mk hb; have n1_ := Aside0.mk ho; clear HB HO; have HB := n0_; have HO := n1_; clear n0_ n1_; clear ho hb hg hat))
                     go_roundg qx
                     case measure => omega
                     case rel =>
                       have hx := HX.out
                       refine ⟨x + 1, by first | rfl | rw [w64 (by omega) (by omega)], ⟨by omega⟩, ⟨?_⟩, HB⟩
                       rw [HNEXT.out]
                       first
                       | exact HO.out
                       | (rw [if_pos (by unfold tB; simp only [hb]; rfl)]; exact HO.out)
                       | (rw [if_neg (by unfold tB; simp only [hb]; first | decide | simp)]; exact HO.out))
                · have hmx : max ax ay = ax := by omega
                  have hst : wrap64 (ax + ay) = st := by have := HAX.out.2; have := HAY.out.2; rw [est, w64 (by omega) (by omega)]
                  have hcs : (k = 1 ∧ (st == 0) = true) ∨ (k = 1 ∧ (st == 0) = false) ∨ (k = 2 ∧ decide (st ≤ 1) = true) ∨ (k = 2 ∧ decide (st ≤ 1) = false) ∨ (k = 3 ∧ decide (ax ≤ 1) = true) ∨ (k = 3 ∧ decide (ax ≤ 1) = false) ∨ (k = 4 ∧ st = 0 ∧ ax = 0) ∨ (k = 4 ∧ st = 1 ∧ ax = 1) ∨ (k = 4 ∧ st = 2 ∧ ax = 1) ∨ (k = 4 ∧ st = 2 ∧ ax = 2) ∨ (k = 4 ∧ st = 3 ∧ ax = 2) ∨ (k = 4 ∧ st = 4 ∧ ax = 2) := by
                    have h1 := HAX.out.2
                    have h2 := HAY.out.2
                    have h4 : (k = 4 → (k = 4 ∧ st = 0 ∧ ax = 0) ∨ (k = 4 ∧ st = 1 ∧ ax = 1) ∨ (k = 4 ∧ st = 2 ∧ ax = 1) ∨ (k = 4 ∧ st = 2 ∧ ax = 2) ∨ (k = 4 ∧ st = 3 ∧ ax = 2) ∨ (k = 4 ∧ st = 4 ∧ ax = 2)) := by omega
                    rcases HK.out with e | e | e | e
                    · cases hz : (st == 0) with
                      | true => exact Or.inl ⟨e, rfl⟩
                      | false => exact Or.inr (Or.inl ⟨e, rfl⟩)
                    · cases hz : decide (st ≤ 1) with
                      | true => exact Or.inr (Or.inr (Or.inl ⟨e, rfl⟩))
                      | false => exact Or.inr (Or.inr (Or.inr (Or.inl ⟨e, rfl⟩)))
                    · cases hz : decide (ax ≤ 1) with
                      | true => exact Or.inr (Or.inr (Or.inr (Or.inr (Or.inl ⟨e, rfl⟩))))
                      | false => exact Or.inr (Or.inr (Or.inr (Or.inr (Or.inr (Or.inl ⟨e, rfl⟩)))))
                    · have h5 := h4 e
                      simp only [e, true_and]
                      exact Or.inr (Or.inr (Or.inr (Or.inr (Or.inr (Or.inr (by simpa [e] using h5))))))
                  have hnext : (foldR (row1 k u y) 0 (x + 1 + 2).toNat oy) = if tB k st ax u = true then ol ++ [⟨x, y, u⟩] else ol := by
                    rw [show (x + 1 + 2).toNat = (x + 2).toNat + 1 by omega, foldR_last (Nat.zero_le _), ← eol]
                    unfold row1 tP
                    rw [show (((x + 2).toNat : Nat) : Int) - 2 = x by omega, eax, eay, tA_eq, ← est, hmx]
                  have HNEXT := Aside0.mk hnext
                  have HCS := Aside0.mk hcs
                  have HLIM : Aside0 (ol.length + 1 ≤ 100) := ⟨by have h1 := HLX.out; have h2 := HLY.out; have h3 := HLL.out; have := HX.out; have := HY.out; have := HU.out; omega⟩
                  have hl2 : (ax < ay) = False := eq_false hlt
                  clear hx eax eay eol em6 hnext EOL EOY EOU est hcs hlt hmx
                  go_upto_region 15 with (first
                    | (go_at_call 76; ((with_reducible refine (abs_calls x _ HXB.out HAX.out.1 _).mono ?_); rintro e w4 ⟨rfl, rfl⟩))
                    | (go_at_call 76; ((with_reducible refine (abs_calls y _ HYB.out HAY.out.1 _).mono ?_); rintro e w4 ⟨rfl, rfl⟩)))
                  clear hst hl2 HAX HAY HXB HYB
                  have HU2 := HUB.out
                  have HC2 := HCS.out
                  clear HK HUB HCS
                  rcases HU2 with rfl | rfl <;> rcases HC2 with ⟨rfl, hb⟩ | ⟨rfl, hb⟩ | ⟨rfl, hb⟩ | ⟨rfl, hb⟩ | ⟨rfl, hb⟩ | ⟨rfl, hb⟩ | ⟨rfl, rfl, rfl⟩ | ⟨rfl, rfl, rfl⟩ | ⟨rfl, rfl, rfl⟩ | ⟨rfl, rfl, rfl⟩ | ⟨rfl, rfl, rfl⟩ | ⟨rfl, rfl, rfl⟩ <;>
                    (go_wp2_with (first | ((with_reducible refine gate_builtin (b := .append) (xs := #[.tmp 89, .tmp 94]) rfl ?_); at_builtin; refine Kd.R_append k86 (w0 := w) w.heap.size rfl (.tmp 89) (.tmp 94) 56 86 (.agg #[(.int .i64 0), (.int .i64 0), (.int .i64 0)]) 24 rfl Try.underlying56 infO rfl (by decide) (by omega) (.slice A6 m6 c6) ol (⟨x, y, 1⟩ : S86) [.int .i64 x, .int .i64 y, .int .i64 1] (fun _ => True) (fun _ => False) rfl rfl ?aP (fun _ hk => hk.elim) ?aF ?aO ?aB ?aS ?aL ?_; (case aP => exact k86_mkM _ _ _ (⟨x, y, 1⟩ : S86)); (case aB => exact (by repeat (first | (with_reducible first | exact HB.out | apply below_alloc | apply pw_below_drewN | apply below_drew1) | exact HB.out))); (case aF => exact (fun _ _ => trivial)); (case aO => exact (by (with_reducible repeat (first | apply Kd.R_alloc | apply Kd.R_drewN | apply Kd.R_drew)); exact HO.out)); (case aS => exact (below_size (by repeat (first | (with_reducible first | exact HB.out | apply below_alloc | apply pw_below_drewN | apply below_drew1) | exact HB.out)))); (case aL => have h1_ := HLIM.out; omega); intro v112 w8 ho hb hg hat; have n0_ := Aside0.mk hb; have n1_ := Aside0.mk ho; clear HB HO; have HB := n0_; have HO := n1_; clear n0_ n1_; clear ho hb hg hat) | ((with_reducible refine gate_builtin (b := .append) (xs := #[.tmp 89, .tmp 94]) rfl ?_); at_builtin; refine Kd.R_append k86 (w0 := w) w.heap.size rfl (.tmp 89) (.tmp 94) 56 86 (.agg #[(.int .i64 0), (.int .i64 0), (.int .i64 0)]) 24 rfl Try.underlying56 infO rfl (by decide) (by omega) (.slice A6 m6 c6) ol (⟨x, y, 2⟩ : S86) [.int .i64 x, .int .i64 y, .int .i64 2] (fun _ => True) (fun _ => False) rfl rfl ?aP (fun _ hk => hk.elim) ?aF ?aO ?aB ?aS ?aL ?_; (case aP => exact k86_mkM _ _ _ (⟨x, y, 2⟩ : S86)); (case aB => exact (by repeat (first | (with_reducible first | exact HB.out | apply below_alloc | apply pw_below_drewN | apply below_drew1) | exact HB.out))); (case aF => exact (fun _ _ => trivial)); (case aO => exact (by (with_reducible repeat (first | apply Kd.R_alloc | apply Kd.R_drewN | apply Kd.R_drew)); exact HO.out)); (case aS => exact (below_size (by repeat (first | (with_reducible first | exact HB.out | apply below_alloc | apply pw_below_drewN | apply below_drew1) | exact HB.out)))); (case aL => have h1_ := HLIM.out; omega); intro v112 w8 ho hb hg hat; have n0_ := Aside0.mk hb; have n1_ := Aside0.mk ho; clear HB HO; have HB := n0_; have HO := n1_; clear n0_ n1_; clear ho hb hg hat))
                     go_roundg qx
                     case measure => omega
                     case rel =>
                       have hx := HX.out
                       refine ⟨x + 1, by first | rfl | rw [w64 (by omega) (by omega)], ⟨by omega⟩, ⟨?_⟩, HB⟩
                       rw [HNEXT.out]
                       first
                       | exact HO.out
                       | (rw [if_pos (by unfold tB; simp only [hb]; rfl)]; exact HO.out)
                       | (rw [if_neg (by unfold tB; simp only [hb]; first | decide | simp)]; exact HO.out))
  · rw [if_neg hk] at h
    injection h with h0 h1
    subst h0 h1
    by_cases c : k < 1
    · have c0 : decide (k < 1) = true := decide_eq_true c
      clear hk c
      go_enter Try.func47, Try.ntmps47
      go_wp2_with fail
      go_ret2
      exact ⟨_, rfl, Kd.R_nil _ _ _ _ _, Below.refl _ _⟩
    · have c0 : decide (k < 1) = false := decide_eq_false c
      have c1 : decide (4 < k) = true := decide_eq_true (by omega)
      clear hk c
      go_enter Try.func47, Try.ntmps47
      go_wp2_with fail
      go_ret2
      exact ⟨_, rfl, Kd.R_nil _ _ _ _ _, Below.refl _ _⟩
end Go.Proofs.Ytpndghkfbojokaa.OwnTemplateOf
