/- spec.ParseSlopes as a plain function: it takes the very texts that impl.ParseSlopes takes. -/
import Derived.Test.YtmihfgnkjjohmaaDoorTOwnPrI
import Derived.Test.YtmihfgnkjjohmaaDoorTMFnExactParseSlopesx2
import Derived.Test.YtmihfgnkjjohmaaDoorTMFnExactParseSlopesx0
namespace Go.Proofs.YtmihfgnkjjohmaaDoor.OwnPrS
open Go.RowKit Go.Proofs.YtmihfgnkjjohmaaDoor.PFnExactParseSlopes Go.Proofs.YtmihfgnkjjohmaaDoorW.PrintWords Go.Proofs.YtmihfgnkjjohmaaDoorW.PrintLast Go.Proofs.YtmihfgnkjjohmaaDoorW.PrintMore Go.Proofs.YtmihfgnkjjohmaaDoor.B Go.Proofs.YtmihfgnkjjohmaaDoor.OwnNumbersText Go.Proofs.YtmihfgnkjjohmaaDoor.OwnSlText Go.Proofs.YtmihfgnkjjohmaaDoor.OwnUnl Go.Proofs.YtmihfgnkjjohmaaDoor.OwnLines Go.Proofs.YtmihfgnkjjohmaaDoor.OwnSigned Go.Proofs.YtmihfgnkjjohmaaDoor.OwnPrI Go.Proofs.YtmihfgnkjjohmaaDoor.Spl
set_option linter.unusedVariables false
set_option linter.unusedSimpArgs false
/- Numbers. -/
def rdL : List UInt8 → Int → Int
  | [], n => n
  | b :: r, n => if (b.toNat : Int) < 48 then -1 else if (b.toNat : Int) > 57 then -1 else rdL r (wrap64 ((wrap64 (10 * n)) + (((b.toNat : Int) - 48) % 256)))
def rdS (l : List UInt8) : Int := if 1 ≤ l.length ∧ l.length ≤ 6 then (if l[0]? = some 48 ∧ 1 < l.length then -1 else rdL l 0) else -1
def sg (g : Int) (l : List UInt8) : Int := if rdS l < 0 then 99 else wrap64 (g * rdS l)
def numS (l : List UInt8) : Int := if 1 < l.length ∧ l[0]? = some 45 then sg (-1) (l.drop 1) else sg 1 l
theorem read_l0 (s : ByteArray) (hs : s.size ≤ 1048576) : ∀ (d i : Nat) (n : Int), i + d = s.size → Ev (fun k => spec_l1Read.l0 k s n (i : Int)) (rdL (s.data.toList.drop i) n) := by
  have hL : s.data.toList.length = s.size := (Lib.size_eq s).symm
  intro d
  induction d with
  | zero =>
    intro i n hi
    refine Ev.step (fun k => spec_l1Read.l0.eq_2 s n i k) (ev_neg (by omega) (ev_some ?_))
    rw [List.drop_eq_nil_of_le (by omega)]
    rfl
  | succ d ih =>
    intro i n hi
    obtain ⟨b, hb, hbt⟩ := OwnCut.bt_get s i (by omega)
    have h2 : s.data.toList.drop i = b :: s.data.toList.drop (i + 1) := by
      rw [List.drop_eq_getElem_cons (by omega)]
      rw [List.getElem?_eq_getElem (by omega)] at hb
      injection hb with hb
      rw [hb]
    refine Ev.step (fun k => spec_l1Read.l0.eq_2 s n i k) (ev_pos (by omega) (ev_pos (by omega) ?_))
    rw [hbt, h2, w_succ (n := s.size) (by omega) (by omega), rdL]
    refine ev_ite (fun h => ?_) (fun h => ev_ite (fun h3 => ?_) (fun h3 => ?_))
    · rw [if_pos h]; exact ev_some rfl
    · rw [if_neg h, if_pos h3]; exact ev_some rfl
    · rw [if_neg h, if_neg h3]; exact ih (i + 1) _ (by omega)
theorem read_ev (s : ByteArray) (hs : s.size ≤ 1048576) : Ev (fun k => spec_l1Read.f k s) (rdS s.data.toList) := by
  have hL : s.data.toList.length = s.size := (Lib.size_eq s).symm
  unfold spec_l1Read.f rdS
  refine ev_bindc (l1In_eq _ _ _) (ev_ite (fun h => ?_) (fun h => ?_))
  · simp only [decide_eq_true_eq] at h
    obtain ⟨b, hb, hbt⟩ := OwnCut.bt_get s 0 (by omega)
    have hz : bt s 0 = (b.toNat : Int) := hbt
    have fin : Ev (fun k => spec_l1Read.j0 k s false) (rdL s.data.toList 0) := by
      refine Ev.step (fun k => spec_l1Read.j0.eq_2 s false k) (ev_neg (by simp) ?_)
      have := read_l0 s hs s.size 0 0 (by omega)
      rw [List.drop_zero] at this
      exact this
    rw [if_pos (show 1 ≤ s.data.toList.length ∧ s.data.toList.length ≤ 6 by omega), hz, hb]
    refine ev_pos (by omega) (ev_ite (fun h2 => ?_) (fun h2 => ?_))
    · have hb48 : b = 48 := UInt8.toNat_inj.1 (by rw [show (48 : UInt8).toNat = 48 from rfl]; omega)
      by_cases h3 : (s.size : Int) > 1
      · rw [decide_eq_true h3, if_pos (⟨by rw [hb48], by omega⟩)]
        exact Ev.step (fun k => spec_l1Read.j0.eq_2 s true k) (ev_pos rfl (ev_some rfl))
      · rw [decide_eq_false h3, if_neg (fun hq => by omega)]
        exact fin
    · rw [if_neg (fun hq => by
        have := Option.some.inj hq.1
        rw [this] at h2
        exact h2 rfl)]
      exact fin
  · simp only [decide_eq_true_eq] at h
    rw [if_neg (show ¬ (1 ≤ s.data.toList.length ∧ s.data.toList.length ≤ 6) by omega)]
    exact Ev.step (fun k => spec_l1Read.j0.eq_2 s true k) (ev_pos rfl (ev_some rfl))
theorem sg_ev (s : ByteArray) (hs : s.size ≤ 1048576) (g : Int) : Ev (fun k => spec_slNumber.j1 k s g) (sg g s.data.toList) := by
  unfold sg
  refine Ev.step (fun k => spec_slNumber.j1.eq_2 s g k) (Ev.bind (read_ev s hs) (ev_ite (fun h => ?_) (fun h => ?_)))
  · rw [if_pos h]; exact ev_some rfl
  · rw [if_neg h]; exact Ev.bind (read_ev s hs) (ev_some rfl)
theorem num_ev (s : ByteArray) (hs : s.size ≤ 1048576) : Ev (fun k => spec_slNumber.f k s) (numS s.data.toList) := by
  have hL : s.data.toList.length = s.size := (Lib.size_eq s).symm
  have plain : ∀ c : Bool, c = false → Ev (fun k => spec_slNumber.j0 k s 1 c) (sg 1 s.data.toList) := fun c hc => by
    subst hc
    exact Ev.step (fun k => spec_slNumber.j0.eq_2 s 1 false k) (ev_neg (by simp) (sg_ev s hs 1))
  unfold spec_slNumber.f numS
  refine ev_ite (fun h => ev_pos (by omega) ?_) (fun h => ?_)
  · obtain ⟨b, hb, hbt⟩ := OwnCut.bt_get s 0 (by omega)
    have hz : bt s 0 = (b.toNat : Int) := hbt
    rw [hz, hb]
    by_cases h45 : b = 45
    · subst h45
      rw [if_pos ⟨by omega, rfl⟩]
      have e : s.extract 1 s.size = toB (s.data.toList.drop 1) := by
        rw [OwnCut.piece, List.take_of_length_le (by omega)]; rfl
      refine Ev.step (fun k => spec_slNumber.j0.eq_2 s 1 _ k) (ev_pos rfl (ev_pos (by omega) ?_))
      rw [e]
      exact sg_ev (toB (s.data.toList.drop 1)) (by rw [toB_size, List.length_drop]; omega) (-1)
    · rw [if_neg (fun hq => h45 (Option.some.inj hq.2))]
      refine plain _ ?_
      rw [beq_eq_false_iff_ne]
      intro e
      exact h45 (UInt8.toNat_inj.1 (by rw [show (45 : UInt8).toNat = 45 from rfl]; omega))
  · rw [if_neg (by omega)]
    exact plain _ rfl
theorem num_itoa (n : Int) (h0 : -9 ≤ n) (h1 : n ≤ 9) : numS (Lib.itoa n) = n := by
  rcases OwnRead.itoa_cases n h0 h1 with ⟨u, hu, rfl, e⟩ | ⟨u, hu1, hu, rfl, e⟩
  · rw [e]
    rcases OwnRead.ten u hu with rfl | rfl | rfl | rfl | rfl | rfl | rfl | rfl | rfl | rfl <;> decide +kernel
  · rw [e]
    rcases OwnRead.ten u hu with rfl | rfl | rfl | rfl | rfl | rfl | rfl | rfl | rfl | rfl <;> first | omega | decide +kernel
/- Lines. -/
def tW : List UInt8 := [116, 101, 109, 112, 108, 97, 116, 101]
def sW : List UInt8 := [115, 101, 99, 116, 111, 114, 115]
def num (x : ByteArray) : Int := numS x.data.toList
def stepW (st : List Int × List (List S52)) (ws : List ByteArray) : List Int × List (List S52) :=
  if (ws.getD 0 ByteArray.empty).toList = tW then (st.1, st.2 ++ [tri ((ws.drop 1).map num)])
  else if (ws.getD 0 ByteArray.empty).toList = sW then ((ws.drop 1).map num, st.2) else st
def stepS (st : List Int × List (List S52)) (w : ByteArray) : List Int × List (List S52) := stepW st (words 32 w)
theorem tri_short : ∀ l : List Int, l.length ≤ 2 → tri l = []
  | [], _ => rfl
  | [_], _ => rfl
  | [_, _], _ => rfl
  | _ :: _ :: _ :: _, h => by simp at h
theorem drop3 (l : List Int) (i : Nat) (h : i + 2 < l.length) : l.drop i = l.getD i 0 :: l.getD (i + 1) 0 :: l.getD (i + 2) 0 :: l.drop (i + 3) := by
  rw [List.drop_eq_getElem_cons (by omega), List.drop_eq_getElem_cons (i := i + 1) (by omega), List.drop_eq_getElem_cons (i := i + 1 + 1) (by omega)]
  simp only [List.getD_eq_getElem?_getD, List.getElem?_eq_getElem (show i < l.length by omega), List.getElem?_eq_getElem (show i + 1 < l.length by omega), List.getElem?_eq_getElem (show i + 2 < l.length by omega), Option.getD_some]
theorem tri_len : ∀ l : List Int, (tri l).length ≤ l.length
  | [] => Nat.le_refl _
  | [_] => Nat.zero_le _
  | [_, _] => Nat.zero_le _
  | _ :: _ :: _ :: r => by
    have := tri_len r
    simp only [tri, List.length_cons]
    omega
theorem l2_ev (t : ByteArray) (ns : List Int) (hl : ns.length ≤ 1048577) (L : List ByteArray) (n p x y z : Int) (s : List Int) (T : List (List S52)) (hT : T.length ≤ 10) (r : List Int × (List (List (S52))) × Bool) : ∀ (d i : Nat) (acc : List S52), ns.length ≤ i + 3 * d → i ≤ ns.length + 3 → acc.length ≤ i →
    Ev (fun k => spec_ParseSlopes.l0 k t L n (wrap64 (p + 1)) x y z s (T ++ [acc ++ tri (ns.drop i)])) r →
    Ev (fun k => spec_ParseSlopes.l2 k t ns acc (i : Int) L n p x y z s T) r := by
  intro d
  induction d with
  | zero =>
    intro i acc h1 h2 h3 hk
    refine Ev.step (fun k => spec_ParseSlopes.l2.eq_2 t ns acc i L n p x y z s T k) ?_
    rw [w64 (x := (i : Int) + 2) (by omega) (by omega)]
    refine ev_neg (by omega) (ev_pos (by omega) ?_)
    rw [tri_short _ (by rw [List.length_drop]; omega), List.append_nil] at hk
    exact hk
  | succ d ih =>
    intro i acc h1 h2 h3 hk
    refine Ev.step (fun k => spec_ParseSlopes.l2.eq_2 t ns acc i L n p x y z s T k) ?_
    rw [w64 (x := (i : Int) + 2) (by omega) (by omega), w64 (x := (i : Int) + 1) (by omega) (by omega), w64 (x := (i : Int) + 3) (by omega) (by omega)]
    refine ev_ite (fun h => ?_) (fun h => ev_pos (by omega) ?_)
    · refine ev_pos (by omega) (ev_pos (by omega) (ev_pos (by omega) (ev_pos (by omega) (ev_pos (by omega) (ev_pos (by omega) ?_)))))
      have e1 : rd ns ((i : Int) + 1) = ns.getD (i + 1) 0 := rd_nat ns (i + 1)
      have e2 : rd ns ((i : Int) + 2) = ns.getD (i + 2) 0 := rd_nat ns (i + 2)
      rw [rd_nat, e1, e2]
      rw [drop3 ns i (by omega), tri] at hk
      refine ih (i + 3) _ (by omega) (by omega) (by rw [List.length_append]; simp; omega) ?_
      rw [List.append_assoc]
      exact hk
    · rw [tri_short _ (by rw [List.length_drop]; omega), List.append_nil] at hk
      exact hk
theorem l1_end (t : ByteArray) (W : List ByteArray) (hW : 1 ≤ W.length) (hl : W.length ≤ 1048577) (L : List ByteArray) (n p x y z : Int) (s : List Int) (T : List (List S52)) (hT : T.length ≤ 10) (r : List Int × (List (List (S52))) × Bool) (m : Nat)
    (hk : Ev (fun k => spec_ParseSlopes.l0 k t L n (wrap64 (p + 1)) x y z (stepW (s, T) W).1 (stepW (s, T) W).2) r) :
    Ev (fun k => spec_ParseSlopes.l1 k t ((W.drop 1).map num) W L n p (W.drop 1) (m : Int) (m : Int) x y z s T) r := by
  refine Ev.step (fun k => spec_ParseSlopes.l1.eq_2 t _ W L n p (W.drop 1) m m x y z s T k) (ev_neg (by omega) (ev_pos (by omega) ?_))
  have e0 : rdOf ByteArray.empty W 0 = W.getD 0 ByteArray.empty := rfl
  rw [e0]
  unfold stepW at hk
  refine ev_ite (fun h => ?_) (fun h => ev_ite (fun h2 => ?_) (fun h2 => ?_))
  · replace h : (W.getD 0 ByteArray.empty).toList = tW := h
    rw [if_pos h] at hk
    refine l2_ev t _ (by simp; omega) L n p x y z s T hT r ((W.drop 1).map num).length 0 [] (by omega) (by omega) (Nat.le_refl _) ?_
    rw [List.drop_zero, List.nil_append]
    exact hk
  · replace h : ¬ (W.getD 0 ByteArray.empty).toList = tW := h
    replace h2 : (W.getD 0 ByteArray.empty).toList = sW := h2
    rw [if_neg h, if_pos h2] at hk
    exact hk
  · replace h : ¬ (W.getD 0 ByteArray.empty).toList = tW := h
    replace h2 : ¬ (W.getD 0 ByteArray.empty).toList = sW := h2
    rw [if_neg h, if_neg h2] at hk
    exact hk
theorem l1_ev (t : ByteArray) (W : List ByteArray) (hl : W.length ≤ 1048577) (hw : ∀ u ∈ W, u.size ≤ 1048576) (L : List ByteArray) (n p x y z : Int) (s : List Int) (T : List (List S52)) (r : List Int × (List (List (S52))) × Bool) (ys : List ByteArray) (hy : ys = W.drop 1)
    (hk : Ev (fun k => spec_ParseSlopes.l1 k t (ys.map num) W L n p ys (ys.length : Int) (ys.length : Int) x y z s T) r) : ∀ (d i : Nat), i + d = ys.length →
    Ev (fun k => spec_ParseSlopes.l1 k t ((ys.take i).map num) W L n p ys (ys.length : Int) (i : Int) x y z s T) r := by
  have hyl : ys.length ≤ 1048577 := by rw [hy, List.length_drop]; omega
  intro d
  induction d with
  | zero =>
    intro i hi
    have e : i = ys.length := by omega
    subst e
    rw [List.take_of_length_le (Nat.le_refl _)]
    exact hk
  | succ d ih =>
    intro i hi
    have hm : ys.getD i ByteArray.empty ∈ W := by have h := getD_mem (l := ys) (z := ByteArray.empty) (show i < ys.length by omega); rw [hy] at h ⊢; exact List.mem_of_mem_drop h
    have e0 : rdOf ByteArray.empty ys (i : Int) = ys.getD i ByteArray.empty := by unfold rdOf; rw [toNat_nat]
    have hq := ih (i + 1) (by omega)
    rw [List.take_add_one, List.getElem?_eq_getElem (show i < ys.length by omega), Option.toList_some, List.map_append] at hq
    refine Ev.step (fun k => spec_ParseSlopes.l1.eq_2 t _ W L n p ys ys.length i x y z s T k) ?_
    rw [e0, w_succ (n := ys.length) (by omega) (by omega)]
    refine ev_pos (by omega) (ev_pos (by omega) (ev_pos (by omega) (Ev.bind (num_ev _ (hw _ hm)) (ev_pos (by rw [List.length_map, List.length_take]; omega) ?_))))
    have e1 : [numS (ys.getD i ByteArray.empty).data.toList] = [ys[i]].map num := by rw [List.getD_eq_getElem?_getD, List.getElem?_eq_getElem (show i < ys.length by omega)]; rfl
    rw [e1]
    exact hq
/-- spec's last test. -/
def finS (x y z : Int) (t : ByteArray) (st : List Int × List (List S52)) : List Int × List (List S52) × Bool :=
  if slOk (wrap64 (x * y)) st.1 st.2 = true ∧ t = toB (stT st.1 st.2) then (st.1, st.2, true) else ([], [], false)
/-- What is gathered keeps its bounds. -/
def Bd (st : List Int × List (List S52)) (i : Nat) : Prop := st.1.length ≤ 1048577 ∧ st.2.length ≤ i ∧ ∀ t ∈ st.2, t.length ≤ 1048577
theorem Bd_step {st : List Int × List (List S52)} {i : Nat} (h : Bd st i) (W : List ByteArray) (hl : W.length ≤ 1048577) : Bd (stepW st W) (i + 1) := by
  obtain ⟨h1, h2, h3⟩ := h
  unfold stepW
  split
  · refine ⟨h1, ?_, ?_⟩
    · show (st.2 ++ _).length ≤ _
      rw [List.length_append]; simp; omega
    · intro t ht
      rcases List.mem_append.1 ht with ht | ht
      · exact h3 t ht
      · rw [List.mem_singleton.1 ht]
        have := tri_len ((W.drop 1).map num)
        rw [List.length_map, List.length_drop] at this
        omega
  · split
    · refine ⟨?_, by show st.2.length ≤ _; omega, h3⟩
      show ((W.drop 1).map num).length ≤ _
      rw [List.length_map, List.length_drop]; omega
    · exact ⟨h1, by omega, h3⟩
theorem slText_ev {x y z : Int} (hg : gridOk x y z = true) (s : List Int) (T : List (List S52)) (h : slOk (wrap64 (x * y)) s T = true) : Ev (fun k => spec_slText.f k s T) (toB (stT s T)) := by
  have hF := slOk_facts hg h
  unfold spec_slText.f
  have := slText_l0 s T hF.sec hF.ls.2 hF.lT.2 (fun t ht => ⟨(hF.row t ht).2.1, (hF.row t ht).2.2⟩) T.length 0 [] (by omega) (by have := hF.lT.2; simp only [List.length_nil]; omega)
  rw [List.drop_zero, List.nil_append, text_eq hF] at this
  exact this
theorem l0_ev {x y z : Int} (hg : gridOk x y z = true) (t : ByteArray) (L : List ByteArray) (hL : L.length ≤ 6) (hw : ∀ u ∈ L, u.size ≤ 1048576) : ∀ (d i : Nat) (st : List Int × List (List S52)), i + d = L.length → Bd st i →
    Ev (fun k => spec_ParseSlopes.l0 k t L (L.length : Int) (i : Int) x y z st.1 st.2) (finS x y z t ((L.drop i).foldl stepS st)) := by
  intro d
  induction d with
  | zero =>
    intro i st hi hb
    obtain ⟨h1, h2, h3⟩ := hb
    rw [List.drop_eq_nil_of_le (by omega)]
    show Ev _ (finS x y z t st)
    unfold finS
    have hgood := slGood_l0 x y z st.1 st.2 (maxLen_val (by omega)) (maxLen_val (by omega)) (fun u hu => maxLen_val (by have := h3 u hu; omega)) st.2.length 0 (by omega)
    refine Ev.step (fun k => spec_ParseSlopes.l0.eq_2 t L L.length i x y z st.1 st.2 k) (ev_neg (by omega) ?_)
    refine Ev.bind (show Ev (fun k => spec_slGood.f k x y z st.1 st.2) (slOk (wrap64 (x * y)) st.1 st.2) from hgood) (ev_ite (fun h => ?_) (fun h => ?_))
    · refine Ev.bind (slText_ev hg st.1 st.2 h) (ev_ite (fun h4 => ?_) (fun h4 => ?_))
      · rw [if_pos ⟨h, by
          rw [Lib.toList_data, Lib.toList_data] at h4
          rw [← OwnCut.toB_data t, ← h4]
          rfl⟩]
        exact ev_some rfl
      · rw [if_neg (fun hq => h4 (by rw [← hq.2]))]
        exact ev_some rfl
    · rw [if_neg (fun hq => h hq.1)]
      exact ev_some rfl
  | succ d ih =>
    intro i st hi hb
    have hm : L.getD i ByteArray.empty ∈ L := getD_mem (l := L) (by omega)
    have e0 : rdOf ByteArray.empty L (i : Int) = L.getD i ByteArray.empty := by unfold rdOf; rw [toNat_nat]
    have hd : L.drop i = L.getD i ByteArray.empty :: L.drop (i + 1) := by rw [List.drop_eq_getElem_cons (by omega), List.getD_eq_getElem?_getD, List.getElem?_eq_getElem (by omega), Option.getD_some]
    rw [hd, List.foldl_cons]
    refine Ev.step (fun k => spec_ParseSlopes.l0.eq_2 t L L.length i x y z st.1 st.2 k) ?_
    rw [e0]
    generalize L.getD i ByteArray.empty = u at hm ⊢
    have hu := hw u hm
    have hs := OwnCut.l1Split_ev u 32 hu
    have hwl : (words 32 u).length ≤ 1048577 := by have := words_le 32 u; omega
    have hwp : 1 ≤ (words 32 u).length := by rw [words_len]; omega
    have hws : ∀ v ∈ words 32 u, v.size ≤ 1048576 := fun v hv => by have := words_size 32 u v hv; omega
    refine ev_pos (by omega) (ev_pos (by omega) (ev_pos (by omega) (Ev.bind hs (ev_pos (by omega) (ev_bindc rfl ?_)))))
    have hT : st.2.length ≤ 10 := by have := hb.2.1; omega
    have hrest := ih (i + 1) (stepS st u) (by omega) (Bd_step hb _ hwl)
    have h1 := l1_end t (words 32 u) hwp hwl L L.length i x y z st.1 st.2 hT _ ((words 32 u).drop 1).length (by rw [w_succ (n := L.length) (by omega) (by omega)]; exact hrest)
    exact l1_ev t (words 32 u) hwl hws L L.length i x y z st.1 st.2 _ ((words 32 u).drop 1) rfl h1 ((words 32 u).drop 1).length 0 (by omega)
/- A text that is written is read. -/
theorem spl_unl : ∀ ls : List (List UInt8), (∀ l ∈ ls, (10 : UInt8) ∉ l) → spl 10 (unl ls) = ls ++ [[]]
  | [], _ => rfl
  | l :: r, h => by
    have ih := spl_unl r (fun x hx => h x (List.mem_cons_of_mem _ hx))
    have e : unl (l :: r) = l ++ 10 :: unl r := by simp [unl]
    rw [e, spl_app 10 _ _ (h l (List.mem_cons_self ..)), ih]
    rfl
theorem mem10 {x y z : Int} {s : List Int} {T : List (List S52)} (hF : Facts (x * y) s T) : ∀ l ∈ T.map lineT ++ [secT s], (10 : UInt8) ∉ l := by
  intro l hl hm
  rcases List.mem_append.1 hl with hl | hl
  · obtain ⟨t, ht, rfl⟩ := List.mem_map.1 hl
    rcases List.mem_append.1 hm with hm | hm
    · simp [tHead] at hm
    · exact txtN_mem _ (fun n hn => by have := nums_bd (hF.row t ht).2.2 n hn; omega) hm
  · rw [List.mem_singleton.1 hl] at hm
    rcases List.mem_append.1 hm with hm | hm
    · simp [sHead] at hm
    · exact txtN_mem _ (fun n hn => by have := hF.sec n hn; omega) hm
theorem words_line (h : List UInt8) (hh : (32 : UInt8) ∉ h) (ns : List Int) (hne : ns ≠ []) (hb : ∀ n ∈ ns, -9 ≤ n ∧ n ≤ 9) : words 32 (toB (h ++ 32 :: txtN ns)) = toB h :: (ns.map Lib.itoa).map toB := by
  have e : words 32 (toB (h ++ 32 :: txtN ns)) = (spl 32 (h ++ 32 :: txtN ns)).map toB := OwnCut.words_spl 32 _
  rw [e, spl_app 32 _ _ hh]
  unfold txtN
  rw [spl_join 32 _ (by simpa using hne) (fun x hx => by obtain ⟨n, hn, rfl⟩ := List.mem_map.1 hx; exact (OwnRead.itoa_mem n (hb n hn).1 (hb n hn).2).2)]
  rfl
theorem nums_map (ns : List Int) (hb : ∀ n ∈ ns, -9 ≤ n ∧ n ≤ 9) : ((ns.map Lib.itoa).map toB).map num = ns := by
  rw [List.map_map, List.map_map]
  conv => rhs; rw [← List.map_id ns]
  exact List.map_congr_left (fun n hn => num_itoa n (hb n hn).1 (hb n hn).2)
theorem toB_list (l : List UInt8) : (toB l).toList = l := by rw [Lib.toList_data]; rfl
theorem step_T (st : List Int × List (List S52)) (t : List S52) (h1 : 1 ≤ t.length) (h : ∀ o ∈ t, okO o = true) : stepS st (toB (lineT t)) = (st.1, st.2 ++ [t]) := by
  have hb : ∀ n ∈ nums t, -9 ≤ n ∧ n ≤ 9 := fun n hn => by have := nums_bd h n hn; omega
  have hw : words 32 (toB (lineT t)) = toB tW :: ((nums t).map Lib.itoa).map toB := by
    have e : lineT t = tW ++ 32 :: txtN (nums t) := by unfold lineT tHead tW; simp
    rw [e]
    exact words_line tW (by decide) (nums t) (fun e => by have := nums_len t; rw [e] at this; simp at this; omega) hb
  unfold stepS stepW
  rw [hw, List.getD_cons_zero, toB_list, if_pos rfl, List.drop_succ_cons, List.drop_zero, nums_map _ hb, tri_nums]
theorem step_S (st : List Int × List (List S52)) (s : List Int) (h1 : 1 ≤ s.length) (h : ∀ n ∈ s, 0 ≤ n ∧ n ≤ 3) : stepS st (toB (secT s)) = (s, st.2) := by
  have hb : ∀ n ∈ s, -9 ≤ n ∧ n ≤ 9 := fun n hn => by have := h n hn; omega
  have hw : words 32 (toB (secT s)) = toB sW :: (s.map Lib.itoa).map toB := by
    have e : secT s = sW ++ 32 :: txtN s := by unfold secT sHead sW; simp
    rw [e]
    exact words_line sW (by decide) s (fun e => by rw [e] at h1; simp at h1) hb
  unfold stepS stepW
  rw [hw, List.getD_cons_zero, toB_list, if_neg (by decide), if_pos rfl, List.drop_succ_cons, List.drop_zero, nums_map _ hb]
theorem step_E (st : List Int × List (List S52)) : stepS st (toB []) = st := by
  have hw : words 32 (toB []) = [toB []] := OwnCut.words_spl 32 _
  unfold stepS stepW
  rw [hw, List.getD_cons_zero, toB_list, if_neg (by decide), if_neg (by decide)]
theorem fold_T : ∀ (T : List (List S52)) (st : List Int × List (List S52)), (∀ t ∈ T, 1 ≤ t.length ∧ ∀ o ∈ t, okO o = true) → ((T.map lineT).map toB).foldl stepS st = (st.1, st.2 ++ T)
  | [], st, _ => by simp
  | t :: r, st, h => by
    rw [List.map_cons, List.map_cons, List.foldl_cons, step_T st t (h t (List.mem_cons_self ..)).1 (h t (List.mem_cons_self ..)).2, fold_T r _ (fun x hx => h x (List.mem_cons_of_mem _ hx))]
    simp
theorem words_text {x y z : Int} {s : List Int} {T : List (List S52)} (hF : Facts (x * y) s T) : words 10 (toB (stT s T)) = (T.map lineT).map toB ++ [toB (secT s), toB []] := by
  have e : words 10 (toB (stT s T)) = (spl 10 (stT s T)).map toB := OwnCut.words_spl 10 _
  rw [e, stT_unl, spl_unl _ (mem10 (z := z) hF)]
  simp
theorem fold_text {x y z : Int} {s : List Int} {T : List (List S52)} (hF : Facts (x * y) s T) : (words 10 (toB (stT s T))).foldl stepS ([], []) = (s, T) := by
  rw [words_text (z := z) hF, List.foldl_append, fold_T T _ (fun t ht => ⟨(hF.row t ht).1, (hF.row t ht).2.2⟩), List.nil_append]
  show stepS (stepS ([], T) (toB (secT s))) (toB []) = (s, T)
  rw [step_S _ s hF.ls.1 hF.sec, step_E]
/-- What both tell. -/
def resP : Option (List Int × List (List S52)) → List Int × List (List S52) × Bool
  | some (s, T) => (s, T, true)
  | none => ([], [], false)
theorem spec_ev (x y z : Int) (t : ByteArray) (ht : t.size ≤ 1048576) : Ev (fun k => spec_ParseSlopes.f k x y z t) (resP (prI x y z t)) := by
  unfold spec_ParseSlopes.f
  refine ev_bindc (grGood_eq x y z) (ev_ite (fun hg => ?_) (fun hg => ?_))
  · have hs := OwnCut.l1Split_ev t 10 ht
    refine Ev.bind hs ?_
    cases hp : prI x y z t with
    | some st =>
      obtain ⟨s, T⟩ := st
      obtain ⟨_, hok, rfl⟩ := prI_read hp
      have hF := slOk_facts hg hok
      have hw := words_text (z := z) hF
      have hl : (words 10 (toB (stT s T))).length ≤ 6 := by rw [hw]; have := hF.lT.2; simp; omega
      refine ev_neg (by omega) ?_
      have := l0_ev hg (toB (stT s T)) (words 10 (toB (stT s T))) hl (fun u hu => by have := words_size 10 _ u hu; omega) _ 0 ([], []) (Nat.zero_add _) ⟨Nat.zero_le _, Nat.zero_le _, fun t ht => by cases ht⟩
      rw [List.drop_zero, fold_text (z := z) hF] at this
      unfold finS at this
      rw [if_pos ⟨hok, rfl⟩] at this
      exact this
    | none =>
      refine ev_ite (fun h => ev_some rfl) (fun h => ?_)
      have hl : (words 10 t).length ≤ 6 := by omega
      have := l0_ev hg t (words 10 t) hl (fun u hu => by have := words_size 10 _ u hu; omega) _ 0 ([], []) (Nat.zero_add _) ⟨Nat.zero_le _, Nat.zero_le _, fun t ht => by cases ht⟩
      rw [List.drop_zero] at this
      unfold finS at this
      rw [if_neg (fun hq => by
        have h2 := prI_render hg hq.1
        rw [← hq.2, hp] at h2
        cases h2)] at this
      exact this
  · have hp : prI x y z t = none := by
      unfold prI
      rw [if_neg (fun hq => hg hq.1)]
    rw [hp]
    exact ev_some rfl
end Go.Proofs.YtmihfgnkjjohmaaDoor.OwnPrS
