/- strings.Split's words and spec.l1Split's are the pieces of the plain cutting. -/
import Derived.Test.YtmihfgnkjjohmaaDoorTOwnSigned
import Derived.Test.YtmihfgnkjjohmaaDoorTSplMath
import Derived.Test.YtmihfgnkjjohmaaDoorTMFnExactParseSlopesx0
namespace Go.Proofs.YtmihfgnkjjohmaaDoor.OwnCut
open Go.RowKit Go.Proofs.YtmihfgnkjjohmaaDoor.PFnExactParseSlopes Go.Proofs.YtmihfgnkjjohmaaDoorW.PrintWords Go.Proofs.YtmihfgnkjjohmaaDoorW.PrintLast Go.Proofs.YtmihfgnkjjohmaaDoorW.PrintMore Go.Proofs.YtmihfgnkjjohmaaDoor.B Go.Proofs.YtmihfgnkjjohmaaDoor.OwnLines Go.Proofs.YtmihfgnkjjohmaaDoor.OwnSigned Go.Proofs.YtmihfgnkjjohmaaDoor.Spl
set_option linter.unusedVariables false
set_option linter.unusedSimpArgs false
def toB (l : List UInt8) : ByteArray := ⟨l.toArray⟩
theorem toB_data (s : ByteArray) : toB s.data.toList = s := by
  apply ByteArray.ext
  simp [toB]
theorem words_spl (c : UInt8) (s : ByteArray) : words c s = (spl c s.data.toList).map toB := by
  have h : (words c s).map (·.data.toList) = spl c s.data.toList := by
    unfold words
    rw [Lib.splitB_data]
    exact split_spl c s.data.toList
  rw [← h, List.map_map]
  symm
  rw [show (toB ∘ fun x : ByteArray => x.data.toList) = id from funext toB_data, List.map_id]
theorem bt_get (s : ByteArray) (i : Nat) (h : i < s.size) : ∃ b, s.data.toList[i]? = some b ∧ bt s (i : Int) = (b.toNat : Int) := by
  refine ⟨s[i], ?_, ?_⟩
  · rw [Array.getElem?_toList]
    exact Array.getElem?_eq_getElem h
  · unfold bt
    simp only [Int.toNat_natCast]
    rw [dif_pos h]
theorem piece (s : ByteArray) (m i : Nat) : s.extract m i = toB ((s.data.toList.take i).drop m) := by
  have h := Lib.extract_data s m i
  rw [← toB_data (s.extract m i), h, List.drop_take]
theorem l1Split_l0 (s : ByteArray) (c : UInt8) (hs : s.size ≤ 1048576) : ∀ (d i m : Nat) (acc : List ByteArray), i + d = s.size → m ≤ i → acc.length ≤ i → c ∉ ((s.data.toList.take i).drop m) →
    Ev (fun k => spec_l1Split.l0 k s (c.toNat : Int) acc (m : Int) (i : Int)) (acc ++ (spl c (s.data.toList.drop m)).map toB) := by
  have hL : s.data.toList.length = s.size := (Lib.size_eq s).symm
  intro d
  induction d with
  | zero =>
    intro i m acc hi hm ha hc
    have e1 : (s.data.toList.take i).drop m = s.data.toList.drop m := by rw [List.take_of_length_le (by omega)]
    rw [e1] at hc
    refine Ev.step (fun k => spec_l1Split.l0.eq_2 s c.toNat acc m i k) (ev_neg (by omega) (ev_pos (by omega) (ev_pos (by omega) (ev_pos (by omega) (ev_some ?_)))))
    rw [spl_none c _ hc, toNat_nat, piece, List.take_of_length_le (by omega)]
    rfl
  | succ d ih =>
    intro i m acc hi hm ha hc
    obtain ⟨b, hb, hbt⟩ := bt_get s i (by omega)
    have hsp : s.data.toList.drop m = (s.data.toList.take i).drop m ++ b :: s.data.toList.drop (i + 1) := by
      have h1 : s.data.toList = s.data.toList.take i ++ (b :: s.data.toList.drop (i + 1)) := by
        have h2 : s.data.toList.drop i = b :: s.data.toList.drop (i + 1) := by
          rw [List.drop_eq_getElem_cons (by omega)]
          rw [List.getElem?_eq_getElem (by omega)] at hb
          injection hb with hb
          rw [hb]
        rw [← h2, List.take_append_drop]
      conv => lhs; rw [h1]
      rw [List.drop_append_of_le_length (by rw [List.length_take]; omega)]
    refine Ev.step (fun k => spec_l1Split.l0.eq_2 s c.toNat acc m i k) (ev_pos (by omega) (ev_pos (by omega) ?_))
    rw [hbt, w_succ (n := s.size) (by omega) (by omega)]
    by_cases h : b = c
    · subst h
      refine ev_pos rfl (ev_pos (by omega) (ev_pos (by omega) (ev_pos (by omega) (ev_pos (by omega) ?_))))
      rw [toNat_nat, toNat_nat, piece]
      refine ev_eq ?_ (ih (i + 1) (i + 1) _ (by omega) (Nat.le_refl _) (by rw [List.length_append]; simp; omega) (by rw [List.drop_eq_nil_of_le (by rw [List.length_take]; omega)]; simp))
      rw [hsp, spl_app b _ _ hc]
      simp
    · refine ev_neg (fun e => h (UInt8.toNat_inj.1 (Int.ofNat_inj.1 e))) ?_
      refine ih (i + 1) m acc (by omega) (by omega) (by omega) ?_
      have e2 : (s.data.toList.take (i + 1)).drop m = (s.data.toList.take i).drop m ++ [b] := by
        rw [List.take_add_one, hb, Option.toList_some, List.drop_append_of_le_length (by rw [List.length_take]; omega)]
      rw [e2]
      intro hm2
      rcases List.mem_append.1 hm2 with hm2 | hm2
      · exact hc hm2
      · exact h (List.mem_singleton.1 hm2).symm
theorem l1Split_ev (s : ByteArray) (c : UInt8) (hs : s.size ≤ 1048576) : Ev (fun k => spec_l1Split.f k s (c.toNat : Int)) (words c s) := by
  unfold spec_l1Split.f
  rw [words_spl]
  exact l1Split_l0 s c hs s.size 0 0 [] (by omega) (Nat.le_refl _) (Nat.le_refl _) (by simp)
end Go.Proofs.YtmihfgnkjjohmaaDoor.OwnCut
