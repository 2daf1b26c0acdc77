/- The contracts of strings.Split at one byte and of impl.linesOf, by hand over the library's contracts. -/
import Derived.Test.YtmihfgnkjjohmaaDoorTShelf
import Derived.Test.YtmihfgnkjjohmaaDoorTComE
import Derived.Test.YtmihfgnkjjohmaaDoorTWKept
import Derived.Test.YtmihfgnkjjohmaaDoorTMFnExactParseSlopesx0
import Derived.Lib.SplitLaws
import Derived.Laws.EntriesVeiled
namespace Go.Proofs.YtmihfgnkjjohmaaDoor.OwnLines
open Go.RowKit Go.Proofs.YtmihfgnkjjohmaaDoor.PFnExactParseSlopes Go.Proofs.YtmihfgnkjjohmaaDoorW.PrintWords Go.Proofs.YtmihfgnkjjohmaaDoorW.PrintLast Go.Proofs.YtmihfgnkjjohmaaDoorW.PrintMore Go.Proofs.YtmihfgnkjjohmaaDoor.B
set_option linter.unusedVariables false
set_option linter.unusedSimpArgs false
/-- The variable internal/bytealg.MaxLen holds a number. -/
def Max (w : World) : Prop := ∃ m, w.cell? ⟨1, 0, none⟩ = some (.int .i64 m)
theorem max_below {w w' : World} (h : Max w) (hb : Below w.heap.size w w') : Max w' := by
  obtain ⟨m, hm⟩ := h
  exact ⟨m, (hb.cell (World.block_lt_of_cell? w _ hm)).trans hm⟩
/-- The words of a text between the bytes c. -/
def words (c : UInt8) (s : ByteArray) : List ByteArray := Lib.splitB ⟨#[c]⟩ 0 (Lib.countB s ⟨#[c]⟩) s
theorem words_len (c : UInt8) (s : ByteArray) : (words c s).length = Lib.countB s ⟨#[c]⟩ + 1 := Lib.splitB_all ⟨#[c]⟩ (Nat.le_refl 1) 0 _ s rfl
theorem words_le (c : UInt8) (s : ByteArray) : (words c s).length ≤ s.size + 1 := by
  rw [words_len]
  have := Lib.countB_le ⟨#[c]⟩ (Nat.le_refl 1) s.size s (Nat.le_refl _)
  omega
theorem cells_C (l : List ByteArray) (w : World) (hl : l.length ≤ 9223372036854775807) : Kd.C Kd.string (w.alloc (.cells (l.map Value.string).toArray 9)) (some ⟨w.heap.size, 0, none⟩) l.length l := by
  refine Kd.C_of_reads (enc := Value.string) (d := ByteArray.empty) (h1 := fun _ => rfl) ⟨rfl, hl, fun _ => ⟨_, rfl, fun j hj => ?_⟩⟩
  have h := blk_cell (blk_new w (.cells (l.map Value.string).toArray 9)) j
  rw [show (⟨w.heap.size, 0, none⟩ : Addr).add j = ⟨w.heap.size, j, none⟩ by unfold Addr.add; split <;> simp_all]
  refine h.trans ?_
  simp [List.getD_eq_getElem?_getD, hj]
theorem cells_R (l : List ByteArray) (w : World) (hl : l.length ≤ maxLen) : Kd.R Kd.string 9 (w.alloc (.cells (l.map Value.string).toArray 9)) w.heap.size (fun _ => True) (.slice (some ⟨w.heap.size, 0, none⟩) l.length l.length) l := by
  refine Kd.R_of_own (enc := Value.string) (h1 := fun _ => rfl) ?_ (fun _ _ => trivial)
  have h := World.ownsRow_lit (base := w.heap.size) (e := 9) (size := 1) w (l.map Value.string).toArray l.length (Nat.le_refl _) hl (by simp)
  simpa [encs] using h
theorem split_calls (c : UInt8) (s : ByteArray) (w : World) (hs : s.size ≤ 1048576) (hm : Max w) :
    Calls Tryd.prog 49 #[.string s, .string ⟨#[c]⟩] w fun e w' => ∃ A, e = .returned (.slice A (words c s).length (words c s).length) ∧ Kd.C Kd.string w' A (words c s).length (words c s) ∧ Below w.heap.size w w' ∧ Kd.R Kd.string 9 w' w.heap.size (fun _ => True) (.slice A (words c s).length (words c s).length) (words c s) := by
  obtain ⟨m, hm⟩ := hm
  refine (Tryd.strings_Split s ⟨#[c]⟩ m w (by omega) hm (Nat.le_refl 1)).mono ?_
  rintro e w' ⟨rfl, rfl⟩
  rw [← words_len c s]
  exact ⟨_, rfl, cells_C (words c s) w (by have := words_le c s; omega), below_alloc (Below.refl _ _) _, cells_R (words c s) w (by have := words_le c s; unfold maxLen; omega)⟩
/-- The lines of a text, or none. -/
def linesR (s : ByteArray) : List ByteArray × Bool := if s.data.toList = [] then ([], true) else if Lib.hasSuffix s.data.toList [10] = true then (words 10 (s.extract 0 (s.size - 1)), true) else ([], false)
theorem linesR_le (s : ByteArray) : (linesR s).1.length ≤ s.size + 1 := by
  unfold linesR
  split
  · exact Nat.zero_le _
  · split
    · have h := words_le 10 (s.extract 0 (s.size - 1))
      have h2 : (s.extract 0 (s.size - 1)).size ≤ s.size := by rw [ByteArray.size_extract]; omega
      exact Nat.le_trans h (by omega)
    · exact Nat.zero_le _
set_option maxHeartbeats 4000000 in
set_option maxRecDepth 100000 in
theorem linesOf_calls (s : ByteArray) (w : World) (hs : s.size ≤ 1048576) (hm : Max w) :
    Calls Tryd.prog 30 #[.string s] w fun e w' => ∃ A c, e = .returned (.tuple #[.slice A (linesR s).1.length c, .bool (linesR s).2]) ∧ Kd.C Kd.string w' A (linesR s).1.length (linesR s).1 ∧ (linesR s).1.length ≤ c ∧ Below w.heap.size w w' := by
  have HM := Aside0.mk hm
  have HS := Aside0.mk hs
  clear hm
  by_cases h0 : s.data.toList = []
  · have HR : Aside0 (linesR s = ([], true)) := ⟨by unfold linesR; rw [if_pos h0]⟩
    rw [HR.out]
    have q1 : s.toList.isEmpty = true := by rw [Lib.toList_data, h0]; rfl
    go_enter Tryd.func30, Tryd.ntmps30
    go_wp2_with fail
    go_ret2
    exact ⟨none, 0, rfl, Kd.C_nil _ _, Nat.le_refl _, Below.refl _ _⟩
  · have q1 : s.toList.isEmpty = false := by
      rw [Lib.toList_data]
      cases hh : s.data.toList with
      | nil => exact absurd hh h0
      | cons a r => rfl
    cases hsu : Lib.hasSuffix s.data.toList [10] with
    | false =>
      have HR : Aside0 (linesR s = ([], false)) := ⟨by unfold linesR; rw [if_neg h0, if_neg (by rw [hsu]; simp)]⟩
      rw [HR.out]
      go_enter Tryd.func30, Tryd.ntmps30
      go_wp2_with fail
      refine (Tryd.strings_HasSuffix s ⟨#[10]⟩ w (by omega)).mono ?_
      rintro e w' ⟨rfl, rfl⟩
      rw [show (⟨#[10]⟩ : ByteArray).data.toList = [10] from rfl, hsu]
      go_wp2_with fail
      go_ret2
      exact ⟨none, 0, rfl, Kd.C_nil _ _, Nat.le_refl _, Below.refl _ _⟩
    | true =>
      have HR : Aside0 (linesR s = (words 10 (s.extract 0 (s.size - 1)), true)) := ⟨by unfold linesR; rw [if_neg h0, if_pos hsu]⟩
      rw [HR.out]
      have hp : 1 ≤ s.size := by
        rw [Lib.size_eq]
        exact List.length_pos_iff.2 h0
      have q2 : decide (0 ≤ (s.size : Int) - 1) = true := decide_eq_true (by omega)
      go_enter Tryd.func30, Tryd.ntmps30
      go_wp2_with fail
      refine (Tryd.strings_HasSuffix s ⟨#[10]⟩ w (by omega)).mono ?_
      rintro e w' ⟨rfl, rfl⟩
      rw [show (⟨#[10]⟩ : ByteArray).data.toList = [10] from rfl, hsu]
      have hx : (s.extract 0 (s.size - 1)).size ≤ 1048576 := by rw [ByteArray.size_extract]; have := HS.out; omega
      have HX := Aside0.mk hx
      have ek : ((s.size : Int) - 1).toNat = s.size - 1 := by omega
      have q3 : wrap64 ((s.size : Int) - 1) = (s.size : Int) - 1 := w64 (by omega) (by omega)
      go_wp2_with fail
      refine (split_calls 10 (s.extract 0 (s.size - 1)) _ HX.out HM.out).mono ?_
      rintro e w2 ⟨A, rfl, hC, hb, _⟩
      have HC := Aside0.mk hC
      have HB := Aside0.mk hb
      clear hC hb
      go_wp2
      go_ret2
      exact ⟨A, _, rfl, HC.out, Nat.le_refl _, HB.out⟩
end Go.Proofs.YtmihfgnkjjohmaaDoor.OwnLines
