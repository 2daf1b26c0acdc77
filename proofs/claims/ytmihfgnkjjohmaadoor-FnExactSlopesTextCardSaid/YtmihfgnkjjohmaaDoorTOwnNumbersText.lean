/- The contract of impl.numbersText, by hand over the library's contracts: the decimal numerals of a list, joined by blanks. -/
import Derived.Test.YtmihfgnkjjohmaaDoorTShelf
import Derived.Test.YtmihfgnkjjohmaaDoorTComE
import Derived.Test.YtmihfgnkjjohmaaDoorTWKept
import Derived.Test.YtmihfgnkjjohmaaDoorTMFnExactSlopesTextx0
import Derived.Lib.ItoaLen
import Derived.Lib.AppendIntMem
import Derived.Laws.EntriesVeiled
namespace Go.Proofs.YtmihfgnkjjohmaaDoor.OwnNumbersText
open Go.RowKit Go.Proofs.YtmihfgnkjjohmaaDoor.PFnExactSlopesText Go.Proofs.YtmihfgnkjjohmaaDoorW.PrintWords Go.Proofs.YtmihfgnkjjohmaaDoorW.PrintLast Go.Proofs.YtmihfgnkjjohmaaDoorW.PrintMore Go.Proofs.YtmihfgnkjjohmaaDoor.B
set_option linter.unusedVariables false
set_option linter.unusedSimpArgs false
theorem infS : (Tryd.prog.info? 9).map (fun i => (i.zero, i.size, i.bytes)) = some (some (.string ⟨#[]⟩), 1, 16) := by kernel_rfl
abbrev Tab (w : World) : Prop := Lib.TabIs Tryd.prog w "internal/strconv.uint64pow10" .u64 Lib.pow10Tab
/-- A number's text. -/
def strI (x : Int) : ByteArray := ⟨(Lib.itoa x).toArray⟩
def txtN (l : List Int) : List UInt8 := Lib.join (l.map Lib.itoa) [32]
theorem strI_map (l : List Int) : (l.map strI).map (·.data.toList) = l.map Lib.itoa := by
  rw [List.map_map]
  refine List.map_congr_left (fun x _ => ?_)
  simp [strI]
theorem lens_le : ∀ (l : List Int), (∀ x ∈ l, -9223372036854775808 ≤ x ∧ x ≤ 9223372036854775807) → Lib.lens (l.map Lib.itoa) ≤ 21 * l.length
  | [], _ => by simp [Lib.lens]
  | x :: r, h => by
    have h1 := Lib.itoa_length_le x (h x (List.mem_cons_self ..)).1 (h x (List.mem_cons_self ..)).2
    have h2 := lens_le r (fun y hy => h y (List.mem_cons_of_mem _ hy))
    unfold Lib.lens at *
    simp only [List.map_cons, List.sum_cons, List.length_cons] at *
    omega
theorem txtN_le (l : List Int) (h : ∀ x ∈ l, -9223372036854775808 ≤ x ∧ x ≤ 9223372036854775807) : (txtN l).length ≤ 22 * l.length := by
  unfold txtN
  cases l with
  | nil => simp [Lib.join]
  | cons x r =>
    have := lens_le (x :: r) h
    rw [List.map_cons, Lib.join_length]
    simp only [List.map_cons, List.length_cons, List.length_map, List.length_nil] at *
    omega
set_option maxHeartbeats 4000000 in
set_option maxRecDepth 100000 in
theorem numbersText_calls (l : List Int) (hl : ∀ x ∈ l, -9223372036854775808 ≤ x ∧ x ≤ 9223372036854775807) (hn : l.length ≤ 1000000) (A : Option Addr) (c : Nat) (w : World) (hr : Kd.C (Kd.int .i64) w A l.length l) (hc : l.length ≤ c) (htab : Tab w) :
    Calls Tryd.prog 23 #[.slice A l.length c] w fun e w' => e = .returned (.string ⟨(txtN l).toArray⟩) ∧ Below w.heap.size w w' := by
  have HR := Aside0.mk hr
  have HT := Aside0.mk (Lib.tabBelow_of_tabIs htab)
  have HL := Aside0.mk hl
  have HN := Aside0.mk hn
  clear hr htab hl
  go_enter Tryd.func23, Tryd.ntmps23
  go_wp2_with (first | ((with_reducible refine gate_dst (N := 6) rfl ?_); refine Kd.R_lit (w0 := w) Kd.string w.heap.size 9 ?hg (N := 6) ?hd (xs := ([] : List ByteArray)) (inner := []) (ok := fun _ => True) (okp := fun _ => True) ?hr ?hp (fun _ hk => hk) trivial (Below.refl _ _) (Nat.le_refl _) (by simp) ?_; (case hd => rfl); (case hg => rfl); (case hr => first | (go_simp; done) | (go_simp; rfl)); (case hp => exact (Reps.none _ _)); intro v6 w1 ho hb hg_ hnew_; clear hg_ hnew_; have HO := Aside0.mk ho; have HB := Aside0.mk hb; clear ho hb))
  have HO0 : Aside0 (Kd.R Kd.string 9 w1 w.heap.size (fun _ => True) v6 ((l.take (0 : Int).toNat).map strI)) := ⟨HO.out⟩
  clear HO hc
  go_loopg [3, 9] (l.length) (fun d v3 v9 wr => ∃ i : Int, v9 = .int .i64 i ∧ Aside0 (0 ≤ i ∧ i + d = l.length) ∧ Aside0 (Kd.R Kd.string 9 wr w.heap.size (fun _ => True) v3 ((l.take i.toNat).map strI)) ∧ Aside0 (Below w.heap.size w wr))
  case atStart => exact ⟨0, rfl, ⟨by omega⟩, HO0, HB⟩
  case round =>
    clear HO0 HB
    obtain ⟨i, rfl, HI, HO, HB⟩ := hrel
    have h0 := HI.out.1
    cases gk with
    | zero =>
      have hd : decide (i < (l.length : Int)) = false := decide_eq_false (by have := HI.out.2; omega)
      have hi : i.toNat = l.length := by have := HI.out.2; omega
      have HO2 : Aside0 (Kd.R Kd.string 9 wr w.heap.size (fun _ => True) u3 (l.map strI)) := ⟨by have h := HO.out; rw [hi, List.take_length] at h; exact h⟩
      clear hi HO
      obtain ⟨A3, c3, e3⟩ := Kd.R_slice HO2.out
      obtain ⟨_, hcap, hC⟩ := Kd.R_reads' (by rw [← e3]; exact HO2.out)
      have HF := Aside0.mk (fun hp => Kd.R_form HO2.out hp)
      subst e3
      have HCAP := Aside0.mk hcap
      clear hcap hC
      have HJ : Calls Tryd.prog 42 #[.slice A3 (l.map strI).length c3, .string ⟨#[32]⟩] wr fun e w' => e = .returned (.string ⟨(txtN l).toArray⟩) ∧ Below wr.heap.size wr w' := by
        cases hl0 : l with
        | nil =>
          exact (Tryd.strings_Join_none A3 c3 ⟨#[32]⟩ wr).mono (fun e w' ⟨he, hw⟩ => ⟨he, hw ▸ Below.refl _ _⟩)
        | cons x r =>
          rw [← hl0]
          have hpos : 0 < (l.map strI).length := by rw [hl0]; simp
          obtain ⟨g, cap, eo, gb, gl, _⟩ := HF.out hpos
          injection eo with eA _ ec
          subst eA ec
          refine (Tryd.strings_Join g 0 c3 (l.map strI) ⟨#[32]⟩ wr ?_ gl ?_ HCAP.out ?_).mono (fun e w' h => by rw [strI_map] at h; exact h)
          · intro j x hj
            have hjl := (List.getElem?_eq_some_iff.1 hj).1
            have h := (Kd.R_cell (enc := Value.string) (h1 := fun _ => rfl) ByteArray.empty HO2.out (j : Int) (by omega) (by omega)).1
            rw [toNat_nat] at h
            unfold rdOf at h
            rw [toNat_nat, List.getD_eq_getElem?_getD, hj, Option.getD_some] at h
            rw [Nat.zero_add]
            exact h
          · rw [List.length_map]; have := HN.out; omega
          · rw [strI_map]
            have h1 := txtN_le l HL.out
            have h2 := HN.out
            unfold txtN at h1
            show (Lib.join (l.map Lib.itoa) [32]).length ≤ _
            omega
      have HJ' : Aside0 (Calls Tryd.prog 42 #[.slice A3 l.length c3, .string ⟨#[32]⟩] wr fun e w' => e = .returned (.string ⟨(txtN l).toArray⟩) ∧ Below wr.heap.size wr w') := ⟨by have h := HJ; rwa [List.length_map] at h⟩
      clear HJ HF HO2
      go_wp2_with fail
      refine HJ'.out.mono ?_
      rintro e w2 ⟨rfl, hb⟩
      have HB2 := Aside0.mk (below_step HB.out hb)
      clear hb
      go_wp2
      go_ret
      exact ⟨rfl, HB2.out⟩
    | succ d =>
      have hlt : i < (l.length : Int) := by have := HI.out.2; omega
      have hd : decide (i < (l.length : Int)) = true := decide_eq_true hlt
      obtain ⟨ad, e0, hx⟩ := Kd.at_int HR.out i h0 hlt
      subst e0
      replace hx := (HB.out.cell (World.block_lt_of_cell? w _ hx)).trans hx
      have hm : rd l i ∈ l := by
        unfold rd
        rw [List.getD_eq_getElem?_getD, List.getElem?_eq_getElem (by omega), Option.getD_some]
        exact List.getElem_mem _
      have HM := Aside0.mk (HL.out _ hm)
      have HX : Aside0 ((l.take i.toNat).map strI ++ [strI (rd l i)] = (l.take (i + 1).toNat).map strI) := ⟨by
        rw [show (i + 1).toNat = i.toNat + 1 by omega, List.take_add_one, List.getElem?_eq_getElem (by omega), Option.toList_some, List.map_append]
        unfold rd
        rw [List.getD_eq_getElem?_getD, List.getElem?_eq_getElem (by omega), Option.getD_some]; rfl⟩
      have HLEN : Aside0 (((l.take i.toNat).map strI).length ≤ 1000000) := ⟨by rw [List.length_map, List.length_take]; have := HN.out; omega⟩
      have q0 := eq_true h0
      have q1 := eq_true hlt
      have HZ := Aside0.mk hlt
      clear hm h0 hlt
      go_wp2_with fail
      refine (Tryd.strconv_Itoa (rd l i) HM.out.1 HM.out.2 wr (HT.out _ HB.out)).mono ?_
      rintro e w2 ⟨rfl, k, os, rfl⟩
      have hb : Below wr.heap.size wr (Sort.grow (wr.drewN k) os) := Lib.below_grow _ wr (Nat.le_refl _) k os
      generalize Sort.grow (wr.drewN k) os = w2 at hb ⊢
      have HB2 := Aside0.mk (below_step HB.out hb)
      have HO2 := Aside0.mk (Kd.R_below HO.out hb)
      clear hb HO HB hx
      go_wp2_with (first | ((with_reducible refine gate_builtin (b := .append) (xs := #[.tmp 13, .tmp 16]) rfl ?_); at_builtin; refine Kd.R_append Kd.string (w0 := w) w.heap.size rfl (.tmp 13) (.tmp 16) 56 9 (.string ⟨#[]⟩) 16 rfl Tryd.underlying56 infS rfl (by decide) (by omega) u3 ((l.take i.toNat).map strI) (strI (rd l i)) [.string (strI (rd l i))] (fun _ => True) (fun _ => False) rfl rfl ?aP (fun _ hk => hk.elim) ?aF ?aO ?aB ?aS ?aL ?_; (case aP => exact rfl); (case aB => exact HB2.out); (case aF => exact (fun _ _ => trivial)); (case aO => exact HO2.out); (case aS => exact (below_size HB2.out)); (case aL => have h1_ := HLEN.out; omega); intro v17 w8 ho hb hg hat; rw [HX.out] at ho; have n0_ := Aside0.mk hb; have n1_ := Aside0.mk ho; clear HB2 HO2; have HB2 := n0_; have HO2 := n1_; clear n0_ n1_; clear ho hb hg hat))
      go_roundg d
      case measure => omega
      case rel =>
        have e : wrap64 (i + 1) = i + 1 := by have := HZ.out; have := HN.out; have := HI.out.1; rw [w64 (by omega) (by omega)]
        exact ⟨i + 1, by rw [e], ⟨by have := HI.out; omega⟩, HO2, HB2⟩
end Go.Proofs.YtmihfgnkjjohmaaDoor.OwnNumbersText
