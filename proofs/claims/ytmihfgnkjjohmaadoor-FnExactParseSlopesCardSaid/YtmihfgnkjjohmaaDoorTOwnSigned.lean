/- The contract of impl.signedLine, by hand over the library's contracts and the printed one of impl.signedDecimal. -/
import Derived.Test.YtmihfgnkjjohmaaDoorTOwnLines
import Derived.Test.YtmihfgnkjjohmaaDoorTMFnExactParseSlopesx2
namespace Go.Proofs.YtmihfgnkjjohmaaDoor.OwnSigned
open Go.RowKit Go.Proofs.YtmihfgnkjjohmaaDoor.PFnExactParseSlopes Go.Proofs.YtmihfgnkjjohmaaDoorW.PrintWords Go.Proofs.YtmihfgnkjjohmaaDoorW.PrintLast Go.Proofs.YtmihfgnkjjohmaaDoorW.PrintMore Go.Proofs.YtmihfgnkjjohmaaDoor.B Go.Proofs.YtmihfgnkjjohmaaDoor.OwnLines
set_option linter.unusedVariables false
set_option linter.unusedSimpArgs false
theorem splitB_size (sep : ByteArray) : ∀ (k : Nat) (s : ByteArray), ∀ x ∈ Lib.splitB sep 0 k s, x.size ≤ s.size
  | 0, s, x, h => by rw [Lib.splitB_zero] at h; rw [List.mem_singleton.1 h]; exact Nat.le_refl _
  | k + 1, s, x, h => by
    unfold Lib.splitB at h
    split at h
    · rw [List.mem_singleton.1 h]; exact Nat.le_refl _
    · rcases List.mem_cons.1 h with rfl | h
      · rw [ByteArray.size_extract]; omega
      · have := splitB_size sep k _ x h
        rw [ByteArray.size_extract] at this
        omega
theorem words_size (c : UInt8) (s : ByteArray) : ∀ x ∈ words c s, x.size ≤ s.size := splitB_size _ _ s
/-- What is behind a text's head. -/
def rest (s p : ByteArray) : ByteArray := ⟨(Lib.trimPrefix s.data.toList p.data.toList).toArray⟩
theorem rest_size (s p : ByteArray) : (rest s p).size ≤ s.size := by
  have h := Lib.trimPrefix_le s.data.toList p.data.toList
  rw [Lib.size_eq s]
  show (Lib.trimPrefix s.data.toList p.data.toList).toArray.size ≤ _
  rw [List.size_toArray]
  exact h
/-- The numbers of a line, if each word is one. -/
def lineR (f : ByteArray → Int × Bool) (p s : ByteArray) : Option (List Int) := if Lib.hasPrefix s.data.toList p.data.toList = true ∧ (words 32 (rest s p)).all (fun x => (f x).2) = true then some ((words 32 (rest s p)).map fun x => (f x).1) else none
set_option maxHeartbeats 4000000 in
set_option maxRecDepth 100000 in
theorem signedLine_calls (f : ByteArray → Int × Bool) (hf : ∀ x : ByteArray, x.size ≤ 1048576 → ∃ k, impl_signedDecimal.f k x = some (f x)) (s p : ByteArray) (w : World) (hs : s.size ≤ 1048576) (hm : Max w) :
    Calls Tryd.prog 31 #[.string s, .string p] w fun e w' => ∃ v, e = .returned (.tuple #[v, .bool (lineR f p s).isSome]) ∧ Kd.R (Kd.int .i64) 3 w' w.heap.size (fun _ => True) v ((lineR f p s).getD []) ∧ Below w.heap.size w w' := by
  have HM := Aside0.mk hm
  have HS := Aside0.mk hs
  have HF := Aside0.mk hf
  clear hm hf
  cases hp : Lib.hasPrefix s.data.toList p.data.toList with
  | false =>
    have HR : Aside0 (lineR f p s = none) := ⟨by unfold lineR; rw [if_neg (by rw [hp]; simp)]⟩
    rw [HR.out]
    go_enter Tryd.func31, Tryd.ntmps31
    go_wp2_with fail
    refine (Tryd.strings_CutPrefix s p w).mono ?_
    rintro e w' ⟨rfl, rfl⟩
    rw [hp]
    go_wp2_with fail
    go_ret2
    exact ⟨_, rfl, Kd.R_nil _ _ _ _ _, Below.refl _ _⟩
  | true =>
    have HP := Aside0.mk hp
    obtain ⟨ws, ews⟩ : ∃ ws, ws = words 32 (rest s p) := ⟨_, rfl⟩
    have hwl : ws.length ≤ 1048577 := by rw [ews]; have h1 := words_le 32 (rest s p); have h2 := rest_size s p; omega
    have hws : ∀ x ∈ ws, x.size ≤ 1048576 := by rw [ews]; intro x hx; have h1 := words_size 32 (rest s p) x hx; have h2 := rest_size s p; omega
    have HWL := Aside0.mk hwl
    have HWS := Aside0.mk hws
    obtain ⟨R, eR⟩ : ∃ R, R = lineR f p s := ⟨_, rfl⟩
    have HR : Aside0 (R = if ws.all (fun x => (f x).2) = true then some (ws.map fun x => (f x).1) else none) := ⟨by rw [eR]; unfold lineR; rw [hp, ← ews]; simp⟩
    rw [← eR]
    clear eR
    have EWS := Aside0.mk ews
    have hrs := rest_size s p
    have HRS := Aside0.mk hrs
    clear ews hwl hws hrs
    go_enter Tryd.func31, Tryd.ntmps31
    go_wp2_with fail
    refine (Tryd.strings_CutPrefix s p w).mono ?_
    rintro e w' ⟨rfl, rfl⟩
    rw [hp, show (⟨(Lib.trimPrefix s.data.toList p.data.toList).toArray⟩ : ByteArray) = rest s p from rfl]
    obtain ⟨rs, ers⟩ : ∃ rs, rs = rest s p := ⟨_, rfl⟩
    rw [← ers]
    have ERS := Aside0.mk ers
    clear ers hp
    go_wp2_with (first | ((with_reducible refine gate_dst (N := 21) rfl ?_); refine Kd.R_lit (Kd.int .i64) _ 3 ?hg (N := 21) ?hd (xs := ([] : List Int)) (inner := []) (ok := fun _ => True) (okp := fun _ => True) ?hr ?hp (fun _ hk => hk) trivial (Below.refl _ _) (Nat.le_refl _) (by simp) ?_; (case hd => rfl); (case hg => rfl); (case hr => first | (go_simp; done) | (go_simp; rfl)); (case hp => exact (Reps.none _ _)); intro v21 w1 ho hb hg_ hnew_; clear hg_ hnew_; have HO := Aside0.mk ho; have HB := Aside0.mk hb; clear ho hb))
    refine (split_calls 32 rs w1 (by rw [ERS.out]; have := HRS.out; have := HS.out; omega) (max_below HM.out HB.out)).mono ?_
    rintro e w2 ⟨A, rfl, _, hb, hW⟩
    have ew : words 32 rs = ws := by rw [ERS.out, EWS.out]
    rw [ew] at hW ⊢
    have HN2 := Aside0.mk (Kd.R_lower (Kd.R_elder' HO.out (Kd.R_base hW) hb) (Nat.le_refl _))
    have HW2 := Aside0.mk (Kd.R_lower (Kd.R_new' hW (Kd.R_lt HO.out)) (below_size HB.out))
    have HB2 := Aside0.mk (below_step HB.out hb)
    clear hb hW ew HO HB
    go_wp2_with fail
    go_loopg [8, 25] (ws.length) (fun d v8 v25 wr => ∃ i : Int, v25 = .int .i64 i ∧ Aside0 (0 ≤ i ∧ i + d = ws.length) ∧ Aside0 ((ws.take i.toNat).all (fun x => (f x).2) = true) ∧ Aside0 (Kd.R (Kd.int .i64) 3 wr w'.heap.size (fun k => True ∧ some k ≠ (Value.slice A ws.length ws.length).ownBlock) v8 ((ws.take i.toNat).map fun x => (f x).1)) ∧ Aside0 (Kd.R Kd.string 9 wr w'.heap.size (fun k => True ∧ some k ≠ v8.ownBlock) (.slice A ws.length ws.length) ws) ∧ Aside0 (Below w'.heap.size w' wr))
    case atStart => exact ⟨0, rfl, ⟨by omega⟩, ⟨by simp⟩, HN2, HW2, HB2⟩
    case round =>
      clear HN2 HW2 HB2
      obtain ⟨i, rfl, HI, HA, HN, HW, HB⟩ := hrel
      have h0 := HI.out.1
      cases gk with
      | zero =>
        have hd : decide (i < (ws.length : Int)) = false := decide_eq_false (by have := HI.out.2; omega)
        have hi : i.toNat = ws.length := by have := HI.out.2; omega
        have hall : ws.all (fun x => (f x).2) = true := by have h := HA.out; rwa [hi, List.take_length] at h
        have HN2 := Aside0.mk (Kd.R_mono (ok' := fun _ => True) HN.out (fun _ _ => trivial))
        rw [hi, List.take_length] at HN2
        have HALL := Aside0.mk hall
        clear hi hall HN
        go_wp2
        go_ret2
        have eR2 : R = some (ws.map fun x => (f x).1) := by rw [HR.out, if_pos HALL.out]
        rw [eR2]
        exact ⟨_, rfl, HN2.out, HB.out⟩
      | succ d =>
        have hlt : i < (ws.length : Int) := by have := HI.out.2; omega
        have hd : decide (i < (ws.length : Int)) = true := decide_eq_true hlt
        obtain ⟨ad, e0, hx⟩ := Kd.at_string (Kd.R_reads' HW.out).2.2 i h0 hlt
        cases e0
        obtain ⟨x, ex⟩ : ∃ x, x = rdOf ByteArray.empty ws i := ⟨_, rfl⟩
        rw [← ex] at hx
        have hget : ws[i.toNat]? = some x := by
          rw [ex]; unfold rdOf
          rw [List.getD_eq_getElem?_getD, List.getElem?_eq_getElem (by omega), Option.getD_some]
        have hmem : x ∈ ws := List.mem_of_getElem? hget
        obtain ⟨k, hk⟩ := HF.out x (HWS.out x hmem)
        obtain ⟨n, b, efx⟩ : ∃ n b, f x = (n, b) := ⟨_, _, rfl⟩
        rw [efx] at hk
        have HK := Aside0.mk hk
        have HG := Aside0.mk hget
        have HFX := Aside0.mk efx
        have HLT := Aside0.mk hlt
        have HMEM := Aside0.mk hmem
        have q0 := eq_true h0
        have q1 := eq_true hlt
        clear hk hget efx ex hmem hlt h0
        go_wp2_with fail
        refine (impl_signedDecimal.calls k x n b wr HK.out).mono ?_
        rintro e w3 ⟨rfl, hdr⟩
        have hb := hdr.below
        have HB3 := Aside0.mk (below_step HB.out hb)
        have HN3 := Aside0.mk (Kd.R_below HN.out hb)
        have HW3 := Aside0.mk (Kd.R_below HW.out hb)
        clear hdr hb HB HN HW hx
        cases b with
        | false =>
          have hno : ¬ ws.all (fun x => (f x).2) = true := by
            intro h
            have := List.all_eq_true.1 h x HMEM.out
            rw [HFX.out] at this
            cases this
          have HNO := Aside0.mk hno
          clear hno
          go_wp2
          go_ret2
          have eR2 : R = none := by rw [HR.out, if_neg HNO.out]
          rw [eR2]
          exact ⟨_, rfl, Kd.R_nil _ _ _ _ _, HB3.out⟩
        | true =>
          have HX : Aside0 ((ws.take i.toNat).map (fun x => (f x).1) ++ [n] = (ws.take (i + 1).toNat).map fun x => (f x).1) := ⟨by
            rw [show (i + 1).toNat = i.toNat + 1 by have := HI.out.1; omega, List.take_add_one, HG.out, Option.toList_some, List.map_append, List.map_singleton, HFX.out]⟩
          have HA2 : Aside0 ((ws.take (i + 1).toNat).all (fun x => (f x).2) = true) := ⟨by
            rw [show (i + 1).toNat = i.toNat + 1 by have := HI.out.1; omega, List.take_add_one, HG.out, Option.toList_some, List.all_append, HA.out]
            simp [HFX.out]⟩
          have HLEN : Aside0 (((ws.take i.toNat).map fun x => (f x).1).length ≤ 1048577) := ⟨by rw [List.length_map, List.length_take]; have := HWL.out; omega⟩
          go_wp2_with (first | ((with_reducible refine gate_builtin (b := .append) (xs := #[.tmp 36, .tmp 38]) rfl ?_); at_builtin; refine Kd.R_append (Kd.int .i64) (w0 := w') w'.heap.size rfl (.tmp 36) (.tmp 38) 24 3 (.int .i64 0) 8 rfl Tryd.underlying24 info3 rfl (by decide) (by omega) u8 ((ws.take i.toNat).map fun x => (f x).1) n [.int .i64 n] (fun k => True ∧ some k ≠ (Value.slice (some ad) ws.length ws.length).ownBlock) (fun _ => False) rfl rfl ?aP (fun _ hk => hk.elim) ?aF ?aO ?aB ?aS ?aL ?_; (case aP => exact rfl); (case aB => exact HB3.out); (case aF => exact (fun k_ hk => ⟨trivial, Kd.fresh' (Kd.R_lt HW3.out) k_ hk⟩)); (case aO => exact HN3.out); (case aS => exact (below_size HB3.out)); (case aL => have h1_ := HLEN.out; omega); intro v39 w8 ho hb hg hat; rw [HX.out] at ho; have n0_ := Aside0.mk (Kd.R_after (ok := fun _ => True) HW3.out hg hat); have n1_ := Aside0.mk hb; have n2_ := Aside0.mk ho; clear HB3 HN3 HW3; have HW3 := n0_; have HB3 := n1_; have HN3 := n2_; clear n0_ n1_ n2_; clear ho hb hg hat))
          go_roundg d
          case measure => omega
          case rel =>
            have e : wrap64 (i + 1) = i + 1 := by have := HLT.out; have := HWL.out; have := HI.out.1; rw [w64 (by omega) (by omega)]
            exact ⟨i + 1, by rw [e], ⟨by have := HI.out; omega⟩, HA2, HN3, HW3, HB3⟩
end Go.Proofs.YtmihfgnkjjohmaaDoor.OwnSigned
