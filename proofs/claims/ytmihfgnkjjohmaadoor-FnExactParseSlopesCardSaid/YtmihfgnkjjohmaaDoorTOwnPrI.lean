/- impl.ParseSlopes as a plain function, and the texts that it takes. -/
import Derived.Test.YtmihfgnkjjohmaaDoorTOwnSlText
namespace Go.Proofs.YtmihfgnkjjohmaaDoor.OwnPrI
open Go.RowKit Go.Proofs.YtmihfgnkjjohmaaDoor.PFnExactParseSlopes Go.Proofs.YtmihfgnkjjohmaaDoor.B Go.Proofs.YtmihfgnkjjohmaaDoor.OwnNumbersText Go.Proofs.YtmihfgnkjjohmaaDoor.OwnSlText Go.Proofs.YtmihfgnkjjohmaaDoor.OwnUnl Go.Proofs.YtmihfgnkjjohmaaDoor.OwnLines Go.Proofs.YtmihfgnkjjohmaaDoor.OwnSigned Go.Proofs.YtmihfgnkjjohmaaDoor.OwnDec
set_option linter.unusedVariables false
def tHead : List UInt8 := [116, 101, 109, 112, 108, 97, 116, 101, 32]
def sHead : List UInt8 := [115, 101, 99, 116, 111, 114, 115, 32]
def lineT (t : List S52) : List UInt8 := tHead ++ txtN (nums t)
def secT (s : List Int) : List UInt8 := sHead ++ txtN s
theorem stT_unl (s : List Int) (T : List (List S52)) : stT s T = unl (T.map lineT ++ [secT s]) := by
  unfold stT unl
  rw [List.flatMap_append, List.flatMap_map]
  have e : T.flatMap lineI = T.flatMap (fun a => lineT a ++ [10]) := rfl
  rw [e]
  simp [secT, sHead]
/-- A template's line. -/
def tmplR (w : ByteArray) : Option (List S52) := match lineR sgnB (toB tHead) w with
  | some ns => if ns.length % 3 = 0 then some (tri ns) else none
  | none => none
theorem tmplR_parse (t : List S52) (h1 : 1 ≤ t.length) (h : ∀ o ∈ t, okO o = true) : tmplR (toB (lineT t)) = some t := by
  have hl : lineR sgnB (toB tHead) (toB (lineT t)) = some (nums t) := line_parse tHead (nums t) (fun e => by have := nums_len t; rw [e] at this; simp at this; omega) (fun n hn => by have := nums_bd h n hn; omega)
  unfold tmplR
  rw [hl]
  show (if (nums t).length % 3 = 0 then some (tri (nums t)) else none) = some t
  rw [if_pos (by rw [nums_len]; omega), tri_nums]
theorem tmplR_read (w : ByteArray) (t : List S52) (h : tmplR w = some t) (hb : ∀ o ∈ t, okO o = true) : w.data.toList = lineT t := by
  unfold tmplR at h
  split at h
  · rename_i ns hl
    split at h
    · rename_i h3
      injection h with h
      subst h
      have hq := nums_bd hb
      rw [nums_tri ns h3] at hq
      have := (line_read tHead w ns hl (fun n hn => by have := hq n hn; omega)).2
      rw [this]
      unfold lineT txtN
      rw [nums_tri ns h3]
    · cases h
  · cases h
/-- All lines but the last. -/
def rowsR : List ByteArray → Option (List (List S52))
  | [] => some []
  | w :: r => match tmplR w, rowsR r with
    | some t, some T => some (t :: T)
    | _, _ => none
theorem rowsR_parse : ∀ T : List (List S52), (∀ t ∈ T, 1 ≤ t.length ∧ ∀ o ∈ t, okO o = true) → rowsR ((T.map lineT).map toB) = some T
  | [], _ => rfl
  | t :: r, h => by
    have h1 := tmplR_parse t (h t (List.mem_cons_self ..)).1 (h t (List.mem_cons_self ..)).2
    have h2 := rowsR_parse r (fun x hx => h x (List.mem_cons_of_mem _ hx))
    rw [List.map_cons, List.map_cons, rowsR, h1, h2]
theorem rowsR_read : ∀ (ws : List ByteArray) (T : List (List S52)), rowsR ws = some T → (∀ t ∈ T, ∀ o ∈ t, okO o = true) → ws.map (·.data.toList) = T.map lineT
  | [], T, h, _ => by
    injection h with h
    subst h
    rfl
  | w :: r, T, h, hb => by
    rw [rowsR] at h
    split at h
    · rename_i t T' h1 h2
      injection h with h
      subst h
      rw [List.map_cons, List.map_cons, tmplR_read w t h1 (hb t (List.mem_cons_self ..)), rowsR_read r T' h2 (fun x hx => hb x (List.mem_cons_of_mem _ hx))]
    · cases h
/-- impl.ParseSlopes, in plain words: none where it fails. -/
def prI (x y z : Int) (t : ByteArray) : Option (List Int × List (List S52)) :=
  if gridOk x y z = true ∧ (linesR t).2 = true ∧ 2 ≤ (linesR t).1.length ∧ (linesR t).1.length ≤ 5 then
    match rowsR (linesR t).1.dropLast, lineR sgnB (toB sHead) ((linesR t).1.getLastD ⟨#[]⟩) with
    | some T, some s => if slOk (wrap64 (x * y)) s T = true then some (s, T) else none
    | _, _ => none
  else none
theorem txtN_mem (ns : List Int) (hb : ∀ n ∈ ns, -9 ≤ n ∧ n ≤ 9) : (10 : UInt8) ∉ txtN ns := by
  have hi : ∀ n ∈ ns, (10 : UInt8) ∉ Lib.itoa n := fun n hn => (OwnRead.itoa_mem n (hb n hn).1 (hb n hn).2).1
  unfold txtN
  cases ns with
  | nil => simp [Lib.join]
  | cons x r =>
    rw [List.map_cons, Lib.join_cons]
    intro h
    rcases List.mem_append.1 h with h | h
    · exact hi x (List.mem_cons_self ..) h
    · unfold Lib.joinTail at h
      obtain ⟨l, hl, h⟩ := List.mem_flatten.1 h
      obtain ⟨y, hy, rfl⟩ := List.mem_map.1 hl
      obtain ⟨n, hn, rfl⟩ := List.mem_map.1 hy
      rcases List.mem_append.1 h with h | h
      · simp at h
      · exact hi n (List.mem_cons_of_mem _ hn) h
theorem prI_render {x y z : Int} {s : List Int} {T : List (List S52)} (hg : gridOk x y z = true) (hs : slOk (wrap64 (x * y)) s T = true) : prI x y z (toB (stT s T)) = some (s, T) := by
  have hF := slOk_facts hg hs
  have h10 : ∀ l ∈ T.map lineT ++ [secT s], (10 : UInt8) ∉ l := by
    intro l hl hm
    rcases List.mem_append.1 hl with hl | hl
    · obtain ⟨t, ht, rfl⟩ := List.mem_map.1 hl
      rcases List.mem_append.1 hm with hm | hm
      · simp [tHead] at hm
      · exact txtN_mem _ (fun n hn => by have := nums_bd (hF.row t ht).2.2 n hn; omega) hm
    · rw [List.mem_singleton.1 hl] at hm
      rcases List.mem_append.1 hm with hm | hm
      · simp [sHead] at hm
      · exact txtN_mem _ (fun n hn => by have := hF.sec n hn; omega) hm
  have hL : linesR (toB (stT s T)) = ((T.map lineT ++ [secT s]).map toB, true) := by rw [stT_unl]; exact lines_unl _ (by simp) h10
  have hT := hF.lT
  unfold prI
  rw [hL, if_pos ⟨hg, rfl, by simp; omega, by simp; omega⟩]
  have e1 : ((T.map lineT ++ [secT s]).map toB).dropLast = (T.map lineT).map toB := by simp
  have e2 : ((T.map lineT ++ [secT s]).map toB).getLastD ⟨#[]⟩ = toB (secT s) := by simp
  have e3 : lineR sgnB (toB sHead) (toB (secT s)) = some s := line_parse sHead s (fun e => by have := hF.ls; rw [e] at this; simp at this) (fun n hn => by have := hF.sec n hn; omega)
  have e4 := rowsR_parse T (fun t ht => ⟨(hF.row t ht).1, (hF.row t ht).2.2⟩)
  show (match rowsR ((T.map lineT ++ [secT s]).map toB).dropLast, lineR sgnB (toB sHead) (((T.map lineT ++ [secT s]).map toB).getLastD ⟨#[]⟩) with
    | some T, some s => if slOk (wrap64 (x * y)) s T = true then some (s, T) else none
    | _, _ => none) = _
  rw [e1, e2, e3, e4]
  exact if_pos hs
theorem prI_read {x y z : Int} {t : ByteArray} {s : List Int} {T : List (List S52)} (h : prI x y z t = some (s, T)) : gridOk x y z = true ∧ slOk (wrap64 (x * y)) s T = true ∧ t = toB (stT s T) := by
  unfold prI at h
  split at h
  · rename_i hc
    obtain ⟨hg, hok, h2, h5⟩ := hc
    split at h
    · rename_i T' s' hr hl
      split at h
      · rename_i hs
        injection h with h
        injection h with e1 e2
        subst e1 e2
        have hF := slOk_facts hg hs
        have hu := unl_lines t (linesR t).1 (by rw [← hok])
        have r1 := rowsR_read _ _ hr (fun t ht => (hF.row t ht).2.2)
        have r2 := (line_read sHead _ _ hl (fun n hn => by have := hF.sec n hn; omega)).2
        refine ⟨hg, hs, ?_⟩
        rw [stT_unl, hu]
        congr 2
        have hne : (linesR t).1 ≠ [] := fun e => by rw [e] at h2; simp at h2
        rw [← List.dropLast_concat_getLast hne, List.map_append, r1, List.map_singleton]
        rw [List.getLastD_eq_getLast?, List.getLast?_eq_some_getLast hne, Option.getD_some] at r2
        rw [r2]
        rfl
      · cases h
    · cases h
  · cases h
end Go.Proofs.YtmihfgnkjjohmaaDoor.OwnPrI
