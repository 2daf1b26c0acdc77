/- A text is its lines, each ended by a newline. -/
import Derived.Test.YtmihfgnkjjohmaaDoorTOwnRead
namespace Go.Proofs.YtmihfgnkjjohmaaDoor.OwnUnl
open Go.Proofs.YtmihfgnkjjohmaaDoor.OwnDec Go.Proofs.YtmihfgnkjjohmaaDoor.OwnRead Go.Proofs.YtmihfgnkjjohmaaDoor.OwnLines Go.Proofs.YtmihfgnkjjohmaaDoor.OwnSigned Go.Proofs.YtmihfgnkjjohmaaDoor.OwnCut Go.Proofs.YtmihfgnkjjohmaaDoor.Spl
set_option linter.unusedVariables false
def unl (ls : List (List UInt8)) : List UInt8 := ls.flatMap (· ++ [10])
theorem unl_join : ∀ ls : List (List UInt8), ls ≠ [] → unl ls = Lib.join ls [10] ++ [10]
  | [], h => absurd rfl h
  | [x], _ => by simp [unl, Lib.join_one]
  | x :: y :: r, _ => by
    have ih := unl_join (y :: r) (by simp)
    have e : Lib.join (x :: y :: r) [10] = x ++ 10 :: Lib.join (y :: r) [10] := by
      rw [Lib.join_cons, Lib.join_cons]
      simp [Lib.joinTail]
    rw [e]
    have e2 : unl (x :: y :: r) = x ++ [10] ++ unl (y :: r) := by simp [unl]
    rw [e2, ih]
    simp
theorem suffix_iff (l : List UInt8) : Lib.hasSuffix l [10] = true ↔ ∃ x, l = x ++ [10] := by
  unfold Lib.hasSuffix
  rw [List.isSuffixOf_iff_suffix]
  exact ⟨fun ⟨x, h⟩ => ⟨x, h.symm⟩, fun ⟨x, h⟩ => ⟨x, h.symm⟩⟩
/-- The lines of a text that is made of lines. -/
theorem lines_unl (ls : List (List UInt8)) (h : ls ≠ []) (hn : ∀ x ∈ ls, (10 : UInt8) ∉ x) : linesR (toB (unl ls)) = (ls.map toB, true) := by
  have hd : (toB (unl ls)).data.toList = Lib.join ls [10] ++ [10] := by show (unl ls).toArray.toList = _; rw [unl_join ls h]
  unfold linesR
  rw [hd, if_neg (by simp), if_pos ((suffix_iff _).2 ⟨_, rfl⟩)]
  have hs : (toB (unl ls)).size - 1 = (Lib.join ls [10]).length := by rw [Lib.size_eq, hd]; simp
  rw [words_spl, Lib.extract_from_zero, hd, hs, List.take_left, spl_join 10 ls h hn]
/-- What linesOf takes is made of its lines. -/
theorem unl_lines (t : ByteArray) (ws : List ByteArray) (h : linesR t = (ws, true)) : t = toB (unl (ws.map (·.data.toList))) := by
  unfold linesR at h
  split at h
  · rename_i h0
    injection h with h1 h2
    subst h1
    rw [← toB_data t, h0]
    rfl
  · rename_i h0
    split at h
    · rename_i hs
      injection h with h1 h2
      subst h1
      obtain ⟨x, hx⟩ := (suffix_iff _).1 hs
      have e : (t.extract 0 (t.size - 1)).data.toList = x := by
        rw [Lib.extract_from_zero, Lib.size_eq, hx]
        simp
      rw [words_spl, e, List.map_map, show ((fun y : ByteArray => y.data.toList) ∘ toB) = id from rfl, List.map_id, unl_join _ (spl_ne _ _), join_spl, ← hx, toB_data]
    · cases h
theorem rest_app (p x : List UInt8) : rest (toB (p ++ x)) (toB p) = toB x := by
  show toB (Lib.trimPrefix (p ++ x) p) = toB x
  have hp : Lib.hasPrefix (p ++ x) p = true := by unfold Lib.hasPrefix; rw [List.isPrefixOf_iff_prefix]; exact List.prefix_append p x
  unfold Lib.trimPrefix
  rw [if_pos hp, List.drop_left]
/-- A line of a head and numbers is taken. -/
theorem line_parse (p : List UInt8) (ns : List Int) (hne : ns ≠ []) (hb : ∀ n ∈ ns, -9 ≤ n ∧ n ≤ 9) : lineR sgnB (toB p) (toB (p ++ Lib.join (ns.map Lib.itoa) [32])) = some ns := by
  have hw : words 32 (rest (toB (p ++ Lib.join (ns.map Lib.itoa) [32])) (toB p)) = (ns.map Lib.itoa).map toB := by
    rw [rest_app, words_spl]
    show (spl 32 (Lib.join (ns.map Lib.itoa) [32])).map toB = _
    rw [spl_join 32 _ (by simpa using hne) (fun x hx => by obtain ⟨n, hn, rfl⟩ := List.mem_map.1 hx; exact (itoa_mem n (hb n hn).1 (hb n hn).2).2)]
  have hf : ∀ n ∈ ns, sgnB (toB (Lib.itoa n)) = (n, true) := fun n hn => sgn_itoa n (hb n hn).1 (hb n hn).2
  unfold lineR
  rw [hw, if_pos]
  · congr 1
    rw [List.map_map, List.map_map]
    conv => rhs; rw [← List.map_id ns]
    exact List.map_congr_left (fun n hn => by show (sgnB (toB (Lib.itoa n))).1 = n; rw [hf n hn])
  · refine ⟨?_, ?_⟩
    · show Lib.hasPrefix (p ++ _) p = true
      unfold Lib.hasPrefix; rw [List.isPrefixOf_iff_prefix]; exact List.prefix_append p _
    · rw [List.all_eq_true]
      intro x hx
      rw [List.map_map] at hx
      obtain ⟨n, hn, rfl⟩ := List.mem_map.1 hx
      show (sgnB (toB (Lib.itoa n))).2 = true
      rw [hf n hn]
/-- What is taken is a head and numbers. -/
theorem line_read (p : List UInt8) (s : ByteArray) (ns : List Int) (h : lineR sgnB (toB p) s = some ns) (hb : ∀ n ∈ ns, -9 ≤ n ∧ n ≤ 9) : ns ≠ [] ∧ s.data.toList = p ++ Lib.join (ns.map Lib.itoa) [32] := by
  unfold lineR at h
  split at h
  · rename_i hc
    injection h with h
    obtain ⟨hp, hall⟩ := hc
    have hp2 : Lib.hasPrefix s.data.toList p = true := hp
    have hp' : p <+: s.data.toList := by unfold Lib.hasPrefix at hp2; rwa [List.isPrefixOf_iff_prefix] at hp2
    obtain ⟨x, hx⟩ := hp'
    have hr : rest s (toB p) = toB x := by
      rw [← toB_data s, ← hx]
      exact rest_app p x
    rw [hr, words_spl] at h hall
    have hx2 : (toB x).data.toList = x := rfl
    rw [hx2] at h hall
    have hm : ∀ y ∈ spl 32 x, y = Lib.itoa (sgnB (toB y)).1 := by
      intro y hy
      have h2 := List.all_eq_true.1 hall (toB y) (List.mem_map.2 ⟨y, hy, rfl⟩)
      have h3 : (sgnB (toB y)).1 ∈ ns := by rw [← h]; exact List.mem_map.2 ⟨toB y, List.mem_map.2 ⟨y, hy, rfl⟩, rfl⟩
      have h4 := hb _ h3
      exact sgn_one y _ (Prod.ext rfl h2) h4.1 h4.2
    have hns : ns.map Lib.itoa = spl 32 x := by
      rw [← h, List.map_map, List.map_map]
      conv => rhs; rw [← List.map_id (spl 32 x)]
      exact List.map_congr_left (fun y hy => (hm y hy).symm)
    refine ⟨fun e => ?_, ?_⟩
    · rw [e] at hns
      exact spl_ne 32 x hns.symm
    · rw [hns, join_spl, hx]
  · cases h
end Go.Proofs.YtmihfgnkjjohmaaDoor.OwnUnl
