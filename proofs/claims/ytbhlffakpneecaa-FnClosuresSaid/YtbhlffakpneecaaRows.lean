/-
  No cell of these rows narrows 'for every input' (looked for: loops, veiled, ifaces, maps, wideKeys, modest, calm, conditions, laid).
  DERIVED. THE GIVEN ROWS OF THIS SEAT. 3 by the template 'for every input the law returns true; each argument reads behind the call as it read before'; 0 by the template 'total and deterministic' (their statements: YtbhlffakpneecaaTotals.lean).
  GIVEN WITH THE SEED: the statements are not yours to turn. If you find one false, say at which input.
  Laid BY PROGRAM, IN A SANDBOX (cutbox-rows.mjs): the forced cells as the released guide's own fill.sh prints them over the translation b11b6854bdf4ae3b… (all of the seat's roots in one cut). By AI agents, Wed Nov 11 2026. No macro, syntax, notation, axiom, sorry.
-/
import Derived.Test.YtbhlffakpneecaaChecked
import GoSem.Claim
import GoSem.ClaimJoined
import GoSem.ClaimMapViews
import Derived.JoinedTies
import Derived.KernelRfl
namespace Go.Proofs.Ytbhlffakpneecaa
/- THE CELL 'sum', in the pinned program and in every row, IS THE sha256 OF THE DUMP (.gsa) THAT YtbhlffakpneecaaProg.lean LOADS. Nothing in Lean hashes anything: it is a label: what it is worth is what the hold of that sum in a sandbox is worth. -/
noncomputable def Try.pinned : Pinned := { name := "ytbhlffakpneecaa", sum := "b11b6854bdf4ae3b77a6b1308f7dd8e68bcf239cde45d94585a8f5a263b77857", checked := Try.checked }
namespace Rows
def none {H : Type} : Left H := { results := [], args := [] }

/-- 'laws.FnExactCountClosures': WHATEVER THE INPUT: true; the input reads as it did. -/
def fnExactCountClosuresSpec : ChangeSpec := { name := "fnExactCountClosures", fn := fun _ => fun
  | [d] => { results := [.lit (.bool true)], args := [d] }
  | _ => none }
def fnExactCountClosuresRow : OpenClaim := { program := "ytbhlffakpneecaa", sum := "b11b6854bdf4ae3b77a6b1308f7dd8e68bcf239cde45d94585a8f5a263b77857", func := "loop.example/g00914/laws.FnExactCountClosures", spec := "fnExactCountClosures", unfollowed := true, recurses := true, apart := false }
def FnExactCountClosuresSaid : Prop := fnExactCountClosuresRow.holds Try.pinned (OpenSpec.ofChange fnExactCountClosuresSpec)

/-- ITS FALSE NEIGHBOUR: 'it returns false'. Refute it at one input. -/
def fnExactCountClosuresWrong : ChangeSpec := { name := "fnExactCountClosures", fn := fun _ => fun
  | [d] => { results := [.lit (.bool false)], args := [d] }
  | _ => none }
def FnExactCountClosuresWrongFalsely : Prop := fnExactCountClosuresRow.holds Try.pinned (OpenSpec.ofChange fnExactCountClosuresWrong)

/-- 'laws.FnCones': WHATEVER THE INPUT: true; the input reads as it did. -/
def fnConesSpec : ChangeSpec := { name := "fnCones", fn := fun _ => fun
  | [d1, d2] => { results := [.lit (.bool true)], args := [d1, d2] }
  | _ => none }
def fnConesRow : OpenClaim := { program := "ytbhlffakpneecaa", sum := "b11b6854bdf4ae3b77a6b1308f7dd8e68bcf239cde45d94585a8f5a263b77857", func := "loop.example/g00914/laws.FnCones", spec := "fnCones", apart := false }
def FnConesSaid : Prop := fnConesRow.holds Try.pinned (OpenSpec.ofChange fnConesSpec)

/-- ITS FALSE NEIGHBOUR: 'it returns false'. Refute it at one input. -/
def fnConesWrong : ChangeSpec := { name := "fnCones", fn := fun _ => fun
  | [d1, d2] => { results := [.lit (.bool false)], args := [d1, d2] }
  | _ => none }
def FnConesWrongFalsely : Prop := fnConesRow.holds Try.pinned (OpenSpec.ofChange fnConesWrong)

/-- 'laws.FnClosures': WHATEVER THE INPUT: true; the input reads as it did. -/
def fnClosuresSpec : ChangeSpec := { name := "fnClosures", fn := fun _ => fun
  | [d1, d2] => { results := [.lit (.bool true)], args := [d1, d2] }
  | _ => none }
def fnClosuresRow : OpenClaim := { program := "ytbhlffakpneecaa", sum := "b11b6854bdf4ae3b77a6b1308f7dd8e68bcf239cde45d94585a8f5a263b77857", func := "loop.example/g00914/laws.FnClosures", spec := "fnClosures", unfollowed := true, recurses := true, apart := false }
def FnClosuresSaid : Prop := fnClosuresRow.holds Try.pinned (OpenSpec.ofChange fnClosuresSpec)

/-- ITS FALSE NEIGHBOUR: 'it returns false'. Refute it at one input. -/
def fnClosuresWrong : ChangeSpec := { name := "fnClosures", fn := fun _ => fun
  | [d1, d2] => { results := [.lit (.bool false)], args := [d1, d2] }
  | _ => none }
def FnClosuresWrongFalsely : Prop := fnClosuresRow.holds Try.pinned (OpenSpec.ofChange fnClosuresWrong)

/- THE SECOND FORM. 'bulk': how many values and letters a reading holds, each counted each time it is reached (what is shared counts as often as it is met; a slice's spare places count too). A statement '..UptoSaid' is the law's where the arguments, and the package variables that the reading takes, are together of bulk at most 1048576: NARROWER than '..Said'. Prove '..Said' where nothing that the law and all that it calls make is longer than what came in: it says more and counts as full. Else prove '..UptoSaid'. A law counts once. -/
mutual
def uptoBulk {H : Type} : DataW H → Nat
  | .lit (.string bytes) => bytes.length + 1
  | .lit _ => 1
  | .nil => 1
  | .ptr d => uptoBulk d + 1
  | .slice elems spare => uptoBulkAll elems + uptoBulkAll spare + 1
  | .agg parts => uptoBulkAll parts + 1
  | .iface _ d => uptoBulk d + 1
  | .map entries => uptoBulkEntries entries + 1
  | .held _ => 1
def uptoBulkAll {H : Type} : List (DataW H) → Nat
  | [] => 0
  | d :: r => uptoBulk d + uptoBulkAll r
def uptoBulkEntries {H : Type} : List (Lit × DataW H) → Nat
  | [] => 0
  | x :: r => uptoBulkEntry x + uptoBulkEntries r
def uptoBulkEntry {H : Type} : Lit × DataW H → Nat
  | (.string bytes, d) => bytes.length + uptoBulk d + 1
  | (_, d) => uptoBulk d + 1
 end
def uptoSmall : (H : Type) → List (DataW H) → Bool := fun _ ds => decide (uptoBulkAll ds ≤ 1048576)
def OpenSpec.upto (s : _root_.Go.ChangeSpec) : _root_.Go.OpenSpec := { _root_.Go.OpenSpec.ofChange s with cond := some uptoSmall }

/-- 'laws.FnExactCountClosures', WHERE WHAT IT READS IS OF BULK AT MOST 1048576: true; the input reads as it did. -/
def fnExactCountClosuresUptoRow : OpenClaim := { program := "ytbhlffakpneecaa", sum := "b11b6854bdf4ae3b77a6b1308f7dd8e68bcf239cde45d94585a8f5a263b77857", func := "loop.example/g00914/laws.FnExactCountClosures", spec := "fnExactCountClosures", unfollowed := true, recurses := true, apart := false, narrowed := true }
def FnExactCountClosuresUptoSaid : Prop := fnExactCountClosuresUptoRow.holds Try.pinned (OpenSpec.upto fnExactCountClosuresSpec)

/-- 'laws.FnCones', WHERE WHAT IT READS IS OF BULK AT MOST 1048576: true; the input reads as it did. -/
def fnConesUptoRow : OpenClaim := { program := "ytbhlffakpneecaa", sum := "b11b6854bdf4ae3b77a6b1308f7dd8e68bcf239cde45d94585a8f5a263b77857", func := "loop.example/g00914/laws.FnCones", spec := "fnCones", apart := false, narrowed := true }
def FnConesUptoSaid : Prop := fnConesUptoRow.holds Try.pinned (OpenSpec.upto fnConesSpec)

/-- 'laws.FnClosures', WHERE WHAT IT READS IS OF BULK AT MOST 1048576: true; the input reads as it did. -/
def fnClosuresUptoRow : OpenClaim := { program := "ytbhlffakpneecaa", sum := "b11b6854bdf4ae3b77a6b1308f7dd8e68bcf239cde45d94585a8f5a263b77857", func := "loop.example/g00914/laws.FnClosures", spec := "fnClosures", unfollowed := true, recurses := true, apart := false, narrowed := true }
def FnClosuresUptoSaid : Prop := fnClosuresUptoRow.holds Try.pinned (OpenSpec.upto fnClosuresSpec)

end Rows
end Go.Proofs.Ytbhlffakpneecaa
