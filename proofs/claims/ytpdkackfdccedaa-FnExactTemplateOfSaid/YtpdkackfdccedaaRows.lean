/-
  No cell of these rows narrows 'for every input' (looked for: loops, veiled, ifaces, maps, wideKeys, modest, calm, conditions, laid).
  DERIVED. THE GIVEN ROWS OF THIS SEAT. 12 by the template 'for every input the law returns true; each argument reads behind the call as it read before'; 0 by the template 'total and deterministic' (their statements: YtpdkackfdccedaaTotals.lean).
  GIVEN WITH THE SEED: the statements are not yours to turn. If you find one false, say at which input.
  Laid BY PROGRAM, IN A SANDBOX (cutbox-rows.mjs): the forced cells as the released guide's own fill.sh prints them over the translation dc1ac636990f3e22… (all of the seat's roots in one cut). By AI agents, Wed Nov 11 2026. No macro, syntax, notation, axiom, sorry.
-/
import Derived.Test.YtpdkackfdccedaaChecked
import GoSem.Claim
import GoSem.ClaimJoined
import GoSem.ClaimMapViews
import Derived.JoinedTies
import Derived.KernelRfl
namespace Go.Proofs.Ytpdkackfdccedaa
/- THE CELL 'sum', in the pinned program and in every row, IS THE sha256 OF THE DUMP (.gsa) THAT YtpdkackfdccedaaProg.lean LOADS. Nothing in Lean hashes anything: it is a label: what it is worth is what the hold of that sum in a sandbox is worth. -/
noncomputable def Try.pinned : Pinned := { name := "ytpdkackfdccedaa", sum := "dc1ac636990f3e229aa4fd6ce6c40f46176d981a9d3765c011380b965eede9a4", checked := Try.checked }
namespace Rows
def none {H : Type} : Left H := { results := [], args := [] }

/-- 'laws.FnExactIsNetwork': WHATEVER THE INPUT: true; the input reads as it did. -/
def fnExactIsNetworkSpec : ChangeSpec := { name := "fnExactIsNetwork", fn := fun _ => fun
  | [d1, d2] => { results := [.lit (.bool true)], args := [d1, d2] }
  | _ => none }
def fnExactIsNetworkRow : OpenClaim := { program := "ytpdkackfdccedaa", sum := "dc1ac636990f3e229aa4fd6ce6c40f46176d981a9d3765c011380b965eede9a4", func := "loop.example/g00914/laws.FnExactIsNetwork", spec := "fnExactIsNetwork", apart := false }
def FnExactIsNetworkSaid : Prop := fnExactIsNetworkRow.holds Try.pinned (OpenSpec.ofChange fnExactIsNetworkSpec)

/-- ITS FALSE NEIGHBOUR: 'it returns false'. Refute it at one input. -/
def fnExactIsNetworkWrong : ChangeSpec := { name := "fnExactIsNetwork", fn := fun _ => fun
  | [d1, d2] => { results := [.lit (.bool false)], args := [d1, d2] }
  | _ => none }
def FnExactIsNetworkWrongFalsely : Prop := fnExactIsNetworkRow.holds Try.pinned (OpenSpec.ofChange fnExactIsNetworkWrong)

/-- 'laws.FnExactValueOf': WHATEVER THE INPUT: true; the input reads as it did. -/
def fnExactValueOfSpec : ChangeSpec := { name := "fnExactValueOf", fn := fun _ => fun
  | [d1, d2] => { results := [.lit (.bool true)], args := [d1, d2] }
  | _ => none }
def fnExactValueOfRow : OpenClaim := { program := "ytpdkackfdccedaa", sum := "dc1ac636990f3e229aa4fd6ce6c40f46176d981a9d3765c011380b965eede9a4", func := "loop.example/g00914/laws.FnExactValueOf", spec := "fnExactValueOf", apart := false }
def FnExactValueOfSaid : Prop := fnExactValueOfRow.holds Try.pinned (OpenSpec.ofChange fnExactValueOfSpec)

/-- ITS FALSE NEIGHBOUR: 'it returns false'. Refute it at one input. -/
def fnExactValueOfWrong : ChangeSpec := { name := "fnExactValueOf", fn := fun _ => fun
  | [d1, d2] => { results := [.lit (.bool false)], args := [d1, d2] }
  | _ => none }
def FnExactValueOfWrongFalsely : Prop := fnExactValueOfRow.holds Try.pinned (OpenSpec.ofChange fnExactValueOfWrong)

/-- 'laws.FnExactOreBlocks': WHATEVER THE INPUT: true; the input reads as it did. -/
def fnExactOreBlocksSpec : ChangeSpec := { name := "fnExactOreBlocks", fn := fun _ => fun
  | [d] => { results := [.lit (.bool true)], args := [d] }
  | _ => none }
def fnExactOreBlocksRow : OpenClaim := { program := "ytpdkackfdccedaa", sum := "dc1ac636990f3e229aa4fd6ce6c40f46176d981a9d3765c011380b965eede9a4", func := "loop.example/g00914/laws.FnExactOreBlocks", spec := "fnExactOreBlocks", apart := false }
def FnExactOreBlocksSaid : Prop := fnExactOreBlocksRow.holds Try.pinned (OpenSpec.ofChange fnExactOreBlocksSpec)

/-- ITS FALSE NEIGHBOUR: 'it returns false'. Refute it at one input. -/
def fnExactOreBlocksWrong : ChangeSpec := { name := "fnExactOreBlocks", fn := fun _ => fun
  | [d] => { results := [.lit (.bool false)], args := [d] }
  | _ => none }
def FnExactOreBlocksWrongFalsely : Prop := fnExactOreBlocksRow.holds Try.pinned (OpenSpec.ofChange fnExactOreBlocksWrong)

/-- 'laws.FnExactAreArcs': WHATEVER THE INPUT: true; the input reads as it did. -/
def fnExactAreArcsSpec : ChangeSpec := { name := "fnExactAreArcs", fn := fun _ => fun
  | [d] => { results := [.lit (.bool true)], args := [d] }
  | _ => none }
def fnExactAreArcsRow : OpenClaim := { program := "ytpdkackfdccedaa", sum := "dc1ac636990f3e229aa4fd6ce6c40f46176d981a9d3765c011380b965eede9a4", func := "loop.example/g00914/laws.FnExactAreArcs", spec := "fnExactAreArcs", apart := false }
def FnExactAreArcsSaid : Prop := fnExactAreArcsRow.holds Try.pinned (OpenSpec.ofChange fnExactAreArcsSpec)

/-- ITS FALSE NEIGHBOUR: 'it returns false'. Refute it at one input. -/
def fnExactAreArcsWrong : ChangeSpec := { name := "fnExactAreArcs", fn := fun _ => fun
  | [d] => { results := [.lit (.bool false)], args := [d] }
  | _ => none }
def FnExactAreArcsWrongFalsely : Prop := fnExactAreArcsRow.holds Try.pinned (OpenSpec.ofChange fnExactAreArcsWrong)

/-- 'laws.FnExactTemplateOf': WHATEVER THE INPUT: true; the input reads as it did. -/
def fnExactTemplateOfSpec : ChangeSpec := { name := "fnExactTemplateOf", fn := fun _ => fun
  | [d] => { results := [.lit (.bool true)], args := [d] }
  | _ => none }
def fnExactTemplateOfRow : OpenClaim := { program := "ytpdkackfdccedaa", sum := "dc1ac636990f3e229aa4fd6ce6c40f46176d981a9d3765c011380b965eede9a4", func := "loop.example/g00914/laws.FnExactTemplateOf", spec := "fnExactTemplateOf", apart := false }
def FnExactTemplateOfSaid : Prop := fnExactTemplateOfRow.holds Try.pinned (OpenSpec.ofChange fnExactTemplateOfSpec)

/-- ITS FALSE NEIGHBOUR: 'it returns false'. Refute it at one input. -/
def fnExactTemplateOfWrong : ChangeSpec := { name := "fnExactTemplateOf", fn := fun _ => fun
  | [d] => { results := [.lit (.bool false)], args := [d] }
  | _ => none }
def FnExactTemplateOfWrongFalsely : Prop := fnExactTemplateOfRow.holds Try.pinned (OpenSpec.ofChange fnExactTemplateOfWrong)

/-- 'laws.FnExactIsTemplate': WHATEVER THE INPUT: true; the input reads as it did. -/
def fnExactIsTemplateSpec : ChangeSpec := { name := "fnExactIsTemplate", fn := fun _ => fun
  | [d] => { results := [.lit (.bool true)], args := [d] }
  | _ => none }
def fnExactIsTemplateRow : OpenClaim := { program := "ytpdkackfdccedaa", sum := "dc1ac636990f3e229aa4fd6ce6c40f46176d981a9d3765c011380b965eede9a4", func := "loop.example/g00914/laws.FnExactIsTemplate", spec := "fnExactIsTemplate", apart := false }
def FnExactIsTemplateSaid : Prop := fnExactIsTemplateRow.holds Try.pinned (OpenSpec.ofChange fnExactIsTemplateSpec)

/-- ITS FALSE NEIGHBOUR: 'it returns false'. Refute it at one input. -/
def fnExactIsTemplateWrong : ChangeSpec := { name := "fnExactIsTemplate", fn := fun _ => fun
  | [d] => { results := [.lit (.bool false)], args := [d] }
  | _ => none }
def FnExactIsTemplateWrongFalsely : Prop := fnExactIsTemplateRow.holds Try.pinned (OpenSpec.ofChange fnExactIsTemplateWrong)

/-- 'laws.FnExactTurnNetwork': WHATEVER THE INPUT: true; the input reads as it did. -/
def fnExactTurnNetworkSpec : ChangeSpec := { name := "fnExactTurnNetwork", fn := fun _ => fun
  | [d1, d2] => { results := [.lit (.bool true)], args := [d1, d2] }
  | _ => none }
def fnExactTurnNetworkRow : OpenClaim := { program := "ytpdkackfdccedaa", sum := "dc1ac636990f3e229aa4fd6ce6c40f46176d981a9d3765c011380b965eede9a4", func := "loop.example/g00914/laws.FnExactTurnNetwork", spec := "fnExactTurnNetwork", apart := false }
def FnExactTurnNetworkSaid : Prop := fnExactTurnNetworkRow.holds Try.pinned (OpenSpec.ofChange fnExactTurnNetworkSpec)

/-- ITS FALSE NEIGHBOUR: 'it returns false'. Refute it at one input. -/
def fnExactTurnNetworkWrong : ChangeSpec := { name := "fnExactTurnNetwork", fn := fun _ => fun
  | [d1, d2] => { results := [.lit (.bool false)], args := [d1, d2] }
  | _ => none }
def FnExactTurnNetworkWrongFalsely : Prop := fnExactTurnNetworkRow.holds Try.pinned (OpenSpec.ofChange fnExactTurnNetworkWrong)

/-- 'laws.FnExactIsFlow': WHATEVER THE INPUT: true; the input reads as it did. -/
def fnExactIsFlowSpec : ChangeSpec := { name := "fnExactIsFlow", fn := fun _ => fun
  | [d1, d2, d3] => { results := [.lit (.bool true)], args := [d1, d2, d3] }
  | _ => none }
def fnExactIsFlowRow : OpenClaim := { program := "ytpdkackfdccedaa", sum := "dc1ac636990f3e229aa4fd6ce6c40f46176d981a9d3765c011380b965eede9a4", func := "loop.example/g00914/laws.FnExactIsFlow", spec := "fnExactIsFlow", apart := false }
def FnExactIsFlowSaid : Prop := fnExactIsFlowRow.holds Try.pinned (OpenSpec.ofChange fnExactIsFlowSpec)

/-- ITS FALSE NEIGHBOUR: 'it returns false'. Refute it at one input. -/
def fnExactIsFlowWrong : ChangeSpec := { name := "fnExactIsFlow", fn := fun _ => fun
  | [d1, d2, d3] => { results := [.lit (.bool false)], args := [d1, d2, d3] }
  | _ => none }
def FnExactIsFlowWrongFalsely : Prop := fnExactIsFlowRow.holds Try.pinned (OpenSpec.ofChange fnExactIsFlowWrong)

/-- 'laws.FnExactCountClosures': WHATEVER THE INPUT: true; the input reads as it did. -/
def fnExactCountClosuresSpec : ChangeSpec := { name := "fnExactCountClosures", fn := fun _ => fun
  | [d] => { results := [.lit (.bool true)], args := [d] }
  | _ => none }
def fnExactCountClosuresRow : OpenClaim := { program := "ytpdkackfdccedaa", sum := "dc1ac636990f3e229aa4fd6ce6c40f46176d981a9d3765c011380b965eede9a4", func := "loop.example/g00914/laws.FnExactCountClosures", spec := "fnExactCountClosures", unfollowed := true, recurses := true, apart := false }
def FnExactCountClosuresSaid : Prop := fnExactCountClosuresRow.holds Try.pinned (OpenSpec.ofChange fnExactCountClosuresSpec)

/-- ITS FALSE NEIGHBOUR: 'it returns false'. Refute it at one input. -/
def fnExactCountClosuresWrong : ChangeSpec := { name := "fnExactCountClosures", fn := fun _ => fun
  | [d] => { results := [.lit (.bool false)], args := [d] }
  | _ => none }
def FnExactCountClosuresWrongFalsely : Prop := fnExactCountClosuresRow.holds Try.pinned (OpenSpec.ofChange fnExactCountClosuresWrong)

/-- 'laws.FnExactCutValue': WHATEVER THE INPUT: true; the input reads as it did. -/
def fnExactCutValueSpec : ChangeSpec := { name := "fnExactCutValue", fn := fun _ => fun
  | [d1, d2, d3] => { results := [.lit (.bool true)], args := [d1, d2, d3] }
  | _ => none }
def fnExactCutValueRow : OpenClaim := { program := "ytpdkackfdccedaa", sum := "dc1ac636990f3e229aa4fd6ce6c40f46176d981a9d3765c011380b965eede9a4", func := "loop.example/g00914/laws.FnExactCutValue", spec := "fnExactCutValue", apart := false }
def FnExactCutValueSaid : Prop := fnExactCutValueRow.holds Try.pinned (OpenSpec.ofChange fnExactCutValueSpec)

/-- ITS FALSE NEIGHBOUR: 'it returns false'. Refute it at one input. -/
def fnExactCutValueWrong : ChangeSpec := { name := "fnExactCutValue", fn := fun _ => fun
  | [d1, d2, d3] => { results := [.lit (.bool false)], args := [d1, d2, d3] }
  | _ => none }
def FnExactCutValueWrongFalsely : Prop := fnExactCutValueRow.holds Try.pinned (OpenSpec.ofChange fnExactCutValueWrong)

/-- 'laws.FnExactIsClosure': WHATEVER THE INPUT: true; the input reads as it did. -/
def fnExactIsClosureSpec : ChangeSpec := { name := "fnExactIsClosure", fn := fun _ => fun
  | [d1, d2] => { results := [.lit (.bool true)], args := [d1, d2] }
  | _ => none }
def fnExactIsClosureRow : OpenClaim := { program := "ytpdkackfdccedaa", sum := "dc1ac636990f3e229aa4fd6ce6c40f46176d981a9d3765c011380b965eede9a4", func := "loop.example/g00914/laws.FnExactIsClosure", spec := "fnExactIsClosure", apart := false }
def FnExactIsClosureSaid : Prop := fnExactIsClosureRow.holds Try.pinned (OpenSpec.ofChange fnExactIsClosureSpec)

/-- ITS FALSE NEIGHBOUR: 'it returns false'. Refute it at one input. -/
def fnExactIsClosureWrong : ChangeSpec := { name := "fnExactIsClosure", fn := fun _ => fun
  | [d1, d2] => { results := [.lit (.bool false)], args := [d1, d2] }
  | _ => none }
def FnExactIsClosureWrongFalsely : Prop := fnExactIsClosureRow.holds Try.pinned (OpenSpec.ofChange fnExactIsClosureWrong)

/-- 'laws.FnExactIsSteeper': WHATEVER THE INPUT: true; the input reads as it did. -/
def fnExactIsSteeperSpec : ChangeSpec := { name := "fnExactIsSteeper", fn := fun _ => fun
  | [d1, d2] => { results := [.lit (.bool true)], args := [d1, d2] }
  | _ => none }
def fnExactIsSteeperRow : OpenClaim := { program := "ytpdkackfdccedaa", sum := "dc1ac636990f3e229aa4fd6ce6c40f46176d981a9d3765c011380b965eede9a4", func := "loop.example/g00914/laws.FnExactIsSteeper", spec := "fnExactIsSteeper", apart := false }
def FnExactIsSteeperSaid : Prop := fnExactIsSteeperRow.holds Try.pinned (OpenSpec.ofChange fnExactIsSteeperSpec)

/-- ITS FALSE NEIGHBOUR: 'it returns false'. Refute it at one input. -/
def fnExactIsSteeperWrong : ChangeSpec := { name := "fnExactIsSteeper", fn := fun _ => fun
  | [d1, d2] => { results := [.lit (.bool false)], args := [d1, d2] }
  | _ => none }
def FnExactIsSteeperWrongFalsely : Prop := fnExactIsSteeperRow.holds Try.pinned (OpenSpec.ofChange fnExactIsSteeperWrong)

/- THE SECOND FORM. 'bulk': how many values and letters a reading holds, each counted each time it is reached (what is shared counts as often as it is met; a slice's spare places count too). A statement '..UptoSaid' is the law's where the arguments, and the package variables that the reading takes, are together of bulk at most 1048576: NARROWER than '..Said'. Prove '..Said' where nothing that the law and all that it calls make is longer than what came in: it says more and counts as full. Else prove '..UptoSaid'. A law counts once. -/
mutual
def uptoBulk {H : Type} : DataW H → Nat
  | .lit (.string bytes) => bytes.length + 1
  | .lit _ => 1
  | .nil => 1
  | .ptr d => uptoBulk d + 1
  | .slice elems spare => uptoBulkAll elems + uptoBulkAll spare + 1
  | .agg parts => uptoBulkAll parts + 1
  | .iface _ d => uptoBulk d + 1
  | .map entries => uptoBulkEntries entries + 1
  | .held _ => 1
def uptoBulkAll {H : Type} : List (DataW H) → Nat
  | [] => 0
  | d :: r => uptoBulk d + uptoBulkAll r
def uptoBulkEntries {H : Type} : List (Lit × DataW H) → Nat
  | [] => 0
  | x :: r => uptoBulkEntry x + uptoBulkEntries r
def uptoBulkEntry {H : Type} : Lit × DataW H → Nat
  | (.string bytes, d) => bytes.length + uptoBulk d + 1
  | (_, d) => uptoBulk d + 1
 end
def uptoSmall : (H : Type) → List (DataW H) → Bool := fun _ ds => decide (uptoBulkAll ds ≤ 1048576)
def OpenSpec.upto (s : _root_.Go.ChangeSpec) : _root_.Go.OpenSpec := { _root_.Go.OpenSpec.ofChange s with cond := some uptoSmall }

/-- 'laws.FnExactIsNetwork', WHERE WHAT IT READS IS OF BULK AT MOST 1048576: true; the input reads as it did. -/
def fnExactIsNetworkUptoRow : OpenClaim := { program := "ytpdkackfdccedaa", sum := "dc1ac636990f3e229aa4fd6ce6c40f46176d981a9d3765c011380b965eede9a4", func := "loop.example/g00914/laws.FnExactIsNetwork", spec := "fnExactIsNetwork", apart := false, narrowed := true }
def FnExactIsNetworkUptoSaid : Prop := fnExactIsNetworkUptoRow.holds Try.pinned (OpenSpec.upto fnExactIsNetworkSpec)

/-- 'laws.FnExactValueOf', WHERE WHAT IT READS IS OF BULK AT MOST 1048576: true; the input reads as it did. -/
def fnExactValueOfUptoRow : OpenClaim := { program := "ytpdkackfdccedaa", sum := "dc1ac636990f3e229aa4fd6ce6c40f46176d981a9d3765c011380b965eede9a4", func := "loop.example/g00914/laws.FnExactValueOf", spec := "fnExactValueOf", apart := false, narrowed := true }
def FnExactValueOfUptoSaid : Prop := fnExactValueOfUptoRow.holds Try.pinned (OpenSpec.upto fnExactValueOfSpec)

/-- 'laws.FnExactOreBlocks', WHERE WHAT IT READS IS OF BULK AT MOST 1048576: true; the input reads as it did. -/
def fnExactOreBlocksUptoRow : OpenClaim := { program := "ytpdkackfdccedaa", sum := "dc1ac636990f3e229aa4fd6ce6c40f46176d981a9d3765c011380b965eede9a4", func := "loop.example/g00914/laws.FnExactOreBlocks", spec := "fnExactOreBlocks", apart := false, narrowed := true }
def FnExactOreBlocksUptoSaid : Prop := fnExactOreBlocksUptoRow.holds Try.pinned (OpenSpec.upto fnExactOreBlocksSpec)

/-- 'laws.FnExactAreArcs', WHERE WHAT IT READS IS OF BULK AT MOST 1048576: true; the input reads as it did. -/
def fnExactAreArcsUptoRow : OpenClaim := { program := "ytpdkackfdccedaa", sum := "dc1ac636990f3e229aa4fd6ce6c40f46176d981a9d3765c011380b965eede9a4", func := "loop.example/g00914/laws.FnExactAreArcs", spec := "fnExactAreArcs", apart := false, narrowed := true }
def FnExactAreArcsUptoSaid : Prop := fnExactAreArcsUptoRow.holds Try.pinned (OpenSpec.upto fnExactAreArcsSpec)

/-- 'laws.FnExactTemplateOf', WHERE WHAT IT READS IS OF BULK AT MOST 1048576: true; the input reads as it did. -/
def fnExactTemplateOfUptoRow : OpenClaim := { program := "ytpdkackfdccedaa", sum := "dc1ac636990f3e229aa4fd6ce6c40f46176d981a9d3765c011380b965eede9a4", func := "loop.example/g00914/laws.FnExactTemplateOf", spec := "fnExactTemplateOf", apart := false, narrowed := true }
def FnExactTemplateOfUptoSaid : Prop := fnExactTemplateOfUptoRow.holds Try.pinned (OpenSpec.upto fnExactTemplateOfSpec)

/-- 'laws.FnExactIsTemplate', WHERE WHAT IT READS IS OF BULK AT MOST 1048576: true; the input reads as it did. -/
def fnExactIsTemplateUptoRow : OpenClaim := { program := "ytpdkackfdccedaa", sum := "dc1ac636990f3e229aa4fd6ce6c40f46176d981a9d3765c011380b965eede9a4", func := "loop.example/g00914/laws.FnExactIsTemplate", spec := "fnExactIsTemplate", apart := false, narrowed := true }
def FnExactIsTemplateUptoSaid : Prop := fnExactIsTemplateUptoRow.holds Try.pinned (OpenSpec.upto fnExactIsTemplateSpec)

/-- 'laws.FnExactTurnNetwork', WHERE WHAT IT READS IS OF BULK AT MOST 1048576: true; the input reads as it did. -/
def fnExactTurnNetworkUptoRow : OpenClaim := { program := "ytpdkackfdccedaa", sum := "dc1ac636990f3e229aa4fd6ce6c40f46176d981a9d3765c011380b965eede9a4", func := "loop.example/g00914/laws.FnExactTurnNetwork", spec := "fnExactTurnNetwork", apart := false, narrowed := true }
def FnExactTurnNetworkUptoSaid : Prop := fnExactTurnNetworkUptoRow.holds Try.pinned (OpenSpec.upto fnExactTurnNetworkSpec)

/-- 'laws.FnExactIsFlow', WHERE WHAT IT READS IS OF BULK AT MOST 1048576: true; the input reads as it did. -/
def fnExactIsFlowUptoRow : OpenClaim := { program := "ytpdkackfdccedaa", sum := "dc1ac636990f3e229aa4fd6ce6c40f46176d981a9d3765c011380b965eede9a4", func := "loop.example/g00914/laws.FnExactIsFlow", spec := "fnExactIsFlow", apart := false, narrowed := true }
def FnExactIsFlowUptoSaid : Prop := fnExactIsFlowUptoRow.holds Try.pinned (OpenSpec.upto fnExactIsFlowSpec)

/-- 'laws.FnExactCountClosures', WHERE WHAT IT READS IS OF BULK AT MOST 1048576: true; the input reads as it did. -/
def fnExactCountClosuresUptoRow : OpenClaim := { program := "ytpdkackfdccedaa", sum := "dc1ac636990f3e229aa4fd6ce6c40f46176d981a9d3765c011380b965eede9a4", func := "loop.example/g00914/laws.FnExactCountClosures", spec := "fnExactCountClosures", unfollowed := true, recurses := true, apart := false, narrowed := true }
def FnExactCountClosuresUptoSaid : Prop := fnExactCountClosuresUptoRow.holds Try.pinned (OpenSpec.upto fnExactCountClosuresSpec)

/-- 'laws.FnExactCutValue', WHERE WHAT IT READS IS OF BULK AT MOST 1048576: true; the input reads as it did. -/
def fnExactCutValueUptoRow : OpenClaim := { program := "ytpdkackfdccedaa", sum := "dc1ac636990f3e229aa4fd6ce6c40f46176d981a9d3765c011380b965eede9a4", func := "loop.example/g00914/laws.FnExactCutValue", spec := "fnExactCutValue", apart := false, narrowed := true }
def FnExactCutValueUptoSaid : Prop := fnExactCutValueUptoRow.holds Try.pinned (OpenSpec.upto fnExactCutValueSpec)

/-- 'laws.FnExactIsClosure', WHERE WHAT IT READS IS OF BULK AT MOST 1048576: true; the input reads as it did. -/
def fnExactIsClosureUptoRow : OpenClaim := { program := "ytpdkackfdccedaa", sum := "dc1ac636990f3e229aa4fd6ce6c40f46176d981a9d3765c011380b965eede9a4", func := "loop.example/g00914/laws.FnExactIsClosure", spec := "fnExactIsClosure", apart := false, narrowed := true }
def FnExactIsClosureUptoSaid : Prop := fnExactIsClosureUptoRow.holds Try.pinned (OpenSpec.upto fnExactIsClosureSpec)

/-- 'laws.FnExactIsSteeper', WHERE WHAT IT READS IS OF BULK AT MOST 1048576: true; the input reads as it did. -/
def fnExactIsSteeperUptoRow : OpenClaim := { program := "ytpdkackfdccedaa", sum := "dc1ac636990f3e229aa4fd6ce6c40f46176d981a9d3765c011380b965eede9a4", func := "loop.example/g00914/laws.FnExactIsSteeper", spec := "fnExactIsSteeper", apart := false, narrowed := true }
def FnExactIsSteeperUptoSaid : Prop := fnExactIsSteeperUptoRow.holds Try.pinned (OpenSpec.upto fnExactIsSteeperSpec)

end Rows
end Go.Proofs.Ytpdkackfdccedaa
