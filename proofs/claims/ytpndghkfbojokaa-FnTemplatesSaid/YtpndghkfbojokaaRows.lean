/-
  No cell of these rows narrows 'for every input' (looked for: loops, veiled, ifaces, maps, wideKeys, modest, calm, conditions, laid).
  DERIVED. THE GIVEN ROWS OF THIS SEAT. 7 by the template 'for every input the law returns true; each argument reads behind the call as it read before'; 0 by the template 'total and deterministic' (their statements: YtpndghkfbojokaaTotals.lean).
  GIVEN WITH THE SEED: the statements are not yours to turn. If you find one false, say at which input.
  Laid BY PROGRAM, IN A SANDBOX (cutbox-rows.mjs): the forced cells as the released guide's own fill.sh prints them over the translation e283521f6115649d… (all of the seat's roots in one cut). By AI agents, Wed Nov 11 2026. No macro, syntax, notation, axiom, sorry.
-/
import Derived.Test.YtpndghkfbojokaaChecked
import GoSem.Claim
import GoSem.ClaimJoined
import GoSem.ClaimMapViews
import Derived.JoinedTies
import Derived.KernelRfl
namespace Go.Proofs.Ytpndghkfbojokaa
/- THE CELL 'sum', in the pinned program and in every row, IS THE sha256 OF THE DUMP (.gsa) THAT YtpndghkfbojokaaProg.lean LOADS. Nothing in Lean hashes anything: it is a label: what it is worth is what the hold of that sum in a sandbox is worth. -/
noncomputable def Try.pinned : Pinned := { name := "ytpndghkfbojokaa", sum := "e283521f6115649d5939034bbedf3c7b884d6a217f12edf0781441ad8b29e39b", checked := Try.checked }
namespace Rows
def none {H : Type} : Left H := { results := [], args := [] }

/-- 'laws.FnExactUniformSlopes': WHATEVER THE INPUT: true; the input reads as it did. -/
def fnExactUniformSlopesSpec : ChangeSpec := { name := "fnExactUniformSlopes", fn := fun _ => fun
  | [d1, d2] => { results := [.lit (.bool true)], args := [d1, d2] }
  | _ => none }
def fnExactUniformSlopesRow : OpenClaim := { program := "ytpndghkfbojokaa", sum := "e283521f6115649d5939034bbedf3c7b884d6a217f12edf0781441ad8b29e39b", func := "loop.example/g00914/laws.FnExactUniformSlopes", spec := "fnExactUniformSlopes", apart := false }
def FnExactUniformSlopesSaid : Prop := fnExactUniformSlopesRow.holds Try.pinned (OpenSpec.ofChange fnExactUniformSlopesSpec)

/-- ITS FALSE NEIGHBOUR: 'it returns false'. Refute it at one input. -/
def fnExactUniformSlopesWrong : ChangeSpec := { name := "fnExactUniformSlopes", fn := fun _ => fun
  | [d1, d2] => { results := [.lit (.bool false)], args := [d1, d2] }
  | _ => none }
def FnExactUniformSlopesWrongFalsely : Prop := fnExactUniformSlopesRow.holds Try.pinned (OpenSpec.ofChange fnExactUniformSlopesWrong)

/-- 'laws.FnExactHalfSlopes': WHATEVER THE INPUT: true; the input reads as it did. -/
def fnExactHalfSlopesSpec : ChangeSpec := { name := "fnExactHalfSlopes", fn := fun _ => fun
  | [d1, d2, d3] => { results := [.lit (.bool true)], args := [d1, d2, d3] }
  | _ => none }
def fnExactHalfSlopesRow : OpenClaim := { program := "ytpndghkfbojokaa", sum := "e283521f6115649d5939034bbedf3c7b884d6a217f12edf0781441ad8b29e39b", func := "loop.example/g00914/laws.FnExactHalfSlopes", spec := "fnExactHalfSlopes", apart := false }
def FnExactHalfSlopesSaid : Prop := fnExactHalfSlopesRow.holds Try.pinned (OpenSpec.ofChange fnExactHalfSlopesSpec)

/-- ITS FALSE NEIGHBOUR: 'it returns false'. Refute it at one input. -/
def fnExactHalfSlopesWrong : ChangeSpec := { name := "fnExactHalfSlopes", fn := fun _ => fun
  | [d1, d2, d3] => { results := [.lit (.bool false)], args := [d1, d2, d3] }
  | _ => none }
def FnExactHalfSlopesWrongFalsely : Prop := fnExactHalfSlopesRow.holds Try.pinned (OpenSpec.ofChange fnExactHalfSlopesWrong)

/-- 'laws.FnExactArcsOf': WHATEVER THE INPUT: true; the input reads as it did. -/
def fnExactArcsOfSpec : ChangeSpec := { name := "fnExactArcsOf", fn := fun _ => fun
  | [d1, d2] => { results := [.lit (.bool true)], args := [d1, d2] }
  | _ => none }
def fnExactArcsOfRow : OpenClaim := { program := "ytpndghkfbojokaa", sum := "e283521f6115649d5939034bbedf3c7b884d6a217f12edf0781441ad8b29e39b", func := "loop.example/g00914/laws.FnExactArcsOf", spec := "fnExactArcsOf", recurses := true, apart := false }
def FnExactArcsOfSaid : Prop := fnExactArcsOfRow.holds Try.pinned (OpenSpec.ofChange fnExactArcsOfSpec)

/-- ITS FALSE NEIGHBOUR: 'it returns false'. Refute it at one input. -/
def fnExactArcsOfWrong : ChangeSpec := { name := "fnExactArcsOf", fn := fun _ => fun
  | [d1, d2] => { results := [.lit (.bool false)], args := [d1, d2] }
  | _ => none }
def FnExactArcsOfWrongFalsely : Prop := fnExactArcsOfRow.holds Try.pinned (OpenSpec.ofChange fnExactArcsOfWrong)

/-- 'laws.FnExactArcCount': WHATEVER THE INPUT: true; the input reads as it did. -/
def fnExactArcCountSpec : ChangeSpec := { name := "fnExactArcCount", fn := fun _ => fun
  | [d1, d2] => { results := [.lit (.bool true)], args := [d1, d2] }
  | _ => none }
def fnExactArcCountRow : OpenClaim := { program := "ytpndghkfbojokaa", sum := "e283521f6115649d5939034bbedf3c7b884d6a217f12edf0781441ad8b29e39b", func := "loop.example/g00914/laws.FnExactArcCount", spec := "fnExactArcCount", recurses := true, apart := false }
def FnExactArcCountSaid : Prop := fnExactArcCountRow.holds Try.pinned (OpenSpec.ofChange fnExactArcCountSpec)

/-- ITS FALSE NEIGHBOUR: 'it returns false'. Refute it at one input. -/
def fnExactArcCountWrong : ChangeSpec := { name := "fnExactArcCount", fn := fun _ => fun
  | [d1, d2] => { results := [.lit (.bool false)], args := [d1, d2] }
  | _ => none }
def FnExactArcCountWrongFalsely : Prop := fnExactArcCountRow.holds Try.pinned (OpenSpec.ofChange fnExactArcCountWrong)

/-- 'laws.FnExactTopBlocks': WHATEVER THE INPUT: true; the input reads as it did. -/
def fnExactTopBlocksSpec : ChangeSpec := { name := "fnExactTopBlocks", fn := fun _ => fun
  | [d1, d2] => { results := [.lit (.bool true)], args := [d1, d2] }
  | _ => none }
def fnExactTopBlocksRow : OpenClaim := { program := "ytpndghkfbojokaa", sum := "e283521f6115649d5939034bbedf3c7b884d6a217f12edf0781441ad8b29e39b", func := "loop.example/g00914/laws.FnExactTopBlocks", spec := "fnExactTopBlocks", recurses := true, apart := false }
def FnExactTopBlocksSaid : Prop := fnExactTopBlocksRow.holds Try.pinned (OpenSpec.ofChange fnExactTopBlocksSpec)

/-- ITS FALSE NEIGHBOUR: 'it returns false'. Refute it at one input. -/
def fnExactTopBlocksWrong : ChangeSpec := { name := "fnExactTopBlocks", fn := fun _ => fun
  | [d1, d2] => { results := [.lit (.bool false)], args := [d1, d2] }
  | _ => none }
def FnExactTopBlocksWrongFalsely : Prop := fnExactTopBlocksRow.holds Try.pinned (OpenSpec.ofChange fnExactTopBlocksWrong)

/-- 'laws.FnExactTurnTemplate': WHATEVER THE INPUT: true; the input reads as it did. -/
def fnExactTurnTemplateSpec : ChangeSpec := { name := "fnExactTurnTemplate", fn := fun _ => fun
  | [d] => { results := [.lit (.bool true)], args := [d] }
  | _ => none }
def fnExactTurnTemplateRow : OpenClaim := { program := "ytpndghkfbojokaa", sum := "e283521f6115649d5939034bbedf3c7b884d6a217f12edf0781441ad8b29e39b", func := "loop.example/g00914/laws.FnExactTurnTemplate", spec := "fnExactTurnTemplate", unfollowed := true, recurses := true, apart := false }
def FnExactTurnTemplateSaid : Prop := fnExactTurnTemplateRow.holds Try.pinned (OpenSpec.ofChange fnExactTurnTemplateSpec)

/-- ITS FALSE NEIGHBOUR: 'it returns false'. Refute it at one input. -/
def fnExactTurnTemplateWrong : ChangeSpec := { name := "fnExactTurnTemplate", fn := fun _ => fun
  | [d] => { results := [.lit (.bool false)], args := [d] }
  | _ => none }
def FnExactTurnTemplateWrongFalsely : Prop := fnExactTurnTemplateRow.holds Try.pinned (OpenSpec.ofChange fnExactTurnTemplateWrong)

/-- 'laws.FnTemplates': WHATEVER THE INPUT: true; the input reads as it did. -/
def fnTemplatesSpec : ChangeSpec := { name := "fnTemplates", fn := fun _ => fun
  | [d1, d2] => { results := [.lit (.bool true)], args := [d1, d2] }
  | _ => none }
def fnTemplatesRow : OpenClaim := { program := "ytpndghkfbojokaa", sum := "e283521f6115649d5939034bbedf3c7b884d6a217f12edf0781441ad8b29e39b", func := "loop.example/g00914/laws.FnTemplates", spec := "fnTemplates", unfollowed := true, recurses := true, apart := false }
def FnTemplatesSaid : Prop := fnTemplatesRow.holds Try.pinned (OpenSpec.ofChange fnTemplatesSpec)

/-- ITS FALSE NEIGHBOUR: 'it returns false'. Refute it at one input. -/
def fnTemplatesWrong : ChangeSpec := { name := "fnTemplates", fn := fun _ => fun
  | [d1, d2] => { results := [.lit (.bool false)], args := [d1, d2] }
  | _ => none }
def FnTemplatesWrongFalsely : Prop := fnTemplatesRow.holds Try.pinned (OpenSpec.ofChange fnTemplatesWrong)

/- THE SECOND FORM. 'bulk': how many values and letters a reading holds, each counted each time it is reached (what is shared counts as often as it is met; a slice's spare places count too). A statement '..UptoSaid' is the law's where the arguments, and the package variables that the reading takes, are together of bulk at most 1048576: NARROWER than '..Said'. Prove '..Said' where nothing that the law and all that it calls make is longer than what came in: it says more and counts as full. Else prove '..UptoSaid'. A law counts once. -/
mutual
def uptoBulk {H : Type} : DataW H → Nat
  | .lit (.string bytes) => bytes.length + 1
  | .lit _ => 1
  | .nil => 1
  | .ptr d => uptoBulk d + 1
  | .slice elems spare => uptoBulkAll elems + uptoBulkAll spare + 1
  | .agg parts => uptoBulkAll parts + 1
  | .iface _ d => uptoBulk d + 1
  | .map entries => uptoBulkEntries entries + 1
  | .held _ => 1
def uptoBulkAll {H : Type} : List (DataW H) → Nat
  | [] => 0
  | d :: r => uptoBulk d + uptoBulkAll r
def uptoBulkEntries {H : Type} : List (Lit × DataW H) → Nat
  | [] => 0
  | x :: r => uptoBulkEntry x + uptoBulkEntries r
def uptoBulkEntry {H : Type} : Lit × DataW H → Nat
  | (.string bytes, d) => bytes.length + uptoBulk d + 1
  | (_, d) => uptoBulk d + 1
 end
def uptoSmall : (H : Type) → List (DataW H) → Bool := fun _ ds => decide (uptoBulkAll ds ≤ 1048576)
def OpenSpec.upto (s : _root_.Go.ChangeSpec) : _root_.Go.OpenSpec := { _root_.Go.OpenSpec.ofChange s with cond := some uptoSmall }

/-- 'laws.FnExactUniformSlopes', WHERE WHAT IT READS IS OF BULK AT MOST 1048576: true; the input reads as it did. -/
def fnExactUniformSlopesUptoRow : OpenClaim := { program := "ytpndghkfbojokaa", sum := "e283521f6115649d5939034bbedf3c7b884d6a217f12edf0781441ad8b29e39b", func := "loop.example/g00914/laws.FnExactUniformSlopes", spec := "fnExactUniformSlopes", apart := false, narrowed := true }
def FnExactUniformSlopesUptoSaid : Prop := fnExactUniformSlopesUptoRow.holds Try.pinned (OpenSpec.upto fnExactUniformSlopesSpec)

/-- 'laws.FnExactHalfSlopes', WHERE WHAT IT READS IS OF BULK AT MOST 1048576: true; the input reads as it did. -/
def fnExactHalfSlopesUptoRow : OpenClaim := { program := "ytpndghkfbojokaa", sum := "e283521f6115649d5939034bbedf3c7b884d6a217f12edf0781441ad8b29e39b", func := "loop.example/g00914/laws.FnExactHalfSlopes", spec := "fnExactHalfSlopes", apart := false, narrowed := true }
def FnExactHalfSlopesUptoSaid : Prop := fnExactHalfSlopesUptoRow.holds Try.pinned (OpenSpec.upto fnExactHalfSlopesSpec)

/-- 'laws.FnExactArcsOf', WHERE WHAT IT READS IS OF BULK AT MOST 1048576: true; the input reads as it did. -/
def fnExactArcsOfUptoRow : OpenClaim := { program := "ytpndghkfbojokaa", sum := "e283521f6115649d5939034bbedf3c7b884d6a217f12edf0781441ad8b29e39b", func := "loop.example/g00914/laws.FnExactArcsOf", spec := "fnExactArcsOf", recurses := true, apart := false, narrowed := true }
def FnExactArcsOfUptoSaid : Prop := fnExactArcsOfUptoRow.holds Try.pinned (OpenSpec.upto fnExactArcsOfSpec)

/-- 'laws.FnExactArcCount', WHERE WHAT IT READS IS OF BULK AT MOST 1048576: true; the input reads as it did. -/
def fnExactArcCountUptoRow : OpenClaim := { program := "ytpndghkfbojokaa", sum := "e283521f6115649d5939034bbedf3c7b884d6a217f12edf0781441ad8b29e39b", func := "loop.example/g00914/laws.FnExactArcCount", spec := "fnExactArcCount", recurses := true, apart := false, narrowed := true }
def FnExactArcCountUptoSaid : Prop := fnExactArcCountUptoRow.holds Try.pinned (OpenSpec.upto fnExactArcCountSpec)

/-- 'laws.FnExactTopBlocks', WHERE WHAT IT READS IS OF BULK AT MOST 1048576: true; the input reads as it did. -/
def fnExactTopBlocksUptoRow : OpenClaim := { program := "ytpndghkfbojokaa", sum := "e283521f6115649d5939034bbedf3c7b884d6a217f12edf0781441ad8b29e39b", func := "loop.example/g00914/laws.FnExactTopBlocks", spec := "fnExactTopBlocks", recurses := true, apart := false, narrowed := true }
def FnExactTopBlocksUptoSaid : Prop := fnExactTopBlocksUptoRow.holds Try.pinned (OpenSpec.upto fnExactTopBlocksSpec)

/-- 'laws.FnExactTurnTemplate', WHERE WHAT IT READS IS OF BULK AT MOST 1048576: true; the input reads as it did. -/
def fnExactTurnTemplateUptoRow : OpenClaim := { program := "ytpndghkfbojokaa", sum := "e283521f6115649d5939034bbedf3c7b884d6a217f12edf0781441ad8b29e39b", func := "loop.example/g00914/laws.FnExactTurnTemplate", spec := "fnExactTurnTemplate", unfollowed := true, recurses := true, apart := false, narrowed := true }
def FnExactTurnTemplateUptoSaid : Prop := fnExactTurnTemplateUptoRow.holds Try.pinned (OpenSpec.upto fnExactTurnTemplateSpec)

/-- 'laws.FnTemplates', WHERE WHAT IT READS IS OF BULK AT MOST 1048576: true; the input reads as it did. -/
def fnTemplatesUptoRow : OpenClaim := { program := "ytpndghkfbojokaa", sum := "e283521f6115649d5939034bbedf3c7b884d6a217f12edf0781441ad8b29e39b", func := "loop.example/g00914/laws.FnTemplates", spec := "fnTemplates", unfollowed := true, recurses := true, apart := false, narrowed := true }
def FnTemplatesUptoSaid : Prop := fnTemplatesUptoRow.holds Try.pinned (OpenSpec.upto fnTemplatesSpec)

end Rows
end Go.Proofs.Ytpndghkfbojokaa
