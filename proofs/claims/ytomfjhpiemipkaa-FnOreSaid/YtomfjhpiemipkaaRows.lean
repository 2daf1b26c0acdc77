/-
  No cell of these rows narrows 'for every input' (looked for: loops, veiled, ifaces, maps, wideKeys, modest, calm, conditions, laid).
  DERIVED. THE GIVEN ROWS OF THIS SEAT. 11 by the template 'for every input the law returns true; each argument reads behind the call as it read before'; 0 by the template 'total and deterministic' (their statements: YtomfjhpiemipkaaTotals.lean).
  GIVEN WITH THE SEED: the statements are not yours to turn. If you find one false, say at which input.
  Laid BY PROGRAM, IN A SANDBOX (cutbox-rows.mjs): the forced cells as the released guide's own fill.sh prints them over the translation 1cb28376ce69a036… (all of the seat's roots in one cut). By AI agents, Wed Nov 11 2026. No macro, syntax, notation, axiom, sorry.
-/
import Derived.Test.YtomfjhpiemipkaaChecked
import GoSem.Claim
import GoSem.ClaimJoined
import GoSem.ClaimMapViews
import Derived.JoinedTies
import Derived.KernelRfl
namespace Go.Proofs.Ytomfjhpiemipkaa
/- THE CELL 'sum', in the pinned program and in every row, IS THE sha256 OF THE DUMP (.gsa) THAT YtomfjhpiemipkaaProg.lean LOADS. Nothing in Lean hashes anything: it is a label: what it is worth is what the hold of that sum in a sandbox is worth. -/
noncomputable def Try.pinned : Pinned := { name := "ytomfjhpiemipkaa", sum := "1cb28376ce69a036543e6d72551fafc1ef60f7c9b26700422e4fa1e0ab56c68e", checked := Try.checked }
namespace Rows
def none {H : Type} : Left H := { results := [], args := [] }

/-- 'laws.FnExactPriceValue': WHATEVER THE INPUT: true; the input reads as it did. -/
def fnExactPriceValueSpec : ChangeSpec := { name := "fnExactPriceValue", fn := fun _ => fun
  | [d1, d2, d3] => { results := [.lit (.bool true)], args := [d1, d2, d3] }
  | _ => none }
def fnExactPriceValueRow : OpenClaim := { program := "ytomfjhpiemipkaa", sum := "1cb28376ce69a036543e6d72551fafc1ef60f7c9b26700422e4fa1e0ab56c68e", func := "loop.example/g00914/laws.FnExactPriceValue", spec := "fnExactPriceValue", apart := false }
def FnExactPriceValueSaid : Prop := fnExactPriceValueRow.holds Try.pinned (OpenSpec.ofChange fnExactPriceValueSpec)

/-- ITS FALSE NEIGHBOUR: 'it returns false'. Refute it at one input. -/
def fnExactPriceValueWrong : ChangeSpec := { name := "fnExactPriceValue", fn := fun _ => fun
  | [d1, d2, d3] => { results := [.lit (.bool false)], args := [d1, d2, d3] }
  | _ => none }
def FnExactPriceValueWrongFalsely : Prop := fnExactPriceValueRow.holds Try.pinned (OpenSpec.ofChange fnExactPriceValueWrong)

/-- 'laws.FnExactStripRatio': WHATEVER THE INPUT: true; the input reads as it did. -/
def fnExactStripRatioSpec : ChangeSpec := { name := "fnExactStripRatio", fn := fun _ => fun
  | [d1, d2, d3] => { results := [.lit (.bool true)], args := [d1, d2, d3] }
  | _ => none }
def fnExactStripRatioRow : OpenClaim := { program := "ytomfjhpiemipkaa", sum := "1cb28376ce69a036543e6d72551fafc1ef60f7c9b26700422e4fa1e0ab56c68e", func := "loop.example/g00914/laws.FnExactStripRatio", spec := "fnExactStripRatio", apart := false }
def FnExactStripRatioSaid : Prop := fnExactStripRatioRow.holds Try.pinned (OpenSpec.ofChange fnExactStripRatioSpec)

/-- ITS FALSE NEIGHBOUR: 'it returns false'. Refute it at one input. -/
def fnExactStripRatioWrong : ChangeSpec := { name := "fnExactStripRatio", fn := fun _ => fun
  | [d1, d2, d3] => { results := [.lit (.bool false)], args := [d1, d2, d3] }
  | _ => none }
def FnExactStripRatioWrongFalsely : Prop := fnExactStripRatioRow.holds Try.pinned (OpenSpec.ofChange fnExactStripRatioWrong)

/-- 'laws.FnExactPriceValues': WHATEVER THE INPUT: true; the input reads as it did. -/
def fnExactPriceValuesSpec : ChangeSpec := { name := "fnExactPriceValues", fn := fun _ => fun
  | [d1, d2] => { results := [.lit (.bool true)], args := [d1, d2] }
  | _ => none }
def fnExactPriceValuesRow : OpenClaim := { program := "ytomfjhpiemipkaa", sum := "1cb28376ce69a036543e6d72551fafc1ef60f7c9b26700422e4fa1e0ab56c68e", func := "loop.example/g00914/laws.FnExactPriceValues", spec := "fnExactPriceValues", apart := false }
def FnExactPriceValuesSaid : Prop := fnExactPriceValuesRow.holds Try.pinned (OpenSpec.ofChange fnExactPriceValuesSpec)

/-- ITS FALSE NEIGHBOUR: 'it returns false'. Refute it at one input. -/
def fnExactPriceValuesWrong : ChangeSpec := { name := "fnExactPriceValues", fn := fun _ => fun
  | [d1, d2] => { results := [.lit (.bool false)], args := [d1, d2] }
  | _ => none }
def FnExactPriceValuesWrongFalsely : Prop := fnExactPriceValuesRow.holds Try.pinned (OpenSpec.ofChange fnExactPriceValuesWrong)

/-- 'laws.FnExactHalfSlopes': WHATEVER THE INPUT: true; the input reads as it did. -/
def fnExactHalfSlopesSpec : ChangeSpec := { name := "fnExactHalfSlopes", fn := fun _ => fun
  | [d1, d2, d3] => { results := [.lit (.bool true)], args := [d1, d2, d3] }
  | _ => none }
def fnExactHalfSlopesRow : OpenClaim := { program := "ytomfjhpiemipkaa", sum := "1cb28376ce69a036543e6d72551fafc1ef60f7c9b26700422e4fa1e0ab56c68e", func := "loop.example/g00914/laws.FnExactHalfSlopes", spec := "fnExactHalfSlopes", apart := false }
def FnExactHalfSlopesSaid : Prop := fnExactHalfSlopesRow.holds Try.pinned (OpenSpec.ofChange fnExactHalfSlopesSpec)

/-- ITS FALSE NEIGHBOUR: 'it returns false'. Refute it at one input. -/
def fnExactHalfSlopesWrong : ChangeSpec := { name := "fnExactHalfSlopes", fn := fun _ => fun
  | [d1, d2, d3] => { results := [.lit (.bool false)], args := [d1, d2, d3] }
  | _ => none }
def FnExactHalfSlopesWrongFalsely : Prop := fnExactHalfSlopesRow.holds Try.pinned (OpenSpec.ofChange fnExactHalfSlopesWrong)

/-- 'laws.FnExactAreSlopes': WHATEVER THE INPUT: true; the input reads as it did. -/
def fnExactAreSlopesSpec : ChangeSpec := { name := "fnExactAreSlopes", fn := fun _ => fun
  | [d1, d2] => { results := [.lit (.bool true)], args := [d1, d2] }
  | _ => none }
def fnExactAreSlopesRow : OpenClaim := { program := "ytomfjhpiemipkaa", sum := "1cb28376ce69a036543e6d72551fafc1ef60f7c9b26700422e4fa1e0ab56c68e", func := "loop.example/g00914/laws.FnExactAreSlopes", spec := "fnExactAreSlopes", apart := false }
def FnExactAreSlopesSaid : Prop := fnExactAreSlopesRow.holds Try.pinned (OpenSpec.ofChange fnExactAreSlopesSpec)

/-- ITS FALSE NEIGHBOUR: 'it returns false'. Refute it at one input. -/
def fnExactAreSlopesWrong : ChangeSpec := { name := "fnExactAreSlopes", fn := fun _ => fun
  | [d1, d2] => { results := [.lit (.bool false)], args := [d1, d2] }
  | _ => none }
def FnExactAreSlopesWrongFalsely : Prop := fnExactAreSlopesRow.holds Try.pinned (OpenSpec.ofChange fnExactAreSlopesWrong)

/-- 'laws.FnExactRuleValue': WHATEVER THE INPUT: true; the input reads as it did. -/
def fnExactRuleValueSpec : ChangeSpec := { name := "fnExactRuleValue", fn := fun _ => fun
  | [d1, d2, d3] => { results := [.lit (.bool true)], args := [d1, d2, d3] }
  | _ => none }
def fnExactRuleValueRow : OpenClaim := { program := "ytomfjhpiemipkaa", sum := "1cb28376ce69a036543e6d72551fafc1ef60f7c9b26700422e4fa1e0ab56c68e", func := "loop.example/g00914/laws.FnExactRuleValue", spec := "fnExactRuleValue", recurses := true, apart := false }
def FnExactRuleValueSaid : Prop := fnExactRuleValueRow.holds Try.pinned (OpenSpec.ofChange fnExactRuleValueSpec)

/-- ITS FALSE NEIGHBOUR: 'it returns false'. Refute it at one input. -/
def fnExactRuleValueWrong : ChangeSpec := { name := "fnExactRuleValue", fn := fun _ => fun
  | [d1, d2, d3] => { results := [.lit (.bool false)], args := [d1, d2, d3] }
  | _ => none }
def FnExactRuleValueWrongFalsely : Prop := fnExactRuleValueRow.holds Try.pinned (OpenSpec.ofChange fnExactRuleValueWrong)

/-- 'laws.FnExactRuleValues': WHATEVER THE INPUT: true; the input reads as it did. -/
def fnExactRuleValuesSpec : ChangeSpec := { name := "fnExactRuleValues", fn := fun _ => fun
  | [d1, d2] => { results := [.lit (.bool true)], args := [d1, d2] }
  | _ => none }
def fnExactRuleValuesRow : OpenClaim := { program := "ytomfjhpiemipkaa", sum := "1cb28376ce69a036543e6d72551fafc1ef60f7c9b26700422e4fa1e0ab56c68e", func := "loop.example/g00914/laws.FnExactRuleValues", spec := "fnExactRuleValues", recurses := true, apart := false }
def FnExactRuleValuesSaid : Prop := fnExactRuleValuesRow.holds Try.pinned (OpenSpec.ofChange fnExactRuleValuesSpec)

/-- ITS FALSE NEIGHBOUR: 'it returns false'. Refute it at one input. -/
def fnExactRuleValuesWrong : ChangeSpec := { name := "fnExactRuleValues", fn := fun _ => fun
  | [d1, d2] => { results := [.lit (.bool false)], args := [d1, d2] }
  | _ => none }
def FnExactRuleValuesWrongFalsely : Prop := fnExactRuleValuesRow.holds Try.pinned (OpenSpec.ofChange fnExactRuleValuesWrong)

/-- 'laws.FnOre': WHATEVER THE INPUT: true; the input reads as it did. -/
def fnOreSpec : ChangeSpec := { name := "fnOre", fn := fun _ => fun
  | [d1, d2] => { results := [.lit (.bool true)], args := [d1, d2] }
  | _ => none }
def fnOreRow : OpenClaim := { program := "ytomfjhpiemipkaa", sum := "1cb28376ce69a036543e6d72551fafc1ef60f7c9b26700422e4fa1e0ab56c68e", func := "loop.example/g00914/laws.FnOre", spec := "fnOre", apart := false }
def FnOreSaid : Prop := fnOreRow.holds Try.pinned (OpenSpec.ofChange fnOreSpec)

/-- ITS FALSE NEIGHBOUR: 'it returns false'. Refute it at one input. -/
def fnOreWrong : ChangeSpec := { name := "fnOre", fn := fun _ => fun
  | [d1, d2] => { results := [.lit (.bool false)], args := [d1, d2] }
  | _ => none }
def FnOreWrongFalsely : Prop := fnOreRow.holds Try.pinned (OpenSpec.ofChange fnOreWrong)

/-- 'laws.FnEdges': WHATEVER THE INPUT: true; the input reads as it did. -/
def fnEdgesSpec : ChangeSpec := { name := "fnEdges", fn := fun _ => fun
  | [d1, d2] => { results := [.lit (.bool true)], args := [d1, d2] }
  | _ => none }
def fnEdgesRow : OpenClaim := { program := "ytomfjhpiemipkaa", sum := "1cb28376ce69a036543e6d72551fafc1ef60f7c9b26700422e4fa1e0ab56c68e", func := "loop.example/g00914/laws.FnEdges", spec := "fnEdges", recurses := true, apart := false }
def FnEdgesSaid : Prop := fnEdgesRow.holds Try.pinned (OpenSpec.ofChange fnEdgesSpec)

/-- ITS FALSE NEIGHBOUR: 'it returns false'. Refute it at one input. -/
def fnEdgesWrong : ChangeSpec := { name := "fnEdges", fn := fun _ => fun
  | [d1, d2] => { results := [.lit (.bool false)], args := [d1, d2] }
  | _ => none }
def FnEdgesWrongFalsely : Prop := fnEdgesRow.holds Try.pinned (OpenSpec.ofChange fnEdgesWrong)

/-- 'laws.FnFlowValues': WHATEVER THE INPUT: true; the input reads as it did. -/
def fnFlowValuesSpec : ChangeSpec := { name := "fnFlowValues", fn := fun _ => fun
  | [d1, d2] => { results := [.lit (.bool true)], args := [d1, d2] }
  | _ => none }
def fnFlowValuesRow : OpenClaim := { program := "ytomfjhpiemipkaa", sum := "1cb28376ce69a036543e6d72551fafc1ef60f7c9b26700422e4fa1e0ab56c68e", func := "loop.example/g00914/laws.FnFlowValues", spec := "fnFlowValues", recurses := true, apart := false }
def FnFlowValuesSaid : Prop := fnFlowValuesRow.holds Try.pinned (OpenSpec.ofChange fnFlowValuesSpec)

/-- ITS FALSE NEIGHBOUR: 'it returns false'. Refute it at one input. -/
def fnFlowValuesWrong : ChangeSpec := { name := "fnFlowValues", fn := fun _ => fun
  | [d1, d2] => { results := [.lit (.bool false)], args := [d1, d2] }
  | _ => none }
def FnFlowValuesWrongFalsely : Prop := fnFlowValuesRow.holds Try.pinned (OpenSpec.ofChange fnFlowValuesWrong)

/-- 'laws.FnMoney': WHATEVER THE INPUT: true; the input reads as it did. -/
def fnMoneySpec : ChangeSpec := { name := "fnMoney", fn := fun _ => fun
  | [d1, d2] => { results := [.lit (.bool true)], args := [d1, d2] }
  | _ => none }
def fnMoneyRow : OpenClaim := { program := "ytomfjhpiemipkaa", sum := "1cb28376ce69a036543e6d72551fafc1ef60f7c9b26700422e4fa1e0ab56c68e", func := "loop.example/g00914/laws.FnMoney", spec := "fnMoney", recurses := true, apart := false }
def FnMoneySaid : Prop := fnMoneyRow.holds Try.pinned (OpenSpec.ofChange fnMoneySpec)

/-- ITS FALSE NEIGHBOUR: 'it returns false'. Refute it at one input. -/
def fnMoneyWrong : ChangeSpec := { name := "fnMoney", fn := fun _ => fun
  | [d1, d2] => { results := [.lit (.bool false)], args := [d1, d2] }
  | _ => none }
def FnMoneyWrongFalsely : Prop := fnMoneyRow.holds Try.pinned (OpenSpec.ofChange fnMoneyWrong)

/- THE SECOND FORM. 'bulk': how many values and letters a reading holds, each counted each time it is reached (what is shared counts as often as it is met; a slice's spare places count too). A statement '..UptoSaid' is the law's where the arguments, and the package variables that the reading takes, are together of bulk at most 1048576: NARROWER than '..Said'. Prove '..Said' where nothing that the law and all that it calls make is longer than what came in: it says more and counts as full. Else prove '..UptoSaid'. A law counts once. -/
mutual
def uptoBulk {H : Type} : DataW H → Nat
  | .lit (.string bytes) => bytes.length + 1
  | .lit _ => 1
  | .nil => 1
  | .ptr d => uptoBulk d + 1
  | .slice elems spare => uptoBulkAll elems + uptoBulkAll spare + 1
  | .agg parts => uptoBulkAll parts + 1
  | .iface _ d => uptoBulk d + 1
  | .map entries => uptoBulkEntries entries + 1
  | .held _ => 1
def uptoBulkAll {H : Type} : List (DataW H) → Nat
  | [] => 0
  | d :: r => uptoBulk d + uptoBulkAll r
def uptoBulkEntries {H : Type} : List (Lit × DataW H) → Nat
  | [] => 0
  | x :: r => uptoBulkEntry x + uptoBulkEntries r
def uptoBulkEntry {H : Type} : Lit × DataW H → Nat
  | (.string bytes, d) => bytes.length + uptoBulk d + 1
  | (_, d) => uptoBulk d + 1
 end
def uptoSmall : (H : Type) → List (DataW H) → Bool := fun _ ds => decide (uptoBulkAll ds ≤ 1048576)
def OpenSpec.upto (s : _root_.Go.ChangeSpec) : _root_.Go.OpenSpec := { _root_.Go.OpenSpec.ofChange s with cond := some uptoSmall }

/-- 'laws.FnExactPriceValue', WHERE WHAT IT READS IS OF BULK AT MOST 1048576: true; the input reads as it did. -/
def fnExactPriceValueUptoRow : OpenClaim := { program := "ytomfjhpiemipkaa", sum := "1cb28376ce69a036543e6d72551fafc1ef60f7c9b26700422e4fa1e0ab56c68e", func := "loop.example/g00914/laws.FnExactPriceValue", spec := "fnExactPriceValue", apart := false, narrowed := true }
def FnExactPriceValueUptoSaid : Prop := fnExactPriceValueUptoRow.holds Try.pinned (OpenSpec.upto fnExactPriceValueSpec)

/-- 'laws.FnExactStripRatio', WHERE WHAT IT READS IS OF BULK AT MOST 1048576: true; the input reads as it did. -/
def fnExactStripRatioUptoRow : OpenClaim := { program := "ytomfjhpiemipkaa", sum := "1cb28376ce69a036543e6d72551fafc1ef60f7c9b26700422e4fa1e0ab56c68e", func := "loop.example/g00914/laws.FnExactStripRatio", spec := "fnExactStripRatio", apart := false, narrowed := true }
def FnExactStripRatioUptoSaid : Prop := fnExactStripRatioUptoRow.holds Try.pinned (OpenSpec.upto fnExactStripRatioSpec)

/-- 'laws.FnExactPriceValues', WHERE WHAT IT READS IS OF BULK AT MOST 1048576: true; the input reads as it did. -/
def fnExactPriceValuesUptoRow : OpenClaim := { program := "ytomfjhpiemipkaa", sum := "1cb28376ce69a036543e6d72551fafc1ef60f7c9b26700422e4fa1e0ab56c68e", func := "loop.example/g00914/laws.FnExactPriceValues", spec := "fnExactPriceValues", apart := false, narrowed := true }
def FnExactPriceValuesUptoSaid : Prop := fnExactPriceValuesUptoRow.holds Try.pinned (OpenSpec.upto fnExactPriceValuesSpec)

/-- 'laws.FnExactHalfSlopes', WHERE WHAT IT READS IS OF BULK AT MOST 1048576: true; the input reads as it did. -/
def fnExactHalfSlopesUptoRow : OpenClaim := { program := "ytomfjhpiemipkaa", sum := "1cb28376ce69a036543e6d72551fafc1ef60f7c9b26700422e4fa1e0ab56c68e", func := "loop.example/g00914/laws.FnExactHalfSlopes", spec := "fnExactHalfSlopes", apart := false, narrowed := true }
def FnExactHalfSlopesUptoSaid : Prop := fnExactHalfSlopesUptoRow.holds Try.pinned (OpenSpec.upto fnExactHalfSlopesSpec)

/-- 'laws.FnExactAreSlopes', WHERE WHAT IT READS IS OF BULK AT MOST 1048576: true; the input reads as it did. -/
def fnExactAreSlopesUptoRow : OpenClaim := { program := "ytomfjhpiemipkaa", sum := "1cb28376ce69a036543e6d72551fafc1ef60f7c9b26700422e4fa1e0ab56c68e", func := "loop.example/g00914/laws.FnExactAreSlopes", spec := "fnExactAreSlopes", apart := false, narrowed := true }
def FnExactAreSlopesUptoSaid : Prop := fnExactAreSlopesUptoRow.holds Try.pinned (OpenSpec.upto fnExactAreSlopesSpec)

/-- 'laws.FnExactRuleValue', WHERE WHAT IT READS IS OF BULK AT MOST 1048576: true; the input reads as it did. -/
def fnExactRuleValueUptoRow : OpenClaim := { program := "ytomfjhpiemipkaa", sum := "1cb28376ce69a036543e6d72551fafc1ef60f7c9b26700422e4fa1e0ab56c68e", func := "loop.example/g00914/laws.FnExactRuleValue", spec := "fnExactRuleValue", recurses := true, apart := false, narrowed := true }
def FnExactRuleValueUptoSaid : Prop := fnExactRuleValueUptoRow.holds Try.pinned (OpenSpec.upto fnExactRuleValueSpec)

/-- 'laws.FnExactRuleValues', WHERE WHAT IT READS IS OF BULK AT MOST 1048576: true; the input reads as it did. -/
def fnExactRuleValuesUptoRow : OpenClaim := { program := "ytomfjhpiemipkaa", sum := "1cb28376ce69a036543e6d72551fafc1ef60f7c9b26700422e4fa1e0ab56c68e", func := "loop.example/g00914/laws.FnExactRuleValues", spec := "fnExactRuleValues", recurses := true, apart := false, narrowed := true }
def FnExactRuleValuesUptoSaid : Prop := fnExactRuleValuesUptoRow.holds Try.pinned (OpenSpec.upto fnExactRuleValuesSpec)

/-- 'laws.FnOre', WHERE WHAT IT READS IS OF BULK AT MOST 1048576: true; the input reads as it did. -/
def fnOreUptoRow : OpenClaim := { program := "ytomfjhpiemipkaa", sum := "1cb28376ce69a036543e6d72551fafc1ef60f7c9b26700422e4fa1e0ab56c68e", func := "loop.example/g00914/laws.FnOre", spec := "fnOre", apart := false, narrowed := true }
def FnOreUptoSaid : Prop := fnOreUptoRow.holds Try.pinned (OpenSpec.upto fnOreSpec)

/-- 'laws.FnEdges', WHERE WHAT IT READS IS OF BULK AT MOST 1048576: true; the input reads as it did. -/
def fnEdgesUptoRow : OpenClaim := { program := "ytomfjhpiemipkaa", sum := "1cb28376ce69a036543e6d72551fafc1ef60f7c9b26700422e4fa1e0ab56c68e", func := "loop.example/g00914/laws.FnEdges", spec := "fnEdges", recurses := true, apart := false, narrowed := true }
def FnEdgesUptoSaid : Prop := fnEdgesUptoRow.holds Try.pinned (OpenSpec.upto fnEdgesSpec)

/-- 'laws.FnFlowValues', WHERE WHAT IT READS IS OF BULK AT MOST 1048576: true; the input reads as it did. -/
def fnFlowValuesUptoRow : OpenClaim := { program := "ytomfjhpiemipkaa", sum := "1cb28376ce69a036543e6d72551fafc1ef60f7c9b26700422e4fa1e0ab56c68e", func := "loop.example/g00914/laws.FnFlowValues", spec := "fnFlowValues", recurses := true, apart := false, narrowed := true }
def FnFlowValuesUptoSaid : Prop := fnFlowValuesUptoRow.holds Try.pinned (OpenSpec.upto fnFlowValuesSpec)

/-- 'laws.FnMoney', WHERE WHAT IT READS IS OF BULK AT MOST 1048576: true; the input reads as it did. -/
def fnMoneyUptoRow : OpenClaim := { program := "ytomfjhpiemipkaa", sum := "1cb28376ce69a036543e6d72551fafc1ef60f7c9b26700422e4fa1e0ab56c68e", func := "loop.example/g00914/laws.FnMoney", spec := "fnMoney", recurses := true, apart := false, narrowed := true }
def FnMoneyUptoSaid : Prop := fnMoneyUptoRow.holds Try.pinned (OpenSpec.upto fnMoneySpec)

end Rows
end Go.Proofs.Ytomfjhpiemipkaa
