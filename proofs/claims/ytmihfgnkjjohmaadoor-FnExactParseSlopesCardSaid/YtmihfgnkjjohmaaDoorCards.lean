/-
  DERIVED. GIVEN WITH THE SEED: THE CARDS: each row of YtmihfgnkjjohmaaDoorRows.lean that lists a variable, with what it lists TIED to the program's text (the seventh form; the later family's looks); each row that meets fmt, with fmt's text TOLD by the authors' own Lean function (tested against real Go, not proved from fmt's source: count such statements apart). THE CARD IS WHAT COUNTS. Prove the row's statement (the work); the ties are given (YtmihfgnkjjohmaaDoorTie.lean); close each card by the builder's one call (the guide's Derived/Test/ToyasCard.lean, 'card_holds'). Laid BY PROGRAM, IN A SANDBOX (cutbox-door.mjs). By AI agents, Wed Nov 11 2026. No macro, syntax, notation, axiom, sorry.
-/
import Derived.Test.YtmihfgnkjjohmaaDoorRows
import GoSem.ClaimSeven
namespace Go.Proofs.YtmihfgnkjjohmaaDoor
namespace Rows

/-- THE TIED CARD OF 'laws.FnExactSlopesText'. -/
def fnExactSlopesTextCard : Claim7 := { stood := { row := fnExactSlopesTextRow, standIns := [], harness := (true, "9c7a84a3aa315ad60ebb3ba50c33a589e11ca6a170cc691f5e701e6579a8509d"), looks := false }, kinds := [], alts := [], laidByText := true, laidKinds := [.data, .data, .data], laidTests := true, laidLooks := .later }
def FnExactSlopesTextCardSaid : Prop := Claim7.holds Tryd.pinned (.plain (OpenSpec.ofChange fnExactSlopesTextSpec)) fnExactSlopesTextCard

/-- THE TIED CARD OF 'laws.FnExactParseSlopes'. -/
def fnExactParseSlopesCard : Claim7 := { stood := { row := fnExactParseSlopesRow, standIns := [], harness := (true, "9c7a84a3aa315ad60ebb3ba50c33a589e11ca6a170cc691f5e701e6579a8509d"), looks := false }, kinds := [], alts := [], laidByText := true, laidKinds := [.data, .pinned], laidTests := true, laidLooks := .later }
def FnExactParseSlopesCardSaid : Prop := Claim7.holds Tryd.pinned (.plain (OpenSpec.ofChange fnExactParseSlopesSpec)) fnExactParseSlopesCard

/-- THE SECOND FORM's CARD OF 'laws.FnExactSlopesText'. -/
def fnExactSlopesTextUptoCard : Claim7 := { stood := { row := fnExactSlopesTextUptoRow, standIns := [], harness := (true, "9c7a84a3aa315ad60ebb3ba50c33a589e11ca6a170cc691f5e701e6579a8509d"), looks := false }, kinds := [], alts := [], laidByText := true, laidKinds := [.data, .data, .data], laidTests := true, laidLooks := .later }
def FnExactSlopesTextUptoCardSaid : Prop := Claim7.holds Tryd.pinned (.plain (OpenSpec.upto fnExactSlopesTextSpec)) fnExactSlopesTextUptoCard

/-- THE SECOND FORM's CARD OF 'laws.FnExactParseSlopes'. -/
def fnExactParseSlopesUptoCard : Claim7 := { stood := { row := fnExactParseSlopesUptoRow, standIns := [], harness := (true, "9c7a84a3aa315ad60ebb3ba50c33a589e11ca6a170cc691f5e701e6579a8509d"), looks := false }, kinds := [], alts := [], laidByText := true, laidKinds := [.data, .pinned], laidTests := true, laidLooks := .later }
def FnExactParseSlopesUptoCardSaid : Prop := Claim7.holds Tryd.pinned (.plain (OpenSpec.upto fnExactParseSlopesSpec)) fnExactParseSlopesUptoCard
end Rows
end Go.Proofs.YtmihfgnkjjohmaaDoor
