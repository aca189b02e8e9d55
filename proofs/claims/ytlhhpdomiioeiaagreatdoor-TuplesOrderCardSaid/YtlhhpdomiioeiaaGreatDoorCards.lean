/-
  DERIVED. GIVEN WITH THE SEED: THE CARDS: each row of YtlhhpdomiioeiaaGreatDoorRows.lean that lists a variable, with what it lists TIED to the program's text (the seventh form; the later family's looks); each row that meets fmt, with fmt's text TOLD by the authors' own Lean function (tested against real Go, not proved from fmt's source: count such statements apart). THE CARD IS WHAT COUNTS. Prove the row's statement (the work); the ties are given (YtlhhpdomiioeiaaGreatDoorTie.lean); close each card by the builder's one call (the guide's Derived/Test/ToyasCard.lean, 'card_holds'). Laid BY PROGRAM, IN A SANDBOX (cutbox-door.mjs). By AI agents, Wed Nov 11 2026. No macro, syntax, notation, axiom, sorry.
-/
import Derived.Test.YtlhhpdomiioeiaaGreatDoorRows
import GoSem.ClaimSeven
namespace Go.Proofs.YtlhhpdomiioeiaaGreatDoor
namespace Rows

/-- THE TIED CARD OF 'latchkeylaw10.TuplesParts'. -/
def tuplesPartsCard : Claim7 := { stood := { row := tuplesPartsRow, standIns := [], harness := (true, "52859dbe2b2ad282ce767958b604bdf605bd5f4d044d9f5e5f393c064a86cfed"), looks := true }, kinds := [], alts := [], laidByText := true, laidKinds := [.data, .data, .widerDeep, .widerDeep, .data, .data, .data, .data, .data, .data, .sentinel, .sentinel, .pinned, .pinned, .pinned], laidTests := true, laidLooks := .later }
def TuplesPartsCardSaid : Prop := Claim7.holds Tryz.pinned (.plain (OpenSpec.ofChange tuplesPartsSpec)) tuplesPartsCard

/-- THE TIED CARD OF 'latchkeylaw10.TuplesOrder'. -/
def tuplesOrderCard : Claim7 := { stood := { row := tuplesOrderRow, standIns := [], harness := (true, "52859dbe2b2ad282ce767958b604bdf605bd5f4d044d9f5e5f393c064a86cfed"), looks := true }, kinds := [], alts := [], laidByText := true, laidKinds := [.data, .data, .widerDeep, .widerDeep, .data, .data, .data, .data, .data, .data, .sentinel, .sentinel, .pinned, .pinned, .pinned], laidTests := true, laidLooks := .later }
def TuplesOrderCardSaid : Prop := Claim7.holds Tryz.pinned (.plain (OpenSpec.ofChange tuplesOrderSpec)) tuplesOrderCard

/-- THE SECOND FORM's CARD OF 'latchkeylaw10.TuplesParts'. -/
def tuplesPartsUptoCard : Claim7 := { stood := { row := tuplesPartsUptoRow, standIns := [], harness := (true, "52859dbe2b2ad282ce767958b604bdf605bd5f4d044d9f5e5f393c064a86cfed"), looks := true }, kinds := [], alts := [], laidByText := true, laidKinds := [.data, .data, .widerDeep, .widerDeep, .data, .data, .data, .data, .data, .data, .sentinel, .sentinel, .pinned, .pinned, .pinned], laidTests := true, laidLooks := .later }
def TuplesPartsUptoCardSaid : Prop := Claim7.holds Tryz.pinned (.plain (OpenSpec.upto tuplesPartsSpec)) tuplesPartsUptoCard

/-- THE SECOND FORM's CARD OF 'latchkeylaw10.TuplesOrder'. -/
def tuplesOrderUptoCard : Claim7 := { stood := { row := tuplesOrderUptoRow, standIns := [], harness := (true, "52859dbe2b2ad282ce767958b604bdf605bd5f4d044d9f5e5f393c064a86cfed"), looks := true }, kinds := [], alts := [], laidByText := true, laidKinds := [.data, .data, .widerDeep, .widerDeep, .data, .data, .data, .data, .data, .data, .sentinel, .sentinel, .pinned, .pinned, .pinned], laidTests := true, laidLooks := .later }
def TuplesOrderUptoCardSaid : Prop := Claim7.holds Tryz.pinned (.plain (OpenSpec.upto tuplesOrderSpec)) tuplesOrderUptoCard
end Rows
end Go.Proofs.YtlhhpdomiioeiaaGreatDoor
