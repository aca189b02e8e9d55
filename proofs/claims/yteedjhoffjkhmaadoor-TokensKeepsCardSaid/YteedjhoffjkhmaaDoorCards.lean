/-
  DERIVED. GIVEN WITH THE SEED: THE CARDS: each row of YteedjhoffjkhmaaDoorRows.lean that lists a variable, with what it lists TIED to the program's text (the seventh form; the later family's looks); each row that meets fmt, with fmt's text TOLD by the authors' own Lean function (tested against real Go, not proved from fmt's source: count such statements apart). THE CARD IS WHAT COUNTS. Prove the row's statement (the work); the ties are given (YteedjhoffjkhmaaDoorTie.lean); close each card by the builder's one call (the guide's Derived/Test/ToyasCard.lean, 'card_holds'). Laid BY PROGRAM, IN A SANDBOX (cutbox-door.mjs). By AI agents, Wed Nov 11 2026. No macro, syntax, notation, axiom, sorry.
-/
import Derived.Test.YteedjhoffjkhmaaDoorRows
import GoSem.ClaimSeven
namespace Go.Proofs.YteedjhoffjkhmaaDoor
namespace Rows

/-- THE TIED CARD OF 'latchkeylaw05.TokensScans'. -/
def tokensScansCard : Claim7 := { stood := { row := tokensScansRow, standIns := [], harness := (true, "5c8b3ef9060a9dffedc7b6bc2fe7f2ab1106b4b33293196a6edf04ad8fa42485"), looks := false }, kinds := [], alts := [], laidByText := true, laidKinds := [.data, .pinned], laidTests := true, laidLooks := .later }
def TokensScansCardSaid : Prop := Claim7.holds Tryd.pinned (.plain (OpenSpec.ofChange tokensScansSpec)) tokensScansCard

/-- THE TIED CARD OF 'latchkeylaw05.TokensPrints'. -/
def tokensPrintsCard : Claim7 := { stood := { row := tokensPrintsRow, standIns := [], harness := (true, "5c8b3ef9060a9dffedc7b6bc2fe7f2ab1106b4b33293196a6edf04ad8fa42485"), looks := false }, kinds := [], alts := [], laidByText := true, laidKinds := [.data, .pinned], laidTests := true, laidLooks := .later }
def TokensPrintsCardSaid : Prop := Claim7.holds Tryd.pinned (.plain (OpenSpec.ofChange tokensPrintsSpec)) tokensPrintsCard

/-- THE TIED CARD OF 'latchkeylaw05.TokensLimits'. -/
def tokensLimitsCard : Claim7 := { stood := { row := tokensLimitsRow, standIns := [], harness := (true, "5c8b3ef9060a9dffedc7b6bc2fe7f2ab1106b4b33293196a6edf04ad8fa42485"), looks := false }, kinds := [], alts := [], laidByText := true, laidKinds := [.data, .pinned], laidTests := true, laidLooks := .later }
def TokensLimitsCardSaid : Prop := Claim7.holds Tryd.pinned (.plain (OpenSpec.ofChange tokensLimitsSpec)) tokensLimitsCard

/-- THE TIED CARD OF 'latchkeylaw05.TokensThere'. -/
def tokensThereCard : Claim7 := { stood := { row := tokensThereRow, standIns := [], harness := (true, "5c8b3ef9060a9dffedc7b6bc2fe7f2ab1106b4b33293196a6edf04ad8fa42485"), looks := false }, kinds := [], alts := [], laidByText := true, laidKinds := [.data, .pinned], laidTests := true, laidLooks := .later }
def TokensThereCardSaid : Prop := Claim7.holds Tryd.pinned (.plain (OpenSpec.ofChange tokensThereSpec)) tokensThereCard

/-- THE TIED CARD OF 'latchkeylaw05.TokensBlanks'. -/
def tokensBlanksCard : Claim7 := { stood := { row := tokensBlanksRow, standIns := [], harness := (true, "5c8b3ef9060a9dffedc7b6bc2fe7f2ab1106b4b33293196a6edf04ad8fa42485"), looks := false }, kinds := [], alts := [], laidByText := true, laidKinds := [.data, .pinned], laidTests := true, laidLooks := .later }
def TokensBlanksCardSaid : Prop := Claim7.holds Tryd.pinned (.plain (OpenSpec.ofChange tokensBlanksSpec)) tokensBlanksCard

/-- THE TIED CARD OF 'latchkeylaw05.TokensBegins'. -/
def tokensBeginsCard : Claim7 := { stood := { row := tokensBeginsRow, standIns := [], harness := (true, "5c8b3ef9060a9dffedc7b6bc2fe7f2ab1106b4b33293196a6edf04ad8fa42485"), looks := false }, kinds := [], alts := [], laidByText := true, laidKinds := [.data, .pinned], laidTests := true, laidLooks := .later }
def TokensBeginsCardSaid : Prop := Claim7.holds Tryd.pinned (.plain (OpenSpec.ofChange tokensBeginsSpec)) tokensBeginsCard

/-- THE TIED CARD OF 'latchkeylaw05.TokensKeeps'. -/
def tokensKeepsCard : Claim7 := { stood := { row := tokensKeepsRow, standIns := [], harness := (true, "5c8b3ef9060a9dffedc7b6bc2fe7f2ab1106b4b33293196a6edf04ad8fa42485"), looks := false }, kinds := [], alts := [], laidByText := true, laidKinds := [.data, .pinned], laidTests := true, laidLooks := .later }
def TokensKeepsCardSaid : Prop := Claim7.holds Tryd.pinned (.plain (OpenSpec.ofChange tokensKeepsSpec)) tokensKeepsCard

/-- THE SECOND FORM's CARD OF 'latchkeylaw05.TokensScans'. -/
def tokensScansUptoCard : Claim7 := { stood := { row := tokensScansUptoRow, standIns := [], harness := (true, "5c8b3ef9060a9dffedc7b6bc2fe7f2ab1106b4b33293196a6edf04ad8fa42485"), looks := false }, kinds := [], alts := [], laidByText := true, laidKinds := [.data, .pinned], laidTests := true, laidLooks := .later }
def TokensScansUptoCardSaid : Prop := Claim7.holds Tryd.pinned (.plain (OpenSpec.upto tokensScansSpec)) tokensScansUptoCard

/-- THE SECOND FORM's CARD OF 'latchkeylaw05.TokensPrints'. -/
def tokensPrintsUptoCard : Claim7 := { stood := { row := tokensPrintsUptoRow, standIns := [], harness := (true, "5c8b3ef9060a9dffedc7b6bc2fe7f2ab1106b4b33293196a6edf04ad8fa42485"), looks := false }, kinds := [], alts := [], laidByText := true, laidKinds := [.data, .pinned], laidTests := true, laidLooks := .later }
def TokensPrintsUptoCardSaid : Prop := Claim7.holds Tryd.pinned (.plain (OpenSpec.upto tokensPrintsSpec)) tokensPrintsUptoCard

/-- THE SECOND FORM's CARD OF 'latchkeylaw05.TokensLimits'. -/
def tokensLimitsUptoCard : Claim7 := { stood := { row := tokensLimitsUptoRow, standIns := [], harness := (true, "5c8b3ef9060a9dffedc7b6bc2fe7f2ab1106b4b33293196a6edf04ad8fa42485"), looks := false }, kinds := [], alts := [], laidByText := true, laidKinds := [.data, .pinned], laidTests := true, laidLooks := .later }
def TokensLimitsUptoCardSaid : Prop := Claim7.holds Tryd.pinned (.plain (OpenSpec.upto tokensLimitsSpec)) tokensLimitsUptoCard

/-- THE SECOND FORM's CARD OF 'latchkeylaw05.TokensThere'. -/
def tokensThereUptoCard : Claim7 := { stood := { row := tokensThereUptoRow, standIns := [], harness := (true, "5c8b3ef9060a9dffedc7b6bc2fe7f2ab1106b4b33293196a6edf04ad8fa42485"), looks := false }, kinds := [], alts := [], laidByText := true, laidKinds := [.data, .pinned], laidTests := true, laidLooks := .later }
def TokensThereUptoCardSaid : Prop := Claim7.holds Tryd.pinned (.plain (OpenSpec.upto tokensThereSpec)) tokensThereUptoCard

/-- THE SECOND FORM's CARD OF 'latchkeylaw05.TokensBlanks'. -/
def tokensBlanksUptoCard : Claim7 := { stood := { row := tokensBlanksUptoRow, standIns := [], harness := (true, "5c8b3ef9060a9dffedc7b6bc2fe7f2ab1106b4b33293196a6edf04ad8fa42485"), looks := false }, kinds := [], alts := [], laidByText := true, laidKinds := [.data, .pinned], laidTests := true, laidLooks := .later }
def TokensBlanksUptoCardSaid : Prop := Claim7.holds Tryd.pinned (.plain (OpenSpec.upto tokensBlanksSpec)) tokensBlanksUptoCard

/-- THE SECOND FORM's CARD OF 'latchkeylaw05.TokensBegins'. -/
def tokensBeginsUptoCard : Claim7 := { stood := { row := tokensBeginsUptoRow, standIns := [], harness := (true, "5c8b3ef9060a9dffedc7b6bc2fe7f2ab1106b4b33293196a6edf04ad8fa42485"), looks := false }, kinds := [], alts := [], laidByText := true, laidKinds := [.data, .pinned], laidTests := true, laidLooks := .later }
def TokensBeginsUptoCardSaid : Prop := Claim7.holds Tryd.pinned (.plain (OpenSpec.upto tokensBeginsSpec)) tokensBeginsUptoCard

/-- THE SECOND FORM's CARD OF 'latchkeylaw05.TokensKeeps'. -/
def tokensKeepsUptoCard : Claim7 := { stood := { row := tokensKeepsUptoRow, standIns := [], harness := (true, "5c8b3ef9060a9dffedc7b6bc2fe7f2ab1106b4b33293196a6edf04ad8fa42485"), looks := false }, kinds := [], alts := [], laidByText := true, laidKinds := [.data, .pinned], laidTests := true, laidLooks := .later }
def TokensKeepsUptoCardSaid : Prop := Claim7.holds Tryd.pinned (.plain (OpenSpec.upto tokensKeepsSpec)) tokensKeepsUptoCard
end Rows
end Go.Proofs.YteedjhoffjkhmaaDoor
