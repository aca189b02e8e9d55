/-
  NARROWER THAN 'FOR EVERY INPUT', by the rows' own cells (each row's printed sentence says how): TokensScans: laid · TokensPrints: laid · TokensLimits: laid · TokensThere: laid · TokensBlanks: laid · TokensBegins: laid · TokensKeeps: laid.
  DERIVED. THE GIVEN ROWS OF THIS SEAT. 7 by the template 'for every input the law returns true; each argument reads behind the call as it read before'; 0 by the template 'total and deterministic' (their statements: YteedjhoffjkhmaaDoorTotals.lean).
  GIVEN WITH THE SEED: the statements are not yours to turn. If you find one false, say at which input.
  Laid BY PROGRAM, IN A SANDBOX (cutbox-rows.mjs): the forced cells as the released guide's own fill.sh prints them over the translation 789cc8c4a2e59ee0… (all of the seat's roots in one cut). By AI agents, Wed Nov 11 2026. No macro, syntax, notation, axiom, sorry.
-/
import Derived.Test.YteedjhoffjkhmaaDoorChecked
import GoSem.PinnedTables
import GoSem.Claim
import GoSem.ClaimJoined
import GoSem.ClaimMapViews
import Derived.JoinedTies
import Derived.KernelRfl
namespace Go.Proofs.YteedjhoffjkhmaaDoor
/- THE CELL 'sum', in the pinned program and in every row, IS THE sha256 OF THE DUMP (.gsa) THAT YteedjhoffjkhmaaDoorProg.lean LOADS. Nothing in Lean hashes anything: it is a label: what it is worth is what the hold of that sum in a sandbox is worth. -/
noncomputable def Tryd.pinned : Pinned := { name := "yteedjhoffjkhmaadoor", sum := "789cc8c4a2e59ee08cf39b360d8921ff2d3096a56096facb7ed628dcbb0ccd4b", checked := Tryd.checked }
namespace Rows
def none {H : Type} : Left H := { results := [], args := [] }

/- WHAT THE LISTED PACKAGE-LEVEL VARIABLES READ AS WHEN THE CALL BEGINS. Each datum BY PROGRAM (the guide's laid-datum.mjs) off the statement by which the dump's own 'gosem.cut.vars' lays the variable. In a bare row this is a premise. The card (YteedjhoffjkhmaaDoorCards.lean) ties it to the program's text. -/
def laid_unicode_utf8_acceptRanges {H : Type} : DataW H := .agg [.agg [.lit (.int .u8 128), .lit (.int .u8 191)], .agg [.lit (.int .u8 160), .lit (.int .u8 191)], .agg [.lit (.int .u8 128), .lit (.int .u8 159)], .agg [.lit (.int .u8 144), .lit (.int .u8 191)], .agg [.lit (.int .u8 128), .lit (.int .u8 143)], .agg [.lit (.int .u8 0), .lit (.int .u8 0)], .agg [.lit (.int .u8 0), .lit (.int .u8 0)], .agg [.lit (.int .u8 0), .lit (.int .u8 0)], .agg [.lit (.int .u8 0), .lit (.int .u8 0)], .agg [.lit (.int .u8 0), .lit (.int .u8 0)], .agg [.lit (.int .u8 0), .lit (.int .u8 0)], .agg [.lit (.int .u8 0), .lit (.int .u8 0)], .agg [.lit (.int .u8 0), .lit (.int .u8 0)], .agg [.lit (.int .u8 0), .lit (.int .u8 0)], .agg [.lit (.int .u8 0), .lit (.int .u8 0)], .agg [.lit (.int .u8 0), .lit (.int .u8 0)]]
/-- One of Go's own tables, pinned by name: the form's constant. -/
def laid_unicode_utf8_first : DataW Unit := Go.Pinned.utf8First

/-- 'latchkeylaw05.TokensScans': WHATEVER THE INPUT: true; the input reads as it did. -/
def tokensScansSpec : ChangeSpec := { name := "tokensScans", fn := fun _ => fun
  | [d] => { results := [.lit (.bool true)], args := [d] }
  | _ => none }
def tokensScansRow : OpenClaim := { program := "yteedjhoffjkhmaadoor", sum := "789cc8c4a2e59ee08cf39b360d8921ff2d3096a56096facb7ed628dcbb0ccd4b", func := "latchkey/latchkeylaw05.TokensScans", spec := "tokensScans", inPlace := ["internal/bytealg.IndexByteString"], named := ["unicode/utf8.first", "unicode/utf8.acceptRanges"], apart := false, laid := [("unicode/utf8.acceptRanges", laid_unicode_utf8_acceptRanges), ("unicode/utf8.first", laid_unicode_utf8_first)] }
def TokensScansSaid : Prop := tokensScansRow.holds Tryd.pinned (OpenSpec.ofChange tokensScansSpec)

/-- ITS FALSE NEIGHBOUR: 'it returns false'. Refute it at one input. -/
def tokensScansWrong : ChangeSpec := { name := "tokensScans", fn := fun _ => fun
  | [d] => { results := [.lit (.bool false)], args := [d] }
  | _ => none }
def TokensScansWrongFalsely : Prop := tokensScansRow.holds Tryd.pinned (OpenSpec.ofChange tokensScansWrong)

/-- 'latchkeylaw05.TokensPrints': WHATEVER THE INPUT: true; the input reads as it did. -/
def tokensPrintsSpec : ChangeSpec := { name := "tokensPrints", fn := fun _ => fun
  | [d] => { results := [.lit (.bool true)], args := [d] }
  | _ => none }
def tokensPrintsRow : OpenClaim := { program := "yteedjhoffjkhmaadoor", sum := "789cc8c4a2e59ee08cf39b360d8921ff2d3096a56096facb7ed628dcbb0ccd4b", func := "latchkey/latchkeylaw05.TokensPrints", spec := "tokensPrints", inPlace := ["internal/bytealg.IndexByteString"], named := ["unicode/utf8.first", "unicode/utf8.acceptRanges"], apart := false, laid := [("unicode/utf8.acceptRanges", laid_unicode_utf8_acceptRanges), ("unicode/utf8.first", laid_unicode_utf8_first)] }
def TokensPrintsSaid : Prop := tokensPrintsRow.holds Tryd.pinned (OpenSpec.ofChange tokensPrintsSpec)

/-- ITS FALSE NEIGHBOUR: 'it returns false'. Refute it at one input. -/
def tokensPrintsWrong : ChangeSpec := { name := "tokensPrints", fn := fun _ => fun
  | [d] => { results := [.lit (.bool false)], args := [d] }
  | _ => none }
def TokensPrintsWrongFalsely : Prop := tokensPrintsRow.holds Tryd.pinned (OpenSpec.ofChange tokensPrintsWrong)

/-- 'latchkeylaw05.TokensLimits': WHATEVER THE INPUT: true; the input reads as it did. -/
def tokensLimitsSpec : ChangeSpec := { name := "tokensLimits", fn := fun _ => fun
  | [] => { results := [.lit (.bool true)], args := [] }
  | _ => none }
def tokensLimitsRow : OpenClaim := { program := "yteedjhoffjkhmaadoor", sum := "789cc8c4a2e59ee08cf39b360d8921ff2d3096a56096facb7ed628dcbb0ccd4b", func := "latchkey/latchkeylaw05.TokensLimits", spec := "tokensLimits", inPlace := ["internal/bytealg.IndexByteString"], named := ["unicode/utf8.first", "unicode/utf8.acceptRanges"], apart := false, laid := [("unicode/utf8.acceptRanges", laid_unicode_utf8_acceptRanges), ("unicode/utf8.first", laid_unicode_utf8_first)] }
def TokensLimitsSaid : Prop := tokensLimitsRow.holds Tryd.pinned (OpenSpec.ofChange tokensLimitsSpec)

/-- ITS FALSE NEIGHBOUR: 'it returns false'. Refute it at one input. -/
def tokensLimitsWrong : ChangeSpec := { name := "tokensLimits", fn := fun _ => fun
  | [] => { results := [.lit (.bool false)], args := [] }
  | _ => none }
def TokensLimitsWrongFalsely : Prop := tokensLimitsRow.holds Tryd.pinned (OpenSpec.ofChange tokensLimitsWrong)

/-- 'latchkeylaw05.TokensThere': WHATEVER THE INPUT: true; the input reads as it did. -/
def tokensThereSpec : ChangeSpec := { name := "tokensThere", fn := fun _ => fun
  | [d] => { results := [.lit (.bool true)], args := [d] }
  | _ => none }
def tokensThereRow : OpenClaim := { program := "yteedjhoffjkhmaadoor", sum := "789cc8c4a2e59ee08cf39b360d8921ff2d3096a56096facb7ed628dcbb0ccd4b", func := "latchkey/latchkeylaw05.TokensThere", spec := "tokensThere", inPlace := ["internal/bytealg.IndexByteString"], named := ["unicode/utf8.first", "unicode/utf8.acceptRanges"], apart := false, laid := [("unicode/utf8.acceptRanges", laid_unicode_utf8_acceptRanges), ("unicode/utf8.first", laid_unicode_utf8_first)] }
def TokensThereSaid : Prop := tokensThereRow.holds Tryd.pinned (OpenSpec.ofChange tokensThereSpec)

/-- ITS FALSE NEIGHBOUR: 'it returns false'. Refute it at one input. -/
def tokensThereWrong : ChangeSpec := { name := "tokensThere", fn := fun _ => fun
  | [d] => { results := [.lit (.bool false)], args := [d] }
  | _ => none }
def TokensThereWrongFalsely : Prop := tokensThereRow.holds Tryd.pinned (OpenSpec.ofChange tokensThereWrong)

/-- 'latchkeylaw05.TokensBlanks': WHATEVER THE INPUT: true; the input reads as it did. -/
def tokensBlanksSpec : ChangeSpec := { name := "tokensBlanks", fn := fun _ => fun
  | [d1, d2] => { results := [.lit (.bool true)], args := [d1, d2] }
  | _ => none }
def tokensBlanksRow : OpenClaim := { program := "yteedjhoffjkhmaadoor", sum := "789cc8c4a2e59ee08cf39b360d8921ff2d3096a56096facb7ed628dcbb0ccd4b", func := "latchkey/latchkeylaw05.TokensBlanks", spec := "tokensBlanks", inPlace := ["internal/bytealg.IndexByteString"], named := ["unicode/utf8.first", "unicode/utf8.acceptRanges"], apart := false, laid := [("unicode/utf8.acceptRanges", laid_unicode_utf8_acceptRanges), ("unicode/utf8.first", laid_unicode_utf8_first)] }
def TokensBlanksSaid : Prop := tokensBlanksRow.holds Tryd.pinned (OpenSpec.ofChange tokensBlanksSpec)

/-- ITS FALSE NEIGHBOUR: 'it returns false'. Refute it at one input. -/
def tokensBlanksWrong : ChangeSpec := { name := "tokensBlanks", fn := fun _ => fun
  | [d1, d2] => { results := [.lit (.bool false)], args := [d1, d2] }
  | _ => none }
def TokensBlanksWrongFalsely : Prop := tokensBlanksRow.holds Tryd.pinned (OpenSpec.ofChange tokensBlanksWrong)

/-- 'latchkeylaw05.TokensBegins': WHATEVER THE INPUT: true; the input reads as it did. -/
def tokensBeginsSpec : ChangeSpec := { name := "tokensBegins", fn := fun _ => fun
  | [d1, d2] => { results := [.lit (.bool true)], args := [d1, d2] }
  | _ => none }
def tokensBeginsRow : OpenClaim := { program := "yteedjhoffjkhmaadoor", sum := "789cc8c4a2e59ee08cf39b360d8921ff2d3096a56096facb7ed628dcbb0ccd4b", func := "latchkey/latchkeylaw05.TokensBegins", spec := "tokensBegins", inPlace := ["internal/bytealg.IndexByteString"], named := ["unicode/utf8.first", "unicode/utf8.acceptRanges"], apart := false, laid := [("unicode/utf8.acceptRanges", laid_unicode_utf8_acceptRanges), ("unicode/utf8.first", laid_unicode_utf8_first)] }
def TokensBeginsSaid : Prop := tokensBeginsRow.holds Tryd.pinned (OpenSpec.ofChange tokensBeginsSpec)

/-- ITS FALSE NEIGHBOUR: 'it returns false'. Refute it at one input. -/
def tokensBeginsWrong : ChangeSpec := { name := "tokensBegins", fn := fun _ => fun
  | [d1, d2] => { results := [.lit (.bool false)], args := [d1, d2] }
  | _ => none }
def TokensBeginsWrongFalsely : Prop := tokensBeginsRow.holds Tryd.pinned (OpenSpec.ofChange tokensBeginsWrong)

/-- 'latchkeylaw05.TokensKeeps': WHATEVER THE INPUT: true; the input reads as it did. -/
def tokensKeepsSpec : ChangeSpec := { name := "tokensKeeps", fn := fun _ => fun
  | [d1, d2] => { results := [.lit (.bool true)], args := [d1, d2] }
  | _ => none }
def tokensKeepsRow : OpenClaim := { program := "yteedjhoffjkhmaadoor", sum := "789cc8c4a2e59ee08cf39b360d8921ff2d3096a56096facb7ed628dcbb0ccd4b", func := "latchkey/latchkeylaw05.TokensKeeps", spec := "tokensKeeps", inPlace := ["internal/bytealg.IndexByteString"], named := ["unicode/utf8.first", "unicode/utf8.acceptRanges"], apart := false, laid := [("unicode/utf8.acceptRanges", laid_unicode_utf8_acceptRanges), ("unicode/utf8.first", laid_unicode_utf8_first)] }
def TokensKeepsSaid : Prop := tokensKeepsRow.holds Tryd.pinned (OpenSpec.ofChange tokensKeepsSpec)

/-- ITS FALSE NEIGHBOUR: 'it returns false'. Refute it at one input. -/
def tokensKeepsWrong : ChangeSpec := { name := "tokensKeeps", fn := fun _ => fun
  | [d1, d2] => { results := [.lit (.bool false)], args := [d1, d2] }
  | _ => none }
def TokensKeepsWrongFalsely : Prop := tokensKeepsRow.holds Tryd.pinned (OpenSpec.ofChange tokensKeepsWrong)

/- THE SECOND FORM. 'bulk': how many values and letters a reading holds, each counted each time it is reached (what is shared counts as often as it is met; a slice's spare places count too). A statement '..UptoSaid' is the law's where the arguments, and the package variables that the reading takes, are together of bulk at most 1048576: NARROWER than '..Said'. Prove '..Said' where nothing that the law and all that it calls make is longer than what came in: it says more and counts as full. Else prove '..UptoSaid'. A law counts once. -/
mutual
def uptoBulk {H : Type} : DataW H → Nat
  | .lit (.string bytes) => bytes.length + 1
  | .lit _ => 1
  | .nil => 1
  | .ptr d => uptoBulk d + 1
  | .slice elems spare => uptoBulkAll elems + uptoBulkAll spare + 1
  | .agg parts => uptoBulkAll parts + 1
  | .iface _ d => uptoBulk d + 1
  | .map entries => uptoBulkEntries entries + 1
  | .held _ => 1
def uptoBulkAll {H : Type} : List (DataW H) → Nat
  | [] => 0
  | d :: r => uptoBulk d + uptoBulkAll r
def uptoBulkEntries {H : Type} : List (Lit × DataW H) → Nat
  | [] => 0
  | x :: r => uptoBulkEntry x + uptoBulkEntries r
def uptoBulkEntry {H : Type} : Lit × DataW H → Nat
  | (.string bytes, d) => bytes.length + uptoBulk d + 1
  | (_, d) => uptoBulk d + 1
 end
def uptoSmall : (H : Type) → List (DataW H) → Bool := fun _ ds => decide (uptoBulkAll ds ≤ 1048576)
def OpenSpec.upto (s : _root_.Go.ChangeSpec) : _root_.Go.OpenSpec := { _root_.Go.OpenSpec.ofChange s with cond := some uptoSmall }

/-- 'latchkeylaw05.TokensScans', WHERE WHAT IT READS IS OF BULK AT MOST 1048576: true; the input reads as it did. -/
def tokensScansUptoRow : OpenClaim := { program := "yteedjhoffjkhmaadoor", sum := "789cc8c4a2e59ee08cf39b360d8921ff2d3096a56096facb7ed628dcbb0ccd4b", func := "latchkey/latchkeylaw05.TokensScans", spec := "tokensScans", inPlace := ["internal/bytealg.IndexByteString"], named := ["unicode/utf8.first", "unicode/utf8.acceptRanges"], apart := false, laid := [("unicode/utf8.acceptRanges", laid_unicode_utf8_acceptRanges), ("unicode/utf8.first", laid_unicode_utf8_first)], narrowed := true }
def TokensScansUptoSaid : Prop := tokensScansUptoRow.holds Tryd.pinned (OpenSpec.upto tokensScansSpec)

/-- 'latchkeylaw05.TokensPrints', WHERE WHAT IT READS IS OF BULK AT MOST 1048576: true; the input reads as it did. -/
def tokensPrintsUptoRow : OpenClaim := { program := "yteedjhoffjkhmaadoor", sum := "789cc8c4a2e59ee08cf39b360d8921ff2d3096a56096facb7ed628dcbb0ccd4b", func := "latchkey/latchkeylaw05.TokensPrints", spec := "tokensPrints", inPlace := ["internal/bytealg.IndexByteString"], named := ["unicode/utf8.first", "unicode/utf8.acceptRanges"], apart := false, laid := [("unicode/utf8.acceptRanges", laid_unicode_utf8_acceptRanges), ("unicode/utf8.first", laid_unicode_utf8_first)], narrowed := true }
def TokensPrintsUptoSaid : Prop := tokensPrintsUptoRow.holds Tryd.pinned (OpenSpec.upto tokensPrintsSpec)

/-- 'latchkeylaw05.TokensLimits', WHERE WHAT IT READS IS OF BULK AT MOST 1048576: true; the input reads as it did. -/
def tokensLimitsUptoRow : OpenClaim := { program := "yteedjhoffjkhmaadoor", sum := "789cc8c4a2e59ee08cf39b360d8921ff2d3096a56096facb7ed628dcbb0ccd4b", func := "latchkey/latchkeylaw05.TokensLimits", spec := "tokensLimits", inPlace := ["internal/bytealg.IndexByteString"], named := ["unicode/utf8.first", "unicode/utf8.acceptRanges"], apart := false, laid := [("unicode/utf8.acceptRanges", laid_unicode_utf8_acceptRanges), ("unicode/utf8.first", laid_unicode_utf8_first)], narrowed := true }
def TokensLimitsUptoSaid : Prop := tokensLimitsUptoRow.holds Tryd.pinned (OpenSpec.upto tokensLimitsSpec)

/-- 'latchkeylaw05.TokensThere', WHERE WHAT IT READS IS OF BULK AT MOST 1048576: true; the input reads as it did. -/
def tokensThereUptoRow : OpenClaim := { program := "yteedjhoffjkhmaadoor", sum := "789cc8c4a2e59ee08cf39b360d8921ff2d3096a56096facb7ed628dcbb0ccd4b", func := "latchkey/latchkeylaw05.TokensThere", spec := "tokensThere", inPlace := ["internal/bytealg.IndexByteString"], named := ["unicode/utf8.first", "unicode/utf8.acceptRanges"], apart := false, laid := [("unicode/utf8.acceptRanges", laid_unicode_utf8_acceptRanges), ("unicode/utf8.first", laid_unicode_utf8_first)], narrowed := true }
def TokensThereUptoSaid : Prop := tokensThereUptoRow.holds Tryd.pinned (OpenSpec.upto tokensThereSpec)

/-- 'latchkeylaw05.TokensBlanks', WHERE WHAT IT READS IS OF BULK AT MOST 1048576: true; the input reads as it did. -/
def tokensBlanksUptoRow : OpenClaim := { program := "yteedjhoffjkhmaadoor", sum := "789cc8c4a2e59ee08cf39b360d8921ff2d3096a56096facb7ed628dcbb0ccd4b", func := "latchkey/latchkeylaw05.TokensBlanks", spec := "tokensBlanks", inPlace := ["internal/bytealg.IndexByteString"], named := ["unicode/utf8.first", "unicode/utf8.acceptRanges"], apart := false, laid := [("unicode/utf8.acceptRanges", laid_unicode_utf8_acceptRanges), ("unicode/utf8.first", laid_unicode_utf8_first)], narrowed := true }
def TokensBlanksUptoSaid : Prop := tokensBlanksUptoRow.holds Tryd.pinned (OpenSpec.upto tokensBlanksSpec)

/-- 'latchkeylaw05.TokensBegins', WHERE WHAT IT READS IS OF BULK AT MOST 1048576: true; the input reads as it did. -/
def tokensBeginsUptoRow : OpenClaim := { program := "yteedjhoffjkhmaadoor", sum := "789cc8c4a2e59ee08cf39b360d8921ff2d3096a56096facb7ed628dcbb0ccd4b", func := "latchkey/latchkeylaw05.TokensBegins", spec := "tokensBegins", inPlace := ["internal/bytealg.IndexByteString"], named := ["unicode/utf8.first", "unicode/utf8.acceptRanges"], apart := false, laid := [("unicode/utf8.acceptRanges", laid_unicode_utf8_acceptRanges), ("unicode/utf8.first", laid_unicode_utf8_first)], narrowed := true }
def TokensBeginsUptoSaid : Prop := tokensBeginsUptoRow.holds Tryd.pinned (OpenSpec.upto tokensBeginsSpec)

/-- 'latchkeylaw05.TokensKeeps', WHERE WHAT IT READS IS OF BULK AT MOST 1048576: true; the input reads as it did. -/
def tokensKeepsUptoRow : OpenClaim := { program := "yteedjhoffjkhmaadoor", sum := "789cc8c4a2e59ee08cf39b360d8921ff2d3096a56096facb7ed628dcbb0ccd4b", func := "latchkey/latchkeylaw05.TokensKeeps", spec := "tokensKeeps", inPlace := ["internal/bytealg.IndexByteString"], named := ["unicode/utf8.first", "unicode/utf8.acceptRanges"], apart := false, laid := [("unicode/utf8.acceptRanges", laid_unicode_utf8_acceptRanges), ("unicode/utf8.first", laid_unicode_utf8_first)], narrowed := true }
def TokensKeepsUptoSaid : Prop := tokensKeepsUptoRow.holds Tryd.pinned (OpenSpec.upto tokensKeepsSpec)

end Rows
end Go.Proofs.YteedjhoffjkhmaaDoor
