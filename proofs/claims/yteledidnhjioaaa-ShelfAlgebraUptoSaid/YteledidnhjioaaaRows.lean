/-
  No cell of these rows narrows 'for every input' (looked for: loops, veiled, ifaces, maps, wideKeys, modest, calm, conditions, laid).
  DERIVED. THE GIVEN ROWS OF THIS SEAT. 9 by the template 'for every input the law returns true; each argument reads behind the call as it read before'; 0 by the template 'total and deterministic' (their statements: YteledidnhjioaaaTotals.lean).
  GIVEN WITH THE SEED: the statements are not yours to turn. If you find one false, say at which input.
  Laid BY PROGRAM, IN A SANDBOX (cutbox-rows.mjs): the forced cells as the released guide's own fill.sh prints them over the translation 6536a5cbc5b30061… (all of the seat's roots in one cut). By AI agents, Wed Nov 11 2026. No macro, syntax, notation, axiom, sorry.
-/
import Derived.Test.YteledidnhjioaaaChecked
import GoSem.Claim
import GoSem.ClaimJoined
import GoSem.ClaimMapViews
import Derived.JoinedTies
import Derived.KernelRfl
namespace Go.Proofs.Yteledidnhjioaaa
/- THE CELL 'sum', in the pinned program and in every row, IS THE sha256 OF THE DUMP (.gsa) THAT YteledidnhjioaaaProg.lean LOADS. Nothing in Lean hashes anything: it is a label: what it is worth is what the hold of that sum in a sandbox is worth. -/
noncomputable def Try.pinned : Pinned := { name := "yteledidnhjioaaa", sum := "6536a5cbc5b300618de198ec9acd0f8d451e2fd0c51c633042e57ec017df2ed6", checked := Try.checked }
namespace Rows
def none {H : Type} : Left H := { results := [], args := [] }

/-- 'latchkeylaw11.ShelfGathers': WHATEVER THE INPUT: true; the input reads as it did. -/
def shelfGathersSpec : ChangeSpec := { name := "shelfGathers", fn := fun _ => fun
  | [d1, d2] => { results := [.lit (.bool true)], args := [d1, d2] }
  | _ => none }
def shelfGathersRow : OpenClaim := { program := "yteledidnhjioaaa", sum := "6536a5cbc5b300618de198ec9acd0f8d451e2fd0c51c633042e57ec017df2ed6", func := "latchkey/latchkeylaw11.ShelfGathers", spec := "shelfGathers", unfollowed := true, recurses := true, apart := false }
def ShelfGathersSaid : Prop := shelfGathersRow.holds Try.pinned (OpenSpec.ofChange shelfGathersSpec)

/-- ITS FALSE NEIGHBOUR: 'it returns false'. Refute it at one input. -/
def shelfGathersWrong : ChangeSpec := { name := "shelfGathers", fn := fun _ => fun
  | [d1, d2] => { results := [.lit (.bool false)], args := [d1, d2] }
  | _ => none }
def ShelfGathersWrongFalsely : Prop := shelfGathersRow.holds Try.pinned (OpenSpec.ofChange shelfGathersWrong)

/-- 'latchkeylaw11.ShelfFrozen': WHATEVER THE INPUT: true; the input reads as it did. -/
def shelfFrozenSpec : ChangeSpec := { name := "shelfFrozen", fn := fun _ => fun
  | [d1, d2] => { results := [.lit (.bool true)], args := [d1, d2] }
  | _ => none }
def shelfFrozenRow : OpenClaim := { program := "yteledidnhjioaaa", sum := "6536a5cbc5b300618de198ec9acd0f8d451e2fd0c51c633042e57ec017df2ed6", func := "latchkey/latchkeylaw11.ShelfFrozen", spec := "shelfFrozen", unfollowed := true, recurses := true, apart := false }
def ShelfFrozenSaid : Prop := shelfFrozenRow.holds Try.pinned (OpenSpec.ofChange shelfFrozenSpec)

/-- ITS FALSE NEIGHBOUR: 'it returns false'. Refute it at one input. -/
def shelfFrozenWrong : ChangeSpec := { name := "shelfFrozen", fn := fun _ => fun
  | [d1, d2] => { results := [.lit (.bool false)], args := [d1, d2] }
  | _ => none }
def ShelfFrozenWrongFalsely : Prop := shelfFrozenRow.holds Try.pinned (OpenSpec.ofChange shelfFrozenWrong)

/-- 'latchkeylaw11.ShelfWalks': WHATEVER THE INPUT: true; the input reads as it did. -/
def shelfWalksSpec : ChangeSpec := { name := "shelfWalks", fn := fun _ => fun
  | [d1, d2, d3] => { results := [.lit (.bool true)], args := [d1, d2, d3] }
  | _ => none }
def shelfWalksRow : OpenClaim := { program := "yteledidnhjioaaa", sum := "6536a5cbc5b300618de198ec9acd0f8d451e2fd0c51c633042e57ec017df2ed6", func := "latchkey/latchkeylaw11.ShelfWalks", spec := "shelfWalks", unfollowed := true, recurses := true, apart := false }
def ShelfWalksSaid : Prop := shelfWalksRow.holds Try.pinned (OpenSpec.ofChange shelfWalksSpec)

/-- ITS FALSE NEIGHBOUR: 'it returns false'. Refute it at one input. -/
def shelfWalksWrong : ChangeSpec := { name := "shelfWalks", fn := fun _ => fun
  | [d1, d2, d3] => { results := [.lit (.bool false)], args := [d1, d2, d3] }
  | _ => none }
def ShelfWalksWrongFalsely : Prop := shelfWalksRow.holds Try.pinned (OpenSpec.ofChange shelfWalksWrong)

/-- 'latchkeylaw11.ShelfOrdered': WHATEVER THE INPUT: true; the input reads as it did. -/
def shelfOrderedSpec : ChangeSpec := { name := "shelfOrdered", fn := fun _ => fun
  | [d1, d2] => { results := [.lit (.bool true)], args := [d1, d2] }
  | _ => none }
def shelfOrderedRow : OpenClaim := { program := "yteledidnhjioaaa", sum := "6536a5cbc5b300618de198ec9acd0f8d451e2fd0c51c633042e57ec017df2ed6", func := "latchkey/latchkeylaw11.ShelfOrdered", spec := "shelfOrdered", unfollowed := true, recurses := true, apart := false }
def ShelfOrderedSaid : Prop := shelfOrderedRow.holds Try.pinned (OpenSpec.ofChange shelfOrderedSpec)

/-- ITS FALSE NEIGHBOUR: 'it returns false'. Refute it at one input. -/
def shelfOrderedWrong : ChangeSpec := { name := "shelfOrdered", fn := fun _ => fun
  | [d1, d2] => { results := [.lit (.bool false)], args := [d1, d2] }
  | _ => none }
def ShelfOrderedWrongFalsely : Prop := shelfOrderedRow.holds Try.pinned (OpenSpec.ofChange shelfOrderedWrong)

/-- 'latchkeylaw11.ShelfTexts': WHATEVER THE INPUT: true; the input reads as it did. -/
def shelfTextsSpec : ChangeSpec := { name := "shelfTexts", fn := fun _ => fun
  | [d1, d2] => { results := [.lit (.bool true)], args := [d1, d2] }
  | _ => none }
def shelfTextsRow : OpenClaim := { program := "yteledidnhjioaaa", sum := "6536a5cbc5b300618de198ec9acd0f8d451e2fd0c51c633042e57ec017df2ed6", func := "latchkey/latchkeylaw11.ShelfTexts", spec := "shelfTexts", unfollowed := true, recurses := true, apart := false }
def ShelfTextsSaid : Prop := shelfTextsRow.holds Try.pinned (OpenSpec.ofChange shelfTextsSpec)

/-- ITS FALSE NEIGHBOUR: 'it returns false'. Refute it at one input. -/
def shelfTextsWrong : ChangeSpec := { name := "shelfTexts", fn := fun _ => fun
  | [d1, d2] => { results := [.lit (.bool false)], args := [d1, d2] }
  | _ => none }
def ShelfTextsWrongFalsely : Prop := shelfTextsRow.holds Try.pinned (OpenSpec.ofChange shelfTextsWrong)

/-- 'latchkeylaw11.ShelfPlays': WHATEVER THE INPUT: true; the input reads as it did. -/
def shelfPlaysSpec : ChangeSpec := { name := "shelfPlays", fn := fun _ => fun
  | [d] => { results := [.lit (.bool true)], args := [d] }
  | _ => none }
def shelfPlaysRow : OpenClaim := { program := "yteledidnhjioaaa", sum := "6536a5cbc5b300618de198ec9acd0f8d451e2fd0c51c633042e57ec017df2ed6", func := "latchkey/latchkeylaw11.ShelfPlays", spec := "shelfPlays", unfollowed := true, recurses := true, apart := false }
def ShelfPlaysSaid : Prop := shelfPlaysRow.holds Try.pinned (OpenSpec.ofChange shelfPlaysSpec)

/-- ITS FALSE NEIGHBOUR: 'it returns false'. Refute it at one input. -/
def shelfPlaysWrong : ChangeSpec := { name := "shelfPlays", fn := fun _ => fun
  | [d] => { results := [.lit (.bool false)], args := [d] }
  | _ => none }
def ShelfPlaysWrongFalsely : Prop := shelfPlaysRow.holds Try.pinned (OpenSpec.ofChange shelfPlaysWrong)

/-- 'latchkeylaw11.ShelfMerges': WHATEVER THE INPUT: true; the input reads as it did. -/
def shelfMergesSpec : ChangeSpec := { name := "shelfMerges", fn := fun _ => fun
  | [d] => { results := [.lit (.bool true)], args := [d] }
  | _ => none }
def shelfMergesRow : OpenClaim := { program := "yteledidnhjioaaa", sum := "6536a5cbc5b300618de198ec9acd0f8d451e2fd0c51c633042e57ec017df2ed6", func := "latchkey/latchkeylaw11.ShelfMerges", spec := "shelfMerges", unfollowed := true, recurses := true, apart := false }
def ShelfMergesSaid : Prop := shelfMergesRow.holds Try.pinned (OpenSpec.ofChange shelfMergesSpec)

/-- ITS FALSE NEIGHBOUR: 'it returns false'. Refute it at one input. -/
def shelfMergesWrong : ChangeSpec := { name := "shelfMerges", fn := fun _ => fun
  | [d] => { results := [.lit (.bool false)], args := [d] }
  | _ => none }
def ShelfMergesWrongFalsely : Prop := shelfMergesRow.holds Try.pinned (OpenSpec.ofChange shelfMergesWrong)

/-- 'latchkeylaw11.ShelfAlgebra': WHATEVER THE INPUT: true; the input reads as it did. -/
def shelfAlgebraSpec : ChangeSpec := { name := "shelfAlgebra", fn := fun _ => fun
  | [d1, d2, d3] => { results := [.lit (.bool true)], args := [d1, d2, d3] }
  | _ => none }
def shelfAlgebraRow : OpenClaim := { program := "yteledidnhjioaaa", sum := "6536a5cbc5b300618de198ec9acd0f8d451e2fd0c51c633042e57ec017df2ed6", func := "latchkey/latchkeylaw11.ShelfAlgebra", spec := "shelfAlgebra", unfollowed := true, recurses := true, apart := false }
def ShelfAlgebraSaid : Prop := shelfAlgebraRow.holds Try.pinned (OpenSpec.ofChange shelfAlgebraSpec)

/-- ITS FALSE NEIGHBOUR: 'it returns false'. Refute it at one input. -/
def shelfAlgebraWrong : ChangeSpec := { name := "shelfAlgebra", fn := fun _ => fun
  | [d1, d2, d3] => { results := [.lit (.bool false)], args := [d1, d2, d3] }
  | _ => none }
def ShelfAlgebraWrongFalsely : Prop := shelfAlgebraRow.holds Try.pinned (OpenSpec.ofChange shelfAlgebraWrong)

/-- 'latchkeylaw11.ShelfNone': WHATEVER THE INPUT: true; the input reads as it did. -/
def shelfNoneSpec : ChangeSpec := { name := "shelfNone", fn := fun _ => fun
  | [d1, d2] => { results := [.lit (.bool true)], args := [d1, d2] }
  | _ => none }
def shelfNoneRow : OpenClaim := { program := "yteledidnhjioaaa", sum := "6536a5cbc5b300618de198ec9acd0f8d451e2fd0c51c633042e57ec017df2ed6", func := "latchkey/latchkeylaw11.ShelfNone", spec := "shelfNone", unfollowed := true, recurses := true, apart := false }
def ShelfNoneSaid : Prop := shelfNoneRow.holds Try.pinned (OpenSpec.ofChange shelfNoneSpec)

/-- ITS FALSE NEIGHBOUR: 'it returns false'. Refute it at one input. -/
def shelfNoneWrong : ChangeSpec := { name := "shelfNone", fn := fun _ => fun
  | [d1, d2] => { results := [.lit (.bool false)], args := [d1, d2] }
  | _ => none }
def ShelfNoneWrongFalsely : Prop := shelfNoneRow.holds Try.pinned (OpenSpec.ofChange shelfNoneWrong)

/- THE SECOND FORM. 'bulk': how many values and letters a reading holds, each counted each time it is reached (what is shared counts as often as it is met; a slice's spare places count too). A statement '..UptoSaid' is the law's where the arguments, and the package variables that the reading takes, are together of bulk at most 1048576: NARROWER than '..Said'. Prove '..Said' where nothing that the law and all that it calls make is longer than what came in: it says more and counts as full. Else prove '..UptoSaid'. A law counts once. -/
mutual
def uptoBulk {H : Type} : DataW H → Nat
  | .lit (.string bytes) => bytes.length + 1
  | .lit _ => 1
  | .nil => 1
  | .ptr d => uptoBulk d + 1
  | .slice elems spare => uptoBulkAll elems + uptoBulkAll spare + 1
  | .agg parts => uptoBulkAll parts + 1
  | .iface _ d => uptoBulk d + 1
  | .map entries => uptoBulkEntries entries + 1
  | .held _ => 1
def uptoBulkAll {H : Type} : List (DataW H) → Nat
  | [] => 0
  | d :: r => uptoBulk d + uptoBulkAll r
def uptoBulkEntries {H : Type} : List (Lit × DataW H) → Nat
  | [] => 0
  | x :: r => uptoBulkEntry x + uptoBulkEntries r
def uptoBulkEntry {H : Type} : Lit × DataW H → Nat
  | (.string bytes, d) => bytes.length + uptoBulk d + 1
  | (_, d) => uptoBulk d + 1
 end
def uptoSmall : (H : Type) → List (DataW H) → Bool := fun _ ds => decide (uptoBulkAll ds ≤ 1048576)
def OpenSpec.upto (s : _root_.Go.ChangeSpec) : _root_.Go.OpenSpec := { _root_.Go.OpenSpec.ofChange s with cond := some uptoSmall }

/-- 'latchkeylaw11.ShelfGathers', WHERE WHAT IT READS IS OF BULK AT MOST 1048576: true; the input reads as it did. -/
def shelfGathersUptoRow : OpenClaim := { program := "yteledidnhjioaaa", sum := "6536a5cbc5b300618de198ec9acd0f8d451e2fd0c51c633042e57ec017df2ed6", func := "latchkey/latchkeylaw11.ShelfGathers", spec := "shelfGathers", unfollowed := true, recurses := true, apart := false, narrowed := true }
def ShelfGathersUptoSaid : Prop := shelfGathersUptoRow.holds Try.pinned (OpenSpec.upto shelfGathersSpec)

/-- 'latchkeylaw11.ShelfFrozen', WHERE WHAT IT READS IS OF BULK AT MOST 1048576: true; the input reads as it did. -/
def shelfFrozenUptoRow : OpenClaim := { program := "yteledidnhjioaaa", sum := "6536a5cbc5b300618de198ec9acd0f8d451e2fd0c51c633042e57ec017df2ed6", func := "latchkey/latchkeylaw11.ShelfFrozen", spec := "shelfFrozen", unfollowed := true, recurses := true, apart := false, narrowed := true }
def ShelfFrozenUptoSaid : Prop := shelfFrozenUptoRow.holds Try.pinned (OpenSpec.upto shelfFrozenSpec)

/-- 'latchkeylaw11.ShelfWalks', WHERE WHAT IT READS IS OF BULK AT MOST 1048576: true; the input reads as it did. -/
def shelfWalksUptoRow : OpenClaim := { program := "yteledidnhjioaaa", sum := "6536a5cbc5b300618de198ec9acd0f8d451e2fd0c51c633042e57ec017df2ed6", func := "latchkey/latchkeylaw11.ShelfWalks", spec := "shelfWalks", unfollowed := true, recurses := true, apart := false, narrowed := true }
def ShelfWalksUptoSaid : Prop := shelfWalksUptoRow.holds Try.pinned (OpenSpec.upto shelfWalksSpec)

/-- 'latchkeylaw11.ShelfOrdered', WHERE WHAT IT READS IS OF BULK AT MOST 1048576: true; the input reads as it did. -/
def shelfOrderedUptoRow : OpenClaim := { program := "yteledidnhjioaaa", sum := "6536a5cbc5b300618de198ec9acd0f8d451e2fd0c51c633042e57ec017df2ed6", func := "latchkey/latchkeylaw11.ShelfOrdered", spec := "shelfOrdered", unfollowed := true, recurses := true, apart := false, narrowed := true }
def ShelfOrderedUptoSaid : Prop := shelfOrderedUptoRow.holds Try.pinned (OpenSpec.upto shelfOrderedSpec)

/-- 'latchkeylaw11.ShelfTexts', WHERE WHAT IT READS IS OF BULK AT MOST 1048576: true; the input reads as it did. -/
def shelfTextsUptoRow : OpenClaim := { program := "yteledidnhjioaaa", sum := "6536a5cbc5b300618de198ec9acd0f8d451e2fd0c51c633042e57ec017df2ed6", func := "latchkey/latchkeylaw11.ShelfTexts", spec := "shelfTexts", unfollowed := true, recurses := true, apart := false, narrowed := true }
def ShelfTextsUptoSaid : Prop := shelfTextsUptoRow.holds Try.pinned (OpenSpec.upto shelfTextsSpec)

/-- 'latchkeylaw11.ShelfPlays', WHERE WHAT IT READS IS OF BULK AT MOST 1048576: true; the input reads as it did. -/
def shelfPlaysUptoRow : OpenClaim := { program := "yteledidnhjioaaa", sum := "6536a5cbc5b300618de198ec9acd0f8d451e2fd0c51c633042e57ec017df2ed6", func := "latchkey/latchkeylaw11.ShelfPlays", spec := "shelfPlays", unfollowed := true, recurses := true, apart := false, narrowed := true }
def ShelfPlaysUptoSaid : Prop := shelfPlaysUptoRow.holds Try.pinned (OpenSpec.upto shelfPlaysSpec)

/-- 'latchkeylaw11.ShelfMerges', WHERE WHAT IT READS IS OF BULK AT MOST 1048576: true; the input reads as it did. -/
def shelfMergesUptoRow : OpenClaim := { program := "yteledidnhjioaaa", sum := "6536a5cbc5b300618de198ec9acd0f8d451e2fd0c51c633042e57ec017df2ed6", func := "latchkey/latchkeylaw11.ShelfMerges", spec := "shelfMerges", unfollowed := true, recurses := true, apart := false, narrowed := true }
def ShelfMergesUptoSaid : Prop := shelfMergesUptoRow.holds Try.pinned (OpenSpec.upto shelfMergesSpec)

/-- 'latchkeylaw11.ShelfAlgebra', WHERE WHAT IT READS IS OF BULK AT MOST 1048576: true; the input reads as it did. -/
def shelfAlgebraUptoRow : OpenClaim := { program := "yteledidnhjioaaa", sum := "6536a5cbc5b300618de198ec9acd0f8d451e2fd0c51c633042e57ec017df2ed6", func := "latchkey/latchkeylaw11.ShelfAlgebra", spec := "shelfAlgebra", unfollowed := true, recurses := true, apart := false, narrowed := true }
def ShelfAlgebraUptoSaid : Prop := shelfAlgebraUptoRow.holds Try.pinned (OpenSpec.upto shelfAlgebraSpec)

/-- 'latchkeylaw11.ShelfNone', WHERE WHAT IT READS IS OF BULK AT MOST 1048576: true; the input reads as it did. -/
def shelfNoneUptoRow : OpenClaim := { program := "yteledidnhjioaaa", sum := "6536a5cbc5b300618de198ec9acd0f8d451e2fd0c51c633042e57ec017df2ed6", func := "latchkey/latchkeylaw11.ShelfNone", spec := "shelfNone", unfollowed := true, recurses := true, apart := false, narrowed := true }
def ShelfNoneUptoSaid : Prop := shelfNoneUptoRow.holds Try.pinned (OpenSpec.upto shelfNoneSpec)

end Rows
end Go.Proofs.Yteledidnhjioaaa
