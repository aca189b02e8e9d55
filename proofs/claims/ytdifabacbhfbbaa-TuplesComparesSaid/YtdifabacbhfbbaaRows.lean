/-
  No cell of these rows narrows 'for every input' (looked for: loops, veiled, ifaces, maps, wideKeys, modest, calm, conditions, laid).
  DERIVED. THE GIVEN ROWS OF THIS SEAT. 3 by the template 'for every input the law returns true; each argument reads behind the call as it read before'; 0 by the template 'total and deterministic' (their statements: YtdifabacbhfbbaaTotals.lean).
  GIVEN WITH THE SEED: the statements are not yours to turn. If you find one false, say at which input.
  Laid BY PROGRAM, IN A SANDBOX (cutbox-rows.mjs): the forced cells as the released guide's own fill.sh prints them over the translation c331eae5963e4394… (all of the seat's roots in one cut). By AI agents, Wed Nov 11 2026. No macro, syntax, notation, axiom, sorry.
-/
import Derived.Test.YtdifabacbhfbbaaChecked
import GoSem.Claim
import GoSem.ClaimJoined
import GoSem.ClaimMapViews
import Derived.JoinedTies
import Derived.KernelRfl
namespace Go.Proofs.Ytdifabacbhfbbaa
/- THE CELL 'sum', in the pinned program and in every row, IS THE sha256 OF THE DUMP (.gsa) THAT YtdifabacbhfbbaaProg.lean LOADS. Nothing in Lean hashes anything: it is a label: what it is worth is what the hold of that sum in a sandbox is worth. -/
noncomputable def Try.pinned : Pinned := { name := "ytdifabacbhfbbaa", sum := "c331eae5963e43945a8df045c71645db9e46d4e429f0f03fcca3715c917d732d", checked := Try.checked }
namespace Rows
def none {H : Type} : Left H := { results := [], args := [] }

/-- 'latchkeylaw10.TuplesFilters': WHATEVER THE INPUT: true; the input reads as it did. -/
def tuplesFiltersSpec : ChangeSpec := { name := "tuplesFilters", fn := fun _ => fun
  | [d1, d2, d3] => { results := [.lit (.bool true)], args := [d1, d2, d3] }
  | _ => none }
def tuplesFiltersRow : OpenClaim := { program := "ytdifabacbhfbbaa", sum := "c331eae5963e43945a8df045c71645db9e46d4e429f0f03fcca3715c917d732d", func := "latchkey/latchkeylaw10.TuplesFilters", spec := "tuplesFilters", apart := false }
def TuplesFiltersSaid : Prop := tuplesFiltersRow.holds Try.pinned (OpenSpec.ofChange tuplesFiltersSpec)

/-- ITS FALSE NEIGHBOUR: 'it returns false'. Refute it at one input. -/
def tuplesFiltersWrong : ChangeSpec := { name := "tuplesFilters", fn := fun _ => fun
  | [d1, d2, d3] => { results := [.lit (.bool false)], args := [d1, d2, d3] }
  | _ => none }
def TuplesFiltersWrongFalsely : Prop := tuplesFiltersRow.holds Try.pinned (OpenSpec.ofChange tuplesFiltersWrong)

/-- 'latchkeylaw10.TuplesLets': WHATEVER THE INPUT: true; the input reads as it did. -/
def tuplesLetsSpec : ChangeSpec := { name := "tuplesLets", fn := fun _ => fun
  | [d1, d2] => { results := [.lit (.bool true)], args := [d1, d2] }
  | _ => none }
def tuplesLetsRow : OpenClaim := { program := "ytdifabacbhfbbaa", sum := "c331eae5963e43945a8df045c71645db9e46d4e429f0f03fcca3715c917d732d", func := "latchkey/latchkeylaw10.TuplesLets", spec := "tuplesLets", inPlace := ["math.Float32bits"], apart := false }
def TuplesLetsSaid : Prop := tuplesLetsRow.holds Try.pinned (OpenSpec.ofChange tuplesLetsSpec)

/-- ITS FALSE NEIGHBOUR: 'it returns false'. Refute it at one input. -/
def tuplesLetsWrong : ChangeSpec := { name := "tuplesLets", fn := fun _ => fun
  | [d1, d2] => { results := [.lit (.bool false)], args := [d1, d2] }
  | _ => none }
def TuplesLetsWrongFalsely : Prop := tuplesLetsRow.holds Try.pinned (OpenSpec.ofChange tuplesLetsWrong)

/-- 'latchkeylaw10.TuplesCompares': WHATEVER THE INPUT: true; the input reads as it did. -/
def tuplesComparesSpec : ChangeSpec := { name := "tuplesCompares", fn := fun _ => fun
  | [d1, d2] => { results := [.lit (.bool true)], args := [d1, d2] }
  | _ => none }
def tuplesComparesRow : OpenClaim := { program := "ytdifabacbhfbbaa", sum := "c331eae5963e43945a8df045c71645db9e46d4e429f0f03fcca3715c917d732d", func := "latchkey/latchkeylaw10.TuplesCompares", spec := "tuplesCompares", inPlace := ["math.Float32bits"], unfollowed := true, recurses := true, apart := false }
def TuplesComparesSaid : Prop := tuplesComparesRow.holds Try.pinned (OpenSpec.ofChange tuplesComparesSpec)

/-- ITS FALSE NEIGHBOUR: 'it returns false'. Refute it at one input. -/
def tuplesComparesWrong : ChangeSpec := { name := "tuplesCompares", fn := fun _ => fun
  | [d1, d2] => { results := [.lit (.bool false)], args := [d1, d2] }
  | _ => none }
def TuplesComparesWrongFalsely : Prop := tuplesComparesRow.holds Try.pinned (OpenSpec.ofChange tuplesComparesWrong)

/- THE SECOND FORM. 'bulk': how many values and letters a reading holds, each counted each time it is reached (what is shared counts as often as it is met; a slice's spare places count too). A statement '..UptoSaid' is the law's where the arguments, and the package variables that the reading takes, are together of bulk at most 1048576: NARROWER than '..Said'. Prove '..Said' where nothing that the law and all that it calls make is longer than what came in: it says more and counts as full. Else prove '..UptoSaid'. A law counts once. -/
mutual
def uptoBulk {H : Type} : DataW H → Nat
  | .lit (.string bytes) => bytes.length + 1
  | .lit _ => 1
  | .nil => 1
  | .ptr d => uptoBulk d + 1
  | .slice elems spare => uptoBulkAll elems + uptoBulkAll spare + 1
  | .agg parts => uptoBulkAll parts + 1
  | .iface _ d => uptoBulk d + 1
  | .map entries => uptoBulkEntries entries + 1
  | .held _ => 1
def uptoBulkAll {H : Type} : List (DataW H) → Nat
  | [] => 0
  | d :: r => uptoBulk d + uptoBulkAll r
def uptoBulkEntries {H : Type} : List (Lit × DataW H) → Nat
  | [] => 0
  | x :: r => uptoBulkEntry x + uptoBulkEntries r
def uptoBulkEntry {H : Type} : Lit × DataW H → Nat
  | (.string bytes, d) => bytes.length + uptoBulk d + 1
  | (_, d) => uptoBulk d + 1
 end
def uptoSmall : (H : Type) → List (DataW H) → Bool := fun _ ds => decide (uptoBulkAll ds ≤ 1048576)
def OpenSpec.upto (s : _root_.Go.ChangeSpec) : _root_.Go.OpenSpec := { _root_.Go.OpenSpec.ofChange s with cond := some uptoSmall }

/-- 'latchkeylaw10.TuplesFilters', WHERE WHAT IT READS IS OF BULK AT MOST 1048576: true; the input reads as it did. -/
def tuplesFiltersUptoRow : OpenClaim := { program := "ytdifabacbhfbbaa", sum := "c331eae5963e43945a8df045c71645db9e46d4e429f0f03fcca3715c917d732d", func := "latchkey/latchkeylaw10.TuplesFilters", spec := "tuplesFilters", apart := false, narrowed := true }
def TuplesFiltersUptoSaid : Prop := tuplesFiltersUptoRow.holds Try.pinned (OpenSpec.upto tuplesFiltersSpec)

/-- 'latchkeylaw10.TuplesLets', WHERE WHAT IT READS IS OF BULK AT MOST 1048576: true; the input reads as it did. -/
def tuplesLetsUptoRow : OpenClaim := { program := "ytdifabacbhfbbaa", sum := "c331eae5963e43945a8df045c71645db9e46d4e429f0f03fcca3715c917d732d", func := "latchkey/latchkeylaw10.TuplesLets", spec := "tuplesLets", inPlace := ["math.Float32bits"], apart := false, narrowed := true }
def TuplesLetsUptoSaid : Prop := tuplesLetsUptoRow.holds Try.pinned (OpenSpec.upto tuplesLetsSpec)

/-- 'latchkeylaw10.TuplesCompares', WHERE WHAT IT READS IS OF BULK AT MOST 1048576: true; the input reads as it did. -/
def tuplesComparesUptoRow : OpenClaim := { program := "ytdifabacbhfbbaa", sum := "c331eae5963e43945a8df045c71645db9e46d4e429f0f03fcca3715c917d732d", func := "latchkey/latchkeylaw10.TuplesCompares", spec := "tuplesCompares", inPlace := ["math.Float32bits"], unfollowed := true, recurses := true, apart := false, narrowed := true }
def TuplesComparesUptoSaid : Prop := tuplesComparesUptoRow.holds Try.pinned (OpenSpec.upto tuplesComparesSpec)

end Rows
end Go.Proofs.Ytdifabacbhfbbaa
