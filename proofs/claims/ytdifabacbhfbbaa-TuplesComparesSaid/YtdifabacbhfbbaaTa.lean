import Derived.Test.YtdifabacbhfbbaaA
import Derived.IntWalk
import Derived.Deep.RegionHeld3
import Derived.BigRegion
import Derived.RegionTactic
import Derived.StillTailTactics
import Derived.Laws.EntriesVeiled
import Derived.Deep.DeepAppendWide
import Derived.Maps.AppendAt
import Derived.Deep.DeepCutAuto
import Derived.Deep.CutBlock
import Derived.RangeFuncNested
namespace Go.Proofs.Ytdifabacbhfbbaa.Tu
open Go.RowKit Go.Lib Go.Proofs
set_option linter.unusedVariables false
set_option linter.unusedSimpArgs false
theorem cell_lt {W : World} {b o : Nat} {v : Value} (h : W.cell? ⟨b, o, none⟩ = some v) : b < W.heap.size := by
  unfold World.cell? at h
  rcases Nat.lt_or_ge b W.heap.size with k | k
  · exact k
  · rw [Array.getElem?_eq_none k] at h; simp at h
/-- from W on nothing that was there has turned -/
abbrev Later (W W' : World) : Prop := Below W.heap.size W W'
theorem Later.cell {W W' : World} (h : Later W W') {b o : Nat} {v : Value} (k : W.cell? ⟨b, o, none⟩ = some v) : W'.cell? ⟨b, o, none⟩ = some v := (Below.cell h (p := ⟨b, o, none⟩) (cell_lt k)).trans k
theorem Later.next {W A A' : World} (h : Later W A) (k : Later A A') : Later W A' := Below.trans h (Below.mono k h.size)
theorem Later.drew {W A : World} (h : Later W A) : Later W A.drew := Below.drew h
theorem Later.refl (W : World) : Later W W := Below.refl _ _
theorem Later.alloc {W A : World} (h : Later W A) (o : Obj) : Later W (A.alloc o) := Below.alloc h h.size o
theorem Later.grown {A B : World} (h : Later A B) : A.grownBy B none := ⟨h.os, h.tape, h.output, h.size, fun k hk _ => h.block k hk⟩
/-- the mark of a place -/
def mkN (k i : Int) : List Int := [35, k % 256, k / 256 % 256, k / 65536 % 256, 47, i % 256, i / 256 % 256, i / 65536 % 256]
def mk (i : Int) : ByteArray := strOfNums (mkN 1 i)
theorem conv_eight (w : World) (k i : Int) : (convert 60 9 (.slice (some ⟨w.heap.size, 0, none⟩) 8 8)).run Try.prog (w.alloc (.cells #[.int .u8 35, .int .u8 (k % 256), .int .u8 (k / 256 % 256), .int .u8 (k / 65536 % 256), .int .u8 47, .int .u8 (i % 256), .int .u8 (i / 256 % 256), .int .u8 (i / 65536 % 256)] 5)) =
    .ok (.string (strOfNums (mkN k i))) (w.alloc (.cells #[.int .u8 35, .int .u8 (k % 256), .int .u8 (k / 256 % 256), .int .u8 (k / 65536 % 256), .int .u8 47, .int .u8 (i % 256), .int .u8 (i / 256 % 256), .int .u8 (i / 65536 % 256)] 5)) := by
  have h' := World.alloc_heap_new w (.cells #[.int .u8 35, .int .u8 (k % 256), .int .u8 (k / 256 % 256), .int .u8 (k / 65536 % 256), .int .u8 47, .int .u8 (i % 256), .int .u8 (i / 256 % 256), .int .u8 (i / 65536 % 256)] 5)
  refine run_convert_bytes_arg _ 60 5 Try.underlying60 Try.underlying5 w.heap.size 0 8 8 (mkN k i) rfl (fun j hj => ?_) 9 Try.underlying9
  simp only [World.cell?, h']
  match j, hj with
  | 0, _ => rfl
  | 1, _ => rfl
  | 2, _ => rfl
  | 3, _ => rfl
  | 4, _ => rfl
  | 5, _ => rfl
  | 6, _ => rfl
  | 7, _ => rfl
  | j + 8, hj => exact absurd hj (by omega)
set_option maxHeartbeats 8000000 in
set_option maxRecDepth 100000 in
theorem mark_any (k i : Int) (w : World) : Calls Try.prog 30 #[.int .i64 k, .int .i64 i] w fun e w' => e = .returned (.string (strOfNums (mkN k i))) ∧ Later w w' := by
  have hc := conv_eight w k i
  go_enter Try.func30, Try.ntmps30
  go_wp2_with fail
  go_ret
  exact ⟨rfl, (Later.refl w).alloc _⟩
end Go.Proofs.Ytdifabacbhfbbaa.Tu
