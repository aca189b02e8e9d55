import Derived.Test.YtdifabacbhfbbaaProg
import Derived.WalkKit
import Derived.WalkLawsBesides
import Derived.WalkSpells
import Derived.Below
import Derived.LoopTactic
import Derived.Outline
import Derived.Deep.LoopGhost
import Derived.KernelRfl
import Derived.OwnWalk
import Derived.Lib.Hide
namespace Go.Proofs.Ytdifabacbhfbbaa
open Go.RowKit Go.Lib

/-- one field of a filter lets one field of a tuple through -/
def one (f t : ByteArray) : Bool := f.toList.isEmpty || f.toList == t.toList
def upTo (F : Nat → ByteArray × ByteArray) (k : Nat) : Bool := (List.range k).all fun j => one (F j).1 (F j).2
theorem upTo_succ {F : Nat → ByteArray × ByteArray} {k : Nat} (h : upTo F k = true) (x : one (F k).1 (F k).2 = true) : upTo F (k + 1) = true := by
  unfold upTo at *
  rw [List.range_succ, List.all_append, h]
  simp [x]
theorem upTo_bad {F : Nat → ByteArray × ByteArray} {k n : Nat} (x : one (F k).1 (F k).2 = false) (h : k < n) : upTo F n = false := by
  unfold upTo
  rw [List.all_eq_false]
  exact ⟨k, List.mem_range.mpr h, by simp [x]⟩
def pairs (f0 f1 f2 f3 f4 f5 f6 t0 t1 t2 t3 t4 t5 t6 : ByteArray) : Nat → ByteArray × ByteArray
  | 0 => (f0, t0)
  | 1 => (f1, t1)
  | 2 => (f2, t2)
  | 3 => (f3, t3)
  | 4 => (f4, t4)
  | 5 => (f5, t5)
  | _ => (f6, t6)
def letsB (f0 f1 f2 f3 f4 f5 f6 t0 t1 t2 t3 t4 t5 t6 : ByteArray) : Bool := upTo (pairs f0 f1 f2 f3 f4 f5 f6 t0 t1 t2 t3 t4 t5 t6) 7
theorem idx0 (f0 f1 f2 f3 f4 f5 f6 t0 t1 t2 t3 t4 t5 t6 : ByteArray) (w : World) : (Instr.index 37 (.agg #[.string f0, .string t0, .string f1, .string t1, .string f2, .string t2, .string f3, .string t3, .string f4, .string t4, .string f5, .string t5, .string f6, .string t6]) (.int .i64 0)).run Try.prog w = .ok (.agg #[.string f0, .string t0]) w := by kernel_rfl
theorem idx1 (f0 f1 f2 f3 f4 f5 f6 t0 t1 t2 t3 t4 t5 t6 : ByteArray) (w : World) : (Instr.index 37 (.agg #[.string f0, .string t0, .string f1, .string t1, .string f2, .string t2, .string f3, .string t3, .string f4, .string t4, .string f5, .string t5, .string f6, .string t6]) (.int .i64 1)).run Try.prog w = .ok (.agg #[.string f1, .string t1]) w := by kernel_rfl
theorem idx2 (f0 f1 f2 f3 f4 f5 f6 t0 t1 t2 t3 t4 t5 t6 : ByteArray) (w : World) : (Instr.index 37 (.agg #[.string f0, .string t0, .string f1, .string t1, .string f2, .string t2, .string f3, .string t3, .string f4, .string t4, .string f5, .string t5, .string f6, .string t6]) (.int .i64 2)).run Try.prog w = .ok (.agg #[.string f2, .string t2]) w := by kernel_rfl
theorem idx3 (f0 f1 f2 f3 f4 f5 f6 t0 t1 t2 t3 t4 t5 t6 : ByteArray) (w : World) : (Instr.index 37 (.agg #[.string f0, .string t0, .string f1, .string t1, .string f2, .string t2, .string f3, .string t3, .string f4, .string t4, .string f5, .string t5, .string f6, .string t6]) (.int .i64 3)).run Try.prog w = .ok (.agg #[.string f3, .string t3]) w := by kernel_rfl
theorem idx4 (f0 f1 f2 f3 f4 f5 f6 t0 t1 t2 t3 t4 t5 t6 : ByteArray) (w : World) : (Instr.index 37 (.agg #[.string f0, .string t0, .string f1, .string t1, .string f2, .string t2, .string f3, .string t3, .string f4, .string t4, .string f5, .string t5, .string f6, .string t6]) (.int .i64 4)).run Try.prog w = .ok (.agg #[.string f4, .string t4]) w := by kernel_rfl
theorem idx5 (f0 f1 f2 f3 f4 f5 f6 t0 t1 t2 t3 t4 t5 t6 : ByteArray) (w : World) : (Instr.index 37 (.agg #[.string f0, .string t0, .string f1, .string t1, .string f2, .string t2, .string f3, .string t3, .string f4, .string t4, .string f5, .string t5, .string f6, .string t6]) (.int .i64 5)).run Try.prog w = .ok (.agg #[.string f5, .string t5]) w := by kernel_rfl
theorem idx6 (f0 f1 f2 f3 f4 f5 f6 t0 t1 t2 t3 t4 t5 t6 : ByteArray) (w : World) : (Instr.index 37 (.agg #[.string f0, .string t0, .string f1, .string t1, .string f2, .string t2, .string f3, .string t3, .string f4, .string t4, .string f5, .string t5, .string f6, .string t6]) (.int .i64 6)).run Try.prog w = .ok (.agg #[.string f6, .string t6]) w := by kernel_rfl

set_option maxHeartbeats 8000000 in
set_option maxRecDepth 100000 in
theorem lets_any (f0 f1 f2 f3 f4 f5 f6 t0 t1 t2 t3 t4 t5 t6 : ByteArray) (a : Option Addr) (n c : Nat) (w : World) :
    Calls Try.prog 6 #[.agg #[.string f0, .string f1, .string f2, .string f3, .string f4, .string f5, .string f6], .agg #[.string t0, .string t1, .string t2, .string t3, .string t4, .string t5, .string t6, .slice a n c]] w fun e w' => e = .returned (.bool (letsB f0 f1 f2 f3 f4 f5 f6 t0 t1 t2 t3 t4 t5 t6)) ∧ Below w.heap.size w w' := by
  generalize hL : letsB f0 f1 f2 f3 f4 f5 f6 t0 t1 t2 t3 t4 t5 t6 = L
  have HL := hid hL
  clear hL
  go_enter Try.func6, Try.ntmps6
  go_wp2
  go_loopw [51] (fun i wr => ∃ k : Int, 0 ≤ k ∧ k ≤ 7 ∧ i = .int .i64 k ∧ Hid (upTo (pairs f0 f1 f2 f3 f4 f5 f6 t0 t1 t2 t3 t4 t5 t6) k.toNat = true) ∧ Below w.heap.size w wr) (fun i _ => 7 - (intOf i).toNat)
  case atStart => exact ⟨0, by omega, by omega, rfl, hid rfl, (((Below.refl _ _).alloc (Nat.le_refl _) _).alloc (by simp) _)⟩
  case round =>
    obtain ⟨k, hk0, hk, rfl, hu, hb⟩ := hrel
    have hz := hb.size
    have hsp : k = 0 ∨ k = 1 ∨ k = 2 ∨ k = 3 ∨ k = 4 ∨ k = 5 ∨ k = 6 ∨ k = 7 := by omega
    clear hk hk0
    rcases hsp with rfl | rfl | rfl | rfl | rfl | rfl | rfl | rfl
    · have hi := idx0 f0 f1 f2 f3 f4 f5 f6 t0 t1 t2 t3 t4 t5 t6
      by_cases he : f0.toList.isEmpty = true
      · have hu' := upTo_succ hu.out (by show one f0 t0 = true; unfold one; rw [he]; rfl)
        have hu2 := hid hu'
        clear hu' hu
        go_wp2
        go_roundw
        case rel => exact ⟨1, by omega, by omega, rfl, hu2, hb.alloc (by omega) _⟩
        case measure => simp [intOf]
      · have he' : f0.toList.isEmpty = false := by simpa using he
        clear he
        by_cases hq : f0.toList = t0.toList
        · have hu' := upTo_succ hu.out (by show one f0 t0 = true; unfold one; simp [hq])
          have hu2 := hid hu'
          clear hu' hu
          have hn : (!(f0.toList == t0.toList)) = false := by simp [hq]
          have hn2 : (f0.toList == t0.toList) = true := by simp [hq]
          clear hq
          go_wp2
          go_roundw
          case rel => exact ⟨1, by omega, by omega, rfl, hu2, hb.alloc (by omega) _⟩
          case measure => simp [intOf]
        · have hu' := upTo_bad (F := pairs f0 f1 f2 f3 f4 f5 f6 t0 t1 t2 t3 t4 t5 t6) (k := 0) (n := 7) (by show one f0 t0 = false; unfold one; simp [he', hq]) (by omega)
          have hu2 := hid hu'
          clear hu' hu
          have hn : (f0.toList == t0.toList) = false := by simp [hq]
          clear hq
          go_wp2
          go_ret
          exact ⟨by rw [← HL.out]; exact congrArg (fun b => Ending.returned (.bool b)) hu2.out.symm, hb.alloc (by omega) _⟩
    · have hi := idx1 f0 f1 f2 f3 f4 f5 f6 t0 t1 t2 t3 t4 t5 t6
      by_cases he : f1.toList.isEmpty = true
      · have hu' := upTo_succ hu.out (by show one f1 t1 = true; unfold one; rw [he]; rfl)
        have hu2 := hid hu'
        clear hu' hu
        go_wp2
        go_roundw
        case rel => exact ⟨2, by omega, by omega, rfl, hu2, hb.alloc (by omega) _⟩
        case measure => simp [intOf]
      · have he' : f1.toList.isEmpty = false := by simpa using he
        clear he
        by_cases hq : f1.toList = t1.toList
        · have hu' := upTo_succ hu.out (by show one f1 t1 = true; unfold one; simp [hq])
          have hu2 := hid hu'
          clear hu' hu
          have hn : (!(f1.toList == t1.toList)) = false := by simp [hq]
          have hn2 : (f1.toList == t1.toList) = true := by simp [hq]
          clear hq
          go_wp2
          go_roundw
          case rel => exact ⟨2, by omega, by omega, rfl, hu2, hb.alloc (by omega) _⟩
          case measure => simp [intOf]
        · have hu' := upTo_bad (F := pairs f0 f1 f2 f3 f4 f5 f6 t0 t1 t2 t3 t4 t5 t6) (k := 1) (n := 7) (by show one f1 t1 = false; unfold one; simp [he', hq]) (by omega)
          have hu2 := hid hu'
          clear hu' hu
          have hn : (f1.toList == t1.toList) = false := by simp [hq]
          clear hq
          go_wp2
          go_ret
          exact ⟨by rw [← HL.out]; exact congrArg (fun b => Ending.returned (.bool b)) hu2.out.symm, hb.alloc (by omega) _⟩
    · have hi := idx2 f0 f1 f2 f3 f4 f5 f6 t0 t1 t2 t3 t4 t5 t6
      by_cases he : f2.toList.isEmpty = true
      · have hu' := upTo_succ hu.out (by show one f2 t2 = true; unfold one; rw [he]; rfl)
        have hu2 := hid hu'
        clear hu' hu
        go_wp2
        go_roundw
        case rel => exact ⟨3, by omega, by omega, rfl, hu2, hb.alloc (by omega) _⟩
        case measure => simp [intOf]
      · have he' : f2.toList.isEmpty = false := by simpa using he
        clear he
        by_cases hq : f2.toList = t2.toList
        · have hu' := upTo_succ hu.out (by show one f2 t2 = true; unfold one; simp [hq])
          have hu2 := hid hu'
          clear hu' hu
          have hn : (!(f2.toList == t2.toList)) = false := by simp [hq]
          have hn2 : (f2.toList == t2.toList) = true := by simp [hq]
          clear hq
          go_wp2
          go_roundw
          case rel => exact ⟨3, by omega, by omega, rfl, hu2, hb.alloc (by omega) _⟩
          case measure => simp [intOf]
        · have hu' := upTo_bad (F := pairs f0 f1 f2 f3 f4 f5 f6 t0 t1 t2 t3 t4 t5 t6) (k := 2) (n := 7) (by show one f2 t2 = false; unfold one; simp [he', hq]) (by omega)
          have hu2 := hid hu'
          clear hu' hu
          have hn : (f2.toList == t2.toList) = false := by simp [hq]
          clear hq
          go_wp2
          go_ret
          exact ⟨by rw [← HL.out]; exact congrArg (fun b => Ending.returned (.bool b)) hu2.out.symm, hb.alloc (by omega) _⟩
    · have hi := idx3 f0 f1 f2 f3 f4 f5 f6 t0 t1 t2 t3 t4 t5 t6
      by_cases he : f3.toList.isEmpty = true
      · have hu' := upTo_succ hu.out (by show one f3 t3 = true; unfold one; rw [he]; rfl)
        have hu2 := hid hu'
        clear hu' hu
        go_wp2
        go_roundw
        case rel => exact ⟨4, by omega, by omega, rfl, hu2, hb.alloc (by omega) _⟩
        case measure => simp [intOf]
      · have he' : f3.toList.isEmpty = false := by simpa using he
        clear he
        by_cases hq : f3.toList = t3.toList
        · have hu' := upTo_succ hu.out (by show one f3 t3 = true; unfold one; simp [hq])
          have hu2 := hid hu'
          clear hu' hu
          have hn : (!(f3.toList == t3.toList)) = false := by simp [hq]
          have hn2 : (f3.toList == t3.toList) = true := by simp [hq]
          clear hq
          go_wp2
          go_roundw
          case rel => exact ⟨4, by omega, by omega, rfl, hu2, hb.alloc (by omega) _⟩
          case measure => simp [intOf]
        · have hu' := upTo_bad (F := pairs f0 f1 f2 f3 f4 f5 f6 t0 t1 t2 t3 t4 t5 t6) (k := 3) (n := 7) (by show one f3 t3 = false; unfold one; simp [he', hq]) (by omega)
          have hu2 := hid hu'
          clear hu' hu
          have hn : (f3.toList == t3.toList) = false := by simp [hq]
          clear hq
          go_wp2
          go_ret
          exact ⟨by rw [← HL.out]; exact congrArg (fun b => Ending.returned (.bool b)) hu2.out.symm, hb.alloc (by omega) _⟩
    · have hi := idx4 f0 f1 f2 f3 f4 f5 f6 t0 t1 t2 t3 t4 t5 t6
      by_cases he : f4.toList.isEmpty = true
      · have hu' := upTo_succ hu.out (by show one f4 t4 = true; unfold one; rw [he]; rfl)
        have hu2 := hid hu'
        clear hu' hu
        go_wp2
        go_roundw
        case rel => exact ⟨5, by omega, by omega, rfl, hu2, hb.alloc (by omega) _⟩
        case measure => simp [intOf]
      · have he' : f4.toList.isEmpty = false := by simpa using he
        clear he
        by_cases hq : f4.toList = t4.toList
        · have hu' := upTo_succ hu.out (by show one f4 t4 = true; unfold one; simp [hq])
          have hu2 := hid hu'
          clear hu' hu
          have hn : (!(f4.toList == t4.toList)) = false := by simp [hq]
          have hn2 : (f4.toList == t4.toList) = true := by simp [hq]
          clear hq
          go_wp2
          go_roundw
          case rel => exact ⟨5, by omega, by omega, rfl, hu2, hb.alloc (by omega) _⟩
          case measure => simp [intOf]
        · have hu' := upTo_bad (F := pairs f0 f1 f2 f3 f4 f5 f6 t0 t1 t2 t3 t4 t5 t6) (k := 4) (n := 7) (by show one f4 t4 = false; unfold one; simp [he', hq]) (by omega)
          have hu2 := hid hu'
          clear hu' hu
          have hn : (f4.toList == t4.toList) = false := by simp [hq]
          clear hq
          go_wp2
          go_ret
          exact ⟨by rw [← HL.out]; exact congrArg (fun b => Ending.returned (.bool b)) hu2.out.symm, hb.alloc (by omega) _⟩
    · have hi := idx5 f0 f1 f2 f3 f4 f5 f6 t0 t1 t2 t3 t4 t5 t6
      by_cases he : f5.toList.isEmpty = true
      · have hu' := upTo_succ hu.out (by show one f5 t5 = true; unfold one; rw [he]; rfl)
        have hu2 := hid hu'
        clear hu' hu
        go_wp2
        go_roundw
        case rel => exact ⟨6, by omega, by omega, rfl, hu2, hb.alloc (by omega) _⟩
        case measure => simp [intOf]
      · have he' : f5.toList.isEmpty = false := by simpa using he
        clear he
        by_cases hq : f5.toList = t5.toList
        · have hu' := upTo_succ hu.out (by show one f5 t5 = true; unfold one; simp [hq])
          have hu2 := hid hu'
          clear hu' hu
          have hn : (!(f5.toList == t5.toList)) = false := by simp [hq]
          have hn2 : (f5.toList == t5.toList) = true := by simp [hq]
          clear hq
          go_wp2
          go_roundw
          case rel => exact ⟨6, by omega, by omega, rfl, hu2, hb.alloc (by omega) _⟩
          case measure => simp [intOf]
        · have hu' := upTo_bad (F := pairs f0 f1 f2 f3 f4 f5 f6 t0 t1 t2 t3 t4 t5 t6) (k := 5) (n := 7) (by show one f5 t5 = false; unfold one; simp [he', hq]) (by omega)
          have hu2 := hid hu'
          clear hu' hu
          have hn : (f5.toList == t5.toList) = false := by simp [hq]
          clear hq
          go_wp2
          go_ret
          exact ⟨by rw [← HL.out]; exact congrArg (fun b => Ending.returned (.bool b)) hu2.out.symm, hb.alloc (by omega) _⟩
    · have hi := idx6 f0 f1 f2 f3 f4 f5 f6 t0 t1 t2 t3 t4 t5 t6
      by_cases he : f6.toList.isEmpty = true
      · have hu' := upTo_succ hu.out (by show one f6 t6 = true; unfold one; rw [he]; rfl)
        have hu2 := hid hu'
        clear hu' hu
        go_wp2
        go_roundw
        case rel => exact ⟨7, by omega, by omega, rfl, hu2, hb.alloc (by omega) _⟩
        case measure => simp [intOf]
      · have he' : f6.toList.isEmpty = false := by simpa using he
        clear he
        by_cases hq : f6.toList = t6.toList
        · have hu' := upTo_succ hu.out (by show one f6 t6 = true; unfold one; simp [hq])
          have hu2 := hid hu'
          clear hu' hu
          have hn : (!(f6.toList == t6.toList)) = false := by simp [hq]
          have hn2 : (f6.toList == t6.toList) = true := by simp [hq]
          clear hq
          go_wp2
          go_roundw
          case rel => exact ⟨7, by omega, by omega, rfl, hu2, hb.alloc (by omega) _⟩
          case measure => simp [intOf]
        · have hu' := upTo_bad (F := pairs f0 f1 f2 f3 f4 f5 f6 t0 t1 t2 t3 t4 t5 t6) (k := 6) (n := 7) (by show one f6 t6 = false; unfold one; simp [he', hq]) (by omega)
          have hu2 := hid hu'
          clear hu' hu
          have hn : (f6.toList == t6.toList) = false := by simp [hq]
          clear hq
          go_wp2
          go_ret
          exact ⟨by rw [← HL.out]; exact congrArg (fun b => Ending.returned (.bool b)) hu2.out.symm, hb.alloc (by omega) _⟩
    · go_wp2
      go_ret
      exact ⟨by rw [← HL.out]; exact congrArg (fun b => Ending.returned (.bool b)) hu.out.symm, hb⟩
end Go.Proofs.Ytdifabacbhfbbaa
