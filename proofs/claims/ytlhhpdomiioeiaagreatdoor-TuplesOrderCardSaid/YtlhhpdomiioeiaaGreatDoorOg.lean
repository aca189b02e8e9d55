import Derived.Test.YtlhhpdomiioeiaaGreatDoorOf
namespace Go.Proofs.YtlhhpdomiioeiaaGreatDoor.Tu
open Go.RowKit Go.Lib Go.Proofs
set_option linter.unusedVariables false
set_option linter.unusedSimpArgs false
abbrev sT : ByteArray := ⟨#[100, 58, 49, 35, 114, 64, 117, 58, 97]⟩
theorem sT_cells : ([] : List Value) ++ Lib.strCells sT = Lib.byteCells [100, 58, 49, 35, 114, 64, 117, 58, 97] := by rfl
set_option maxHeartbeats 8000000 in
set_option maxRecDepth 100000 in
theorem text_c (w : World) : Calls Tryz.prog 6 #[t0V] w fun e w' => e = .returned (.tuple #[.string sT, .int .i64 0]) ∧ Later w w' := by
  have l1 : Later w (w.alloc t0O) := (Later.refl w).alloc _
  have hB : (w.alloc t0O).heap[w.heap.size]? = some (.cells #[.string ⟨#[100]⟩, .string ⟨#[49]⟩, .string ⟨#[114]⟩, .string ⟨#[117]⟩, .string ⟨#[97]⟩, .string ⟨#[]⟩, .string ⟨#[]⟩, .slice none 0 0] 29 (0, 0)) := World.alloc_heap_new _ _
  have k1 := fun W => may_c W
  have k2 := fun W => otext_c W
  have k3 := fun W => stext_c W
  go_enter Tryz.func6, Tryz.ntmps6
  go_upto_region 1 with fail
  generalize w.alloc t0O = W1 at l1 hB ⊢
  obtain ⟨p0, p1, p2, p3, p4, p5, p6, p7⟩ := (eight hB).1
  go_upto_region 3 with (go_at_call 14; refine (k1 _).mono ?_; rintro e w3 ⟨rfl, l3⟩)
  obtain ⟨q0, q1, q2, q3, q4, q5, q6, q7⟩ := (eight (later_blk l3 hB)).1
  go_upto_region 4 with (go_at_call 15; refine (k2 _).mono ?_; rintro e w4 ⟨rfl, l4⟩)
  replace l4 := l3.next l4
  obtain ⟨r0, r1, r2, r3, r4, r5, r6, r7⟩ := (eight (later_blk l4 hB)).1
  go_upto_region 5 with (go_at_call 16; refine (k3 _).mono ?_; rintro e w5 ⟨rfl, l5⟩)
  replace l5 := l4.next l5
  clear p0 p1 p2 p3 p4 p5 p6 p7 q0 q1 q2 q3 q4 q5 q6 q7 r0 r1 r2 r3 r4 r5 r6 r7 l3 l4 k1 k2 k3
  have hb := Lib.fresh_isBuilder 47 5 w5
  have la : Later w5 (w5.alloc (.cells #[.pointer none, .slice none 0 0] 47)) := (Later.refl _).alloc _
  go_upto_region 6 with fail
  have hz : w5.heap.size ≤ (w5.alloc (.cells #[.pointer none, .slice none 0 0] 47)).heap.size := la.size
  generalize w5.alloc (.cells #[.pointer none, .slice none 0 0] 47) = W6 at hb la hz ⊢
  obtain ⟨r0, r1, r2, r3, r4, r5, r6, r7⟩ := (eight (later_blk (l5.next la) hB)).1
  have kw := Tryz.Builder_WriteString w5.heap.size w5.heap.size [] sT W6 hb (by decide) hz
  obtain ⟨Bn, hBn⟩ : ∃ Bn, w5.heap.size = Bn := ⟨_, rfl⟩
  rw [hBn] at kw
  have la2 : Below Bn w5 W6 := by rw [← hBn]; exact la
  rw [hBn]
  go_upto_region 7 with (go_at_call 17; refine kw.mono ?_; rintro e w7 ⟨rfl, hb7, bl7⟩)
  have l7 : Later w5 w7 := by
    show Below w5.heap.size w5 w7
    rw [hBn]; exact Below.trans la2 bl7
  clear r0 r1 r2 r3 r4 r5 r6 r7 kw la la2
  obtain ⟨r0, r1, r2, r3, r4, r5, r6, r7⟩ := (eight (later_blk (l5.next l7) hB)).1
  rw [sT_cells] at hb7
  have ks := Tryz.Builder_String Bn Bn [100, 58, 49, 35, 114, 64, 117, 58, 97] w7 (.inr hb7) (by simp)
  go_wp2_with fail
  go_loopw [48] (fun i wr => i = .int .i64 0 ∧ w7 = wr) (fun i _ => 0)
  case atStart => exact ⟨rfl, rfl⟩
  case round =>
    obtain ⟨rfl, rfl⟩ := hrel
    go_wp2_with (go_at_call 20; refine ks.mono ?_; rintro e w8 ⟨rfl, bl8⟩)
    go_ret2
    refine ⟨rfl, (l1.next l5).next ?_⟩
    show Below w5.heap.size w5 w8
    have l7' : Below w5.heap.size w5 w7 := l7
    rw [hBn] at l7' ⊢
    exact Below.trans l7' bl8
end Go.Proofs.YtlhhpdomiioeiaaGreatDoor.Tu
