import Derived.Test.YtdifabacbhfbbaaTj
namespace Go.Proofs.Ytdifabacbhfbbaa.Tu
open Go.RowKit Go.Lib Go.Proofs
set_option linter.unusedVariables false
set_option linter.unusedSimpArgs false
set_option maxHeartbeats 16000000 in
set_option maxRecDepth 100000 in
theorem lets_walk (f0 f1 f2 f3 f4 f5 f6 : ByteArray) (x : TupV) {L : List Arg} {w : World} {A : Option Addr} {n c : Nat} (hA : ArgsAt w A L) (hn : L.length = n) (hz : n ≤ 2000000000000) :
    Calls Try.prog 4 #[.agg #[.string f0, .string f1, .string f2, .string f3, .string f4, .string f5, .string f6], x.v (.slice A n c)] w fun e w' => e = .returned (.bool true) ∧ Later w w' := by
  have a1 := World.alloc_heap_new w (.cells #[.string f0, .string f1, .string f2, .string f3, .string f4, .string f5, .string f6] 25)
  have a2 := World.alloc_heap_new (w.alloc (.cells #[.string f0, .string f1, .string f2, .string f3, .string f4, .string f5, .string f6] 25)) (x.o (.slice A n c))
  have hw1 : Later (w.alloc (.cells #[.string f0, .string f1, .string f2, .string f3, .string f4, .string f5, .string f6] 25)) ((w.alloc (.cells #[.string f0, .string f1, .string f2, .string f3, .string f4, .string f5, .string f6] 25)).alloc (x.o (.slice A n c))) := (Later.refl _).alloc _
  have hw2 := ((Later.refl w).alloc (.cells #[.string f0, .string f1, .string f2, .string f3, .string f4, .string f5, .string f6] 25)).next hw1
  have h1 := (hw1.block w.heap.size (Array.getElem?_eq_some_iff.1 a1).1).trans a1
  rw [World.size_alloc] at a2
  have hc : ∀ V, Later ((w.alloc (.cells #[.string f0, .string f1, .string f2, .string f3, .string f4, .string f5, .string f6] 25)).alloc (x.o (.slice A n c))) V → V.heap[w.heap.size]? = some (.cells #[.string f0, .string f1, .string f2, .string f3, .string f4, .string f5, .string f6] 25 (0, 0)) ∧ V.heap[w.heap.size + 1]? = some (x.o (.slice A n c)) := fun V l =>
    ⟨(l.block w.heap.size (Array.getElem?_eq_some_iff.1 h1).1).trans h1, (l.block (w.heap.size + 1) (Array.getElem?_eq_some_iff.1 a2).1).trans a2⟩
  clear h1 a1 a2 hw1
  have hT := fun W (h : Later w W) => lent_tuple x (c := c) (hA.later h) hn hz
  go_enter Try.func4, Try.ntmps4
  go_upto_region 2 with (go_at_call 7; refine (hT _ hw2).mono ?_; rintro e w4 ⟨g, cap, rfl, ha, hg, l4⟩)
  have a5 := World.alloc_heap_new w4 (x.o (.slice (some ⟨g, 0, none⟩) n cap))
  have l5 : Later w4 (w4.alloc (x.o (.slice (some ⟨g, 0, none⟩) n cap))) := (Later.refl _).alloc _
  have hc5 : ∀ V, Later (w4.alloc (x.o (.slice (some ⟨g, 0, none⟩) n cap))) V →
      ((V.cell? ⟨w.heap.size, 0, none⟩ = some (.string f0) ∧ V.cell? ⟨w.heap.size, 1, none⟩ = some (.string f1) ∧ V.cell? ⟨w.heap.size, 2, none⟩ = some (.string f2) ∧ V.cell? ⟨w.heap.size, 3, none⟩ = some (.string f3) ∧ V.cell? ⟨w.heap.size, 4, none⟩ = some (.string f4) ∧ V.cell? ⟨w.heap.size, 5, none⟩ = some (.string f5) ∧ V.cell? ⟨w.heap.size, 6, none⟩ = some (.string f6)) ∧
      (V.cell? ⟨w.heap.size + 1, 0, none⟩ = some (.string x.t0) ∧ V.cell? ⟨w.heap.size + 1, 1, none⟩ = some (.string x.t1) ∧ V.cell? ⟨w.heap.size + 1, 2, none⟩ = some (.string x.t2) ∧ V.cell? ⟨w.heap.size + 1, 3, none⟩ = some (.string x.t3) ∧ V.cell? ⟨w.heap.size + 1, 4, none⟩ = some (.string x.t4) ∧ V.cell? ⟨w.heap.size + 1, 5, none⟩ = some (.string x.t5) ∧ V.cell? ⟨w.heap.size + 1, 6, none⟩ = some (.string x.t6) ∧ V.cell? ⟨w.heap.size + 1, 7, none⟩ = some (.slice A n c)) ∧
      (V.cell? ⟨w4.heap.size, 0, none⟩ = some (.string x.t0) ∧ V.cell? ⟨w4.heap.size, 1, none⟩ = some (.string x.t1) ∧ V.cell? ⟨w4.heap.size, 2, none⟩ = some (.string x.t2) ∧ V.cell? ⟨w4.heap.size, 3, none⟩ = some (.string x.t3) ∧ V.cell? ⟨w4.heap.size, 4, none⟩ = some (.string x.t4) ∧ V.cell? ⟨w4.heap.size, 5, none⟩ = some (.string x.t5) ∧ V.cell? ⟨w4.heap.size, 6, none⟩ = some (.string x.t6) ∧ V.cell? ⟨w4.heap.size, 7, none⟩ = some (.slice (some ⟨g, 0, none⟩) n cap))) := fun V l => by
    obtain ⟨b1, b2⟩ := hc V (l4.next (l5.next l))
    exact ⟨(seven b1).1, (eight b2).1, (eight ((l.block w4.heap.size (Array.getElem?_eq_some_iff.1 a5).1).trans a5)).1⟩
  have lw5 := (hw2.next l4).next l5
  have ha5 := ha.later l5
  generalize w4.alloc (x.o (.slice (some ⟨g, 0, none⟩) n cap)) = W5 at hc5 lw5 ha5 ⊢
  obtain ⟨B4, hB4⟩ : ∃ B, w4.heap.size = B := ⟨_, rfl⟩
  rw [hB4] at hc5 ⊢
  have h5 := hc5 W5 (Later.refl _)
  obtain ⟨⟨p0, p1, p2, p3, p4, p5, p6⟩, ⟨q0, q1, q2, q3, q4, q5, q6, q7⟩, ⟨r0, r1, r2, r3, r4, r5, r6, r7⟩⟩ := h5
  clear hc hT ha a5 l5 l4 hB4
  have hL := fun W => lets_any f0 f1 f2 f3 f4 f5 f6 x.t0 x.t1 x.t2 x.t3 x.t4 x.t5 x.t6 (some ⟨g, 0, none⟩) n cap W
  have hR := fun W => ref_lets f0 f1 f2 f3 f4 f5 f6 x.t0 x.t1 x.t2 x.t3 x.t4 x.t5 x.t6 A n c W
  have hK := fun W (h : Later W5 W) => kept_tuple x (c' := c) (ha5.later h) (hA.later (lw5.next h)) hn hz
  generalize letsB f0 f1 f2 f3 f4 f5 f6 x.t0 x.t1 x.t2 x.t3 x.t4 x.t5 x.t6 = R at hL hR
  go_upto_region 3 with (go_at_call 6; refine (hL _).mono ?_; rintro e w6 ⟨rfl, l6⟩)
  have h6 := hc5 w6 l6
  clear p0 p1 p2 p3 p4 p5 p6 q0 q1 q2 q3 q4 q5 q6 q7 r0 r1 r2 r3 r4 r5 r6 r7
  obtain ⟨⟨p0, p1, p2, p3, p4, p5, p6⟩, ⟨q0, q1, q2, q3, q4, q5, q6, q7⟩, ⟨r0, r1, r2, r3, r4, r5, r6, r7⟩⟩ := h6
  go_wp2_with (first
    | (go_at_call 8; refine (hR _).mono ?_; rintro e w7 ⟨rfl, l7⟩; have h7 := hc5 _ (Later.next l6 l7); obtain ⟨_, ⟨k0, k1, k2, k3, k4, k5, k6, k7⟩, ⟨m0, m1, m2, m3, m4, m5, m6, m7⟩⟩ := h7)
    | (go_at_call 9; refine (hK _ (Later.next l6 l7)).mono ?_; rintro e w8 ⟨rfl, l8⟩))
  go_ret
  exact ⟨rfl, (lw5.next (Later.next l6 l7)).next l8⟩
end Go.Proofs.Ytdifabacbhfbbaa.Tu
