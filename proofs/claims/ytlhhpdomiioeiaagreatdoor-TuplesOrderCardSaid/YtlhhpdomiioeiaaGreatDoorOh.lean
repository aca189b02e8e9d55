import Derived.Test.YtlhhpdomiioeiaaGreatDoorOg
namespace Go.Proofs.YtlhhpdomiioeiaaGreatDoor.Tu
open Go.RowKit Go.Lib Go.Proofs
set_option linter.unusedVariables false
set_option linter.unusedSimpArgs false
abbrev zO : Obj := .cells #[.string ⟨#[]⟩, .string ⟨#[]⟩, .string ⟨#[]⟩, .string ⟨#[]⟩, .string ⟨#[]⟩, .string ⟨#[]⟩, .string ⟨#[]⟩, .slice none 0 0] 29
theorem cut_w : (⟨(Lib.cut sT.data.toList (⟨#[32, 119, 105, 116, 104, 32]⟩ : ByteArray).data.toList).1.toArray⟩ : ByteArray) = sT ∧ (⟨(Lib.cut sT.data.toList (⟨#[32, 119, 105, 116, 104, 32]⟩ : ByteArray).data.toList).2.1.toArray⟩ : ByteArray) = ⟨#[]⟩ ∧ (Lib.cut sT.data.toList (⟨#[32, 119, 105, 116, 104, 32]⟩ : ByteArray).data.toList).2.2 = false := by decide +kernel
theorem cut_at : (⟨(Lib.cut sT.data.toList (⟨#[64]⟩ : ByteArray).data.toList).1.toArray⟩ : ByteArray) = ⟨#[100, 58, 49, 35, 114]⟩ ∧ (⟨(Lib.cut sT.data.toList (⟨#[64]⟩ : ByteArray).data.toList).2.1.toArray⟩ : ByteArray) = ⟨#[117, 58, 97]⟩ ∧ (Lib.cut sT.data.toList (⟨#[64]⟩ : ByteArray).data.toList).2.2 = true := by decide +kernel
theorem cut_sharp : (⟨(Lib.cut (⟨#[100, 58, 49, 35, 114]⟩ : ByteArray).data.toList (⟨#[35]⟩ : ByteArray).data.toList).1.toArray⟩ : ByteArray) = ⟨#[100, 58, 49]⟩ ∧ (⟨(Lib.cut (⟨#[100, 58, 49, 35, 114]⟩ : ByteArray).data.toList (⟨#[35]⟩ : ByteArray).data.toList).2.1.toArray⟩ : ByteArray) = ⟨#[114]⟩ ∧ (Lib.cut (⟨#[100, 58, 49, 35, 114]⟩ : ByteArray).data.toList (⟨#[35]⟩ : ByteArray).data.toList).2.2 = true := by decide +kernel
theorem eight_later {w V : World} (l : Later w V) {B : Nat} (hB : w.heap.size ≤ B) (x0 x1 x2 x3 x4 x5 x6 x7 : Value) : Later w ((((((((V.setCell ⟨B, 0, none⟩ x0).setCell ⟨B, 1, none⟩ x1).setCell ⟨B, 2, none⟩ x2).setCell ⟨B, 3, none⟩ x3).setCell ⟨B, 4, none⟩ x4).setCell ⟨B, 5, none⟩ x5).setCell ⟨B, 6, none⟩ x6).setCell ⟨B, 7, none⟩ x7) :=
  later_set (later_set (later_set (later_set (later_set (later_set (later_set (later_set l hB _) hB _) hB _) hB _) hB _) hB _) hB _) hB _
set_option maxHeartbeats 8000000 in
set_option maxRecDepth 100000 in
theorem read_c (w : World) (hm : MX w) : Calls Tryz.prog 21 #[.string sT] w fun e w' => e = .returned (.tuple #[t0V, .bool true]) ∧ Later w w' := by
  have l1 : Later w (w.alloc zO) := (Later.refl w).alloc _
  have hB : (w.alloc zO).heap[w.heap.size]? = some (.cells #[.string ⟨#[]⟩, .string ⟨#[]⟩, .string ⟨#[]⟩, .string ⟨#[]⟩, .string ⟨#[]⟩, .string ⟨#[]⟩, .string ⟨#[]⟩, .slice none 0 0] 29 (0, 0)) := World.alloc_heap_new _ _
  have k1 := fun W (h : Later w W) => cut_any _ _ _ _ _ cut_w (by decide) W (hm.later h)
  have k2 := fun W (h : Later w W) => cut_any _ _ _ _ _ cut_at (by decide) W (hm.later h)
  have k3 := fun W (h : Later w W) => cut_any _ _ _ _ _ cut_sharp (by decide) W (hm.later h)
  have k4 := fun W (h : Later w W) => object_c W (hm.later h)
  have k5 := fun W (h : Later w W) => subject_c W (hm.later h)
  go_enter Tryz.func21, Tryz.ntmps21
  go_upto_region 1 with fail
  generalize w.alloc zO = W1 at l1 hB ⊢
  obtain ⟨B, hBe⟩ : ∃ B, w.heap.size = B := ⟨_, rfl⟩
  rw [hBe] at hB ⊢
  replace hBe := hid hBe
  go_upto_region 2 with (go_at_call 45; refine (k1 _ l1).mono ?_; rintro e w2 ⟨rfl, l2⟩)
  have m2 := l1.next l2
  go_upto_region 3 with (go_at_call 45; refine (k2 _ m2).mono ?_; rintro e w3 ⟨rfl, l3⟩)
  have m3 := m2.next l3
  go_upto_region 4 with (go_at_call 45; refine (k3 _ m3).mono ?_; rintro e w4 ⟨rfl, l4⟩)
  have m4 := m3.next l4
  go_upto_region 5 with (go_at_call 46; refine (k4 _ m4).mono ?_; rintro e w5 ⟨rfl, l5⟩)
  have hc5 := cells2 w5 (.string ⟨#[100]⟩) (.string ⟨#[49]⟩) 23
  have la5 : Later w5 (w5.alloc (.cells #[.string ⟨#[100]⟩, .string ⟨#[49]⟩] 23)) := (Later.refl _).alloc _
  generalize w5.alloc (.cells #[.string ⟨#[100]⟩, .string ⟨#[49]⟩] 23) = W5 at hc5 la5 ⊢
  obtain ⟨B5, hB5⟩ : ∃ B, w5.heap.size = B := ⟨_, rfl⟩
  rw [hB5] at hc5 ⊢
  clear hB5
  have m5 := (m4.next l5).next la5
  go_upto_region 6 with (go_at_call 47; refine (k5 _ m5).mono ?_; rintro e w6 ⟨rfl, l6⟩)
  have hc6 := cells3 w6 (.string ⟨#[117]⟩) (.string ⟨#[97]⟩) (.string ⟨#[]⟩) 25
  have la6 : Later w6 (w6.alloc (.cells #[.string ⟨#[117]⟩, .string ⟨#[97]⟩, .string ⟨#[]⟩] 25)) := (Later.refl _).alloc _
  generalize w6.alloc (.cells #[.string ⟨#[117]⟩, .string ⟨#[97]⟩, .string ⟨#[]⟩] 25) = W6 at hc6 la6 ⊢
  obtain ⟨B6, hB6⟩ : ∃ B, w6.heap.size = B := ⟨_, rfl⟩
  rw [hB6] at hc6 ⊢
  clear hB6
  have m6 := (m5.next l6).next la6
  obtain ⟨p0, p1⟩ := hc5 _ (l6.next la6)
  obtain ⟨q0, q1, q2⟩ := hc6 _ (Later.refl _)
  go_upto_region 7 with fail
  have hT : (W6.alloc t0O).heap[W6.heap.size]? = some (.cells #[.string ⟨#[100]⟩, .string ⟨#[49]⟩, .string ⟨#[114]⟩, .string ⟨#[117]⟩, .string ⟨#[97]⟩, .string ⟨#[]⟩, .string ⟨#[]⟩, .slice none 0 0] 29 (0, 0)) := World.alloc_heap_new _ _
  have la7 : Later W6 (W6.alloc t0O) := (Later.refl _).alloc _
  generalize W6.alloc t0O = W7 at hT la7 ⊢
  obtain ⟨B7, hB7⟩ : ∃ B, W6.heap.size = B := ⟨_, rfl⟩
  rw [hB7] at hT ⊢
  clear hB7 p0 p1 q0 q1 q2 hc5 hc6
  have m7 := m6.next la7
  have hBz := later_blk ((((((l2.next l3).next l4).next l5).next la5).next (l6.next la6)).next la7) hB
  obtain ⟨⟨p0, p1, p2, p3, p4, p5, p6, p7⟩, g0, g1, g2, g3, g4, g5, g6, g7⟩ := eight hBz
  obtain ⟨r0, r1, r2, r3, r4, r5, r6, r7⟩ := (eight hT).1
  have hend := eight_set (.string ⟨#[100]⟩) (.string ⟨#[49]⟩) (.string ⟨#[114]⟩) (.string ⟨#[117]⟩) (.string ⟨#[97]⟩) (.string ⟨#[]⟩) (.string ⟨#[]⟩) (.slice none 0 0) hBz
  have hle : w.heap.size ≤ B := by rw [hBe.out]; exact Nat.le_refl _
  have lend := eight_later m7 hle (.string ⟨#[100]⟩) (.string ⟨#[49]⟩) (.string ⟨#[114]⟩) (.string ⟨#[117]⟩) (.string ⟨#[97]⟩) (.string ⟨#[]⟩) (.string ⟨#[]⟩) (.slice none 0 0)
  go_wp2_with fail
  refine bodyPost_ret (ret_row Tryz.results21 _ _ B 29 _ (0, 0) _ rfl hend Tryz.underlying29 rfl (by kernel_rfl)) rfl ?_
  exact ⟨rfl, lend⟩
set_option maxHeartbeats 8000000 in
set_option maxRecDepth 100000 in
theorem parse_c (w : World) (hm : MX w) : Calls Tryz.prog 7 #[.string sT] w fun e w' => e = .returned (.tuple #[t0V, .int .i64 0]) ∧ Later w w' := by
  have l1 : Later w (w.alloc zO) := (Later.refl w).alloc _
  have hB : (w.alloc zO).heap[w.heap.size]? = some (.cells #[.string ⟨#[]⟩, .string ⟨#[]⟩, .string ⟨#[]⟩, .string ⟨#[]⟩, .string ⟨#[]⟩, .string ⟨#[]⟩, .string ⟨#[]⟩, .slice none 0 0] 29 (0, 0)) := World.alloc_heap_new _ _
  have k1 := fun W (h : Later w W) => read_c W (hm.later h)
  have k2 := fun W => text_c W
  go_enter Tryz.func7, Tryz.ntmps7
  go_upto_region 1 with fail
  generalize w.alloc zO = W1 at l1 hB ⊢
  obtain ⟨B, hBe⟩ : ∃ B, w.heap.size = B := ⟨_, rfl⟩
  rw [hBe] at hB ⊢
  replace hBe := hid hBe
  go_upto_region 4 with (go_at_call 21; refine (k1 _ l1).mono ?_; rintro e w2 ⟨rfl, l2⟩)
  have hT : (w2.alloc t0O).heap[w2.heap.size]? = some (.cells #[.string ⟨#[100]⟩, .string ⟨#[49]⟩, .string ⟨#[114]⟩, .string ⟨#[117]⟩, .string ⟨#[97]⟩, .string ⟨#[]⟩, .string ⟨#[]⟩, .slice none 0 0] 29 (0, 0)) := World.alloc_heap_new _ _
  have la3 : Later w2 (w2.alloc t0O) := (Later.refl _).alloc _
  generalize w2.alloc t0O = W3 at hT la3 ⊢
  obtain ⟨B3, hB3⟩ : ∃ B, w2.heap.size = B := ⟨_, rfl⟩
  rw [hB3] at hT ⊢
  clear hB3
  obtain ⟨r0, r1, r2, r3, r4, r5, r6, r7⟩ := (eight hT).1
  go_upto_region 9 with (go_at_call 6; refine (k2 _).mono ?_; rintro e w4 ⟨rfl, l4⟩)
  clear r0 r1 r2 r3 r4 r5 r6 r7
  obtain ⟨r0, r1, r2, r3, r4, r5, r6, r7⟩ := (eight (later_blk l4 hT)).1
  have m4 := ((l1.next l2).next la3).next l4
  have hBz := later_blk ((l2.next la3).next l4) hB
  obtain ⟨⟨p0, p1, p2, p3, p4, p5, p6, p7⟩, g0, g1, g2, g3, g4, g5, g6, g7⟩ := eight hBz
  have hend := eight_set (.string ⟨#[100]⟩) (.string ⟨#[49]⟩) (.string ⟨#[114]⟩) (.string ⟨#[117]⟩) (.string ⟨#[97]⟩) (.string ⟨#[]⟩) (.string ⟨#[]⟩) (.slice none 0 0) hBz
  have hle : w.heap.size ≤ B := by rw [hBe.out]; exact Nat.le_refl _
  have lend := eight_later m4 hle (.string ⟨#[100]⟩) (.string ⟨#[49]⟩) (.string ⟨#[114]⟩) (.string ⟨#[117]⟩) (.string ⟨#[97]⟩) (.string ⟨#[]⟩) (.string ⟨#[]⟩) (.slice none 0 0)
  go_wp2_with fail
  refine bodyPost_ret (ret_row Tryz.results7 _ _ B 29 _ (0, 0) _ rfl hend Tryz.underlying29 rfl (by kernel_rfl)) rfl ?_
  exact ⟨rfl, lend⟩
end Go.Proofs.YtlhhpdomiioeiaaGreatDoor.Tu
