import Derived.Test.YtlhhpdomiioeiaaGreatDoorOe
namespace Go.Proofs.YtlhhpdomiioeiaaGreatDoor.Tu
open Go.RowKit Go.Lib Go.Proofs
set_option linter.unusedVariables false
set_option linter.unusedSimpArgs false
set_option maxHeartbeats 8000000 in
set_option maxRecDepth 100000 in
theorem subject_c (w : World) (hm : MX w) : Calls Tryz.prog 47 #[.string ⟨#[117, 58, 97]⟩] w fun e w' => e = .returned (.tuple #[.agg #[.string ⟨#[117]⟩, .string ⟨#[97]⟩, .string ⟨#[]⟩], .int .i64 0]) ∧ Later w w' := by
  have l1 : Later w (w.alloc (.cells #[.string ⟨#[]⟩, .string ⟨#[]⟩, .string ⟨#[]⟩] 25)) := (Later.refl w).alloc _
  have hB : (w.alloc (.cells #[.string ⟨#[]⟩, .string ⟨#[]⟩, .string ⟨#[]⟩] 25)).heap[w.heap.size]? = some (.cells #[.string ⟨#[]⟩, .string ⟨#[]⟩, .string ⟨#[]⟩] 25 (0, 0)) := World.alloc_heap_new _ _
  have k1 := fun W (h : Later w W) => cut_any _ _ _ _ _ cut_ua (by decide) W (hm.later h)
  have k2 := fun W (h : Later w W) => cut_any _ _ _ _ _ cut_a (by decide) W (hm.later h)
  have k3 := fun W => name_117 W
  have k4 := fun W => id_97 W
  go_enter Tryz.func47, Tryz.ntmps47
  go_upto_region 1 with fail
  generalize w.alloc (.cells #[.string ⟨#[]⟩, .string ⟨#[]⟩, .string ⟨#[]⟩] 25) = W1 at l1 hB ⊢
  obtain ⟨B, hBe⟩ : ∃ B, w.heap.size = B := ⟨_, rfl⟩
  rw [hBe] at hB ⊢
  replace hBe := hid hBe
  go_upto_region 4 with (go_at_call 45; refine (k1 _ l1).mono ?_; rintro e w3 ⟨rfl, l3⟩)
  go_upto_region 11 with (first
    | (go_at_call 45; refine (k2 _ (l1.next l3)).mono ?_; rintro e w4 ⟨rfl, l4⟩)
    | (go_at_call 34; refine (k3 _).mono ?_; rintro e w5 ⟨rfl, rfl⟩)
    | (go_at_call 37; refine (k4 _).mono ?_; rintro e w5 ⟨rfl, rfl⟩))
  have hB5 := later_blk (l3.next l4) hB
  obtain ⟨⟨z0, z1, z2⟩, g0, g1, g2⟩ := three_f hB5
  have hle : w.heap.size ≤ B := by rw [hBe.out]; exact Nat.le_refl _
  have lend := later_set (later_set (later_set ((l1.next l3).next l4) (o := 0) hle (.string ⟨#[117]⟩)) (o := 1) hle (.string ⟨#[97]⟩)) (o := 2) hle (.string ⟨#[]⟩)
  have hend := three_set (.string ⟨#[117]⟩) (.string ⟨#[97]⟩) (.string ⟨#[]⟩) hB5
  go_wp2_with fail
  refine bodyPost_ret (ret_row Tryz.results47 _ _ B 25 _ (0, 0) _ rfl hend Tryz.underlying25 rfl (by kernel_rfl)) rfl ?_
  exact ⟨rfl, lend⟩
/-- the tuple -/
def T0 : TupV := ⟨⟨#[100]⟩, ⟨#[49]⟩, ⟨#[114]⟩, ⟨#[117]⟩, ⟨#[97]⟩, ⟨#[]⟩, ⟨#[]⟩⟩
abbrev t0V : Value := .agg #[.string ⟨#[100]⟩, .string ⟨#[49]⟩, .string ⟨#[114]⟩, .string ⟨#[117]⟩, .string ⟨#[97]⟩, .string ⟨#[]⟩, .string ⟨#[]⟩, .slice none 0 0]
abbrev t0O : Obj := .cells #[.string ⟨#[100]⟩, .string ⟨#[49]⟩, .string ⟨#[114]⟩, .string ⟨#[117]⟩, .string ⟨#[97]⟩, .string ⟨#[]⟩, .string ⟨#[]⟩, .slice none 0 0] 29
set_option maxHeartbeats 8000000 in
set_option maxRecDepth 100000 in
theorem may_c (w : World) : Calls Tryz.prog 14 #[t0V] w fun e w' => e = .returned (.bool true) ∧ Later w w' := by
  have l1 : Later w (w.alloc t0O) := (Later.refl w).alloc _
  have hB : (w.alloc t0O).heap[w.heap.size]? = some (.cells #[.string ⟨#[100]⟩, .string ⟨#[49]⟩, .string ⟨#[114]⟩, .string ⟨#[117]⟩, .string ⟨#[97]⟩, .string ⟨#[]⟩, .string ⟨#[]⟩, .slice none 0 0] 29 (0, 0)) := World.alloc_heap_new _ _
  have k1 := fun W => otext_c W
  have k2 := fun W => name_114 W
  have k3 := fun W => kind_c W
  have k4 := fun W => args_c W
  go_enter Tryz.func14, Tryz.ntmps14
  go_upto_region 1 with fail
  generalize w.alloc t0O = W1 at l1 hB ⊢
  obtain ⟨p0, p1, p2, p3, p4, p5, p6, p7⟩ := (eight hB).1
  go_upto_region 4 with (go_at_call 15; refine (k1 _).mono ?_; rintro e w3 ⟨rfl, l3⟩)
  obtain ⟨q0, q1, q2, q3, q4, q5, q6, q7⟩ := (eight (later_blk l3 hB)).1
  go_wp2_with (first
    | (go_at_call 34; refine (k2 _).mono ?_; rintro e w5 ⟨rfl, rfl⟩)
    | (go_at_call 35; refine (k3 _).mono ?_; rintro e w5 ⟨rfl, l5⟩; obtain ⟨u0', u1', u2', u3', u4', u5', u6', u7'⟩ := (eight (later_blk (l3.next l5) hB)).1)
    | (go_at_call 36; refine (k4 _).mono ?_; rintro e w6 ⟨rfl, rfl⟩))
  go_ret
  exact ⟨rfl, (l1.next l3).next l5⟩
end Go.Proofs.YtlhhpdomiioeiaaGreatDoor.Tu
