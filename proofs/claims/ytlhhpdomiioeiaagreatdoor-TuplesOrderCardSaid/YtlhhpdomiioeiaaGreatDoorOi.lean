import Derived.Test.YtlhhpdomiioeiaaGreatDoorOh
namespace Go.Proofs.YtlhhpdomiioeiaaGreatDoor.Tu
open Go.RowKit Go.Lib Go.Proofs
set_option linter.unusedVariables false
set_option linter.unusedSimpArgs false
/-- bytes from a place on -/
def BytesAt (W : World) (A : Option Addr) (L : List Int) : Prop := ∀ (i : Nat) (x : Int), L[i]? = some x → ∃ g o, A = some ⟨g, o, none⟩ ∧ W.cell? ⟨g, o + i, none⟩ = some (.int .u8 x)
theorem BytesAt.later {W V : World} {A : Option Addr} {L : List Int} (h : BytesAt W A L) (l : Later W V) : BytesAt V A L := fun i x hi => by
  obtain ⟨g, o, e, c⟩ := h i x hi
  exact ⟨g, o, e, l.cell c⟩
set_option maxHeartbeats 8000000 in
set_option maxRecDepth 100000 in
theorem short_1 {w : World} {A : Option Addr} {n c : Nat} {L : List Int} (h : BytesAt w A (1 :: L)) (hn : (1 :: L).length = n) (hz : n ≤ 1000) : Calls Tryz.prog 55 #[.slice A n c] w fun e w' => e = .returned (.tuple #[.int .u64 1, .int .i64 1, .int .i64 0]) ∧ w = w' := by
  obtain ⟨g, o, rfl, c0⟩ := h 0 1 rfl
  have hp : 0 < n := by rw [← hn]; simp
  rw [Nat.add_zero] at c0
  replace hn := hid hn
  go_enter Tryz.func55, Tryz.ntmps55
  go_wp2_with fail
  go_loopw [10, 5] (fun i s wr => i = .int .i64 0 ∧ s = .int .u64 0 ∧ w = wr) (fun i _ _ => 0)
  case atStart => exact ⟨rfl, rfl, rfl⟩
  case round =>
    obtain ⟨rfl, rfl, rfl⟩ := hrel
    go_wp2_with fail
    go_ret3
    exact ⟨rfl, rfl⟩
set_option maxHeartbeats 8000000 in
set_option maxRecDepth 100000 in
theorem short_0 {w : World} {A : Option Addr} {n c : Nat} {L : List Int} (h : BytesAt w A (0 :: L)) (hn : (0 :: L).length = n) (hz : n ≤ 1000) : Calls Tryz.prog 55 #[.slice A n c] w fun e w' => e = .returned (.tuple #[.int .u64 0, .int .i64 1, .int .i64 0]) ∧ w = w' := by
  obtain ⟨g, o, rfl, c0⟩ := h 0 0 rfl
  have hp : 0 < n := by rw [← hn]; simp
  rw [Nat.add_zero] at c0
  replace hn := hid hn
  go_enter Tryz.func55, Tryz.ntmps55
  go_wp2_with fail
  go_loopw [10, 5] (fun i s wr => i = .int .i64 0 ∧ s = .int .u64 0 ∧ w = wr) (fun i _ _ => 0)
  case atStart => exact ⟨rfl, rfl, rfl⟩
  case round =>
    obtain ⟨rfl, rfl, rfl⟩ := hrel
    go_wp2_with fail
    go_ret3
    exact ⟨rfl, rfl⟩
end Go.Proofs.YtlhhpdomiioeiaaGreatDoor.Tu
