import Derived.Test.YtlhhpdomiioeiaaGreatDoorOb
namespace Go.Proofs.YtlhhpdomiioeiaaGreatDoor.Tu
open Go.RowKit Go.Lib Go.Proofs
set_option linter.unusedVariables false
set_option linter.unusedSimpArgs false
set_option maxHeartbeats 8000000 in
set_option maxRecDepth 100000 in
theorem lower_any (c : Int) (R : Bool) (h : (decide (97 ≤ c) && decide (c ≤ 122)) = R) (w : World) : Calls Tryz.prog 61 #[.int .u8 c] w fun e w' => e = .returned (.bool R) ∧ w = w' := by
  go_enter Tryz.func61, Tryz.ntmps61
  by_cases h1 : 97 ≤ c
  · have d1 : decide (97 ≤ c) = true := decide_eq_true h1
    rw [d1, Bool.true_and] at h
    subst h
    go_wp2_with fail
    go_ret
    exact ⟨rfl, rfl⟩
  · have d1 : decide (97 ≤ c) = false := decide_eq_false h1
    rw [d1, Bool.false_and] at h
    subst h
    go_wp2_with fail
    go_ret
    exact ⟨rfl, rfl⟩
set_option maxHeartbeats 8000000 in
set_option maxRecDepth 100000 in
theorem digit_any (c : Int) (R : Bool) (h : (decide (48 ≤ c) && decide (c ≤ 57)) = R) (w : World) : Calls Tryz.prog 63 #[.int .u8 c] w fun e w' => e = .returned (.bool R) ∧ w = w' := by
  go_enter Tryz.func63, Tryz.ntmps63
  by_cases h1 : 48 ≤ c
  · have d1 : decide (48 ≤ c) = true := decide_eq_true h1
    rw [d1, Bool.true_and] at h
    subst h
    go_wp2_with fail
    go_ret
    exact ⟨rfl, rfl⟩
  · have d1 : decide (48 ≤ c) = false := decide_eq_false h1
    rw [d1, Bool.false_and] at h
    subst h
    go_wp2_with fail
    go_ret
    exact ⟨rfl, rfl⟩
set_option maxHeartbeats 8000000 in
set_option maxRecDepth 100000 in
theorem word_100 (w : World) : Calls Tryz.prog 62 #[.string (⟨#[100]⟩ : ByteArray)] w fun e w' => e = .returned (.bool false) ∧ w = w' := by
  go_enter Tryz.func62, Tryz.ntmps62
  go_wp2_with fail
  go_ret
  exact ⟨rfl, rfl⟩
set_option maxHeartbeats 8000000 in
set_option maxRecDepth 100000 in
theorem name_100 (w : World) : Calls Tryz.prog 34 #[.string (⟨#[100]⟩ : ByteArray)] w fun e w' => e = .returned (.bool true) ∧ w = w' := by
  have k1 := fun W => lower_any 100 true (by decide) W
  have k2 := fun W => word_100 W
  go_enter Tryz.func34, Tryz.ntmps34
  go_wp2_with (first
    | (go_at_call 61; refine (k1 _).mono ?_; rintro e w3 ⟨rfl, rfl⟩)
    | (go_at_call 62; (with_reducible refine (k2 _).mono ?_); rintro e w3 ⟨rfl, rfl⟩))
  go_loopw [24] (fun i wr => ∃ k : Nat, k ≤ 1 ∧ i = .int .i64 k ∧ w = wr) (fun i _ => 1 - (intOf i).toNat)
  case atStart => exact ⟨0, by omega, rfl, rfl⟩
  case round =>
    obtain ⟨k, hk, rfl, rfl⟩ := hrel
    have hk2 : k = 0 ∨ k = 1 := by omega
    clear hk
    rcases hk2 with rfl | rfl
    · go_wp2_with (go_at_call 61; refine (k1 _).mono ?_; rintro e w3 ⟨rfl, rfl⟩)
      go_roundw
      case rel => exact ⟨1, by omega, by go_num, by first | trivial | rfl⟩
      case measure => simp [intOf]
    · go_wp2_with fail
      go_ret
      exact ⟨rfl, rfl⟩
set_option maxHeartbeats 8000000 in
set_option maxRecDepth 100000 in
theorem word_114 (w : World) : Calls Tryz.prog 62 #[.string (⟨#[114]⟩ : ByteArray)] w fun e w' => e = .returned (.bool false) ∧ w = w' := by
  go_enter Tryz.func62, Tryz.ntmps62
  go_wp2_with fail
  go_ret
  exact ⟨rfl, rfl⟩
set_option maxHeartbeats 8000000 in
set_option maxRecDepth 100000 in
theorem name_114 (w : World) : Calls Tryz.prog 34 #[.string (⟨#[114]⟩ : ByteArray)] w fun e w' => e = .returned (.bool true) ∧ w = w' := by
  have k1 := fun W => lower_any 114 true (by decide) W
  have k2 := fun W => word_114 W
  go_enter Tryz.func34, Tryz.ntmps34
  go_wp2_with (first
    | (go_at_call 61; refine (k1 _).mono ?_; rintro e w3 ⟨rfl, rfl⟩)
    | (go_at_call 62; (with_reducible refine (k2 _).mono ?_); rintro e w3 ⟨rfl, rfl⟩))
  go_loopw [24] (fun i wr => ∃ k : Nat, k ≤ 1 ∧ i = .int .i64 k ∧ w = wr) (fun i _ => 1 - (intOf i).toNat)
  case atStart => exact ⟨0, by omega, rfl, rfl⟩
  case round =>
    obtain ⟨k, hk, rfl, rfl⟩ := hrel
    have hk2 : k = 0 ∨ k = 1 := by omega
    clear hk
    rcases hk2 with rfl | rfl
    · go_wp2_with (go_at_call 61; refine (k1 _).mono ?_; rintro e w3 ⟨rfl, rfl⟩)
      go_roundw
      case rel => exact ⟨1, by omega, by go_num, by first | trivial | rfl⟩
      case measure => simp [intOf]
    · go_wp2_with fail
      go_ret
      exact ⟨rfl, rfl⟩
set_option maxHeartbeats 8000000 in
set_option maxRecDepth 100000 in
theorem word_117 (w : World) : Calls Tryz.prog 62 #[.string (⟨#[117]⟩ : ByteArray)] w fun e w' => e = .returned (.bool false) ∧ w = w' := by
  go_enter Tryz.func62, Tryz.ntmps62
  go_wp2_with fail
  go_ret
  exact ⟨rfl, rfl⟩
set_option maxHeartbeats 8000000 in
set_option maxRecDepth 100000 in
theorem name_117 (w : World) : Calls Tryz.prog 34 #[.string (⟨#[117]⟩ : ByteArray)] w fun e w' => e = .returned (.bool true) ∧ w = w' := by
  have k1 := fun W => lower_any 117 true (by decide) W
  have k2 := fun W => word_117 W
  go_enter Tryz.func34, Tryz.ntmps34
  go_wp2_with (first
    | (go_at_call 61; refine (k1 _).mono ?_; rintro e w3 ⟨rfl, rfl⟩)
    | (go_at_call 62; (with_reducible refine (k2 _).mono ?_); rintro e w3 ⟨rfl, rfl⟩))
  go_loopw [24] (fun i wr => ∃ k : Nat, k ≤ 1 ∧ i = .int .i64 k ∧ w = wr) (fun i _ => 1 - (intOf i).toNat)
  case atStart => exact ⟨0, by omega, rfl, rfl⟩
  case round =>
    obtain ⟨k, hk, rfl, rfl⟩ := hrel
    have hk2 : k = 0 ∨ k = 1 := by omega
    clear hk
    rcases hk2 with rfl | rfl
    · go_wp2_with (go_at_call 61; refine (k1 _).mono ?_; rintro e w3 ⟨rfl, rfl⟩)
      go_roundw
      case rel => exact ⟨1, by omega, by go_num, by first | trivial | rfl⟩
      case measure => simp [intOf]
    · go_wp2_with fail
      go_ret
      exact ⟨rfl, rfl⟩
set_option maxHeartbeats 8000000 in
set_option maxRecDepth 100000 in
theorem id_49 (w : World) : Calls Tryz.prog 37 #[.string (⟨#[49]⟩ : ByteArray)] w fun e w' => e = .returned (.bool true) ∧ w = w' := by
  have k1 := fun W => lower_any 49 false (by decide) W
  have k2 := fun W => digit_any 49 true (by decide) W
  go_enter Tryz.func37, Tryz.ntmps37
  go_wp2_with fail
  go_loopw [14] (fun i wr => ∃ k : Nat, k ≤ 1 ∧ i = .int .i64 k ∧ w = wr) (fun i _ => 1 - (intOf i).toNat)
  case atStart => exact ⟨0, by omega, rfl, rfl⟩
  case round =>
    obtain ⟨k, hk, rfl, rfl⟩ := hrel
    have hk2 : k = 0 ∨ k = 1 := by omega
    clear hk
    rcases hk2 with rfl | rfl
    · go_wp2_with (first
        | (go_at_call 61; refine (k1 _).mono ?_; rintro e w3 ⟨rfl, rfl⟩)
        | (go_at_call 63; refine (k2 _).mono ?_; rintro e w3 ⟨rfl, rfl⟩))
      go_roundw
      case rel => exact ⟨1, by omega, by go_num, by first | trivial | rfl⟩
      case measure => simp [intOf]
    · go_wp2_with fail
      go_ret
      exact ⟨rfl, rfl⟩
set_option maxHeartbeats 8000000 in
set_option maxRecDepth 100000 in
theorem id_97 (w : World) : Calls Tryz.prog 37 #[.string (⟨#[97]⟩ : ByteArray)] w fun e w' => e = .returned (.bool true) ∧ w = w' := by
  have k1 := fun W => lower_any 97 true (by decide) W
  have k2 := fun W => digit_any 97 false (by decide) W
  go_enter Tryz.func37, Tryz.ntmps37
  go_wp2_with fail
  go_loopw [14] (fun i wr => ∃ k : Nat, k ≤ 1 ∧ i = .int .i64 k ∧ w = wr) (fun i _ => 1 - (intOf i).toNat)
  case atStart => exact ⟨0, by omega, rfl, rfl⟩
  case round =>
    obtain ⟨k, hk, rfl, rfl⟩ := hrel
    have hk2 : k = 0 ∨ k = 1 := by omega
    clear hk
    rcases hk2 with rfl | rfl
    · go_wp2_with (first
        | (go_at_call 61; refine (k1 _).mono ?_; rintro e w3 ⟨rfl, rfl⟩)
        | (go_at_call 63; refine (k2 _).mono ?_; rintro e w3 ⟨rfl, rfl⟩))
      go_roundw
      case rel => exact ⟨1, by omega, by go_num, by first | trivial | rfl⟩
      case measure => simp [intOf]
    · go_wp2_with fail
      go_ret
      exact ⟨rfl, rfl⟩
end Go.Proofs.YtlhhpdomiioeiaaGreatDoor.Tu
