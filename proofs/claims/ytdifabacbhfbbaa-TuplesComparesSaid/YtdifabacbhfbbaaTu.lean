import Derived.Test.YtdifabacbhfbbaaTs
namespace Go.Proofs.Ytdifabacbhfbbaa.Tu
open Go.RowKit Go.Lib Go.Proofs
set_option linter.unusedVariables false
set_option linter.unusedSimpArgs false
/-! ### reals -/
def nanR (r : Nat) : Bool := FloatKind.f32.format.order r r != some Ordering.eq
set_option maxHeartbeats 8000000 in
set_option maxRecDepth 100000 in
theorem isnan_any (r : Nat) (w : World) : Calls Try.prog 52 #[.float .f32 r] w fun e w' => e = .returned (.bool (nanR r)) ∧ w = w' := by
  go_enter Try.func52, Try.ntmps52
  go_wp2_with fail
  go_ret
  exact ⟨rfl, rfl⟩
def keyR (r : Nat) : Int := if nanR r = true then 4290772992 else if ((r : Int) / 2147483648 == 1) = true then bits BinOp.xor IntKind.u32 IntKind.u32.max (r : Int) else bits BinOp.or IntKind.u32 (r : Int) 2147483648
set_option maxHeartbeats 8000000 in
set_option maxRecDepth 100000 in
theorem key_any (r : Nat) (w : World) : Calls Try.prog 50 #[.float .f32 r] w fun e w' => e = .returned (.int .u32 (keyR r)) ∧ w = w' := by
  have h48 := bits_run r
  unfold keyR nanR
  go_enter Try.func50, Try.ntmps50
  cases hq : (FloatKind.f32.format.order r r != some Ordering.eq) with
  | true =>
    go_wp2_with fail
    go_ret
    exact ⟨rfl, rfl⟩
  | false =>
    go_wp2_with fail
    all_goals
      go_ret
      exact ⟨by simp_all, rfl⟩
theorem reals_same (a b : Nat) (w : World) : Calls Try.prog 43 #[.float .f32 a, .float .f32 b] w fun e w' => e = .returned (.bool (keyR a == keyR b)) ∧ w = w' := by
  go_enter Try.func43, Try.ntmps43
  have k1 := fun W => key_any a W
  have k2 := fun W => key_any b W
  generalize keyR a = x at k1 ⊢
  generalize keyR b = y at k2 ⊢
  go_wp2_with (first
    | (go_at_call 50; (with_reducible refine (k1 _).mono ?_); rintro e w3 ⟨rfl, rfl⟩)
    | (go_at_call 50; (with_reducible refine (k2 _).mono ?_); rintro e w3 ⟨rfl, rfl⟩))
  go_ret
  exact ⟨rfl, rfl⟩
end Go.Proofs.Ytdifabacbhfbbaa.Tu
