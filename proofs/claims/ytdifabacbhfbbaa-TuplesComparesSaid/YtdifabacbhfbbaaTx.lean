import Derived.Test.YtdifabacbhfbbaaTw
import Derived.Laws.FloatArith
namespace Go.Proofs.Ytdifabacbhfbbaa.Tu
open Go.RowKit Go.Lib Go.Proofs
set_option linter.unusedVariables false
set_option linter.unusedSimpArgs false
theorem quo_run (t : TypeId) (a q : Nat) (h : FloatKind.f32.format.div 1065353216 a = some q) (w : World) : (binOp .quo t (.float .f32 1065353216) (.float .f32 a)).run Try.prog w = .ok (.float .f32 q) w := run_float_arith w .quo t .f32 _ _ q h
theorem zero_form {a : Nat} (ha : a < 4294967296) (h : FloatKind.f32.format.order a 0 = some .eq) : ∃ q, FloatKind.f32.format.div 1065353216 a = some q := by
  have s := split_r ha
  have hz : a = 0 ∨ a = 2147483648 := by
    rcases (order_eq ha (by omega) h).1 with rfl | ⟨h1, _⟩
    · exact Or.inl rfl
    · rw [h1] at s
      split at s <;> omega
  rcases hz with rfl | rfl
  · exact ⟨2139095040, by decide +kernel⟩
  · exact ⟨4286578688, by decide +kernel⟩
set_option maxHeartbeats 8000000 in
set_option maxRecDepth 100000 in
theorem below_any {a : Nat} (ha : a < 4294967296) (w : World) : Calls Try.prog 53 #[.float .f32 a] w fun e w' => e = .returned (.bool (belowR a)) ∧ w = w' := by
  cases h1 : (FloatKind.f32.format.order a 0 == some .lt) with
  | true =>
    have e : belowR a = true := by unfold belowR; rw [h1]; rfl
    rw [e]
    go_enter Try.func53, Try.ntmps53
    go_wp2_with fail
    go_ret
    exact ⟨rfl, rfl⟩
  | false =>
    cases h2 : (FloatKind.f32.format.order a 0 == some .eq) with
    | false =>
      have e : belowR a = false := by unfold belowR; rw [h1, h2]; rfl
      rw [e]
      go_enter Try.func53, Try.ntmps53
      go_wp2_with fail
      go_ret
      exact ⟨rfl, rfl⟩
    | true =>
      obtain ⟨q, hq⟩ := zero_form ha (eq_of_beq h2)
      have hr := fun W => quo_run 45 a q hq W
      obtain ⟨z, hz⟩ : ∃ z, (FloatKind.f32.format.order q 0 == some .lt) = z := ⟨_, rfl⟩
      have e : belowR a = z := by unfold belowR; rw [h1, h2, hq, ← hz]; rfl
      rw [e]
      clear hq e
      go_enter Try.func53, Try.ntmps53
      go_wp2_with fail
      go_ret
      exact ⟨rfl, rfl⟩
set_option maxHeartbeats 8000000 in
set_option maxRecDepth 100000 in
theorem sameref_any {a b : Nat} (ha : a < 4294967296) (hb : b < 4294967296) (w : World) : Calls Try.prog 46 #[.float .f32 a, .float .f32 b] w fun e w' => e = .returned (.bool (sameR a b)) ∧ w = w' := by
  unfold sameR
  have n1 := fun W => isnan_any a W
  have n2 := fun W => isnan_any b W
  have b1 := fun W => below_any ha W
  have b2 := fun W => below_any hb W
  generalize nanR a = x at n1 ⊢
  generalize nanR b = y at n2 ⊢
  generalize belowR a = u at b1 ⊢
  generalize belowR b = v at b2 ⊢
  cases ho : (FloatKind.f32.format.order a b == some .eq) with
  | false =>
    cases x with
    | false =>
      go_enter Try.func46, Try.ntmps46
      go_wp2_with (first
        | (go_at_call 52; (with_reducible refine (n1 _).mono ?_); rintro e w3 ⟨rfl, rfl⟩)
        | (go_at_call 52; (with_reducible refine (n2 _).mono ?_); rintro e w3 ⟨rfl, rfl⟩))
      go_ret
      exact ⟨rfl, rfl⟩
    | true =>
      cases y with
      | false =>
        go_enter Try.func46, Try.ntmps46
        go_wp2_with (first
          | (go_at_call 52; (with_reducible refine (n1 _).mono ?_); rintro e w3 ⟨rfl, rfl⟩)
          | (go_at_call 52; (with_reducible refine (n2 _).mono ?_); rintro e w3 ⟨rfl, rfl⟩))
        go_ret
        exact ⟨rfl, rfl⟩
      | true =>
        go_enter Try.func46, Try.ntmps46
        go_wp2_with (first
          | (go_at_call 52; (with_reducible refine (n1 _).mono ?_); rintro e w3 ⟨rfl, rfl⟩)
          | (go_at_call 52; (with_reducible refine (n2 _).mono ?_); rintro e w3 ⟨rfl, rfl⟩))
        go_ret
        exact ⟨rfl, rfl⟩
  | true =>
    cases x with
    | false =>
      go_enter Try.func46, Try.ntmps46
      go_wp2_with (first
        | (go_at_call 52; (with_reducible refine (n1 _).mono ?_); rintro e w3 ⟨rfl, rfl⟩)
        | (go_at_call 52; (with_reducible refine (n2 _).mono ?_); rintro e w3 ⟨rfl, rfl⟩)
        | (go_at_call 53; (with_reducible refine (b1 _).mono ?_); rintro e w3 ⟨rfl, rfl⟩)
        | (go_at_call 53; (with_reducible refine (b2 _).mono ?_); rintro e w3 ⟨rfl, rfl⟩))
      go_ret
      exact ⟨rfl, rfl⟩
    | true =>
      cases y with
      | false =>
        go_enter Try.func46, Try.ntmps46
        go_wp2_with (first
          | (go_at_call 52; (with_reducible refine (n1 _).mono ?_); rintro e w3 ⟨rfl, rfl⟩)
          | (go_at_call 52; (with_reducible refine (n2 _).mono ?_); rintro e w3 ⟨rfl, rfl⟩)
          | (go_at_call 53; (with_reducible refine (b1 _).mono ?_); rintro e w3 ⟨rfl, rfl⟩)
          | (go_at_call 53; (with_reducible refine (b2 _).mono ?_); rintro e w3 ⟨rfl, rfl⟩))
        go_ret
        exact ⟨rfl, rfl⟩
      | true =>
        go_enter Try.func46, Try.ntmps46
        go_wp2_with (first
          | (go_at_call 52; (with_reducible refine (n1 _).mono ?_); rintro e w3 ⟨rfl, rfl⟩)
          | (go_at_call 52; (with_reducible refine (n2 _).mono ?_); rintro e w3 ⟨rfl, rfl⟩))
        go_ret
        exact ⟨rfl, rfl⟩
end Go.Proofs.Ytdifabacbhfbbaa.Tu
