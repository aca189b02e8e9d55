import Derived.Test.YtdifabacbhfbbaaTc
namespace Go.Proofs.Ytdifabacbhfbbaa.Tu
open Go.RowKit Go.Lib Go.Proofs
set_option linter.unusedVariables false
set_option linter.unusedSimpArgs false
set_option maxRecDepth 1000000 in
theorem bits_run (r : Nat) (w : World) : (callFunc 48 #[.float .f32 r]).run Try.prog w = .ok (.value (.int .u32 r)) w := by kernel_rfl
set_option maxHeartbeats 8000000 in
set_option maxRecDepth 100000 in
theorem same_real (r : Nat) (w : World) : Calls Try.prog 40 #[.float .f32 r, .float .f32 r] w fun e w' => e = .returned (.bool true) ∧ w = w' := by
  have h48 := bits_run r
  go_enter Try.func40, Try.ntmps40
  go_wp2_with fail
  go_ret
  exact ⟨rfl, rfl⟩
set_option maxHeartbeats 8000000 in
set_option maxRecDepth 100000 in
theorem same_value (kind : Int) (b : Bool) (i : Int) (r : Nat) (text : ByteArray) {l : List ByteArray} {w : World} {A B : Option Addr} {n c c' : Nat} (hA : TxtAt w A l) (hB : TxtAt w B l) (hn : l.length = n) (hz : n ≤ 8796093022080) :
    Calls Try.prog 47 #[.agg #[.int .i64 kind, .bool b, .int .i64 i, .float .f32 r, .string text, .slice A n c], .agg #[.int .i64 kind, .bool b, .int .i64 i, .float .f32 r, .string text, .slice B n c']] w fun e w' => e = .returned (.bool true) ∧ Later w w' := by
  have hw2 : Later w ((w.alloc (.cells #[.int .i64 kind, .bool b, .int .i64 i, .float .f32 r, .string text, .slice A n c] 48)).alloc (.cells #[.int .i64 kind, .bool b, .int .i64 i, .float .f32 r, .string text, .slice B n c'] 48)) := ((Later.refl w).alloc _).alloc _
  have hT := fun W (h : Later w W) => same_texts (c := c) (c' := c') (hA.later h) (hB.later h) hn hz
  have hR := fun W => same_real r W
  go_enter Try.func47, Try.ntmps47
  by_cases h3 : kind = 3
  · subst h3
    go_wp2_with (first | (go_at_call 40; refine (hR _).mono ?_; rintro e w3 ⟨rfl, rfl⟩) | (go_at_call 54; refine (hT _ hw2).mono ?_; rintro e w4 ⟨rfl, l4⟩))
    go_ret
    exact ⟨rfl, hw2.next l4⟩
  · have hb : (kind != 3) = true := by simp [h3]
    cases hq : (FloatKind.f32.format.order r r == some Ordering.eq) with
    | true =>
      go_wp2_with (first | (go_at_call 54; refine (hT _ hw2).mono ?_; rintro e w4 ⟨rfl, l4⟩))
      go_ret
      exact ⟨rfl, hw2.next l4⟩
    | false =>
      go_wp2_with (first | (go_at_call 40; refine (hR _).mono ?_; rintro e w3 ⟨rfl, rfl⟩) | (go_at_call 54; refine (hT _ hw2).mono ?_; rintro e w4 ⟨rfl, l4⟩))
      go_ret
      exact ⟨rfl, hw2.next l4⟩
end Go.Proofs.Ytdifabacbhfbbaa.Tu
