import Derived.Test.YtdifabacbhfbbaaTs
namespace Go.Proofs.Ytdifabacbhfbbaa.Tu
open Go.RowKit Go.Lib Go.Proofs
set_option linter.unusedVariables false
set_option linter.unusedSimpArgs false
set_option maxHeartbeats 8000000 in
set_option maxRecDepth 100000 in
theorem zero_any (kind : Int) (b : Bool) (i : Int) (r : Nat) (text : ByteArray) {l : List ByteArray} {w : World} {A : Option Addr} {n c : Nat} (hk : 1 ≤ kind ∧ kind ≤ 5) (hn : l.length = n) :
    Calls Try.prog 51 #[.agg #[.int .i64 kind, .bool b, .int .i64 i, .float .f32 r, .string text, .slice A n c]] w fun e w' => e = .returned (.bool (kindV kind b (nB i) (rB r) (tB text) (lB l))) ∧ Later w w' := by
  obtain ⟨R, hR⟩ : ∃ R, kindV kind b (nB i) (rB r) (tB text) (lB l) = R := ⟨_, rfl⟩
  rw [hR]
  have hr : Hid (R = kindV kind b (nB i) (rB r) (tB text) (lB l)) := hid hR.symm
  clear hR
  have fin : Later w (w.alloc (.cells #[.int .i64 kind, .bool b, .int .i64 i, .float .f32 r, .string text, .slice A n c] 48)) := (Later.refl w).alloc _
  have hcl := cells_at w [.int .i64 kind, .bool b, .int .i64 i, .float .f32 r, .string text, .slice A n c] 48
  have p0 : (w.alloc (.cells #[.int .i64 kind, .bool b, .int .i64 i, .float .f32 r, .string text, .slice A n c] 48)).cell? ⟨w.heap.size, 0, none⟩ = some (.int .i64 kind) := hcl 0 _ rfl
  have p1 : (w.alloc (.cells #[.int .i64 kind, .bool b, .int .i64 i, .float .f32 r, .string text, .slice A n c] 48)).cell? ⟨w.heap.size, 1, none⟩ = some (.bool b) := hcl 1 _ rfl
  have p2 : (w.alloc (.cells #[.int .i64 kind, .bool b, .int .i64 i, .float .f32 r, .string text, .slice A n c] 48)).cell? ⟨w.heap.size, 2, none⟩ = some (.int .i64 i) := hcl 2 _ rfl
  have p3 : (w.alloc (.cells #[.int .i64 kind, .bool b, .int .i64 i, .float .f32 r, .string text, .slice A n c] 48)).cell? ⟨w.heap.size, 3, none⟩ = some (.float .f32 r) := hcl 3 _ rfl
  have p4 : (w.alloc (.cells #[.int .i64 kind, .bool b, .int .i64 i, .float .f32 r, .string text, .slice A n c] 48)).cell? ⟨w.heap.size, 4, none⟩ = some (.string text) := hcl 4 _ rfl
  have p5 : (w.alloc (.cells #[.int .i64 kind, .bool b, .int .i64 i, .float .f32 r, .string text, .slice A n c] 48)).cell? ⟨w.heap.size, 5, none⟩ = some (.slice A n c) := hcl 5 _ rfl
  clear hcl
  unfold nB rB tB lB at hr
  rw [hn] at hr
  go_enter Try.func51, Try.ntmps51
  go_upto_region 1 with fail
  generalize w.alloc (.cells #[.int .i64 kind, .bool b, .int .i64 i, .float .f32 r, .string text, .slice A n c] 48) = W1 at p0 p1 p2 p3 p4 p5 fin ⊢
  have hsp : kind = 1 ∨ kind = 2 ∨ kind = 3 ∨ kind = 4 ∨ kind = 5 := by omega
  clear hk
  rcases hsp with rfl | rfl | rfl | rfl | rfl
  all_goals
    go_wp2_with fail
  all_goals
    go_ret
    refine ⟨?_, fin⟩
    have hr2 := hr.out
    rw [hr2]
    clear hr hr2
    have hn0 : ((n : Int) == 0) = !decide (0 < n) := by
      cases n with
      | zero => rfl
      | succ n => simp; omega
    simp_all [kindV]
end Go.Proofs.Ytdifabacbhfbbaa.Tu
