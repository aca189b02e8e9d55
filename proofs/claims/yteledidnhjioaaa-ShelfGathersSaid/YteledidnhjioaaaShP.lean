import Derived.Test.YteledidnhjioaaaShO
namespace Go.Proofs.Yteledidnhjioaaa.Sh
open Go.RowKit Go.Lib Go.Proofs Go.Shelf
set_option linter.unusedVariables false
set_option linter.unusedSimpArgs false
theorem shf_new {W : World} {sb c : Nat} (h : IsS W sb c none) (X : Nat → Prop) : Shf X W sb c .leaf := ⟨none, h, fun _ => False, rfl, fun _ _ h => h⟩
/-- one call on a Shelf of its own block, said by what it makes of the tree -/
theorem add_to {c : Nat} {f : (Int × Int) → (Int × Int) → Int} (hc : Comp c f) (x : Int × Int) {w : World} {sb : Nat} {T T' : Tr (Int × Int)} {b : Bool} (h : Shf (only sb) w sb c T) (hz : T.size + 1 ≤ 4611686018427387904) (e : T.put f x false = (T', !b)) :
    Calls Try.prog 22 #[.pointer (some ⟨sb, 0, none⟩), .agg #[.int .i64 x.1, .int .i64 x.2]] w fun e w' => e = .returned (.bool b) ∧ Shf (only sb) w' sb c T' ∧ Chg (only sb) w w' := by
  have k := add_any hc x h (fun b hb => by cases hb; exact h.lt) rfl hz
  rw [e] at k
  simpa using k
theorem lay_to {c : Nat} {f : (Int × Int) → (Int × Int) → Int} (hc : Comp c f) (x : Int × Int) {w : World} {sb : Nat} {T T' : Tr (Int × Int)} {b : Bool} (h : Shf (only sb) w sb c T) (hz : T.size + 1 ≤ 4611686018427387904) (e : T.put f x true = (T', b)) :
    Calls Try.prog 23 #[.pointer (some ⟨sb, 0, none⟩), .agg #[.int .i64 x.1, .int .i64 x.2]] w fun e w' => e = .returned (.bool b) ∧ Shf (only sb) w' sb c T' ∧ Chg (only sb) w w' := by
  have k := lay_any hc x h (fun b hb => by cases hb; exact h.lt) rfl hz
  rw [e] at k
  exact k
theorem remove_to {c : Nat} {f : (Int × Int) → (Int × Int) → Int} (hc : Comp c f) (x : Int × Int) {w : World} {sb : Nat} {T T' : Tr (Int × Int)} {b : Bool} (h : Shf (only sb) w sb c T) (hz : T.size + 1 ≤ 4611686018427387904) (e : T.out f x = (T', b)) :
    Calls Try.prog 24 #[.pointer (some ⟨sb, 0, none⟩), .agg #[.int .i64 x.1, .int .i64 x.2]] w fun e w' => e = .returned (.bool b) ∧ Shf (only sb) w' sb c T' ∧ Chg (only sb) w w' := by
  have k := remove_any hc x h (fun b hb => by cases hb; exact h.lt) rfl hz
  rw [e] at k
  exact k
abbrev T1 : Tr (Int × Int) := .node .leaf (5, 1) .leaf
abbrev T2 : Tr (Int × Int) := .node (.node .leaf (2, 3) .leaf) (5, 1) .leaf
abbrev T3 : Tr (Int × Int) := .node (.node .leaf (2, 3) .leaf) (5, 4) .leaf
abbrev T4 : Tr (Int × Int) := .node .leaf (5, 4) .leaf
set_option maxRecDepth 100000 in
set_option maxHeartbeats 8000000 in
theorem awake_any (w : World) : Calls Try.prog 16 #[] w fun e w' => e = .returned (.bool true) ∧ Later w w' := by
  obtain ⟨N, hN⟩ : ∃ N, w.heap.size = N := ⟨_, rfl⟩
  have hnew := new_any 31 w
  unfold newPost at hnew
  rw [hN] at hnew
  go_enter Try.func16, Try.ntmps16
  go_wp2_with fail
  go_at_call 30; refine hnew.mono ?_; rintro e w0 ⟨rfl, h0, hl0⟩
  have s0 := shf_new h0 (only N)
  go_wp2_with fail
  go_at_call 22; refine (add_to compK (5, 1) (T' := T1) (b := true) s0 (by simp [Tr.size]) (by rfl)).mono ?_; rintro e w1 ⟨rfl, s1, g1⟩
  go_wp2_with fail
  go_at_call 22; refine (add_to compK (5, 2) (T' := T1) (b := false) s1 (by simp [Tr.size]) (by rfl)).mono ?_; rintro e w2 ⟨rfl, s2, g2⟩
  go_wp2_with fail
  go_at_call 23; refine (lay_to compK (2, 3) (T' := T2) (b := false) s2 (by simp [Tr.size]) (by rfl)).mono ?_; rintro e w3 ⟨rfl, s3, g3⟩
  go_wp2_with fail
  go_at_call 23; refine (lay_to compK (5, 4) (T' := T3) (b := true) s3 (by simp [Tr.size]) (by rfl)).mono ?_; rintro e w4 ⟨rfl, s4, g4⟩
  go_wp2_with fail
  go_at_call 26; refine (len_any s4).mono ?_; rintro e w4' ⟨rfl, rfl⟩
  go_wp2_with fail
  go_at_call 33; refine (nth_any (T := T3) 1 s4 (by simp [Tr.size])).mono ?_; rintro e w5 ⟨he5, l5⟩
  have he5' : e = .returned (.tuple #[.agg #[.int .i64 5, .int .i64 4], .bool true]) := he5
  subst he5'
  have s5 := s4.later l5
  have s5' : Shf (only N) (w5.alloc (.cells #[.int .i64 5, .int .i64 4] 27)) N 31 T3 := s5.later Later.two
  go_wp2_with fail
  go_at_call 34; refine (rank_any compK (3, 0) s5' (by simp [Tr.size])).mono ?_; rintro e w6 ⟨he6, l6⟩
  have he6' : e = .returned (.int .i64 1) := he6
  subst he6'
  have s6 := s5'.later l6
  go_wp2_with fail
  go_at_call 24; refine (remove_to compK (2, 0) (T' := T4) (b := true) s6 (by simp [Tr.size]) (by rfl)).mono ?_; rintro e w7 ⟨rfl, s7, g7⟩
  go_wp2_with fail
  go_at_call 24; refine (remove_to compK (2, 0) (T' := T4) (b := false) s7 (by simp [Tr.size]) (by rfl)).mono ?_; rintro e w8 ⟨rfl, s8, g8⟩
  go_wp2_with fail
  go_ret
  have l5' : Later w4 w6 := (l5.next Later.two).next l6
  have g : Chg (only N) w w8 := hl0.chg.trans (g1.trans (g2.trans (g3.trans (g4.trans (l5'.chg.trans (g7.trans g8))))))
  exact ⟨rfl, g.below (Nat.le_refl _) (fun b hb => by cases hb; omega)⟩
end Go.Proofs.Yteledidnhjioaaa.Sh
