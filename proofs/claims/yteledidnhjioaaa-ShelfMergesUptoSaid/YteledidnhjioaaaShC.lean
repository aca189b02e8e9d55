import Derived.Test.YteledidnhjioaaaShB
namespace Go.Proofs.Yteledidnhjioaaa.Sh
open Go.RowKit Go.Lib Go.Proofs
set_option linter.unusedVariables false
set_option maxRecDepth 100000 in
set_option maxHeartbeats 8000000 in
theorem even_A1 {ok : Nat → Prop} {w : World} {pl pr : Option Addr} {ll lr r : Tr (Int × Int)} {lx : (Int × Int)} (x : (Int × Int)) (hu : Up ok w.heap.size) (hl : IsT ok w pl (.node ll lx lr)) (hr : IsT ok w pr (r)) (hs : Tr.size (.node ll lx lr) + Tr.size (r) + 1 ≤ 4611686018427387904) (t0 : r.tall + 1 < Tr.tall (.node ll lx lr)) (t1 : lr.tall ≤ ll.tall) :
    Calls Try.prog 84 #[.pointer pl, .agg #[.int .i64 x.1, .int .i64 x.2], .pointer pr] w fun e w' => ∃ p, e = .returned (.pointer p) ∧ IsT ok w' p (.node ll lx (.node lr x r)) ∧ Later w w' := by
  have q1 := Tr.tall_le (.node ll lx lr)
  have q2 := Tr.tall_le (r)
  go_enter Try.func84, Try.ntmps84
  go_wp2_with fail
  have hB : Later w (w.alloc (.cells #[.int .i64 x.1, .int .i64 x.2] 27)) := Later.two
  have hc := two_new w (.int .i64 x.1) (.int .i64 x.2) 27
  have hz : (w.alloc (.cells #[.int .i64 x.1, .int .i64 x.2] 27)).heap.size = w.heap.size + 1 := World.size_alloc _ _
  obtain ⟨W0, hW0⟩ : ∃ W0, w.alloc (.cells #[.int .i64 x.1, .int .i64 x.2] 27) = W0 := ⟨_, rfl⟩
  rw [hW0] at hc hB hz ⊢
  replace hl := hl.later hB
  replace hr := hr.later hB
  obtain ⟨N, hN⟩ : ∃ N, w.heap.size = N := ⟨_, rfl⟩
  rw [hN] at hc hz hu ⊢
  have hbox : ∀ W', Later W0 W' → W'.cell? ⟨N, 0, none⟩ = some (.int .i64 x.1) ∧ W'.cell? ⟨N, 1, none⟩ = some (.int .i64 x.2) := fun W' h => ⟨h.cell hc.1, h.cell hc.2⟩
  have hb0 := Later.refl W0
  have hu0 : ∀ W', Later W0 W' → Up ok W'.heap.size := fun W' h => hu.mono (by have := h.size; omega)
  clear hW0 hc hz
  obtain ⟨b, pll, plr, rfl, _, hcb, hll, hlr⟩ := IsT.node hl
  have hr0 : ∀ W', Later W0 W' → IsT ok W' pr (r) := fun W' h => hr.later h
  go_wp2_with (first | (go_at_call 91; (first | with_reducible refine (height_any hl).mono ?_ | with_reducible refine (height_any hr).mono ?_); rintro e w' ⟨rfl, rfl⟩))
  go_region_held3 (fun W' => Later W0 W') (first | assumption | exact Later.drew (by assumption) | exact Later.next (by assumption) hb1) (first | (go_at_call 91; (first | with_reducible refine (height_any (hll _ (by assumption))).mono ?_ | with_reducible refine (height_any (hlr _ (by assumption))).mono ?_); rintro e w' ⟨rfl, rfl⟩))
  go_wp2_with fail
  go_region_held3 (fun W' => Later W0 W') (first | assumption | exact Later.drew (by assumption) | exact Later.next (by assumption) hb1) (first | (go_at_call 83; (with_reducible refine (join_any x (hu0 _ (by assumption)) (hlr _ (by assumption)) (hr0 _ (by assumption)) (by simp only [Tr.size] at *; omega)).mono ?_); rintro e w' ⟨p0, rfl, j0, hb1⟩) | (go_at_call 83; (with_reducible refine (join_any lx (hu0 _ (by assumption)) (hll _ (by assumption)) j0 (by simp only [Tr.size] at *; omega)).mono ?_); rintro e w' ⟨p1, rfl, j1, hb1⟩))
  go_wp2_with fail
  go_ret
  exact ⟨_, rfl, j1, hB.next (show Later W0 _ by assumption)⟩

set_option maxRecDepth 100000 in
set_option maxHeartbeats 8000000 in
theorem even_A2 {ok : Nat → Prop} {w : World} {pl pr : Option Addr} {ll a b r : Tr (Int × Int)} {lx m : (Int × Int)} (x : (Int × Int)) (hu : Up ok w.heap.size) (hl : IsT ok w pl (.node ll lx (.node a m b))) (hr : IsT ok w pr (r)) (hs : Tr.size (.node ll lx (.node a m b)) + Tr.size (r) + 1 ≤ 4611686018427387904) (t0 : r.tall + 1 < Tr.tall (.node ll lx (.node a m b))) (t1 : ¬ Tr.tall (.node a m b) ≤ ll.tall) :
    Calls Try.prog 84 #[.pointer pl, .agg #[.int .i64 x.1, .int .i64 x.2], .pointer pr] w fun e w' => ∃ p, e = .returned (.pointer p) ∧ IsT ok w' p (.node (.node ll lx a) m (.node b x r)) ∧ Later w w' := by
  have q1 := Tr.tall_le (.node ll lx (.node a m b))
  have q2 := Tr.tall_le (r)
  go_enter Try.func84, Try.ntmps84
  go_wp2_with fail
  have hB : Later w (w.alloc (.cells #[.int .i64 x.1, .int .i64 x.2] 27)) := Later.two
  have hc := two_new w (.int .i64 x.1) (.int .i64 x.2) 27
  have hz : (w.alloc (.cells #[.int .i64 x.1, .int .i64 x.2] 27)).heap.size = w.heap.size + 1 := World.size_alloc _ _
  obtain ⟨W0, hW0⟩ : ∃ W0, w.alloc (.cells #[.int .i64 x.1, .int .i64 x.2] 27) = W0 := ⟨_, rfl⟩
  rw [hW0] at hc hB hz ⊢
  replace hl := hl.later hB
  replace hr := hr.later hB
  obtain ⟨N, hN⟩ : ∃ N, w.heap.size = N := ⟨_, rfl⟩
  rw [hN] at hc hz hu ⊢
  have hbox : ∀ W', Later W0 W' → W'.cell? ⟨N, 0, none⟩ = some (.int .i64 x.1) ∧ W'.cell? ⟨N, 1, none⟩ = some (.int .i64 x.2) := fun W' h => ⟨h.cell hc.1, h.cell hc.2⟩
  have hb0 := Later.refl W0
  have hu0 : ∀ W', Later W0 W' → Up ok W'.heap.size := fun W' h => hu.mono (by have := h.size; omega)
  clear hW0 hc hz
  obtain ⟨b1, pll, plr, rfl, _, hcb1, hll, hlr⟩ := IsT.node hl
  obtain ⟨b2, pa, pb, rfl, _, hcb2, ha, hbb⟩ := IsT.node (hlr _ hb0)
  have hr0 : ∀ W', Later W0 W' → IsT ok W' pr (r) := fun W' h => hr.later h
  go_wp2_with (first | (go_at_call 91; (first | with_reducible refine (height_any hl).mono ?_ | with_reducible refine (height_any hr).mono ?_); rintro e w' ⟨rfl, rfl⟩))
  go_region_held3 (fun W' => Later W0 W') (first | assumption | exact Later.drew (by assumption) | exact Later.next (by assumption) hb1) (first | (go_at_call 91; (first | with_reducible refine (height_any (hll _ (by assumption))).mono ?_ | with_reducible refine (height_any (hlr _ (by assumption))).mono ?_); rintro e w' ⟨rfl, rfl⟩))
  go_wp2_with fail
  go_region_held3 (fun W' => Later W0 W') (first | assumption | exact Later.drew (by assumption) | exact Later.next (by assumption) hb1) (first | (go_at_call 83; (with_reducible refine (join_any lx (hu0 _ (by assumption)) (hll _ (by assumption)) (ha _ (by assumption)) (by simp only [Tr.size] at *; omega)).mono ?_); rintro e w' ⟨p0, rfl, j0, hb1⟩) | (go_at_call 83; (with_reducible refine (join_any x (hu0 _ (by assumption)) (hbb _ (by assumption)) (hr0 _ (by assumption)) (by simp only [Tr.size] at *; omega)).mono ?_); rintro e w' ⟨p1, rfl, j1, hb1⟩) | (go_at_call 83; (with_reducible refine (join_any m (hu0 _ (by assumption)) (j0.later hb1) j1 (by simp only [Tr.size] at *; omega)).mono ?_); rintro e w' ⟨p2, rfl, j2, hb1⟩))
  go_wp2_with fail
  go_ret
  exact ⟨_, rfl, j2, hB.next (show Later W0 _ by assumption)⟩

set_option maxRecDepth 100000 in
set_option maxHeartbeats 8000000 in
theorem even_B1 {ok : Nat → Prop} {w : World} {pl pr : Option Addr} {l rl rr : Tr (Int × Int)} {rx : (Int × Int)} (x : (Int × Int)) (hu : Up ok w.heap.size) (hl : IsT ok w pl (l)) (hr : IsT ok w pr (.node rl rx rr)) (hs : Tr.size (l) + Tr.size (.node rl rx rr) + 1 ≤ 4611686018427387904) (t0 : ¬ Tr.tall (.node rl rx rr) + 1 < l.tall) (t1 : l.tall + 1 < Tr.tall (.node rl rx rr)) (t2 : rl.tall ≤ rr.tall) :
    Calls Try.prog 84 #[.pointer pl, .agg #[.int .i64 x.1, .int .i64 x.2], .pointer pr] w fun e w' => ∃ p, e = .returned (.pointer p) ∧ IsT ok w' p (.node (.node l x rl) rx rr) ∧ Later w w' := by
  have q1 := Tr.tall_le (l)
  have q2 := Tr.tall_le (.node rl rx rr)
  go_enter Try.func84, Try.ntmps84
  go_wp2_with fail
  have hB : Later w (w.alloc (.cells #[.int .i64 x.1, .int .i64 x.2] 27)) := Later.two
  have hc := two_new w (.int .i64 x.1) (.int .i64 x.2) 27
  have hz : (w.alloc (.cells #[.int .i64 x.1, .int .i64 x.2] 27)).heap.size = w.heap.size + 1 := World.size_alloc _ _
  obtain ⟨W0, hW0⟩ : ∃ W0, w.alloc (.cells #[.int .i64 x.1, .int .i64 x.2] 27) = W0 := ⟨_, rfl⟩
  rw [hW0] at hc hB hz ⊢
  replace hl := hl.later hB
  replace hr := hr.later hB
  obtain ⟨N, hN⟩ : ∃ N, w.heap.size = N := ⟨_, rfl⟩
  rw [hN] at hc hz hu ⊢
  have hbox : ∀ W', Later W0 W' → W'.cell? ⟨N, 0, none⟩ = some (.int .i64 x.1) ∧ W'.cell? ⟨N, 1, none⟩ = some (.int .i64 x.2) := fun W' h => ⟨h.cell hc.1, h.cell hc.2⟩
  have hb0 := Later.refl W0
  have hu0 : ∀ W', Later W0 W' → Up ok W'.heap.size := fun W' h => hu.mono (by have := h.size; omega)
  clear hW0 hc hz
  obtain ⟨b, prl, prr, rfl, _, hcb, hrl, hrr⟩ := IsT.node hr
  have hl0 : ∀ W', Later W0 W' → IsT ok W' pl (l) := fun W' h => hl.later h
  go_wp2_with (first | (go_at_call 91; (first | with_reducible refine (height_any hl).mono ?_ | with_reducible refine (height_any hr).mono ?_); rintro e w' ⟨rfl, rfl⟩))
  go_region_held3 (fun W' => Later W0 W') (first | assumption | exact Later.drew (by assumption) | exact Later.next (by assumption) hb1) (first | (go_at_call 91; (first | with_reducible refine (height_any (hrr _ (by assumption))).mono ?_ | with_reducible refine (height_any (hrl _ (by assumption))).mono ?_); rintro e w' ⟨rfl, rfl⟩))
  go_wp2_with fail
  go_region_held3 (fun W' => Later W0 W') (first | assumption | exact Later.drew (by assumption) | exact Later.next (by assumption) hb1) (first | (go_at_call 83; (with_reducible refine (join_any x (hu0 _ (by assumption)) (hl0 _ (by assumption)) (hrl _ (by assumption)) (by simp only [Tr.size] at *; omega)).mono ?_); rintro e w' ⟨p0, rfl, j0, hb1⟩) | (go_at_call 83; (with_reducible refine (join_any rx (hu0 _ (by assumption)) j0 (hrr _ (by assumption)) (by simp only [Tr.size] at *; omega)).mono ?_); rintro e w' ⟨p1, rfl, j1, hb1⟩))
  go_wp2_with fail
  go_ret
  exact ⟨_, rfl, j1, hB.next (show Later W0 _ by assumption)⟩

set_option maxRecDepth 100000 in
set_option maxHeartbeats 8000000 in
theorem even_B2 {ok : Nat → Prop} {w : World} {pl pr : Option Addr} {l a b rr : Tr (Int × Int)} {rx m : (Int × Int)} (x : (Int × Int)) (hu : Up ok w.heap.size) (hl : IsT ok w pl (l)) (hr : IsT ok w pr (.node (.node a m b) rx rr)) (hs : Tr.size (l) + Tr.size (.node (.node a m b) rx rr) + 1 ≤ 4611686018427387904) (t0 : ¬ Tr.tall (.node (.node a m b) rx rr) + 1 < l.tall) (t1 : l.tall + 1 < Tr.tall (.node (.node a m b) rx rr)) (t2 : ¬ Tr.tall (.node a m b) ≤ rr.tall) :
    Calls Try.prog 84 #[.pointer pl, .agg #[.int .i64 x.1, .int .i64 x.2], .pointer pr] w fun e w' => ∃ p, e = .returned (.pointer p) ∧ IsT ok w' p (.node (.node l x a) m (.node b rx rr)) ∧ Later w w' := by
  have q1 := Tr.tall_le (l)
  have q2 := Tr.tall_le (.node (.node a m b) rx rr)
  go_enter Try.func84, Try.ntmps84
  go_wp2_with fail
  have hB : Later w (w.alloc (.cells #[.int .i64 x.1, .int .i64 x.2] 27)) := Later.two
  have hc := two_new w (.int .i64 x.1) (.int .i64 x.2) 27
  have hz : (w.alloc (.cells #[.int .i64 x.1, .int .i64 x.2] 27)).heap.size = w.heap.size + 1 := World.size_alloc _ _
  obtain ⟨W0, hW0⟩ : ∃ W0, w.alloc (.cells #[.int .i64 x.1, .int .i64 x.2] 27) = W0 := ⟨_, rfl⟩
  rw [hW0] at hc hB hz ⊢
  replace hl := hl.later hB
  replace hr := hr.later hB
  obtain ⟨N, hN⟩ : ∃ N, w.heap.size = N := ⟨_, rfl⟩
  rw [hN] at hc hz hu ⊢
  have hbox : ∀ W', Later W0 W' → W'.cell? ⟨N, 0, none⟩ = some (.int .i64 x.1) ∧ W'.cell? ⟨N, 1, none⟩ = some (.int .i64 x.2) := fun W' h => ⟨h.cell hc.1, h.cell hc.2⟩
  have hb0 := Later.refl W0
  have hu0 : ∀ W', Later W0 W' → Up ok W'.heap.size := fun W' h => hu.mono (by have := h.size; omega)
  clear hW0 hc hz
  obtain ⟨b1, prl, prr, rfl, _, hcb1, hrl, hrr⟩ := IsT.node hr
  obtain ⟨b2, pa, pb, rfl, _, hcb2, ha, hbb⟩ := IsT.node (hrl _ hb0)
  have hl0 : ∀ W', Later W0 W' → IsT ok W' pl (l) := fun W' h => hl.later h
  go_wp2_with (first | (go_at_call 91; (first | with_reducible refine (height_any hl).mono ?_ | with_reducible refine (height_any hr).mono ?_); rintro e w' ⟨rfl, rfl⟩))
  go_region_held3 (fun W' => Later W0 W') (first | assumption | exact Later.drew (by assumption) | exact Later.next (by assumption) hb1) (first | (go_at_call 91; (first | with_reducible refine (height_any (hrr _ (by assumption))).mono ?_ | with_reducible refine (height_any (hrl _ (by assumption))).mono ?_); rintro e w' ⟨rfl, rfl⟩))
  go_wp2_with fail
  go_region_held3 (fun W' => Later W0 W') (first | assumption | exact Later.drew (by assumption) | exact Later.next (by assumption) hb1) (first | (go_at_call 83; (with_reducible refine (join_any x (hu0 _ (by assumption)) (hl0 _ (by assumption)) (ha _ (by assumption)) (by simp only [Tr.size] at *; omega)).mono ?_); rintro e w' ⟨p0, rfl, j0, hb1⟩) | (go_at_call 83; (with_reducible refine (join_any rx (hu0 _ (by assumption)) (hbb _ (by assumption)) (hrr _ (by assumption)) (by simp only [Tr.size] at *; omega)).mono ?_); rintro e w' ⟨p1, rfl, j1, hb1⟩) | (go_at_call 83; (with_reducible refine (join_any m (hu0 _ (by assumption)) (j0.later hb1) j1 (by simp only [Tr.size] at *; omega)).mono ?_); rintro e w' ⟨p2, rfl, j2, hb1⟩))
  go_wp2_with fail
  go_ret
  exact ⟨_, rfl, j2, hB.next (show Later W0 _ by assumption)⟩

set_option maxRecDepth 100000 in
set_option maxHeartbeats 8000000 in
theorem even_C {ok : Nat → Prop} {w : World} {pl pr : Option Addr} {l r : Tr (Int × Int)} (x : (Int × Int)) (hu : Up ok w.heap.size) (hl : IsT ok w pl (l)) (hr : IsT ok w pr (r)) (hs : Tr.size (l) + Tr.size (r) + 1 ≤ 4611686018427387904) (t0 : ¬ r.tall + 1 < l.tall) (t1 : ¬ l.tall + 1 < r.tall) :
    Calls Try.prog 84 #[.pointer pl, .agg #[.int .i64 x.1, .int .i64 x.2], .pointer pr] w fun e w' => ∃ p, e = .returned (.pointer p) ∧ IsT ok w' p (.node l x r) ∧ Later w w' := by
  have q1 := Tr.tall_le (l)
  have q2 := Tr.tall_le (r)
  go_enter Try.func84, Try.ntmps84
  go_wp2_with fail
  have hB : Later w (w.alloc (.cells #[.int .i64 x.1, .int .i64 x.2] 27)) := Later.two
  have hc := two_new w (.int .i64 x.1) (.int .i64 x.2) 27
  have hz : (w.alloc (.cells #[.int .i64 x.1, .int .i64 x.2] 27)).heap.size = w.heap.size + 1 := World.size_alloc _ _
  obtain ⟨W0, hW0⟩ : ∃ W0, w.alloc (.cells #[.int .i64 x.1, .int .i64 x.2] 27) = W0 := ⟨_, rfl⟩
  rw [hW0] at hc hB hz ⊢
  replace hl := hl.later hB
  replace hr := hr.later hB
  obtain ⟨N, hN⟩ : ∃ N, w.heap.size = N := ⟨_, rfl⟩
  rw [hN] at hc hz hu ⊢
  have hbox : ∀ W', Later W0 W' → W'.cell? ⟨N, 0, none⟩ = some (.int .i64 x.1) ∧ W'.cell? ⟨N, 1, none⟩ = some (.int .i64 x.2) := fun W' h => ⟨h.cell hc.1, h.cell hc.2⟩
  have hb0 := Later.refl W0
  have hu0 : ∀ W', Later W0 W' → Up ok W'.heap.size := fun W' h => hu.mono (by have := h.size; omega)
  clear hW0 hc hz
  go_wp2_with (first | (go_at_call 91; (first | with_reducible refine (height_any hl).mono ?_ | with_reducible refine (height_any hr).mono ?_); rintro e w' ⟨rfl, rfl⟩) | (go_at_call 83; (with_reducible refine (join_any x (hu0 _ hb0) hl hr hs).mono ?_); rintro e w' ⟨p0, rfl, j0, hb1⟩))
  have hb2 : Later W0 _ := hb1
  go_ret
  exact ⟨_, rfl, j0, hB.next (show Later W0 _ by assumption)⟩

theorem even_any {ok : Nat → Prop} {w : World} {pl pr : Option Addr} {l r : Tr (Int × Int)} (x : (Int × Int)) (hu : Up ok w.heap.size) (hl : IsT ok w pl l) (hr : IsT ok w pr r) (hs : l.size + r.size + 1 ≤ 4611686018427387904) :
    Calls Try.prog 84 #[.pointer pl, .agg #[.int .i64 x.1, .int .i64 x.2], .pointer pr] w fun e w' => ∃ p, e = .returned (.pointer p) ∧ IsT ok w' p (Tr.even l x r) ∧ Later w w' := by
  unfold Tr.even
  by_cases t0 : r.tall + 1 < l.tall
  · rw [if_pos t0]
    cases l with
    | leaf => simp only [Tr.tall] at t0; omega
    | node ll lx lr =>
      dsimp only
      by_cases t1 : lr.tall ≤ ll.tall
      · rw [if_pos t1]; exact even_A1 x hu hl hr hs t0 t1
      · rw [if_neg t1]
        cases lr with
        | leaf => simp only [Tr.tall] at t1; omega
        | node a m b => exact even_A2 x hu hl hr hs t0 t1
  · rw [if_neg t0]
    by_cases t2 : l.tall + 1 < r.tall
    · rw [if_pos t2]
      cases r with
      | leaf => simp only [Tr.tall] at t2; omega
      | node rl rx rr =>
        dsimp only
        by_cases t1 : rl.tall ≤ rr.tall
        · rw [if_pos t1]; exact even_B1 x hu hl hr hs t0 t2 t1
        · rw [if_neg t1]
          cases rl with
          | leaf => simp only [Tr.tall] at t1; omega
          | node a m b => exact even_B2 x hu hl hr hs t0 t2 t1
    · rw [if_neg t2]; exact even_C x hu hl hr hs t0 t2
end Go.Proofs.Yteledidnhjioaaa.Sh
