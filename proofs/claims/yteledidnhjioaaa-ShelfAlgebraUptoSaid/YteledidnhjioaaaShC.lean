import Derived.Test.YteledidnhjioaaaShB
namespace Go.Proofs.Yteledidnhjioaaa.Sh
open Go.RowKit Go.Lib Go.Proofs
set_option linter.unusedVariables false
set_option maxRecDepth 100000 in
set_option maxHeartbeats 8000000 in
theorem even_A1 {ok : Nat → Prop} {w : World} {pl pr : Option Addr} {ll lr r : Tr (Int × Int)} {lx : (Int × Int)} (x : (Int × Int)) (hu : Up ok w.heap.size) (hl : IsT ok w pl (.node ll lx lr)) (hr : IsT ok w pr (r)) (hs : Tr.size (.node ll lx lr) + Tr.size (r) + 1 ≤ 4611686018427387904) (t0 : r.tall + 1 < Tr.tall (.node ll lx lr)) (t1 : lr.tall ≤ ll.tall) :
    Calls Try.prog 84 #[.pointer pl, .agg #[.int .i64 x.1, .int .i64 x.2], .pointer pr] w fun e w' => ∃ p, e = .returned (.pointer p) ∧ IsT ok w' p (.node ll lx (.node lr x r)) ∧ Later w w' := by
  have q1 := Tr.tall_le (.node ll lx lr)
  have q2 := Tr.tall_le (r)
  go_enter Try.func84, Try.ntmps84
  go_wp2_with fail
  have hB : Later w (w.alloc (.cells #[.int .i64 x.1, .int .i64 x.2] 27)) := Later.two
  have hc := two_new w (.int .i64 x.1) (.int .i64 x.2) 27
  have hz : (w.alloc (.cells #[.int .i64 x.1, .int .i64 x.2] 27)).heap.size = w.heap.size + 1 := World.size_alloc _ _
  obtain ⟨W0, hW0⟩ : ∃ W0, w.alloc (.cells #[.int .i64 x.1, .int .i64 x.2] 27) = W0 := ⟨_, rfl⟩
  rw [hW0] at hc hB hz ⊢
  replace hl := hl.later hB
  replace hr := hr.later hB
  obtain ⟨N, hN⟩ : ∃ N, w.heap.size = N := ⟨_, rfl⟩
  rw [hN] at hc hz hu ⊢
  have hbox : ∀ W', Later W0 W' → W'.cell? ⟨N, 0, none⟩ = some (.int .i64 x.1) ∧ W'.cell? ⟨N, 1, none⟩ = some (.int .i64 x.2) := fun W' h => ⟨h.cell hc.1, h.cell hc.2⟩
  have hb0 := Later.refl W0
  have hu0 : ∀ W', Later W0 W' → Up ok W'.heap.size := fun W' h => hu.mono (by have := h.size; omega)
  clear hW0 hc hz
  obtain ⟨b, pll, plr, rfl, _, hcb, hll, hlr⟩ := IsT.node hl
  have hr0 : ∀ W', Later W0 W' → IsT ok W' pr (r) := fun W' h => hr.later h
  go_wp2_with (first | (go_at_call 91; (first | with_reducible refine (height_any hl).mono ?_ | with_reducible refine (height_any hr).mono ?_); rintro e w' ⟨rfl, rfl⟩))
  go_region_held3 (fun W' => Later W0 W') (first | assumption | exact Later.drew (by assumption) | exact Later.next (by assumption) hb1) (first | (go_at_call 91; (first | with_reducible refine (height_any (hll _ (by assumption))).mono ?_ | with_reducible refine (height_any (hlr _ (by assumption))).mono ?_); rintro e w' ⟨rfl, rfl⟩))
  go_wp2_with fail
  go_region_held3 (fun W' => Later W0 W') (first | assumption | exact Later.drew (by assumption) | exact Later.next (by assumption) hb1) (first | (go_at_call 83; (with_reducible refine (join_any x (hu0 _ (by assumption)) (hlr _ (by assumption)) (hr0 _ (by assumption)) (by simp only [Tr.size] at *; omega)).mono ?_); rintro e w' ⟨p0, rfl, j0, hb1⟩) | (go_at_call 83; (with_reducible refine (join_any lx (hu0 _ (by assumption)) (hll _ (by assumption)) j0 (by simp only [Tr.size] at *; omega)).mono ?_); rintro e w' ⟨p1, rfl, j1, hb1⟩))
  go_wp2_with fail
  go_ret
  exact ⟨_, rfl, j1, hB.next (show Later W0 _ by assumption)⟩

set_option maxRecDepth 100000 in
set_option maxHeartbeats 8000000 in
theorem even_A2 {ok : Nat → Prop} {w : World} {pl pr : Option Addr} {ll a b r : Tr (Int × Int)} {lx m : (Int × Int)} (x : (Int × Int)) (hu : Up ok w.heap.size) (hl : IsT ok w pl (.node ll lx (.node a m b))) (hr : IsT ok w pr (r)) (hs : Tr.size (.node ll lx (.node a m b)) + Tr.size (r) + 1 ≤ 4611686018427387904) (t0 : r.tall + 1 < Tr.tall (.node ll lx (.node a m b))) (t1 : ¬ Tr.tall (.node a m b) ≤ ll.tall) :
    Calls Try.prog 84 #[.pointer pl, .agg #[.int .i64 x.1, .int .i64 x.2], .pointer pr] w fun e w' => ∃ p, e = .returned (.pointer p) ∧ IsT ok w' p (.node (.node ll lx a) m (.node b x r)) ∧ Later w w' := by
  have q1 := Tr.tall_le (.node ll lx (.node a m b))
  have q2 := Tr.tall_le (r)
  go_enter Try.func84, Try.ntmps84
  go_wp2_with fail
  have hB : Later w (w.alloc (.cells #[.int .i64 x.1, .int .i64 x.2] 27)) := Later.two
  have hc := two_new w (.int .i64 x.1) (.int .i64 x.2) 27
  have hz : (w.alloc (.cells #[.int .i64 x.1, .int .i64 x.2] 27)).heap.size = w.heap.size + 1 := World.size_alloc _ _
  obtain ⟨W0, hW0⟩ : ∃ W0, w.alloc (.cells #[.int .i64 x.1, .int .i64 x.2] 27) = W0 := ⟨_, rfl⟩
  rw [hW0] at hc hB hz ⊢
  replace hl := hl.later hB
  replace hr := hr.later hB
  obtain ⟨N, hN⟩ : ∃ N, w.heap.size = N := ⟨_, rfl⟩
  rw [hN] at hc hz hu ⊢
  have hbox : ∀ W', Later W0 W' → W'.cell? ⟨N, 0, none⟩ = some (.int .i64 x.1) ∧ W'.cell? ⟨N, 1, none⟩ = some (.int .i64 x.2) := fun W' h => ⟨h.cell hc.1, h.cell hc.2⟩
  have hb0 := Later.refl W0
  have hu0 : ∀ W', Later W0 W' → Up ok W'.heap.size := fun W' h => hu.mono (by have := h.size; omega)
  clear hW0 hc hz
  obtain ⟨b1, pll, plr, rfl, _, hcb1, hll, hlr⟩ := IsT.node hl
  obtain ⟨b2, pa, pb, rfl, _, hcb2, ha, hbb⟩ := IsT.node (hlr _ hb0)
  have hr0 : ∀ W', Later W0 W' → IsT ok W' pr (r) := fun W' h => hr.later h
  go_wp2_with (first | (go_at_call 91; (first | with_reducible refine (height_any hl).mono ?_ | with_reducible refine (height_any hr).mono ?_); rintro e w' ⟨rfl, rfl⟩))
  go_region_held3 (fun W' => Later W0 W') (first | assumption | exact Later.drew (by assumption) | exact Later.next (by assumption) hb1) (first | (go_at_call 91; (first | with_reducible refine (height_any (hll _ (by assumption))).mono ?_ | with_reducible refine (height_any (hlr _ (by assumption))).mono ?_); rintro e w' ⟨rfl, rfl⟩))
  go_wp2_with fail
  go_region_held3 (fun W' => Later W0 W') (first | assumption | exact Later.drew (by assumption) | exact Later.next (by assumption) hb1) (first | (go_at_call 83; (with_reducible refine (join_any lx (hu0 _ (by assumption)) (hll _ (by assumption)) (ha _ (by assumption)) (by simp only [Tr.size] at *; omega)).mono ?_); rintro e w' ⟨p0, rfl, j0, hb1⟩) | (go_at_call 83; (with_reducible refine (join_any x (hu0 _ (by assumption)) (hbb _ (by assumption)) (hr0 _ (by assumption)) (by simp only [Tr.size] at *; omega)).mono ?_); rintro e w' ⟨p1, rfl, j1, hb1⟩) | (go_at_call 83; (with_reducible refine (join_any m (hu0 _ (by assumption)) (j0.later hb1) j1 (by simp only [Tr.size] at *; omega)).mono ?_); rintro e w' ⟨p2, rfl, j2, hb1⟩))
  go_wp2_with fail
  go_ret
  exact ⟨_, rfl, j2, hB.next (show Later W0 _ by assumption)⟩

set_option maxRecDepth 100000 in
set_option maxHeartbeats 8000000 in
theorem even_B1 {ok : Nat → Prop} {w : World} {pl pr : Option Addr} {l rl rr : Tr (Int × Int)} {rx : (Int × Int)} (x : (Int × Int)) (hu : Up ok w.heap.size) (hl : IsT ok w pl (l)) (hr : IsT ok w pr (.node rl rx rr)) (hs : Tr.size (l) + Tr.size (.node rl rx rr) + 1 ≤ 4611686018427387904) (t0 : ¬ Tr.tall (.node rl rx rr) + 1 < l.tall) (t1 : l.tall + 1 < Tr.tall (.node rl rx rr)) (t2 : rl.tall ≤ rr.tall) :
    Calls Try.prog 84 #[.pointer pl, .agg #[.int .i64 x.1, .int .i64 x.2], .pointer pr] w fun e w' => ∃ p, e = .returned (.pointer p) ∧ IsT ok w' p (.node (.node l x rl) rx rr) ∧ Later w w' := by
  have q1 := Tr.tall_le (l)
  have q2 := Tr.tall_le (.node rl rx rr)
  go_enter Try.func84, Try.ntmps84
  go_wp2_with fail
  have hB : Later w (w.alloc (.cells #[.int .i64 x.1, .int .i64 x.2] 27)) := Later.two
  have hc := two_new w (.int .i64 x.1) (.int .i64 x.2) 27
  have hz : (w.alloc (.cells #[.int .i64 x.1, .int .i64 x.2] 27)).heap.size = w.heap.size + 1 := World.size_alloc _ _
  obtain ⟨W0, hW0⟩ : ∃ W0, w.alloc (.cells #[.int .i64 x.1, .int .i64 x.2] 27) = W0 := ⟨_, rfl⟩
  rw [hW0] at hc hB hz ⊢
  replace hl := hl.later hB
  replace hr := hr.later hB
  obtain ⟨N, hN⟩ : ∃ N, w.heap.size = N := ⟨_, rfl⟩
  rw [hN] at hc hz hu ⊢
  have hbox : ∀ W', Later W0 W' → W'.cell? ⟨N, 0, none⟩ = some (.int .i64 x.1) ∧ W'.cell? ⟨N, 1, none⟩ = some (.int .i64 x.2) := fun W' h => ⟨h.cell hc.1, h.cell hc.2⟩
  have hb0 := Later.refl W0
  have hu0 : ∀ W', Later W0 W' → Up ok W'.heap.size := fun W' h => hu.mono (by have := h.size; omega)
  clear hW0 hc hz
  obtain ⟨b, prl, prr, rfl, _, hcb, hrl, hrr⟩ := IsT.node hr
  have hl0 : ∀ W', Later W0 W' → IsT ok W' pl (l) := fun W' h => hl.later h
  go_wp2_with (first | (go_at_call 91; (first | with_reducible refine (height_any hl).mono ?_ | with_reducible refine (height_any hr).mono ?_); rintro e w' ⟨rfl, rfl⟩))
  go_region_held3 (fun W' => Later W0 W') (first | assumption | exact Later.drew (by assumption) | exact Later.next (by assumption) hb1) (first | (go_at_call 91; (first | with_reducible refine (height_any (hrr _ (by assumption))).mono ?_ | with_reducible refine (height_any (hrl _ (by assumption))).mono ?_); rintro e w' ⟨rfl, rfl⟩))
  go_wp2_with fail
  go_region_held3 (fun W' => Later W0 W') (first | assumption | exact Later.drew (by assumption) | exact Later.next (by assumption) hb1) (first | (go_at_call 83; (with_reducible refine (join_any x (hu0 _ (by assumption)) (hl0 _ (by assumption)) (hrl _ (by assumption)) (by simp only [Tr.size] at *; omega)).mono ?_); rintro e w' ⟨p0, rfl, j0, hb1⟩) | (go_at_call 83; (with_reducible refine (join_any rx (hu0 _ (by assumption)) j0 (hrr _ (by assumption)) (by simp only [Tr.size] at *; omega)).mono ?_); rintro e w' ⟨p1, rfl, j1, hb1⟩))
  go_wp2_with fail
  go_ret
  exact ⟨_, rfl, j1, hB.next (show Later W0 _ by assumption)⟩

set_option maxRecDepth 100000 in
set_option maxHeartbeats 8000000 in
theorem even_B2 {ok : Nat → Prop} {w : World} {pl pr : Option Addr} {l a b rr : Tr (Int × Int)} {rx m : (Int × Int)} (x : (Int × Int)) (hu : Up ok w.heap.size) (hl : IsT ok w pl (l)) (hr : IsT ok w pr (.node (.node a m b) rx rr)) (hs : Tr.size (l) + Tr.size (.node (.node a m b) rx rr) + 1 ≤ 4611686018427387904) (t0 : ¬ Tr.tall (.node (.node a m b) rx rr) + 1 < l.tall) (t1 : l.tall + 1 < Tr.tall (.node (.node a m b) rx rr)) (t2 : ¬ Tr.tall (.node a m b) ≤ rr.tall) :
    Calls Try.prog 84 #[.pointer pl, .agg #[.int .i64 x.1, .int .i64 x.2], .pointer pr] w fun e w' => ∃ p, e = .returned (.pointer p) ∧ IsT ok w' p (.node (.node l x a) m (.node b rx rr)) ∧ Later w w' := by
  have q1 := Tr.tall_le (l)
  have q2 := Tr.tall_le (.node (.node a m b) rx rr)
  go_enter Try.func84, Try.ntmps84
  go_wp2_with fail
  have hB : Later w (w.alloc (.cells #[.int .i64 x.1, .int .i64 x.2] 27)) := Later.two
  have hc := two_new w (.int .i64 x.1) (.int .i64 x.2) 27
  have hz : (w.alloc (.cells #[.int .i64 x.1, .int .i64 x.2] 27)).heap.size = w.heap.size + 1 := World.size_alloc _ _
  obtain ⟨W0, hW0⟩ : ∃ W0, w.alloc (.cells #[.int .i64 x.1, .int .i64 x.2] 27) = W0 := ⟨_, rfl⟩
  rw [hW0] at hc hB hz ⊢
  replace hl := hl.later hB
  replace hr := hr.later hB
  obtain ⟨N, hN⟩ : ∃ N, w.heap.size = N := ⟨_, rfl⟩
  rw [hN] at hc hz hu ⊢
  have hbox : ∀ W', Later W0 W' → W'.cell? ⟨N, 0, none⟩ = some (.int .i64 x.1) ∧ W'.cell? ⟨N, 1, none⟩ = some (.int .i64 x.2) := fun W' h => ⟨h.cell hc.1, h.cell hc.2⟩
  have hb0 := Later.refl W0
  have hu0 : ∀ W', Later W0 W' → Up ok W'.heap.size := fun W' h => hu.mono (by have := h.size; omega)
  clear hW0 hc hz
  obtain ⟨b1, prl, prr, rfl, _, hcb1, hrl, hrr⟩ := IsT.node hr
  obtain ⟨b2, pa, pb, rfl, _, hcb2, ha, hbb⟩ := IsT.node (hrl _ hb0)
  have hl0 : ∀ W', Later W0 W' → IsT ok W' pl (l) := fun W' h => hl.later h
  go_wp2_with (first | (go_at_call 91; (first | with_reducible refine (height_any hl).mono ?_ | with_reducible refine (height_any hr).mono ?_); rintro e w' ⟨rfl, rfl⟩))
  go_region_held3 (fun W' => Later W0 W') (first | assumption | exact Later.drew (by assumption) | exact Later.next (by assumption) hb1) (first | (go_at_call 91; (first | with_reducible refine (height_any (hrr _ (by assumption))).mono ?_ | with_reducible refine (height_any (hrl _ (by assumption))).mono ?_); rintro e w' ⟨rfl, rfl⟩))
  go_wp2_with fail
  go_region_held3 (fun W' => Later W0 W') (first | assumption | exact Later.drew (by assumption) | exact Later.next (by assumption) hb1) (first | (go_at_call 83; (with_reducible refine (join_any x (hu0 _ (by assumption)) (hl0 _ (by assumption)) (ha _ (by assumption)) (by simp only [Tr.size] at *; omega)).mono ?_); rintro e w' ⟨p0, rfl, j0, hb1⟩) | (go_at_call 83; (with_reducible refine (join_any rx (hu0 _ (by assumption)) (hbb _ (by assumption)) (hrr _ (by assumption)) (by simp only [Tr.size] at *; omega)).mono ?_); rintro e w' ⟨p1, rfl, j1, hb1⟩) | (go_at_call 83; (with_reducible refine (join_any m (hu0 _ (by assumption)) (j0.later hb1) j1 (by simp only [Tr.size] at *; omega)).mono ?_); rintro e w' ⟨p2, rfl, j2, hb1⟩))
  go_wp2_with fail
  go_ret
  exact ⟨_, rfl, j2, hB.next (show Later W0 _ by assumption)⟩

set_option maxRecDepth 100000 in
set_option maxHeartbeats 8000000 in
theorem even_C {ok : Nat → Prop} {w : World} {pl pr : Option Addr} {l r : Tr (Int × Int)} (x : (Int × Int)) (hu : Up ok w.heap.size) (hl : IsT ok w pl (l)) (hr : IsT ok w pr (r)) (hs : Tr.size (l) + Tr.size (r) + 1 ≤ 4611686018427387904) (t0 : ¬ r.tall + 1 < l.tall) (t1 : ¬ l.tall + 1 < r.tall) :
    Calls Try.prog 84 #[.pointer pl, .agg #[.int .i64 x.1, .int .i64 x.2], .pointer pr] w fun e w' => ∃ p, e = .returned (.pointer p) ∧ IsT ok w' p (.node l x r) ∧ Later w w' := by
  have q1 := Tr.tall_le (l)
  have q2 := Tr.tall_le (r)
  go_enter Try.func84, Try.ntmps84
  go_wp2_with fail
  have hB : Later w (w.alloc (.cells #[.int .i64 x.1, .int .i64 x.2] 27)) := Later.two
  have hc := two_new w (.int .i64 x.1) (.int .i64 x.2) 27
  have hz : (w.alloc (.cells #[.int .i64 x.1, .int .i64 x.2] 27)).heap.size = w.heap.size + 1 := World.size_alloc _ _
  obtain ⟨W0, hW0⟩ : ∃ W0, w.alloc (.cells #[.int .i64 x.1, .int .i64 x.2] 27) = W0 := ⟨_, rfl⟩
  rw [hW0] at hc hB hz ⊢
  replace hl := hl.later hB
  replace hr := hr.later hB
  obtain ⟨N, hN⟩ : ∃ N, w.heap.size = N := ⟨_, rfl⟩
  rw [hN] at hc hz hu ⊢
  have hbox : ∀ W', Later W0 W' → W'.cell? ⟨N, 0, none⟩ = some (.int .i64 x.1) ∧ W'.cell? ⟨N, 1, none⟩ = some (.int .i64 x.2) := fun W' h => ⟨h.cell hc.1, h.cell hc.2⟩
  have hb0 := Later.refl W0
  have hu0 : ∀ W', Later W0 W' → Up ok W'.heap.size := fun W' h => hu.mono (by have := h.size; omega)
  clear hW0 hc hz
  go_wp2_with (first | (go_at_call 91; (first | with_reducible refine (height_any hl).mono ?_ | with_reducible refine (height_any hr).mono ?_); rintro e w' ⟨rfl, rfl⟩) | (go_at_call 83; (with_reducible refine (join_any x (hu0 _ hb0) hl hr hs).mono ?_); rintro e w' ⟨p0, rfl, j0, hb1⟩))
  have hb2 : Later W0 _ := hb1
  go_ret
  exact ⟨_, rfl, j0, hB.next (show Later W0 _ by assumption)⟩

theorem even_any {ok : Nat → Prop} {w : World} {pl pr : Option Addr} {l r : Tr (Int × Int)} (x : (Int × Int)) (hu : Up ok w.heap.size) (hl : IsT ok w pl l) (hr : IsT ok w pr r) (hs : l.size + r.size + 1 ≤ 4611686018427387904) :
    Calls Try.prog 84 #[.pointer pl, .agg #[.int .i64 x.1, .int .i64 x.2], .pointer pr] w fun e w' => ∃ p, e = .returned (.pointer p) ∧ IsT ok w' p (Tr.even l x r) ∧ Later w w' := by
  unfold Tr.even
  by_cases t0 : r.tall + 1 < l.tall
  · rw [if_pos t0]
    cases l with
    | leaf => simp only [Tr.tall] at t0; omega
    | node ll lx lr =>
      dsimp only
      by_cases t1 : lr.tall ≤ ll.tall
      · rw [if_pos t1]; exact even_A1 x hu hl hr hs t0 t1
      · rw [if_neg t1]
        cases lr with
        | leaf => simp only [Tr.tall] at t1; omega
        | node a m b => exact even_A2 x hu hl hr hs t0 t1
  · rw [if_neg t0]
    by_cases t2 : l.tall + 1 < r.tall
    · rw [if_pos t2]
      cases r with
      | leaf => simp only [Tr.tall] at t2; omega
      | node rl rx rr =>
        dsimp only
        by_cases t1 : rl.tall ≤ rr.tall
        · rw [if_pos t1]; exact even_B1 x hu hl hr hs t0 t2 t1
        · rw [if_neg t1]
          cases rl with
          | leaf => simp only [Tr.tall] at t1; omega
          | node a m b => exact even_B2 x hu hl hr hs t0 t2 t1
    · rw [if_neg t2]; exact even_C x hu hl hr hs t0 t2
end Go.Proofs.Yteledidnhjioaaa.Sh
namespace Go.Proofs.Yteledidnhjioaaa.Sh
open Go.RowKit Go.Lib Go.Proofs
set_option linter.unusedVariables false
set_option linter.unusedSimpArgs false
/-- a block of two cells of the call's own -/
def Own2 (W : World) (N : Nat) : Prop := ∃ u v, W.heap[N]? = some (.cells #[u, v] 27 (0, 0))
def val (W : World) (N o : Nat) : Value := (W.cell? ⟨N, o, none⟩).getD undef
theorem Own2.cells {W : World} {N : Nat} (h : Own2 W N) : W.cell? ⟨N, 0, none⟩ = some (val W N 0) ∧ W.cell? ⟨N, 1, none⟩ = some (val W N 1) ∧ W.frozen? ⟨N, 0, none⟩ = false ∧ W.frozen? ⟨N, 1, none⟩ = false := by
  obtain ⟨u, v, h⟩ := h
  unfold val
  simp [World.cell?, World.frozen?, h]
theorem Own2.new (W : World) (u v : Value) : Own2 (W.alloc (.cells #[u, v] 27)) W.heap.size := ⟨u, v, by show (W.heap.push _)[W.heap.size]? = _; rw [Array.getElem?_push, if_pos rfl]⟩
theorem Own2.below {W W' : World} {N : Nat} (h : Own2 W N) (hb : Later W W') : Own2 W' N := by
  obtain ⟨u, v, h⟩ := h
  exact ⟨u, v, (hb.block N (Array.getElem?_eq_some_iff.1 h).1).trans h⟩
theorem Own2.set0 {W : World} {N : Nat} (h : Own2 W N) (x : Value) : Own2 (W.setCell ⟨N, 0, none⟩ x) N := by
  obtain ⟨u, v, h⟩ := h
  exact ⟨x, v, by simp [World.setCell, Array.getElem?_modify, h]⟩
theorem Own2.set1 {W : World} {N : Nat} (h : Own2 W N) (x : Value) : Own2 (W.setCell ⟨N, 1, none⟩ x) N := by
  obtain ⟨u, v, h⟩ := h
  exact ⟨u, x, by simp [World.setCell, Array.getElem?_modify, h]⟩
theorem own2_both {W : World} {N : Nat} (h : Own2 W N) (x y : Value) : ((W.setCell ⟨N, 0, none⟩ x).setCell ⟨N, 1, none⟩ y).cell? ⟨N, 0, none⟩ = some x ∧ ((W.setCell ⟨N, 0, none⟩ x).setCell ⟨N, 1, none⟩ y).cell? ⟨N, 1, none⟩ = some y := by
  have h1 := (h.set0 x).cells.2.1
  constructor
  · rw [World.cell?_setCell_other _ _ _ _ (by simp)]
    exact World.cell?_setCell_same _ _ _ h.cells.1
  · exact World.cell?_setCell_same _ _ _ h1
def firstPost (ok : Nat → Prop) (w : World) (l : Tr (Int × Int)) (x : Int × Int) (r : Tr (Int × Int)) (e : Ending) (w' : World) : Prop :=
  ∃ q, e = .returned (.tuple #[.agg #[.int .i64 (Tr.first l x r).1.1, .int .i64 (Tr.first l x r).1.2], .pointer q]) ∧ IsT ok w' q (Tr.first l x r).2 ∧ Later w w'
set_option maxRecDepth 100000 in
set_option maxHeartbeats 8000000 in
theorem first_any : ∀ (l : Tr (Int × Int)) (x : Int × Int) (r : Tr (Int × Int)) (w : World) (p : Option Addr) (ok : Nat → Prop), Up ok w.heap.size → IsT ok w p (.node l x r) → l.size + r.size + 1 ≤ 4611686018427387904 → Calls Try.prog 85 #[.pointer p] w (firstPost ok w l x r)
  | .leaf, x, r, w, p, ok, hu, h, hs => by
    obtain ⟨b, pl, pr, rfl, hb, hc, hl, hr⟩ := IsT.node h
    obtain rfl : pl = none := hl w (Later.refl _)
    have hla : ∀ v, Later w (w.alloc v) := fun v => (Later.refl _).alloc v
    have hn0 : ∀ v, (w.alloc v).cell? ⟨b, 0, none⟩ = some (.int .i64 x.1) := fun v => (hc _ (hla v)).1
    have hn1 : ∀ v, (w.alloc v).cell? ⟨b, 1, none⟩ = some (.int .i64 x.2) := fun v => (hc _ (hla v)).2.1
    have hn2 : ∀ v, (w.alloc v).cell? ⟨b, 2, none⟩ = some (.pointer none) := fun v => (hc _ (hla v)).2.2.1
    have hn3 : ∀ v, (w.alloc v).cell? ⟨b, 3, none⟩ = some (.pointer pr) := fun v => (hc _ (hla v)).2.2.2
    clear hc hl h hla
    go_enter Try.func85, Try.ntmps85
    go_wp2
    go_region
    all_goals go_wp2
    all_goals
      refine bodyPost_ret (v := .tuple #[.agg #[.int .i64 x.1, .int .i64 x.2], .pointer pr]) (by simp [results, Try.results85, go_sem]) rfl ?_
      have hla : Later w (w.alloc (.cells #[.int .i64 x.1, .int .i64 x.2] 27)).drew := Later.two.drew
      exact ⟨pr, rfl, hr _ hla, hla⟩
  | .node ll lx lr, x, r, w, p, ok, hu, h, hs => by
    have h1 : IsT (fun b => ok b ∧ b ≠ w.heap.size) w p (.node (.node ll lx lr) x r) := h.mono (fun b hb k => ⟨k, by omega⟩)
    have hu1 : Up (fun b => ok b ∧ b ≠ w.heap.size) (w.heap.size + 1) := fun b hb => ⟨hu b (by omega), by omega⟩
    obtain ⟨b, pl, pr, rfl, hb, hc, hl, hr⟩ := IsT.node h1
    have hs2 := hs
    simp only [Tr.size] at hs2
    obtain ⟨bl, pll, plr, hpl, _⟩ := IsT.node (hl w (Later.refl _))
    subst hpl
    have hla : ∀ v, Later w (w.alloc v) := fun v => (Later.refl _).alloc v
    have hn2 : ∀ v, (w.alloc v).cell? ⟨b, 2, none⟩ = some (.pointer (some ⟨bl, 0, none⟩)) := fun v => (hc _ (hla v)).2.2.1
    have ih : ∀ v, Calls Try.prog 85 #[.pointer (some ⟨bl, 0, none⟩)] (w.alloc v) (firstPost (fun b => ok b ∧ b ≠ w.heap.size) (w.alloc v) ll lx lr) := fun v => first_any ll lx lr _ _ _ (by rw [World.size_alloc]; exact hu1) (hl _ (hla v)) (by omega)
    have hsz := Tr.first_size ll lx lr
    go_enter Try.func85, Try.ntmps85
    go_wp2_with (go_at_call 85; refine (ih _).mono ?_; rintro e w1 ⟨q, rfl, ht, hb1⟩)
    obtain ⟨y, hy⟩ : ∃ y, (Tr.first ll lx lr).1 = y := ⟨_, rfl⟩
    obtain ⟨T', hT⟩ : ∃ T', (Tr.first ll lx lr).2 = T' := ⟨_, rfl⟩
    rw [hT] at ht hsz
    rw [hy]
    have hg : Tr.first (.node ll lx lr) x r = (y, Tr.even T' x r) := by simp only [Tr.first]; rw [hy, hT]
    clear ih hn2
    have how : Own2 w1 w.heap.size := (Own2.new w (.int .i64 0) (.int .i64 0)).below hb1
    have hyy := two_new w1 (.int .i64 y.1) (.int .i64 y.2) 27
    have hz1 := hb1.size
    rw [World.size_alloc] at hz1
    have hl1 : Later w w1 := (hla _).next hb1
    have hW2 : Later w1 (w1.alloc (.cells #[.int .i64 y.1, .int .i64 y.2] 27)) := Later.two
    obtain ⟨W2, hW2e⟩ : ∃ W2, w1.alloc (.cells #[.int .i64 y.1, .int .i64 y.2] 27) = W2 := ⟨_, rfl⟩
    rw [hW2e] at hW2 hyy ⊢
    obtain ⟨M, hM⟩ : ∃ M, w1.heap.size = M := ⟨_, rfl⟩
    rw [hM] at hyy hz1 ⊢
    have hMN : w.heap.size ≠ M := by omega
    replace how := how.below hW2
    have hl2 := hl1.next hW2
    have hu2 : Up (fun b => ok b ∧ b ≠ w.heap.size) W2.drew.heap.size := hu1.mono (by rw [World.size_drew]; have := hW2.size; omega)
    have hq2 : IsT (fun b => ok b ∧ b ≠ w.heap.size) W2.drew q T' := ht.later hW2.drew
    have hr2 : IsT (fun b => ok b ∧ b ≠ w.heap.size) W2.drew pr r := hr _ hl2.drew
    have hsE : T'.size + r.size + 1 ≤ 4611686018427387904 := by omega
    clear hz1 hM hb1 ht hW2e hW2 hl1 hla hl hr h h1 hu1 hsz hs2 hs
    have hS0 : Later w W2.drew ∧ Own2 W2.drew w.heap.size ∧ W2.drew.cell? ⟨M, 0, none⟩ = some (.int .i64 y.1) ∧ W2.drew.cell? ⟨M, 1, none⟩ = some (.int .i64 y.2) := ⟨hl2.drew, how, hyy.1, hyy.2⟩
    have hS1 : ∀ A B : World, (Later w A ∧ Own2 A w.heap.size ∧ A.cell? ⟨M, 0, none⟩ = some (.int .i64 y.1) ∧ A.cell? ⟨M, 1, none⟩ = some (.int .i64 y.2)) → Later A B → (Later w B ∧ Own2 B w.heap.size ∧ B.cell? ⟨M, 0, none⟩ = some (.int .i64 y.1) ∧ B.cell? ⟨M, 1, none⟩ = some (.int .i64 y.2)) :=
      fun A B h k => ⟨h.1.next k, h.2.1.below k, k.cell h.2.2.1, k.cell h.2.2.2⟩
    have hS2 : ∀ (A : World) (u v : Value), (Later w A ∧ Own2 A w.heap.size ∧ A.cell? ⟨M, 0, none⟩ = some (.int .i64 y.1) ∧ A.cell? ⟨M, 1, none⟩ = some (.int .i64 y.2)) → (Later w ((A.setCell ⟨w.heap.size, 0, none⟩ u).setCell ⟨w.heap.size, 1, none⟩ v) ∧ Own2 ((A.setCell ⟨w.heap.size, 0, none⟩ u).setCell ⟨w.heap.size, 1, none⟩ v) w.heap.size ∧ ((A.setCell ⟨w.heap.size, 0, none⟩ u).setCell ⟨w.heap.size, 1, none⟩ v).cell? ⟨M, 0, none⟩ = some (.int .i64 y.1) ∧ ((A.setCell ⟨w.heap.size, 0, none⟩ u).setCell ⟨w.heap.size, 1, none⟩ v).cell? ⟨M, 1, none⟩ = some (.int .i64 y.2)) :=
      fun A u v h => ⟨Below.setCell (Below.setCell h.1 (p := ⟨w.heap.size, 0, none⟩) (Nat.le_refl _) u) (p := ⟨w.heap.size, 1, none⟩) (Nat.le_refl _) v, (h.2.1.set0 u).set1 v,
        by rw [World.cell?_setCell_other _ _ _ _ (by simp [hMN]), World.cell?_setCell_other _ _ _ _ (by simp [hMN])]; exact h.2.2.1,
        by rw [World.cell?_setCell_other _ _ _ _ (by simp [hMN]), World.cell?_setCell_other _ _ _ _ (by simp [hMN])]; exact h.2.2.2⟩
    have hfa : ∀ W', (Later w W' ∧ Own2 W' w.heap.size ∧ W'.cell? ⟨M, 0, none⟩ = some (.int .i64 y.1) ∧ W'.cell? ⟨M, 1, none⟩ = some (.int .i64 y.2)) → W'.cell? ⟨b, 0, none⟩ = some (.int .i64 x.1) ∧ W'.cell? ⟨b, 1, none⟩ = some (.int .i64 x.2) ∧ W'.cell? ⟨b, 2, none⟩ = some (.pointer (some ⟨bl, 0, none⟩)) ∧ W'.cell? ⟨b, 3, none⟩ = some (.pointer pr) := fun W' h => hc _ h.1
    have hfw : ∀ W', (Later w W' ∧ Own2 W' w.heap.size ∧ W'.cell? ⟨M, 0, none⟩ = some (.int .i64 y.1) ∧ W'.cell? ⟨M, 1, none⟩ = some (.int .i64 y.2)) → W'.cell? ⟨w.heap.size, 0, none⟩ = some (val W' w.heap.size 0) ∧ W'.cell? ⟨w.heap.size, 1, none⟩ = some (val W' w.heap.size 1) ∧ W'.frozen? ⟨w.heap.size, 0, none⟩ = false ∧ W'.frozen? ⟨w.heap.size, 1, none⟩ = false := fun W' h => h.2.1.cells
    clear hc hl2 hyy
    go_region_held3 (fun W' => (Later w W' ∧ Own2 W' w.heap.size ∧ W'.cell? ⟨M, 0, none⟩ = some (.int .i64 y.1) ∧ W'.cell? ⟨M, 1, none⟩ = some (.int .i64 y.2))) (first | assumption | exact hS1 _ _ (by assumption) hb3 | exact hS2 _ _ _ (by assumption)) (first | (go_at_call 84; (with_reducible refine (even_any x hu2 hq2 hr2 hsE).mono ?_); rintro e w3 ⟨p3, rfl, ht3, hb3⟩))
    go_wp2
    obtain ⟨hf0, hf1⟩ := own2_both ((show Own2 W2.drew w.heap.size from how).below hb3) (.int .i64 y.1) (.int .i64 y.2)
    have hlf := (hS2 _ (.int .i64 y.1) (.int .i64 y.2) (hS1 _ _ hS0 hb3)).1
    have hkp : Keeps (fun b => ok b ∧ b ≠ w.heap.size) w3 ((w3.setCell ⟨w.heap.size, 0, none⟩ (.int .i64 y.1)).setCell ⟨w.heap.size, 1, none⟩ (.int .i64 y.2)) := (Keeps.set _ _ (fun h => h.2 rfl)).trans (Keeps.set _ _ (fun h => h.2 rfl))
    clear hS1 hS2 hfa hfw
    generalize (w3.setCell ⟨w.heap.size, 0, none⟩ (.int .i64 y.1)).setCell ⟨w.heap.size, 1, none⟩ (.int .i64 y.2) = Wf at hf0 hf1 hlf hkp ⊢
    refine bodyPost_ret (v := .tuple #[.agg #[.int .i64 y.1, .int .i64 y.2], .pointer p3]) (by simp [results, Try.results85, go_sem, hf0, hf1]) rfl ?_
    refine ⟨p3, by rw [hg], ?_, hlf⟩
    rw [hg]
    exact (ht3.keep hkp).mono (fun _ _ h => h.1)
end Go.Proofs.Yteledidnhjioaaa.Sh
