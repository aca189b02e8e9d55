import Derived.Test.YteledidnhjioaaaShE
namespace Go.Proofs.Yteledidnhjioaaa.Sh
open Go.RowKit Go.Lib Go.Proofs
set_option linter.unusedVariables false
set_option linter.unusedSimpArgs false
set_option maxRecDepth 100000 in
set_option maxHeartbeats 8000000 in
theorem out_any {c : Nat} {f : (Int × Int) → (Int × Int) → Int} (hc : Comp c f) (x : Int × Int) (sb : Nat) : ∀ (T : Tr (Int × Int)) (w : World) (p : Option Addr) (ok : Nat → Prop), Up ok w.heap.size → IsT ok w p T →
    w.cell? ⟨sb, 0, none⟩ = some (.func (.func c) #[] #[]) → T.size + 1 ≤ 4611686018427387904 →
    Calls Try.prog 61 #[.pointer (some ⟨sb, 0, none⟩), .pointer p, .agg #[.int .i64 x.1, .int .i64 x.2]] w (putPost ok w (T.out f x))
  | .leaf, w, p, ok, hu, h, hs, hz => by
    obtain rfl : p = none := h
    have hla : Later w (w.alloc (.cells #[.int .i64 x.1, .int .i64 x.2] 27)) := Later.two
    go_enter Try.func61, Try.ntmps61
    go_wp2_with fail
    go_ret2
    exact ⟨none, rfl, rfl, hla⟩
  | .node l y r, w, p, ok, hu, h, hs, hz => by
    have hs2 := hz
    simp only [Tr.size] at hs2
    have hB : Later w (w.alloc (.cells #[.int .i64 x.1, .int .i64 x.2] 27)) := Later.two
    have hxx := two_new w (.int .i64 x.1) (.int .i64 x.2) 27
    obtain ⟨W0, hW0⟩ : ∃ W0, w.alloc (.cells #[.int .i64 x.1, .int .i64 x.2] 27) = W0 := ⟨_, rfl⟩
    obtain ⟨N, hN⟩ : ∃ N, w.heap.size = N := ⟨_, rfl⟩
    rw [hW0] at hxx hB
    rw [hN] at hxx hu
    have h0 := h.later hB
    obtain ⟨b, pl, pr, rfl, hb, hcn, hl, hr⟩ := IsT.node h0
    have hsc : ∀ W', Later W0 W' → W'.cell? ⟨sb, 0, none⟩ = some (.func (.func c) #[] #[]) := fun W' k => k.cell (hB.cell hs)
    have hbox : ∀ W', Later W0 W' → W'.cell? ⟨N, 0, none⟩ = some (.int .i64 x.1) ∧ W'.cell? ⟨N, 1, none⟩ = some (.int .i64 x.2) := fun W' k => ⟨k.cell hxx.1, k.cell hxx.2⟩
    have hu0 : ∀ W', Later W0 W' → Up ok W'.heap.size := fun W' k => hu.mono (by have := k.size; have := hB.size; omega)
    have hb0 := Later.refl W0
    have ihl : ∀ W', Later W0 W' → Calls Try.prog 61 #[.pointer (some ⟨sb, 0, none⟩), .pointer pl, .agg #[.int .i64 x.1, .int .i64 x.2]] W' (putPost ok W' (l.out f x)) := fun W' k => out_any hc x sb l W' pl ok (hu0 _ k) (hl _ k) (hsc _ k) (by omega)
    have ihr : ∀ W', Later W0 W' → Calls Try.prog 61 #[.pointer (some ⟨sb, 0, none⟩), .pointer pr, .agg #[.int .i64 x.1, .int .i64 x.2]] W' (putPost ok W' (r.out f x)) := fun W' k => out_any hc x sb r W' pr ok (hu0 _ k) (hr _ k) (hsc _ k) (by omega)
    have hen := hc.enters
    have hcc := hc.calls
    have hpl := Tr.out_size f x l
    have hpr := Tr.out_size f x r
    unfold Tr.out
    clear hs h hxx hz
    by_cases h1 : f x y < 0
    · rw [if_pos h1]
      go_enter Try.func61, Try.ntmps61
      go_wp2_with fail
      clear hW0
      go_region_held3 (fun W' => Later W0 W') (first | assumption | exact Later.drew (by assumption) | exact Later.next (by assumption) hb1) (first | ((with_reducible refine (hcc _ _ _).mono ?_); rintro e w1 ⟨rfl, hb1⟩))
      go_wp2_with fail
      go_region_held3 (fun W' => Later W0 W') (first | assumption | exact Later.drew (by assumption) | exact Later.next (by assumption) hb1) (first | (go_at_call 61; (with_reducible refine (ihl _ (by assumption)).mono ?_); rintro e w2 ⟨q, rfl, hq, hb1⟩))
      go_wp2_with fail
      go_region_held3 (fun W' => Later W0 W') (first | assumption | exact Later.drew (by assumption) | exact Later.next (by assumption) hb1) (first | (go_at_call 84; (with_reducible refine (even_any y (hu0 _ (by assumption)) (hq.later (Later.refl _).drew) (hr _ (by assumption)) (by omega)).mono ?_); rintro e w3 ⟨q3, rfl, hq3, hb1⟩))
      go_wp2_with fail
      go_ret2
      exact ⟨q3, rfl, hq3, hB.next (show Later W0 _ by assumption)⟩
    · rw [if_neg h1]
      by_cases h2 : 0 < f x y
      · rw [if_pos h2]
        go_enter Try.func61, Try.ntmps61
        go_wp2_with fail
        clear hW0
        go_region_held3 (fun W' => Later W0 W') (first | assumption | exact Later.drew (by assumption) | exact Later.next (by assumption) hb1) (first | ((with_reducible refine (hcc _ _ _).mono ?_); rintro e w1 ⟨rfl, hb1⟩))
        go_wp2_with fail
        go_region_held3 (fun W' => Later W0 W') (first | assumption | exact Later.drew (by assumption) | exact Later.next (by assumption) hb1) (first | (go_at_call 61; (with_reducible refine (ihr _ (by assumption)).mono ?_); rintro e w2 ⟨q, rfl, hq, hb1⟩))
        go_wp2_with fail
        go_region_held3 (fun W' => Later W0 W') (first | assumption | exact Later.drew (by assumption) | exact Later.next (by assumption) hb1) (first | (go_at_call 84; (with_reducible refine (even_any y (hu0 _ (by assumption)) (hl _ (by assumption)) (hq.later (Later.refl _).drew) (by omega)).mono ?_); rintro e w3 ⟨q3, rfl, hq3, hb1⟩))
        go_wp2_with fail
        go_ret2
        exact ⟨q3, rfl, hq3, hB.next (show Later W0 _ by assumption)⟩
      · rw [if_neg h2]
        cases r with
        | leaf =>
          obtain rfl : pr = none := hr _ hb0
          go_enter Try.func61, Try.ntmps61
          go_wp2_with fail
          clear hW0
          go_region_held3 (fun W' => Later W0 W') (first | assumption | exact Later.drew (by assumption) | exact Later.next (by assumption) hb1) (first | ((with_reducible refine (hcc _ _ _).mono ?_); rintro e w1 ⟨rfl, hb1⟩))
          go_wp2_with fail
          go_ret2
          exact ⟨_, rfl, (hl _ (by assumption)), hB.next (show Later W0 _ by assumption)⟩
        | node a b2 d =>
          obtain ⟨br, prl, prr, hpre, _⟩ := IsT.node (hr _ hb0)
          subst hpre
          have hsz := Tr.first_size a b2 d
          simp only [Tr.size] at hs2
          have hfi : ∀ W', Later W0 W' → Calls Try.prog 85 #[.pointer (some ⟨br, 0, none⟩)] W' (firstPost ok W' a b2 d) := fun W' k => first_any a b2 d W' _ ok (hu0 _ k) (hr _ k) (by omega)
          dsimp only
          obtain ⟨y2, hy2⟩ : ∃ y2, (Tr.first a b2 d).1 = y2 := ⟨_, rfl⟩
          obtain ⟨T2, hT2⟩ : ∃ T2, (Tr.first a b2 d).2 = T2 := ⟨_, rfl⟩
          rw [hT2] at hsz
          rw [hy2, hT2]
          go_enter Try.func61, Try.ntmps61
          go_wp2_with fail
          clear hW0
          go_region_held3 (fun W' => Later W0 W') (first | assumption | exact Later.drew (by assumption) | exact Later.next (by assumption) hb1) (first | ((with_reducible refine (hcc _ _ _).mono ?_); rintro e w1 ⟨rfl, hb1⟩))
          go_wp2_with (go_at_call 85; (with_reducible refine (hfi _ (by assumption)).mono ?_); rintro e w2 ⟨q, rfl, hq, hb1⟩)
          have hl3 : Later W0 (w2.alloc (.cells #[.int .i64 y2.1, .int .i64 y2.2] 27)) := (Later.next (by assumption) hb1).alloc _
          rw [hT2] at hq
          have hq3 := hq.later (Later.two (x := .int .i64 y2.1) (y := .int .i64 y2.2) (t := 27))
          have hyy := two_new w2 (.int .i64 y2.1) (.int .i64 y2.2) 27
          have hcn3 : ∀ W', Later (w2.alloc (.cells #[.int .i64 y2.1, .int .i64 y2.2] 27)) W' → _ := fun W' k => hcn W' (hl3.next k)
          have hll3 : ∀ W', Later (w2.alloc (.cells #[.int .i64 y2.1, .int .i64 y2.2] 27)) W' → IsT ok W' pl l := fun W' k => hl W' (hl3.next k)
          have hu3 : ∀ W', Later (w2.alloc (.cells #[.int .i64 y2.1, .int .i64 y2.2] 27)) W' → Up ok W'.heap.size := fun W' k => hu0 W' (hl3.next k)
          generalize w2.alloc (.cells #[.int .i64 y2.1, .int .i64 y2.2] 27) = W3 at *
          obtain ⟨M, hM⟩ : ∃ M, w2.heap.size = M := ⟨_, rfl⟩
          rw [hM] at hyy
          have hbx3 : ∀ W', Later W3 W' → W'.cell? ⟨M, 0, none⟩ = some (.int .i64 y2.1) ∧ W'.cell? ⟨M, 1, none⟩ = some (.int .i64 y2.2) := fun W' k => ⟨k.cell hyy.1, k.cell hyy.2⟩
          have hb3 := Later.refl W3
          have hq4 : IsT ok W3.drew q T2 := hq3.later hb3.drew
          clear hcn hsc hbox ihl hfi hyy hcc hen hb1
          rw [hM]
          go_region_held3 (fun W' => Later W3 W') (first | assumption | exact Later.drew (by assumption) | exact Later.next (by assumption) hb1) (first | (go_at_call 84; (with_reducible refine (even_any y2 (hu3 _ (by assumption)) (hll3 _ (by assumption)) hq4 (by omega)).mono ?_); rintro e w4 ⟨q5, rfl, hq5, hb1⟩))
          go_wp2_with fail
          go_ret2
          exact ⟨q5, rfl, hq5, (hB.next hl3).next (show Later W3 _ by assumption)⟩
end Go.Proofs.Yteledidnhjioaaa.Sh
