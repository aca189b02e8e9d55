import Derived.Test.YteledidnhjioaaaShC
import Derived.Shelf.Abstract
namespace Go.Proofs.Yteledidnhjioaaa.Sh
open Go.RowKit Go.Lib Go.Proofs
set_option linter.unusedVariables false
set_option linter.unusedSimpArgs false
def cmpK (a b : Int × Int) : Int := if a.1 < b.1 then -1 else if b.1 < a.1 then 7 else 0
def cmpR (a b : Int × Int) : Int := if a.1 < b.1 then -1 else if b.1 < a.1 then 1 else 0
theorem cmpK_lt (a b : Int × Int) : cmpK a b < 0 ↔ a.1 < b.1 := by unfold cmpK; split <;> (try split) <;> omega
theorem cmpK_gt (a b : Int × Int) : 0 < cmpK a b ↔ b.1 < a.1 := by unfold cmpK; split <;> (try split) <;> omega
theorem cmpK_eq (a b : Int × Int) : cmpK a b = 0 ↔ a.1 = b.1 := by unfold cmpK; split <;> (try split) <;> omega
theorem cmpR_lt (a b : Int × Int) : cmpR a b < 0 ↔ a.1 < b.1 := by unfold cmpR; split <;> (try split) <;> omega
theorem cmpR_gt (a b : Int × Int) : 0 < cmpR a b ↔ b.1 < a.1 := by unfold cmpR; split <;> (try split) <;> omega
theorem cmpR_eq (a b : Int × Int) : cmpR a b = 0 ↔ a.1 = b.1 := by unfold cmpR; split <;> (try split) <;> omega
theorem ordK : Ord cmpK := ⟨fun a b => by rw [cmpK_lt, cmpK_gt], fun a b d => by simp only [cmpK_lt]; omega, fun a b d => by simp only [cmpK_lt, cmpK_eq]; omega, fun a b d => by simp only [cmpK_lt, cmpK_eq]; omega⟩
theorem ordR : Ord cmpR := ⟨fun a b => by rw [cmpR_lt, cmpR_gt], fun a b d => by simp only [cmpR_lt]; omega, fun a b d => by simp only [cmpR_lt, cmpR_eq]; omega, fun a b d => by simp only [cmpR_lt, cmpR_eq]; omega⟩
abbrev ag (x : Int × Int) : Value := .agg #[.int .i64 x.1, .int .i64 x.2]
/-- function number c compares as f tells -/
structure Comp (c : Nat) (f : (Int × Int) → (Int × Int) → Int) : Prop where
  calls : ∀ (a b : Int × Int) (w : World), Calls Try.prog c #[.agg #[.int .i64 a.1, .int .i64 a.2], .agg #[.int .i64 b.1, .int .i64 b.2]] w fun e w' => e = .returned (.int .i64 (f a b)) ∧ Later w w'
  enters : ∀ args w, (callFunc c args).run Try.prog w = .ok (.enter c args) w
  ord : Ord f
theorem byKey_any (a b : Int × Int) (w : World) : Calls Try.prog 31 #[.agg #[.int .i64 a.1, .int .i64 a.2], .agg #[.int .i64 b.1, .int .i64 b.2]] w fun e w' => e = .returned (.int .i64 (cmpK a b)) ∧ Later w w' := by
  have hla : Later w ((w.alloc (.cells #[.int .i64 a.1, .int .i64 a.2] 27)).alloc (.cells #[.int .i64 b.1, .int .i64 b.2] 27)) := ((Later.refl w).alloc _).alloc _
  unfold cmpK
  by_cases h1 : a.1 < b.1
  · rw [if_pos h1]
    go_enter Try.func31, Try.ntmps31
    go_wp2
    go_ret
    exact ⟨rfl, hla⟩
  · rw [if_neg h1]
    by_cases h2 : b.1 < a.1
    · rw [if_pos h2]
      go_enter Try.func31, Try.ntmps31
      go_wp2
      go_ret
      exact ⟨rfl, hla⟩
    · rw [if_neg h2]
      go_enter Try.func31, Try.ntmps31
      go_wp2
      go_ret
      exact ⟨rfl, hla⟩
theorem compare_any (a b : Int × Int) (w : World) : Calls Try.prog 45 #[.agg #[.int .i64 a.1, .int .i64 a.2], .agg #[.int .i64 b.1, .int .i64 b.2]] w fun e w' => e = .returned (.int .i64 (cmpR a b)) ∧ Later w w' := by
  have hla : Later w ((w.alloc (.cells #[.int .i64 a.1, .int .i64 a.2] 27)).alloc (.cells #[.int .i64 b.1, .int .i64 b.2] 27)) := ((Later.refl w).alloc _).alloc _
  unfold cmpR
  by_cases h1 : a.1 < b.1
  · rw [if_pos h1]
    go_enter Try.func45, Try.ntmps45
    go_wp2
    go_ret
    exact ⟨rfl, hla⟩
  · rw [if_neg h1]
    by_cases h2 : b.1 < a.1
    · rw [if_pos h2]
      go_enter Try.func45, Try.ntmps45
      go_wp2
      go_ret
      exact ⟨rfl, hla⟩
    · rw [if_neg h2]
      go_enter Try.func45, Try.ntmps45
      go_wp2
      go_ret
      exact ⟨rfl, hla⟩
theorem compK : Comp 31 cmpK := ⟨byKey_any, fun args w => enters_of Try.func31 (by kernel_rfl) rfl args w, ordK⟩
theorem compR : Comp 45 cmpR := ⟨compare_any, fun args w => enters_of Try.func45 (by kernel_rfl) rfl args w, ordR⟩
def putPost (ok : Nat → Prop) (w : World) (T : Tr (Int × Int) × Bool) (e : Ending) (w' : World) : Prop :=
  ∃ q, e = .returned (.tuple #[.pointer q, .bool T.2]) ∧ IsT ok w' q T.1 ∧ Later w w'
set_option maxRecDepth 100000 in
set_option maxHeartbeats 8000000 in
theorem put_any {c : Nat} {f : (Int × Int) → (Int × Int) → Int} (hc : Comp c f) (x : Int × Int) (over : Bool) (sb : Nat) : ∀ (T : Tr (Int × Int)) (w : World) (p : Option Addr) (ok : Nat → Prop), Up ok w.heap.size → IsT ok w p T →
    w.cell? ⟨sb, 0, none⟩ = some (.func (.func c) #[] #[]) → T.size + 1 ≤ 4611686018427387904 →
    Calls Try.prog 60 #[.pointer (some ⟨sb, 0, none⟩), .pointer p, .agg #[.int .i64 x.1, .int .i64 x.2], .bool over] w (putPost ok w (T.put f x over))
  | .leaf, w, p, ok, hu, h, hs, hz => by
    obtain rfl : p = none := h
    have hla : Later w (w.alloc (.cells #[.int .i64 x.1, .int .i64 x.2] 27)) := Later.two
    have hj := join_any (ok := ok) (w := w.alloc (.cells #[.int .i64 x.1, .int .i64 x.2] 27)) (pl := none) (pr := none) (l := .leaf) (r := .leaf) x (hu.mono hla.size) rfl rfl (by simp [Tr.size])
    go_enter Try.func60, Try.ntmps60
    go_wp2_with (go_at_call 83; refine hj.mono ?_; rintro e w1 ⟨q, rfl, ht, hb1⟩)
    go_ret2
    exact ⟨q, rfl, ht, hla.next hb1⟩
  | .node l y r, w, p, ok, hu, h, hs, hz => by
    have hs2 := hz
    simp only [Tr.size] at hs2
    have hB : Later w (w.alloc (.cells #[.int .i64 x.1, .int .i64 x.2] 27)) := Later.two
    have hxx := two_new w (.int .i64 x.1) (.int .i64 x.2) 27
    obtain ⟨W0, hW0⟩ : ∃ W0, w.alloc (.cells #[.int .i64 x.1, .int .i64 x.2] 27) = W0 := ⟨_, rfl⟩
    obtain ⟨N, hN⟩ : ∃ N, w.heap.size = N := ⟨_, rfl⟩
    rw [hW0] at hxx hB
    rw [hN] at hxx hu
    have h0 := h.later hB
    obtain ⟨b, pl, pr, rfl, hb, hcn, hl, hr⟩ := IsT.node h0
    have hsc : ∀ W', Later W0 W' → W'.cell? ⟨sb, 0, none⟩ = some (.func (.func c) #[] #[]) := fun W' k => k.cell (hB.cell hs)
    have hbox : ∀ W', Later W0 W' → W'.cell? ⟨N, 0, none⟩ = some (.int .i64 x.1) ∧ W'.cell? ⟨N, 1, none⟩ = some (.int .i64 x.2) := fun W' k => ⟨k.cell hxx.1, k.cell hxx.2⟩
    have hu0 : ∀ W', Later W0 W' → Up ok W'.heap.size := fun W' k => hu.mono (by have := k.size; have := hB.size; omega)
    have hb0 := Later.refl W0
    have ihl : ∀ W', Later W0 W' → Calls Try.prog 60 #[.pointer (some ⟨sb, 0, none⟩), .pointer pl, .agg #[.int .i64 x.1, .int .i64 x.2], .bool over] W' (putPost ok W' (l.put f x over)) := fun W' k => put_any hc x over sb l W' pl ok (hu0 _ k) (hl _ k) (hsc _ k) (by omega)
    have ihr : ∀ W', Later W0 W' → Calls Try.prog 60 #[.pointer (some ⟨sb, 0, none⟩), .pointer pr, .agg #[.int .i64 x.1, .int .i64 x.2], .bool over] W' (putPost ok W' (r.put f x over)) := fun W' k => put_any hc x over sb r W' pr ok (hu0 _ k) (hr _ k) (hsc _ k) (by omega)
    have hen := hc.enters
    have hcc := hc.calls
    have hpl := Tr.put_size f x over l
    have hpr := Tr.put_size f x over r
    unfold Tr.put
    clear hs h hxx hz
    by_cases h1 : f x y < 0
    · rw [if_pos h1]
      go_enter Try.func60, Try.ntmps60
      go_wp2_with fail
      clear hW0
      go_region_held3 (fun W' => Later W0 W') (first | assumption | exact Later.drew (by assumption) | exact Later.next (by assumption) hb1) (first | ((with_reducible refine (hcc _ _ _).mono ?_); rintro e w1 ⟨rfl, hb1⟩))
      go_wp2_with fail
      go_region_held3 (fun W' => Later W0 W') (first | assumption | exact Later.drew (by assumption) | exact Later.next (by assumption) hb1) (first | (go_at_call 60; (with_reducible refine (ihl _ (by assumption)).mono ?_); rintro e w2 ⟨q, rfl, hq, hb1⟩))
      go_wp2_with fail
      go_region_held3 (fun W' => Later W0 W') (first | assumption | exact Later.drew (by assumption) | exact Later.next (by assumption) hb1) (first | (go_at_call 84; (with_reducible refine (even_any y (hu0 _ (by assumption)) (hq.later (Later.refl _).drew) (hr _ (by assumption)) (by omega)).mono ?_); rintro e w3 ⟨q3, rfl, hq3, hb1⟩))
      go_wp2_with fail
      go_ret2
      exact ⟨q3, rfl, hq3, hB.next (show Later W0 _ by assumption)⟩
    · rw [if_neg h1]
      by_cases h2 : 0 < f x y
      · rw [if_pos h2]
        go_enter Try.func60, Try.ntmps60
        go_wp2_with fail
        clear hW0
        go_region_held3 (fun W' => Later W0 W') (first | assumption | exact Later.drew (by assumption) | exact Later.next (by assumption) hb1) (first | ((with_reducible refine (hcc _ _ _).mono ?_); rintro e w1 ⟨rfl, hb1⟩))
        go_wp2_with fail
        go_region_held3 (fun W' => Later W0 W') (first | assumption | exact Later.drew (by assumption) | exact Later.next (by assumption) hb1) (first | (go_at_call 60; (with_reducible refine (ihr _ (by assumption)).mono ?_); rintro e w2 ⟨q, rfl, hq, hb1⟩))
        go_wp2_with fail
        go_region_held3 (fun W' => Later W0 W') (first | assumption | exact Later.drew (by assumption) | exact Later.next (by assumption) hb1) (first | (go_at_call 84; (with_reducible refine (even_any y (hu0 _ (by assumption)) (hl _ (by assumption)) (hq.later (Later.refl _).drew) (by omega)).mono ?_); rintro e w3 ⟨q3, rfl, hq3, hb1⟩))
        go_wp2_with fail
        go_ret2
        exact ⟨q3, rfl, hq3, hB.next (show Later W0 _ by assumption)⟩
      · rw [if_neg h2]
        cases over with
        | true =>
          go_enter Try.func60, Try.ntmps60
          go_wp2_with fail
          clear hW0
          go_region_held3 (fun W' => Later W0 W') (first | assumption | exact Later.drew (by assumption) | exact Later.next (by assumption) hb1) (first | ((with_reducible refine (hcc _ _ _).mono ?_); rintro e w1 ⟨rfl, hb1⟩))
          go_wp2_with fail
          go_region_held3 (fun W' => Later W0 W') (first | assumption | exact Later.drew (by assumption) | exact Later.next (by assumption) hb1) (first | (go_at_call 83; (with_reducible refine (join_any x (hu0 _ (by assumption)) (hl _ (by assumption)) (hr _ (by assumption)) (by omega)).mono ?_); rintro e w3 ⟨q3, rfl, hq3, hb1⟩))
          go_wp2_with fail
          go_ret2
          exact ⟨q3, rfl, hq3, hB.next (show Later W0 _ by assumption)⟩
        | false =>
          go_enter Try.func60, Try.ntmps60
          go_wp2_with fail
          clear hW0
          go_region_held3 (fun W' => Later W0 W') (first | assumption | exact Later.drew (by assumption) | exact Later.next (by assumption) hb1) (first | ((with_reducible refine (hcc _ _ _).mono ?_); rintro e w1 ⟨rfl, hb1⟩))
          go_wp2_with fail
          go_ret2
          exact ⟨_, rfl, h0.later (show Later W0 _ by assumption), hB.next (show Later W0 _ by assumption)⟩
end Go.Proofs.Yteledidnhjioaaa.Sh
namespace Go.Proofs.Yteledidnhjioaaa.Sh
open Go.RowKit Go.Lib Go.Proofs
set_option linter.unusedVariables false
set_option linter.unusedSimpArgs false
set_option maxRecDepth 100000 in
set_option maxHeartbeats 8000000 in
theorem out_any {c : Nat} {f : (Int × Int) → (Int × Int) → Int} (hc : Comp c f) (x : Int × Int) (sb : Nat) : ∀ (T : Tr (Int × Int)) (w : World) (p : Option Addr) (ok : Nat → Prop), Up ok w.heap.size → IsT ok w p T →
    w.cell? ⟨sb, 0, none⟩ = some (.func (.func c) #[] #[]) → T.size + 1 ≤ 4611686018427387904 →
    Calls Try.prog 61 #[.pointer (some ⟨sb, 0, none⟩), .pointer p, .agg #[.int .i64 x.1, .int .i64 x.2]] w (putPost ok w (T.out f x))
  | .leaf, w, p, ok, hu, h, hs, hz => by
    obtain rfl : p = none := h
    have hla : Later w (w.alloc (.cells #[.int .i64 x.1, .int .i64 x.2] 27)) := Later.two
    go_enter Try.func61, Try.ntmps61
    go_wp2_with fail
    go_ret2
    exact ⟨none, rfl, rfl, hla⟩
  | .node l y r, w, p, ok, hu, h, hs, hz => by
    have hs2 := hz
    simp only [Tr.size] at hs2
    have hB : Later w (w.alloc (.cells #[.int .i64 x.1, .int .i64 x.2] 27)) := Later.two
    have hxx := two_new w (.int .i64 x.1) (.int .i64 x.2) 27
    obtain ⟨W0, hW0⟩ : ∃ W0, w.alloc (.cells #[.int .i64 x.1, .int .i64 x.2] 27) = W0 := ⟨_, rfl⟩
    obtain ⟨N, hN⟩ : ∃ N, w.heap.size = N := ⟨_, rfl⟩
    rw [hW0] at hxx hB
    rw [hN] at hxx hu
    have h0 := h.later hB
    obtain ⟨b, pl, pr, rfl, hb, hcn, hl, hr⟩ := IsT.node h0
    have hsc : ∀ W', Later W0 W' → W'.cell? ⟨sb, 0, none⟩ = some (.func (.func c) #[] #[]) := fun W' k => k.cell (hB.cell hs)
    have hbox : ∀ W', Later W0 W' → W'.cell? ⟨N, 0, none⟩ = some (.int .i64 x.1) ∧ W'.cell? ⟨N, 1, none⟩ = some (.int .i64 x.2) := fun W' k => ⟨k.cell hxx.1, k.cell hxx.2⟩
    have hu0 : ∀ W', Later W0 W' → Up ok W'.heap.size := fun W' k => hu.mono (by have := k.size; have := hB.size; omega)
    have hb0 := Later.refl W0
    have ihl : ∀ W', Later W0 W' → Calls Try.prog 61 #[.pointer (some ⟨sb, 0, none⟩), .pointer pl, .agg #[.int .i64 x.1, .int .i64 x.2]] W' (putPost ok W' (l.out f x)) := fun W' k => out_any hc x sb l W' pl ok (hu0 _ k) (hl _ k) (hsc _ k) (by omega)
    have ihr : ∀ W', Later W0 W' → Calls Try.prog 61 #[.pointer (some ⟨sb, 0, none⟩), .pointer pr, .agg #[.int .i64 x.1, .int .i64 x.2]] W' (putPost ok W' (r.out f x)) := fun W' k => out_any hc x sb r W' pr ok (hu0 _ k) (hr _ k) (hsc _ k) (by omega)
    have hen := hc.enters
    have hcc := hc.calls
    have hpl := Tr.out_size f x l
    have hpr := Tr.out_size f x r
    unfold Tr.out
    clear hs h hxx hz
    by_cases h1 : f x y < 0
    · rw [if_pos h1]
      go_enter Try.func61, Try.ntmps61
      go_wp2_with fail
      clear hW0
      go_region_held3 (fun W' => Later W0 W') (first | assumption | exact Later.drew (by assumption) | exact Later.next (by assumption) hb1) (first | ((with_reducible refine (hcc _ _ _).mono ?_); rintro e w1 ⟨rfl, hb1⟩))
      go_wp2_with fail
      go_region_held3 (fun W' => Later W0 W') (first | assumption | exact Later.drew (by assumption) | exact Later.next (by assumption) hb1) (first | (go_at_call 61; (with_reducible refine (ihl _ (by assumption)).mono ?_); rintro e w2 ⟨q, rfl, hq, hb1⟩))
      go_wp2_with fail
      go_region_held3 (fun W' => Later W0 W') (first | assumption | exact Later.drew (by assumption) | exact Later.next (by assumption) hb1) (first | (go_at_call 84; (with_reducible refine (even_any y (hu0 _ (by assumption)) (hq.later (Later.refl _).drew) (hr _ (by assumption)) (by omega)).mono ?_); rintro e w3 ⟨q3, rfl, hq3, hb1⟩))
      go_wp2_with fail
      go_ret2
      exact ⟨q3, rfl, hq3, hB.next (show Later W0 _ by assumption)⟩
    · rw [if_neg h1]
      by_cases h2 : 0 < f x y
      · rw [if_pos h2]
        go_enter Try.func61, Try.ntmps61
        go_wp2_with fail
        clear hW0
        go_region_held3 (fun W' => Later W0 W') (first | assumption | exact Later.drew (by assumption) | exact Later.next (by assumption) hb1) (first | ((with_reducible refine (hcc _ _ _).mono ?_); rintro e w1 ⟨rfl, hb1⟩))
        go_wp2_with fail
        go_region_held3 (fun W' => Later W0 W') (first | assumption | exact Later.drew (by assumption) | exact Later.next (by assumption) hb1) (first | (go_at_call 61; (with_reducible refine (ihr _ (by assumption)).mono ?_); rintro e w2 ⟨q, rfl, hq, hb1⟩))
        go_wp2_with fail
        go_region_held3 (fun W' => Later W0 W') (first | assumption | exact Later.drew (by assumption) | exact Later.next (by assumption) hb1) (first | (go_at_call 84; (with_reducible refine (even_any y (hu0 _ (by assumption)) (hl _ (by assumption)) (hq.later (Later.refl _).drew) (by omega)).mono ?_); rintro e w3 ⟨q3, rfl, hq3, hb1⟩))
        go_wp2_with fail
        go_ret2
        exact ⟨q3, rfl, hq3, hB.next (show Later W0 _ by assumption)⟩
      · rw [if_neg h2]
        cases r with
        | leaf =>
          obtain rfl : pr = none := hr _ hb0
          go_enter Try.func61, Try.ntmps61
          go_wp2_with fail
          clear hW0
          go_region_held3 (fun W' => Later W0 W') (first | assumption | exact Later.drew (by assumption) | exact Later.next (by assumption) hb1) (first | ((with_reducible refine (hcc _ _ _).mono ?_); rintro e w1 ⟨rfl, hb1⟩))
          go_wp2_with fail
          go_ret2
          exact ⟨_, rfl, (hl _ (by assumption)), hB.next (show Later W0 _ by assumption)⟩
        | node a b2 d =>
          obtain ⟨br, prl, prr, hpre, _⟩ := IsT.node (hr _ hb0)
          subst hpre
          have hsz := Tr.first_size a b2 d
          simp only [Tr.size] at hs2
          have hfi : ∀ W', Later W0 W' → Calls Try.prog 85 #[.pointer (some ⟨br, 0, none⟩)] W' (firstPost ok W' a b2 d) := fun W' k => first_any a b2 d W' _ ok (hu0 _ k) (hr _ k) (by omega)
          dsimp only
          obtain ⟨y2, hy2⟩ : ∃ y2, (Tr.first a b2 d).1 = y2 := ⟨_, rfl⟩
          obtain ⟨T2, hT2⟩ : ∃ T2, (Tr.first a b2 d).2 = T2 := ⟨_, rfl⟩
          rw [hT2] at hsz
          rw [hy2, hT2]
          go_enter Try.func61, Try.ntmps61
          go_wp2_with fail
          clear hW0
          go_region_held3 (fun W' => Later W0 W') (first | assumption | exact Later.drew (by assumption) | exact Later.next (by assumption) hb1) (first | ((with_reducible refine (hcc _ _ _).mono ?_); rintro e w1 ⟨rfl, hb1⟩))
          go_wp2_with (go_at_call 85; (with_reducible refine (hfi _ (by assumption)).mono ?_); rintro e w2 ⟨q, rfl, hq, hb1⟩)
          have hl3 : Later W0 (w2.alloc (.cells #[.int .i64 y2.1, .int .i64 y2.2] 27)) := (Later.next (by assumption) hb1).alloc _
          rw [hT2] at hq
          have hq3 := hq.later (Later.two (x := .int .i64 y2.1) (y := .int .i64 y2.2) (t := 27))
          have hyy := two_new w2 (.int .i64 y2.1) (.int .i64 y2.2) 27
          have hcn3 : ∀ W', Later (w2.alloc (.cells #[.int .i64 y2.1, .int .i64 y2.2] 27)) W' → _ := fun W' k => hcn W' (hl3.next k)
          have hll3 : ∀ W', Later (w2.alloc (.cells #[.int .i64 y2.1, .int .i64 y2.2] 27)) W' → IsT ok W' pl l := fun W' k => hl W' (hl3.next k)
          have hu3 : ∀ W', Later (w2.alloc (.cells #[.int .i64 y2.1, .int .i64 y2.2] 27)) W' → Up ok W'.heap.size := fun W' k => hu0 W' (hl3.next k)
          generalize w2.alloc (.cells #[.int .i64 y2.1, .int .i64 y2.2] 27) = W3 at *
          obtain ⟨M, hM⟩ : ∃ M, w2.heap.size = M := ⟨_, rfl⟩
          rw [hM] at hyy
          have hbx3 : ∀ W', Later W3 W' → W'.cell? ⟨M, 0, none⟩ = some (.int .i64 y2.1) ∧ W'.cell? ⟨M, 1, none⟩ = some (.int .i64 y2.2) := fun W' k => ⟨k.cell hyy.1, k.cell hyy.2⟩
          have hb3 := Later.refl W3
          have hq4 : IsT ok W3.drew q T2 := hq3.later hb3.drew
          clear hcn hsc hbox ihl hfi hyy hcc hen hb1
          rw [hM]
          go_region_held3 (fun W' => Later W3 W') (first | assumption | exact Later.drew (by assumption) | exact Later.next (by assumption) hb1) (first | (go_at_call 84; (with_reducible refine (even_any y2 (hu3 _ (by assumption)) (hll3 _ (by assumption)) hq4 (by omega)).mono ?_); rintro e w4 ⟨q5, rfl, hq5, hb1⟩))
          go_wp2_with fail
          go_ret2
          exact ⟨q5, rfl, hq5, (hB.next hl3).next (show Later W3 _ by assumption)⟩
end Go.Proofs.Yteledidnhjioaaa.Sh
