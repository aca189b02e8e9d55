import Derived.Test.YteedjhoffjkhmaaDoorPTx23
namespace Go.Proofs.YteedjhoffjkhmaaDoor.PT
open Go.RowKit Go.Proofs.YteedjhoffjkhmaaDoorW.PrintWords Go.Proofs.YteedjhoffjkhmaaDoorW.PrintLast Go.Proofs.YteedjhoffjkhmaaDoorW.PrintMore
attribute [local go_sem] max2_int min2_int max_two min_two max_three min_three max_four min_four
set_option linter.unusedVariables false
set_option linter.unusedSimpArgs false
set_option maxHeartbeats 8000000 in
set_option maxRecDepth 100000 in
theorem aheadC (A0 : Option Addr) (c0 : Nat) (l0 : List (S37)) (r : List (S37)) (w : World) (hr0 : Kd.C k37 w A0 l0.length l0) (hc0 : l0.length ≤ c0) (h : latchkeylaw05_ahead.f l0 = some r) :
    Calls Tryd.prog 22 #[.slice A0 l0.length c0] w fun e w' => e = .returned (.slice A0 r.length c0) ∧ Below w.heap.size w w' := by
  have HR0 := Aside0.mk hr0
  have HC0 := Aside0.mk hc0
  clear hr0 hc0
  have HB := Aside0.mk (Below.refl w.heap.size w)
  have H : (if (l0.length : Int) > 0 then (if 0 ≤ (wrap64 ((l0.length : Int) - 1)) then (if (wrap64 ((l0.length : Int) - 1)) < (l0.length : Int) then (if ((rd_T37 l0 (wrap64 ((l0.length : Int) - 1))).f0) = 7 then (if (wrap64 ((l0.length : Int) - 1)) ≤ (l0.length : Int) then (some (l0.take ((wrap64 ((l0.length : Int) - 1)) : Int).toNat)) else (none)) else (some l0)) else (none)) else (none)) else (some l0)) = some r := h
  clear h
  by_cases c2 : (l0.length : Int) > 0
  · rw [if_pos c2] at H
    have c2b0 : decide (0 < (l0.length : Int)) = true := decide_eq_true c2
    have c2b1 : decide (0 < l0.length) = true := decide_eq_true (by omega)
    clear c2
    obtain ⟨ji3, hji3⟩ : ∃ j_ : Int, (wrap64 ((l0.length : Int) - 1)) = j_ := ⟨_, rfl⟩
    replace H : (if 0 ≤ (ji3) then (if (ji3) < (l0.length : Int) then (if ((rd_T37 l0 (ji3)).f0) = 7 then (if (ji3) ≤ (l0.length : Int) then (some (l0.take ((ji3) : Int).toNat)) else (none)) else (some l0)) else (none)) else (none)) = some r := by first | (rw [hji3] at H; exact H) | (simp only [hji3] at H ⊢; exact H)
    have hji3w : (IntKind.i64.wrap ((l0.length : Int) - 1)) = ji3 := (i64_w _).trans hji3
    by_cases c4 : 0 ≤ (ji3)
    · rw [if_pos c4] at H
      have c4b0 : decide (0 ≤ (ji3)) = true := decide_eq_true c4
      clear c4
      by_cases c5 : (ji3) < (l0.length : Int)
      · rw [if_pos c5] at H
        have c5b0 : decide ((ji3) < (l0.length : Int)) = true := decide_eq_true c5
        clear c5
        by_cases c6 : ((rd_T37 l0 (ji3)).f0) = 7
        · rw [if_pos c6] at H
          have c6b0 : (((rd_T37 l0 (ji3)).f0) == 7) = true := beq_iff_eq.mpr c6
          have c6b1 : (((rd_T37 l0 (ji3)).f0) != 7) = false := bne_eq_false_iff_eq.mpr c6
          clear c6
          by_cases c7 : (ji3) ≤ (l0.length : Int)
          · rw [if_pos c7] at H
            have c7b0 := eq_true c7
            have c7b1 : decide ((ji3) ≤ (l0.length : Int)) = true := decide_eq_true c7
            clear c7
            obtain ⟨y532, hy532⟩ : ∃ y_ : List (S37), y_ = (l0.take ((ji3) : Int).toNat) := ⟨_, rfl⟩
            replace H : (some y532) = some r := by first | (rw [hy532]; with_reducible exact H) | (have H2_ := (Option.bind_some _ _).symm.trans H; rw [hy532]; with_reducible exact H2_) | (have H2_ := (Option.bind_some _ _).symm.trans H; with_reducible exact H2_) | with_reducible exact H | (rw [hy532]; exact H) | exact H
            have Ny532 := Aside0.mk hy532
            clear hy532
            obtain rfl := Option.some.inj H
            have p531 : 0 ≤ ((ji3) : Int) := of_decide_eq_true (by first | (with_reducible assumption) | assumption)
            have q531 : (ji3) < (l0.length : Int) := of_decide_eq_true (by first | (with_reducible assumption) | assumption)
            obtain ⟨ad531, e531, hx531_0, hx531_1, hx531_2, hx531_3⟩ := at_T37 HR0.out (ji3) p531 q531
            cases e531
            replace p531 := eq_true p531
            replace q531 := eq_true q531
            have q9 : ((ji3) : Int) ≤ ((l0.length : Int) : Int) := of_decide_eq_true (by first | (with_reducible assumption) | assumption)
            obtain ⟨i09, hi09, _, hsz9, _⟩ := info_parts info37
            have hcut9 := cut_to (P := Tryd.prog) 22 37 .i64 Tryd.underlying22 hi09 (some ad531) l0.length c0 (ji3) (of_decide_eq_true (by first | (with_reducible assumption) | assumption)) q9 HC0.out
            have hy9 : y532.length = ((ji3) : Int).toNat := (by rw [Ny532.out, List.length_take]; omega)
            rw [← hy9] at hcut9
            clear hy9 hi09 hsz9
            replace q9 := eq_true q9
            go_enter Tryd.func22, Tryd.ntmps22
            go_wp2
            go_ret
            exact ⟨by first | rfl | (simp [errW_none, errW_some] <;> rfl) | (simp only [← hji3]; first | rfl | (simp [errW_none, errW_some] <;> rfl)) | (simp [*, errW_none, errW_some] <;> rfl), by repeat (first | (with_reducible first | exact HB.out | apply below_alloc | apply pw_below_drewN | apply below_drew1) | exact HB.out)⟩
          · rw [if_neg c7] at H
            exact absurd H (by simp)
        · rw [if_neg c6] at H
          have c6b0 : (((rd_T37 l0 (ji3)).f0) == 7) = false := beq_eq_false_iff_ne.mpr c6
          have c6b1 : (((rd_T37 l0 (ji3)).f0) != 7) = true := bne_iff_ne.mpr c6
          obtain rfl := Option.some.inj H
          have p531 : 0 ≤ ((ji3) : Int) := of_decide_eq_true (by first | (with_reducible assumption) | assumption)
          have q531 : (ji3) < (l0.length : Int) := of_decide_eq_true (by first | (with_reducible assumption) | assumption)
          obtain ⟨ad531, e531, hx531_0, hx531_1, hx531_2, hx531_3⟩ := at_T37 HR0.out (ji3) p531 q531
          cases e531
          replace p531 := eq_true p531
          replace q531 := eq_true q531
          go_enter Tryd.func22, Tryd.ntmps22
          go_wp2
          go_ret
          exact ⟨by first | rfl | (simp [errW_none, errW_some] <;> rfl) | (simp only [← hji3]; first | rfl | (simp [errW_none, errW_some] <;> rfl)) | (simp [*, errW_none, errW_some] <;> rfl), by repeat (first | (with_reducible first | exact HB.out | apply below_alloc | apply pw_below_drewN | apply below_drew1) | exact HB.out)⟩
      · rw [if_neg c5] at H
        exact absurd H (by simp)
    · rw [if_neg c4] at H
      exact absurd H (by simp)
  · rw [if_neg c2] at H
    have c2b0 : decide (0 < (l0.length : Int)) = false := decide_eq_false c2
    have c2b1 : decide (0 < l0.length) = false := decide_eq_false (by omega)
    clear c2
    obtain rfl := Option.some.inj H
    go_enter Tryd.func22, Tryd.ntmps22
    go_wp2
    go_ret
    exact ⟨by first | rfl | (simp [errW_none, errW_some] <;> rfl) | (simp [*, errW_none, errW_some] <;> rfl), by repeat (first | (with_reducible first | exact HB.out | apply below_alloc | apply pw_below_drewN | apply below_drew1) | exact HB.out)⟩
theorem ahead_take {l r : List S37} (h : latchkeylaw05_ahead.f l = some r) : r.length ≤ l.length ∧ l.take r.length = r := by
  unfold latchkeylaw05_ahead.f at h
  split at h
  · split at h
    · split at h
      · split at h
        · split at h
          · obtain rfl := Option.some.inj h
            refine ⟨by rw [List.length_take]; omega, ?_⟩
            rw [List.length_take, List.take_eq_take_iff]; omega
          · cases h
        · obtain rfl := Option.some.inj h
          exact ⟨Nat.le_refl _, List.take_length⟩
      · cases h
    · cases h
  · obtain rfl := Option.some.inj h
    exact ⟨Nat.le_refl _, List.take_length⟩
theorem ahead_C {w : World} {A : Option Addr} {l r : List S37} (h : latchkeylaw05_ahead.f l = some r) (hC : Kd.C k37 w A l.length l) : Kd.C k37 w A r.length r := by
  obtain ⟨h1, h2⟩ := ahead_take h
  have := Kd.C_take (m := r.length) hC h1
  rwa [h2] at this
set_option maxHeartbeats 8000000 in
set_option maxRecDepth 100000 in
theorem alikeC (k : Nat) (A0 : Option Addr) (c0 : Nat) (l0 : List (S37)) (A1 : Option Addr) (c1 : Nat) (l1 : List (S37)) (t207 t210 : List S37) (w : World) (hr0 : Kd.C k37 w A0 l0.length l0) (hc0 : l0.length ≤ c0) (hr1 : Kd.C k37 w A1 l1.length l1) (hc1 : l1.length ≤ c1)
    (h3 : latchkeylaw05_ahead.f l0 = some t207) (h4 : latchkeylaw05_ahead.f l1 = some t210) (hl : t207.length = t210.length) (h5 : latchkeylaw05_alike.l0 k t207 t210 0 = some true) :
    Calls Tryd.prog 23 #[.slice A0 l0.length c0, .slice A1 l1.length c1] w fun e w' => e = .returned (.bool true) ∧ Below w.heap.size w w' := by
  have HR0 := Aside0.mk hr0
  have HC0 := Aside0.mk hc0
  have HR1 := Aside0.mk hr1
  have HC1 := Aside0.mk hc1
  have HA0 := Aside0.mk (ahead_C h3 hr0)
  have HA1 := Aside0.mk (ahead_C h4 hr1)
  have A3 := Aside0.mk h3
  have A4 := Aside0.mk h4
  have H' := Aside0.mk h5
  clear hr0 hc0 hr1 hc1 h3 h4 h5
  have HB := Aside0.mk (Below.refl w.heap.size w)
  have c5b0 : ((t207.length : Int) == (t210.length : Int)) = true := by rw [hl]; simp
  have c5b1 : ((t207.length : Int) != (t210.length : Int)) = false := by rw [hl]; simp
  have c5b2 : (t207.length == t210.length) = true := by rw [hl]; simp
  clear hl
  go_enter Tryd.func23, Tryd.ntmps23
  go_wp2_with (first | (go_at_call 22; (with_reducible refine (aheadC _ _ l0 t207 _ ?side1 ?side2 A3.out).mono ?_); (case side1 => repeat (first | exact (Kd.C_below HR0.out HB.out) | (with_reducible refine Kd.C_alloc ?_ _) | (with_reducible refine Kd.C_drewN ?_ _) | (with_reducible refine Kd.C_drew ?_))); (case side2 => exact HC0.out); rintro e w6 ⟨rfl, hb⟩; have n1_ := Aside0.mk (below_step (by repeat (first | (with_reducible first | exact HB.out | apply below_alloc | apply pw_below_drewN | apply below_drew1) | exact HB.out)) hb); clear HB; have HB := n1_; clear n1_; (try clear hb)) | (go_at_call 22; (with_reducible refine (aheadC _ _ l1 t210 _ ?side1 ?side2 A4.out).mono ?_); (case side1 => repeat (first | exact (Kd.C_below HR1.out HB.out) | (with_reducible refine Kd.C_alloc ?_ _) | (with_reducible refine Kd.C_drewN ?_ _) | (with_reducible refine Kd.C_drew ?_))); (case side2 => exact HC1.out); rintro e w7 ⟨rfl, hb⟩; have n1_ := Aside0.mk (below_step (by repeat (first | (with_reducible first | exact HB.out | apply below_alloc | apply pw_below_drewN | apply below_drew1) | exact HB.out)) hb); clear HB; have HB := n1_; clear n1_; (try clear hb)))
  go_loopg [5] k (fun kq v5 w' => ∃ (x5_1 : Int), v5 = .int .i64 x5_1 ∧ Aside0 (latchkeylaw05_alike.l0 kq t207 t210 x5_1 = some true) ∧ Aside0 (kq ≤ k) ∧ Aside0 (Below w.heap.size w w'))
  case atStart => exact ⟨(0), (by first | rfl | (simp; done) | (simp [*]; done)), H', ⟨Nat.le_refl _⟩, ⟨by repeat (first | (with_reducible first | exact HB.out | apply below_alloc | apply pw_below_drewN | apply below_drew1) | exact HB.out)⟩⟩
  case round =>
    clear H' HB
    clear c5b0 c5b1 c5b2
    obtain ⟨x5_1, rfl, HA, HK1, HB⟩ := hrel
    cases gk with
    | zero => exact absurd HA.out (by simp [latchkeylaw05_alike.l0])
    | succ k1 =>
      have H := HA.out
      clear HA
      simp only [latchkeylaw05_alike.l0] at H
      have HO_0 := Aside0.mk (Kd.C_below HA0.out HB.out)
      have HO_1 := Aside0.mk (Kd.C_below HA1.out HB.out)
      by_cases c10 : x5_1 < (t207.length : Int)
      · rw [if_pos c10] at H
        have c10b0 : decide (x5_1 < (t207.length : Int)) = true := decide_eq_true c10
        clear c10
        by_cases c11 : 0 ≤ x5_1
        · rw [if_pos c11] at H
          have c11b0 : decide (0 ≤ x5_1) = true := decide_eq_true c11
          clear c11
          by_cases c12 : x5_1 < (t210.length : Int)
          · rw [if_pos c12] at H
            have c12b0 : decide (x5_1 < (t210.length : Int)) = true := decide_eq_true c12
            clear c12
            by_cases c13 : ((rd_T37 t207 x5_1).f0) = ((rd_T37 t210 x5_1).f0)
            · rw [if_pos c13] at H
              have c13b0 : (((rd_T37 t207 x5_1).f0) == ((rd_T37 t210 x5_1).f0)) = true := beq_iff_eq.mpr c13
              have c13b1 : (((rd_T37 t207 x5_1).f0) != ((rd_T37 t210 x5_1).f0)) = false := bne_eq_false_iff_eq.mpr c13
              clear c13
              by_cases c14 : ((rd_T37 t207 x5_1).f1).toList = ((rd_T37 t210 x5_1).f1).toList
              · rw [if_pos c14] at H
                have c14b0 : (((rd_T37 t207 x5_1).f1).toList == ((rd_T37 t210 x5_1).f1).toList) = true := beq_iff_eq.mpr c14
                have c14b1 : (((rd_T37 t207 x5_1).f1).toList != ((rd_T37 t210 x5_1).f1).toList) = false := bne_eq_false_iff_eq.mpr c14
                clear c14
                have H' := Aside0.mk H
                clear H
                have p213 : 0 ≤ (x5_1 : Int) := of_decide_eq_true (by first | (with_reducible assumption) | assumption)
                have q213 : x5_1 < (t207.length : Int) := of_decide_eq_true (by first | (with_reducible assumption) | assumption)
                have q214 : x5_1 < (t210.length : Int) := of_decide_eq_true (by first | (with_reducible assumption) | assumption)
                obtain ⟨ad213, e213, hx213_0, hx213_1, hx213_2, hx213_3⟩ := at_T37 HO_0.out x5_1 p213 q213
                cases e213
                obtain ⟨ad214, e214, hx214_0, hx214_1, hx214_2, hx214_3⟩ := at_T37 HO_1.out x5_1 p213 q214
                cases e214
                replace p213 := eq_true p213
                replace q213 := eq_true q213
                replace q214 := eq_true q214
                go_wp2
                repeat (go_quiet (fail); try go_wp2)
                go_roundg k1
                case measure => have := HK1.out; omega
                case rel => exact ⟨(wrap64 (x5_1 + 1)), (by first | rfl | (simp; done) | (simp [*]; done)), H', ⟨by have := HK1.out; omega⟩, ⟨by repeat (first | (with_reducible first | exact HB.out | apply below_alloc | apply pw_below_drewN | apply below_drew1) | exact HB.out)⟩⟩
              · rw [if_neg c14] at H; exact absurd H (by simp)
            · rw [if_neg c13] at H; exact absurd H (by simp)
          · rw [if_neg c12] at H; exact absurd H (by simp)
        · rw [if_neg c11] at H; exact absurd H (by simp)
      · rw [if_neg c10] at H
        have c10b0 : decide (x5_1 < (t207.length : Int)) = false := decide_eq_false c10
        clear c10 H
        go_wp2
        go_ret
        exact ⟨by first | rfl | (simp [errW_none, errW_some] <;> rfl), by repeat (first | (with_reducible first | exact HB.out | apply below_alloc | apply pw_below_drewN | apply below_drew1) | exact HB.out)⟩
end Go.Proofs.YteedjhoffjkhmaaDoor.PT
