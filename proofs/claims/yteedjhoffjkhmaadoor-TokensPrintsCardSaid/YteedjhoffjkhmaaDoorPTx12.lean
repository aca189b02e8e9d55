import Derived.Test.YteedjhoffjkhmaaDoorPTx0
import Derived.Test.YteedjhoffjkhmaaDoorPTx7
import Derived.Test.YteedjhoffjkhmaaDoorPTx11
namespace Go.Proofs.YteedjhoffjkhmaaDoor.PT
open Go.RowKit Go.Proofs.YteedjhoffjkhmaaDoorW.PrintWords Go.Proofs.YteedjhoffjkhmaaDoorW.PrintLast Go.Proofs.YteedjhoffjkhmaaDoorW.PrintMore
attribute [local go_sem] max2_int min2_int max_two min_two max_three min_three max_four min_four
set_option linter.unusedVariables false
set_option linter.unusedSimpArgs false
mutual
def latchkeyref05_number.j0 : Nat → ByteArray → Int → Bool → Option (Int × Bool)
 | 0, _, _, _ => none
 | k + 1, x0, x6, x19 => if x19 = true then (some (x6, false)) else ((latchkeyref05_rowDigits.f k x0 (wrap64 (x6 + 1))).bind fun t186 => (if t186 < (x0.size : Int) then (if 0 ≤ t186 then (latchkeyref05_number.j1 k x0 t186 ((bt x0 t186) == 101)) else (none)) else (latchkeyref05_number.j1 k x0 t186 false)))
def latchkeyref05_number.j1 : Nat → ByteArray → Int → Bool → Option (Int × Bool)
 | 0, _, _, _ => none
 | k + 1, x0, x6, x34 => if x34 = true then (if 0 ≤ (wrap64 (x6 + 1)) then (if (wrap64 (x6 + 1)) < (x0.size : Int) then (if (bt x0 (wrap64 (x6 + 1))) = 45 then ((latchkeyref05_rowDigits.f k x0 (wrap64 ((wrap64 (x6 + 1)) + 1))).bind fun t187 => (some (t187, true))) else ((latchkeyref05_rowDigits.f k x0 (wrap64 (x6 + 1))).bind fun t188 => (some (t188, true)))) else (none)) else (none)) else (some (x6, true))
end
def latchkeyref05_number.f (k : Nat) (a0 : ByteArray) (a1 : Int) : Option (Int × Bool) := (latchkeyref05_rowDigits.f k a0 a1).bind fun t185 => (if t185 ≥ (a0.size : Int) then (latchkeyref05_number.j0 k a0 t185 true) else (if 0 ≤ t185 then (if t185 < (a0.size : Int) then (latchkeyref05_number.j0 k a0 t185 ((bt a0 t185) != 46)) else (none)) else (none)))
set_option maxHeartbeats 8000000 in
set_option maxRecDepth 100000 in
theorem latchkeyref05_number.calls (k : Nat) (a0 : ByteArray) (a1 : Int) (r1 : Int) (r2 : Bool) (w : World) (h : latchkeyref05_number.f k a0 a1 = some (r1, r2)) :
  Calls Tryd.prog 57 #[.string a0, .int .i64 a1] w fun e w' => e = .returned (.tuple #[.int .i64 r1, .bool r2]) ∧ Drawn0 w w' := by
 have H : ((latchkeyref05_rowDigits.f k a0 a1).bind fun t185 => (if t185 ≥ (a0.size : Int) then (latchkeyref05_number.j0 k a0 t185 true) else (if 0 ≤ t185 then (if t185 < (a0.size : Int) then (latchkeyref05_number.j0 k a0 t185 ((bt a0 t185) != 46)) else (none)) else (none)))) = some (r1, r2) := h
 clear h
 replace H := Option.bind_eq_some_iff.mp H
 obtain ⟨t185, A30, H⟩ := H
 replace H : (if t185 ≥ (a0.size : Int) then (latchkeyref05_number.j0 k a0 t185 true) else (if 0 ≤ t185 then (if t185 < (a0.size : Int) then (latchkeyref05_number.j0 k a0 t185 ((bt a0 t185) != 46)) else (none)) else (none))) = some (r1, r2) := H
 have A3 := Aside0.mk A30
 clear A30
 have HC4 := Aside0.mk H
 clear H
 go_enter Tryd.func57, Tryd.ntmps57
 go_upto_region 2 with (first | ((with_reducible refine gate_callee (f := 63) rfl ?_); refine goesL_ (some 9) rfl rfl Tryd.func63 (by kernel_rfl) rfl #[.string a0, .int .i64 a1] rfl agq ?_; (with_reducible refine (latchkeyref05_rowDigits.calls k a0 a1 t185 _ A3.out).mono ?_); rintro e w' ⟨rfl, ⟨nd, rfl⟩⟩; refine ⟨_, rfl, ?_⟩))
 (try simp only [Act.put, List.setIfInBounds_toArray, List.set_cons_zero, List.set_cons_succ])
 go_cut [19] (fun v19 wc => ∃ (kq : Nat) (x19_3 : Bool), v19 = .bool x19_3 ∧ Aside0 (latchkeyref05_number.j0 kq a0 t185 x19_3 = some (r1, r2)) ∧ Aside0 (kq ≤ k) ∧ Drawn0 w wc)
 case first =>
  have H := HC4.out
  clear HC4
  by_cases c5 : t185 ≥ (a0.size : Int)
  ·
   rw [if_pos c5] at H
   have c5b0 : decide ((a0.size : Int) ≤ t185) = true := decide_eq_true c5
   clear c5
   (first | rw [c5b0] | (simp only [i64_w, i32_w]; rw [c5b0]) | skip)
   have H' := Aside0.mk H
   clear H
   go_wp2
   go_meet
   case rel => exact ⟨_, (true), (by first | rfl | (simp; done) | (simp [*]; done)), H', ⟨by first | omega | exact Nat.le_refl _⟩, g1q⟩
  ·
   rw [if_neg c5] at H
   have c5b0 : decide ((a0.size : Int) ≤ t185) = false := decide_eq_false c5
   clear c5
   (first | rw [c5b0] | (simp only [i64_w, i32_w]; rw [c5b0]) | skip)
   by_cases c6 : 0 ≤ t185
   ·
    rw [if_pos c6] at H
    have c6b0 : decide (0 ≤ t185) = true := decide_eq_true c6
    clear c6
    by_cases c7 : t185 < (a0.size : Int)
    ·
     rw [if_pos c7] at H
     have c7b0 : decide (t185 < (a0.size : Int)) = true := decide_eq_true c7
     clear c7
     have H' := Aside0.mk H
     clear H
     have p8 : 0 ≤ (t185 : Int) := of_decide_eq_true azq
     have q8 : t185 < (a0.size : Int) := of_decide_eq_true azq
     have hx8 := bt_at a0 t185
     replace p8 := eq_true p8
     replace q8 := eq_true q8
     go_wp2
     go_meet
     case rel => exact ⟨_, (((bt a0 t185) != 46)), (by first | rfl | (simp; done) | (simp [*]; done)), H', ⟨by first | omega | exact Nat.le_refl _⟩, g1q⟩
    ·
     rw [if_neg c7] at H
     exact absurd H (by simp)
   ·
    rw [if_neg c6] at H
    exact absurd H (by simp)
 case rest =>
  clear HC4
  (try clear p2); (try clear c5); (try clear c5b0); (try clear c6); (try clear c6b0); (try clear c7); (try clear c7b0); (try clear p8); (try clear q8); (try clear hx8); (try clear p8); (try clear q8)
  obtain ⟨kq, x19_3, rfl, HA, HJ3, ⟨mc3, rfl⟩⟩ := hcut
  cases kq with
  | zero => exact absurd HA.out (by simp [latchkeyref05_number.j0])
  | succ kj3 =>
   have H := HA.out
   clear HA
   simp only [latchkeyref05_number.j0] at H
   by_cases c9 : x19_3 = true
   ·
    subst c9
    have H1 : (some (t185, false)) = some (r1, r2) := by rw [if_pos rfl] at H; exact H
    clear H
    have H := H1
    clear H1
    simp only [Option.some.injEq, Prod.mk.injEq] at H
    obtain ⟨rfl, rfl⟩ := H
    go_wp2
    go_ret2
    exact ⟨by first | rfl | (simp; done) | (simp [*]; done), g1q⟩
   ·
    replace c9 := Bool.eq_false_iff.mpr c9
    subst c9
    have H1 : ((latchkeyref05_rowDigits.f kj3 a0 (wrap64 (t185 + 1))).bind fun t186 => (if t186 < (a0.size : Int) then (if 0 ≤ t186 then (latchkeyref05_number.j1 kj3 a0 t186 ((bt a0 t186) == 101)) else (none)) else (latchkeyref05_number.j1 kj3 a0 t186 false))) = some (r1, r2) := by rw [if_neg (show ¬ (false = true) by decide)] at H; exact H
    clear H
    have H := H1
    clear H1
    replace H := Option.bind_eq_some_iff.mp H
    obtain ⟨t186, A100, H⟩ := H
    replace H : (if t186 < (a0.size : Int) then (if 0 ≤ t186 then (latchkeyref05_number.j1 kj3 a0 t186 ((bt a0 t186) == 101)) else (none)) else (latchkeyref05_number.j1 kj3 a0 t186 false)) = some (r1, r2) := H
    have A10 := Aside0.mk A100
    clear A100
    have HC11 := Aside0.mk H
    clear H
    go_upto_region 5 with (first | ((with_reducible refine gate_callee (f := 63) rfl ?_); refine goesL_ (some 24) rfl rfl Tryd.func63 (by kernel_rfl) rfl #[.string a0, .int .i64 (wrap64 (t185 + 1))] rfl agq ?_; (with_reducible refine (latchkeyref05_rowDigits.calls kj3 a0 (wrap64 (t185 + 1)) t186 _ A10.out).mono ?_); rintro e w' ⟨rfl, ⟨nd, rfl⟩⟩; refine ⟨_, rfl, ?_⟩))
    (try simp only [Act.put, List.setIfInBounds_toArray, List.set_cons_zero, List.set_cons_succ])
    go_cut [34] (fun v34 wc => ∃ (kq : Nat) (x34_10 : Bool), v34 = .bool x34_10 ∧ Aside0 (latchkeyref05_number.j1 kq a0 t186 x34_10 = some (r1, r2)) ∧ Aside0 (kq ≤ kj3) ∧ Drawn0 w wc)
    case first =>
     have H := HC11.out
     clear HC11
     by_cases c12 : t186 < (a0.size : Int)
     ·
      rw [if_pos c12] at H
      have c12b0 : decide (t186 < (a0.size : Int)) = true := decide_eq_true c12
      clear c12
      (first | rw [c12b0] | (simp only [i64_w, i32_w]; rw [c12b0]) | skip)
      by_cases c13 : 0 ≤ t186
      ·
       rw [if_pos c13] at H
       have c13b0 : decide (0 ≤ t186) = true := decide_eq_true c13
       clear c13
       have H' := Aside0.mk H
       clear H
       have p14 : 0 ≤ (t186 : Int) := of_decide_eq_true azq
       have q14 : t186 < (a0.size : Int) := of_decide_eq_true azq
       have hx14 := bt_at a0 t186
       replace p14 := eq_true p14
       replace q14 := eq_true q14
       go_wp2
       go_meet
       case rel => exact ⟨_, (((bt a0 t186) == 101)), (by first | rfl | (simp; done) | (simp [*]; done)), H', ⟨by have := HJ3.out; first | omega | exact Nat.le_refl _⟩, g1q⟩
      ·
       rw [if_neg c13] at H
       exact absurd H (by simp)
     ·
      rw [if_neg c12] at H
      have c12b0 : decide (t186 < (a0.size : Int)) = false := decide_eq_false c12
      clear c12
      (first | rw [c12b0] | (simp only [i64_w, i32_w]; rw [c12b0]) | skip)
      have H' := Aside0.mk H
      clear H
      go_wp2
      go_meet
      case rel => exact ⟨_, (false), (by first | rfl | (simp; done) | (simp [*]; done)), H', ⟨by have := HJ3.out; first | omega | exact Nat.le_refl _⟩, g1q⟩
    case rest =>
     clear HC11
     (try clear c1); (try clear p1); (try clear q1); (try clear hx1); (try clear p2); (try clear c3); (try clear c5); (try clear c5b0); (try clear c6); (try clear c6b0); (try clear p6); (try clear c7); (try clear c7b0); (try clear p8); (try clear q8); (try clear hx8); (try clear c9); (try clear c12); (try clear c12b0); (try clear c13); (try clear c13b0); (try clear p14); (try clear q14); (try clear hx14); (try clear p14); (try clear p2); (try clear p8); (try clear q14); (try clear q8)
     obtain ⟨kq, x34_10, rfl, HA, HJ10, ⟨mc10, rfl⟩⟩ := hcut
     cases kq with
     | zero => exact absurd HA.out (by simp [latchkeyref05_number.j1])
     | succ kj10 =>
      have H := HA.out
      clear HA
      simp only [latchkeyref05_number.j1] at H
      by_cases c15 : x34_10 = true
      ·
       subst c15
       have H1 : (if 0 ≤ (wrap64 (t186 + 1)) then (if (wrap64 (t186 + 1)) < (a0.size : Int) then (if (bt a0 (wrap64 (t186 + 1))) = 45 then ((latchkeyref05_rowDigits.f kj10 a0 (wrap64 ((wrap64 (t186 + 1)) + 1))).bind fun t187 => (some (t187, true))) else ((latchkeyref05_rowDigits.f kj10 a0 (wrap64 (t186 + 1))).bind fun t188 => (some (t188, true)))) else (none)) else (none)) = some (r1, r2) := by rw [if_pos rfl] at H; exact H
       clear H
       have H := H1
       clear H1
       obtain ⟨ji16, hji16⟩ : ∃ j_ : Int, (wrap64 (t186 + 1)) = j_ := ⟨_, rfl⟩
       replace H : (if 0 ≤ (ji16) then (if (ji16) < (a0.size : Int) then (if (bt a0 (ji16)) = 45 then ((latchkeyref05_rowDigits.f kj10 a0 (wrap64 ((ji16) + 1))).bind fun t187 => (some (t187, true))) else ((latchkeyref05_rowDigits.f kj10 a0 (ji16)).bind fun t188 => (some (t188, true)))) else (none)) else (none)) = some (r1, r2) := by first | (rw [hji16] at H; exact H) | (simp only [hji16] at H ⊢; exact H)
       have hji16w : (IntKind.i64.wrap (t186 + 1)) = ji16 := (i64_w _).trans hji16
       by_cases c17 : 0 ≤ (ji16)
       ·
        rw [if_pos c17] at H
        have c17b0 : decide (0 ≤ (ji16)) = true := decide_eq_true c17
        clear c17
        by_cases c18 : (ji16) < (a0.size : Int)
        ·
         rw [if_pos c18] at H
         have c18b0 : decide ((ji16) < (a0.size : Int)) = true := decide_eq_true c18
         clear c18
         by_cases c20 : (bt a0 (ji16)) = 45
         ·
          rw [if_pos c20] at H
          have c20b0 : ((bt a0 (ji16)) == 45) = true := beq_iff_eq.mpr c20
          have c20b1 : ((bt a0 (ji16)) != 45) = false := bne_eq_false_iff_eq.mpr c20
          clear c20
          replace H := Option.bind_eq_some_iff.mp H
          obtain ⟨t187, A210, H⟩ := H
          replace H : (some (t187, true)) = some (r1, r2) := H
          have A21 := Aside0.mk A210
          clear A210
          simp only [Option.some.injEq, Prod.mk.injEq] at H
          obtain ⟨rfl, rfl⟩ := H
          have p19 : 0 ≤ ((ji16) : Int) := of_decide_eq_true azq
          have q19 : (ji16) < (a0.size : Int) := of_decide_eq_true azq
          have hx19 := bt_at a0 (ji16)
          replace p19 := eq_true p19
          replace q19 := eq_true q19
          go_wp2_with (first | ((with_reducible refine gate_callee (f := 63) rfl ?_); refine goesL_ (some 45) rfl rfl Tryd.func63 (by kernel_rfl) rfl #[.string a0, .int .i64 (wrap64 ((ji16) + 1))] rfl (by (try simp only [List.map_toArray, List.map_cons, List.map_nil]); first | done | (simp only [hji16]; rfl) | rfl | (simp only [List.length_drop, List.length_take]; rfl)) ?_; (with_reducible refine (latchkeyref05_rowDigits.calls kj10 a0 (wrap64 ((ji16) + 1)) t187 _ A21.out).mono ?_); rintro e w' ⟨rfl, ⟨nd, rfl⟩⟩; refine ⟨_, rfl, ?_⟩))
          go_ret2
          exact ⟨by first | rfl | (simp; done) | (simp only [← hji16] <;> (first | rfl | simp)) | (simp [*]; done), g1q⟩
         ·
          rw [if_neg c20] at H
          have c20b0 : ((bt a0 (ji16)) == 45) = false := beq_eq_false_iff_ne.mpr c20
          have c20b1 : ((bt a0 (ji16)) != 45) = true := bne_iff_ne.mpr c20
          replace H := Option.bind_eq_some_iff.mp H
          obtain ⟨t188, A220, H⟩ := H
          replace H : (some (t188, true)) = some (r1, r2) := H
          have A22 := Aside0.mk A220
          clear A220
          simp only [Option.some.injEq, Prod.mk.injEq] at H
          obtain ⟨rfl, rfl⟩ := H
          have p19 : 0 ≤ ((ji16) : Int) := of_decide_eq_true azq
          have q19 : (ji16) < (a0.size : Int) := of_decide_eq_true azq
          have hx19 := bt_at a0 (ji16)
          replace p19 := eq_true p19
          replace q19 := eq_true q19
          go_wp2_with (first | ((with_reducible refine gate_callee (f := 63) rfl ?_); refine goesL_ (some 45) rfl rfl Tryd.func63 (by kernel_rfl) rfl #[.string a0, .int .i64 ji16] rfl (by (try simp only [List.map_toArray, List.map_cons, List.map_nil]); first | done | (simp only [hji16]; rfl) | rfl | (simp only [List.length_drop, List.length_take]; rfl)) ?_; (with_reducible refine (latchkeyref05_rowDigits.calls kj10 a0 ji16 t188 _ A22.out).mono ?_); rintro e w' ⟨rfl, ⟨nd, rfl⟩⟩; refine ⟨_, rfl, ?_⟩))
          go_ret2
          exact ⟨by first | rfl | (simp; done) | (simp only [← hji16] <;> (first | rfl | simp)) | (simp [*]; done), g1q⟩
        ·
         rw [if_neg c18] at H
         exact absurd H (by simp)
       ·
        rw [if_neg c17] at H
        exact absurd H (by simp)
      ·
       replace c15 := Bool.eq_false_iff.mpr c15
       subst c15
       have H1 : (some (t186, true)) = some (r1, r2) := by rw [if_neg (show ¬ (false = true) by decide)] at H; exact H
       clear H
       have H := H1
       clear H1
       simp only [Option.some.injEq, Prod.mk.injEq] at H
       obtain ⟨rfl, rfl⟩ := H
       go_wp2
       go_ret2
       exact ⟨by first | rfl | (simp; done) | (simp [*]; done), g1q⟩
def latchkeyref05_quoted.l0 : Nat → ByteArray → Int → List Int → Option (Int × ByteArray)
 | 0, _, _, _ => none
 | k + 1, x0, x1, x6 => if 0 ≤ x1 then (if x1 < (x0.size : Int) then (if (bt x0 x1) = 34 then (some (wrap64 (x1 + 1), strOfNums x6)) else (if (bt x0 x1) = 92 then (if 0 ≤ (wrap64 (x1 + 1)) then (if (wrap64 (x1 + 1)) < (x0.size : Int) then (if (bt x0 (wrap64 (x1 + 1))) = 110 then (if x6.length < 140737488355328 then (latchkeyref05_quoted.l0 k x0 (wrap64 ((wrap64 (x1 + 1)) + 1)) (x6 ++ [10])) else (none)) else (if (bt x0 (wrap64 (x1 + 1))) = 120 then (if 0 ≤ (wrap64 ((wrap64 (x1 + 1)) + 1)) then (if (wrap64 ((wrap64 (x1 + 1)) + 1)) < (x0.size : Int) then ((latchkeyref05_hex.f k (bt x0 (wrap64 ((wrap64 (x1 + 1)) + 1)))).bind fun t192 => (if 0 ≤ (wrap64 ((wrap64 ((wrap64 (x1 + 1)) + 1)) + 1)) then (if (wrap64 ((wrap64 ((wrap64 (x1 + 1)) + 1)) + 1)) < (x0.size : Int) then ((latchkeyref05_hex.f k (bt x0 (wrap64 ((wrap64 ((wrap64 (x1 + 1)) + 1)) + 1)))).bind fun t193 => (if x6.length < 140737488355328 then (latchkeyref05_quoted.l0 k x0 (wrap64 ((wrap64 ((wrap64 (x1 + 1)) + 1)) + 2)) (x6 ++ [(wrap64 ((wrap64 (16 * t192)) + t193)) % 256])) else (none))) else (none)) else (none))) else (none)) else (none)) else (if x6.length < 140737488355328 then (latchkeyref05_quoted.l0 k x0 (wrap64 ((wrap64 (x1 + 1)) + 1)) (x6 ++ [bt x0 (wrap64 (x1 + 1))])) else (none)))) else (none)) else (none)) else (if x6.length < 140737488355328 then (latchkeyref05_quoted.l0 k x0 (wrap64 (x1 + 1)) (x6 ++ [bt x0 x1])) else (none)))) else (none)) else (none)
def latchkeyref05_quoted.f (k : Nat) (a0 : ByteArray) (a1 : Int) : Option (Int × ByteArray) := latchkeyref05_quoted.l0 k a0 (wrap64 (a1 + 1)) ([] : List Int)
set_option maxHeartbeats 8000000 in
set_option maxRecDepth 100000 in
theorem latchkeyref05_quoted.calls (k : Nat) (a0 : ByteArray) (a1 : Int) (r1 : Int) (r2 : ByteArray) (w : World) (h : latchkeyref05_quoted.f k a0 a1 = some (r1, r2)) :
  Calls Tryd.prog 58 #[.string a0, .int .i64 a1] w fun e w' => e = .returned (.tuple #[.int .i64 r1, .string r2]) ∧ Below w.heap.size w w' := by
 have HB := Aside0.mk (Below.refl w.heap.size w)
 have H : (latchkeyref05_quoted.l0 k a0 (wrap64 (a1 + 1)) ([] : List Int)) = some (r1, r2) := h
 clear h
 have H' := Aside0.mk H
 clear H
 go_enter Tryd.func58, Tryd.ntmps58
 go_wp2
 repeat (go_quiet (fail); try go_wp2)
 go_loopg [1, 6] k (fun kq v1 v6 w' => ∃ (x1_1 : Int) (x6_1 : List Int), v1 = .int .i64 x1_1 ∧ Aside0 (latchkeyref05_quoted.l0 kq a0 x1_1 x6_1 = some (r1, r2)) ∧ Aside0 (kq ≤ k) ∧ Aside0 (Kd.R (Kd.int .u8) 5 w' w.heap.size (fun _ => True) v6 x6_1) ∧ Aside0 (Below w.heap.size w w'))
 case atStart => exact ⟨(wrap64 (a1 + 1)), (([] : List Int)), (by first | rfl | (simp; done) | (simp [*]; done)), H', ⟨Nat.le_refl _⟩, ⟨by first | exact Kd.R_nil _ _ _ _ _ | exact Kd.N_nil _ _ _ _ _ | exact Kd.V_nil _ _ _ _ _ | exact Kd.Q_nil _ _ _ _ _ | exact Kd.S_nil _ _ _ _ _⟩, ⟨bq⟩⟩
 case round =>
  clear H'
  (try clear p2)
  obtain ⟨x1_1, x6_1, rfl, HA, HK1, HO_6, HB⟩ := hrel
  cases gk with
  | zero => exact absurd HA.out (by simp [latchkeyref05_quoted.l0])
  | succ k1 =>
   have H := HA.out
   clear HA
   simp only [latchkeyref05_quoted.l0] at H
   by_cases c3 : 0 ≤ x1_1
   ·
    rw [if_pos c3] at H
    have c3b0 : decide (0 ≤ x1_1) = true := decide_eq_true c3
    clear c3
    by_cases c4 : x1_1 < (a0.size : Int)
    ·
     rw [if_pos c4] at H
     have c4b0 : decide (x1_1 < (a0.size : Int)) = true := decide_eq_true c4
     clear c4
     by_cases c6 : (bt a0 x1_1) = 34
     ·
      rw [if_pos c6] at H
      have c6b0 : ((bt a0 x1_1) == 34) = true := beq_iff_eq.mpr c6
      have c6b1 : ((bt a0 x1_1) != 34) = false := bne_eq_false_iff_eq.mpr c6
      clear c6
      simp only [Option.some.injEq, Prod.mk.injEq] at H
      obtain ⟨rfl, rfl⟩ := H
      have p5 : 0 ≤ (x1_1 : Int) := of_decide_eq_true azq
      have q5 : x1_1 < (a0.size : Int) := of_decide_eq_true azq
      have hx5 := bt_at a0 x1_1
      replace p5 := eq_true p5
      replace q5 := eq_true q5
      have hcv7 := own_string (P := Tryd.prog) Tryd.underlying35 Tryd.underlying5 Tryd.underlying9 (Kd.own_of_R HO_6.out)
      have hcv7d := own_string (P := Tryd.prog) Tryd.underlying35 Tryd.underlying5 Tryd.underlying9 (Kd.own_of_R (Kd.R_below HO_6.out (Below.refl _ _).drew))
      go_wp2
      go_region
      all_goals go_wp2
      all_goals go_ret2
      all_goals exact ⟨erq, bq⟩
     ·
      rw [if_neg c6] at H
      have c6b0 : ((bt a0 x1_1) == 34) = false := beq_eq_false_iff_ne.mpr c6
      have c6b1 : ((bt a0 x1_1) != 34) = true := bne_iff_ne.mpr c6
      by_cases c9 : (bt a0 x1_1) = 92
      ·
       rw [if_pos c9] at H
       have c9b0 : ((bt a0 x1_1) == 92) = true := beq_iff_eq.mpr c9
       have c9b1 : ((bt a0 x1_1) != 92) = false := bne_eq_false_iff_eq.mpr c9
       clear c9
       obtain ⟨ji10, hji10⟩ : ∃ j_ : Int, (wrap64 (x1_1 + 1)) = j_ := ⟨_, rfl⟩
       replace H : (if 0 ≤ (ji10) then (if (ji10) < (a0.size : Int) then (if (bt a0 (ji10)) = 110 then (if x6_1.length < 140737488355328 then (latchkeyref05_quoted.l0 k1 a0 (wrap64 ((ji10) + 1)) (x6_1 ++ [10])) else (none)) else (if (bt a0 (ji10)) = 120 then (if 0 ≤ (wrap64 ((ji10) + 1)) then (if (wrap64 ((ji10) + 1)) < (a0.size : Int) then ((latchkeyref05_hex.f k1 (bt a0 (wrap64 ((ji10) + 1)))).bind fun t192 => (if 0 ≤ (wrap64 ((wrap64 ((ji10) + 1)) + 1)) then (if (wrap64 ((wrap64 ((ji10) + 1)) + 1)) < (a0.size : Int) then ((latchkeyref05_hex.f k1 (bt a0 (wrap64 ((wrap64 ((ji10) + 1)) + 1)))).bind fun t193 => (if x6_1.length < 140737488355328 then (latchkeyref05_quoted.l0 k1 a0 (wrap64 ((wrap64 ((ji10) + 1)) + 2)) (x6_1 ++ [(wrap64 ((wrap64 (16 * t192)) + t193)) % 256])) else (none))) else (none)) else (none))) else (none)) else (none)) else (if x6_1.length < 140737488355328 then (latchkeyref05_quoted.l0 k1 a0 (wrap64 ((ji10) + 1)) (x6_1 ++ [bt a0 (ji10)])) else (none)))) else (none)) else (none)) = some (r1, r2) := by first | (rw [hji10] at H; exact H) | (simp only [hji10] at H ⊢; exact H)
       have hji10w : (IntKind.i64.wrap (x1_1 + 1)) = ji10 := (i64_w _).trans hji10
       by_cases c11 : 0 ≤ (ji10)
       ·
        rw [if_pos c11] at H
        have c11b0 : decide (0 ≤ (ji10)) = true := decide_eq_true c11
        clear c11
        by_cases c12 : (ji10) < (a0.size : Int)
        ·
         rw [if_pos c12] at H
         have c12b0 : decide ((ji10) < (a0.size : Int)) = true := decide_eq_true c12
         clear c12
         by_cases c14 : (bt a0 (ji10)) = 110
         ·
          rw [if_pos c14] at H
          have c14b0 : ((bt a0 (ji10)) == 110) = true := beq_iff_eq.mpr c14
          have c14b1 : ((bt a0 (ji10)) != 110) = false := bne_eq_false_iff_eq.mpr c14
          clear c14
          by_cases c15 : x6_1.length < 140737488355328
          ·
           rw [if_pos c15] at H
           have LMc15 := Aside0.mk c15
           clear c15
           obtain ⟨y189, hy189⟩ : ∃ y_ : List Int, y_ = (x6_1 ++ [10]) := ⟨_, rfl⟩
           replace H : (latchkeyref05_quoted.l0 k1 a0 (wrap64 ((ji10) + 1)) y189) = some (r1, r2) := by first | (rw [hy189]; with_reducible exact H) | (have H2_ := (Option.bind_some _ _).symm.trans H; rw [hy189]; with_reducible exact H2_) | (have H2_ := (Option.bind_some _ _).symm.trans H; with_reducible exact H2_) | with_reducible exact H | (rw [hy189]; exact H) | exact H
           have Ny189 := Aside0.mk hy189
           clear hy189
           have H' := Aside0.mk H
           clear H
           have p5 : 0 ≤ (x1_1 : Int) := of_decide_eq_true azq
           have q5 : x1_1 < (a0.size : Int) := of_decide_eq_true azq
           have hx5 := bt_at a0 x1_1
           replace p5 := eq_true p5
           replace q5 := eq_true q5
           have p8 : 0 ≤ (x1_1 : Int) := of_decide_eq_true azq
           have q8 : x1_1 < (a0.size : Int) := of_decide_eq_true azq
           have hx8 := bt_at a0 x1_1
           replace p8 := eq_true p8
           replace q8 := eq_true q8
           have p13 : 0 ≤ ((ji10) : Int) := of_decide_eq_true azq
           have q13 : (ji10) < (a0.size : Int) := of_decide_eq_true azq
           have hx13 := bt_at a0 (ji10)
           replace p13 := eq_true p13
           replace q13 := eq_true q13
           go_wp2_with (first | ((with_reducible refine gate_builtin (b := .append) (xs := #[.tmp 45, .tmp 47]) rfl ?_); at_builtin; refine Kd.R_append (Kd.int .u8) (w0 := w) w.heap.size rfl (.tmp 45) (.tmp 47) 35 5 (.int .u8 0) 1 rfl Tryd.underlying35 info5 rfl (by decide) (by omega) u6 x6_1 10 [.int .u8 10] (fun _ => True) (fun _ => False) rfl rfl ?aP (fun _ hk => hk.elim) ?aF ?aO ?aB ?aS ?aL ?_; (case aP => exact rfl); (case aB => exact bq); (case aF => exact (fun _ _ => trivial)); (case aO => exact (rxq HO_6.out)); (case aS => exact (below_size bq)); (case aL => have := LMc15.out; omega); intro v190 w16 ho hb hg hat; rw [← Ny189.out] at ho; have n0_ := Aside0.mk (hb); have n1_ := Aside0.mk (ho); clear HB; clear HO_6; have HB := n0_; have HO191 := n1_; clear n0_ n1_; clear ho hb hg hat))
           repeat (go_quiet (first | ((with_reducible refine gate_builtin (b := .append) (xs := #[.tmp 45, .tmp 47]) rfl ?_); at_builtin; refine Kd.R_append (Kd.int .u8) (w0 := w) w.heap.size rfl (.tmp 45) (.tmp 47) 35 5 (.int .u8 0) 1 rfl Tryd.underlying35 info5 rfl (by decide) (by omega) u6 x6_1 10 [.int .u8 10] (fun _ => True) (fun _ => False) rfl rfl ?aP (fun _ hk => hk.elim) ?aF ?aO ?aB ?aS ?aL ?_; (case aP => exact rfl); (case aB => exact bq); (case aF => exact (fun _ _ => trivial)); (case aO => exact (rxq HO_6.out)); (case aS => exact (below_size bq)); (case aL => have := LMc15.out; omega); intro v190 w16 ho hb hg hat; rw [← Ny189.out] at ho; have n0_ := Aside0.mk (hb); have n1_ := Aside0.mk (ho); clear HB; clear HO_6; have HB := n0_; have HO191 := n1_; clear n0_ n1_; clear ho hb hg hat)); try go_wp2_with (first | ((with_reducible refine gate_builtin (b := .append) (xs := #[.tmp 45, .tmp 47]) rfl ?_); at_builtin; refine Kd.R_append (Kd.int .u8) (w0 := w) w.heap.size rfl (.tmp 45) (.tmp 47) 35 5 (.int .u8 0) 1 rfl Tryd.underlying35 info5 rfl (by decide) (by omega) u6 x6_1 10 [.int .u8 10] (fun _ => True) (fun _ => False) rfl rfl ?aP (fun _ hk => hk.elim) ?aF ?aO ?aB ?aS ?aL ?_; (case aP => exact rfl); (case aB => exact bq); (case aF => exact (fun _ _ => trivial)); (case aO => exact (rxq HO_6.out)); (case aS => exact (below_size bq)); (case aL => have := LMc15.out; omega); intro v190 w16 ho hb hg hat; rw [← Ny189.out] at ho; have n0_ := Aside0.mk (hb); have n1_ := Aside0.mk (ho); clear HB; clear HO_6; have HB := n0_; have HO191 := n1_; clear n0_ n1_; clear ho hb hg hat)))
           go_roundg k1
           case measure => have := HK1.out; omega
           case rel => exact ⟨(wrap64 ((ji10) + 1)), (y189), (by first | rfl | (simp; done) | (simp only [← hji10] <;> (first | rfl | simp)) | (simp [*]; done)), H', ⟨by have := HK1.out; omega⟩, ⟨rxq HO191.out⟩, ⟨bq⟩⟩
          ·
           rw [if_neg c15] at H
           exact absurd H (by simp)
         ·
          rw [if_neg c14] at H
          have c14b0 : ((bt a0 (ji10)) == 110) = false := beq_eq_false_iff_ne.mpr c14
          have c14b1 : ((bt a0 (ji10)) != 110) = true := bne_iff_ne.mpr c14
          by_cases c17 : (bt a0 (ji10)) = 120
          ·
           rw [if_pos c17] at H
           have c17b0 : ((bt a0 (ji10)) == 120) = true := beq_iff_eq.mpr c17
           have c17b1 : ((bt a0 (ji10)) != 120) = false := bne_eq_false_iff_eq.mpr c17
           clear c17
           obtain ⟨ji18, hji18⟩ : ∃ j_ : Int, (wrap64 ((ji10) + 1)) = j_ := ⟨_, rfl⟩
           replace H : (if 0 ≤ (ji18) then (if (ji18) < (a0.size : Int) then ((latchkeyref05_hex.f k1 (bt a0 (ji18))).bind fun t192 => (if 0 ≤ (wrap64 ((ji18) + 1)) then (if (wrap64 ((ji18) + 1)) < (a0.size : Int) then ((latchkeyref05_hex.f k1 (bt a0 (wrap64 ((ji18) + 1)))).bind fun t193 => (if x6_1.length < 140737488355328 then (latchkeyref05_quoted.l0 k1 a0 (wrap64 ((ji18) + 2)) (x6_1 ++ [(wrap64 ((wrap64 (16 * t192)) + t193)) % 256])) else (none))) else (none)) else (none))) else (none)) else (none)) = some (r1, r2) := by first | (rw [hji18] at H; exact H) | (simp only [hji18] at H ⊢; exact H)
           have hji18w : (IntKind.i64.wrap ((ji10) + 1)) = ji18 := (i64_w _).trans hji18
           by_cases c19 : 0 ≤ (ji18)
           ·
            rw [if_pos c19] at H
            have c19b0 : decide (0 ≤ (ji18)) = true := decide_eq_true c19
            clear c19
            by_cases c20 : (ji18) < (a0.size : Int)
            ·
             rw [if_pos c20] at H
             have c20b0 : decide ((ji18) < (a0.size : Int)) = true := decide_eq_true c20
             clear c20
             replace H := Option.bind_eq_some_iff.mp H
             obtain ⟨t192, A220, H⟩ := H
             replace H : (if 0 ≤ (wrap64 ((ji18) + 1)) then (if (wrap64 ((ji18) + 1)) < (a0.size : Int) then ((latchkeyref05_hex.f k1 (bt a0 (wrap64 ((ji18) + 1)))).bind fun t193 => (if x6_1.length < 140737488355328 then (latchkeyref05_quoted.l0 k1 a0 (wrap64 ((ji18) + 2)) (x6_1 ++ [(wrap64 ((wrap64 (16 * t192)) + t193)) % 256])) else (none))) else (none)) else (none)) = some (r1, r2) := H
             have A22 := Aside0.mk A220
             clear A220
             obtain ⟨ji23, hji23⟩ : ∃ j_ : Int, (wrap64 ((ji18) + 1)) = j_ := ⟨_, rfl⟩
             replace H : (if 0 ≤ (ji23) then (if (ji23) < (a0.size : Int) then ((latchkeyref05_hex.f k1 (bt a0 (ji23))).bind fun t193 => (if x6_1.length < 140737488355328 then (latchkeyref05_quoted.l0 k1 a0 (wrap64 ((ji18) + 2)) (x6_1 ++ [(wrap64 ((wrap64 (16 * t192)) + t193)) % 256])) else (none))) else (none)) else (none)) = some (r1, r2) := by first | (rw [hji23] at H; exact H) | (simp only [hji23] at H ⊢; exact H)
             (try rw [hji23] at A22)
             have hji23w : (IntKind.i64.wrap ((ji18) + 1)) = ji23 := (i64_w _).trans hji23
             by_cases c24 : 0 ≤ (ji23)
             ·
              rw [if_pos c24] at H
              have c24b0 : decide (0 ≤ (ji23)) = true := decide_eq_true c24
              clear c24
              by_cases c25 : (ji23) < (a0.size : Int)
              ·
               rw [if_pos c25] at H
               have c25b0 : decide ((ji23) < (a0.size : Int)) = true := decide_eq_true c25
               clear c25
               replace H := Option.bind_eq_some_iff.mp H
               obtain ⟨t193, A270, H⟩ := H
               replace H : (if x6_1.length < 140737488355328 then (latchkeyref05_quoted.l0 k1 a0 (wrap64 ((ji18) + 2)) (x6_1 ++ [(wrap64 ((wrap64 (16 * t192)) + t193)) % 256])) else (none)) = some (r1, r2) := H
               have A27 := Aside0.mk A270
               clear A270
               by_cases c28 : x6_1.length < 140737488355328
               ·
                rw [if_pos c28] at H
                have LMc28 := Aside0.mk c28
                clear c28
                obtain ⟨y194, hy194⟩ : ∃ y_ : List Int, y_ = (x6_1 ++ [(wrap64 ((wrap64 (16 * t192)) + t193)) % 256]) := ⟨_, rfl⟩
                replace H : (latchkeyref05_quoted.l0 k1 a0 (wrap64 ((ji18) + 2)) y194) = some (r1, r2) := by first | (rw [hy194]; with_reducible exact H) | (have H2_ := (Option.bind_some _ _).symm.trans H; rw [hy194]; with_reducible exact H2_) | (have H2_ := (Option.bind_some _ _).symm.trans H; with_reducible exact H2_) | with_reducible exact H | (rw [hy194]; exact H) | exact H
                have Ny194 := Aside0.mk hy194
                clear hy194
                have H' := Aside0.mk H
                clear H
                have p5 : 0 ≤ (x1_1 : Int) := of_decide_eq_true azq
                have q5 : x1_1 < (a0.size : Int) := of_decide_eq_true azq
                have hx5 := bt_at a0 x1_1
                replace p5 := eq_true p5
                replace q5 := eq_true q5
                have p8 : 0 ≤ (x1_1 : Int) := of_decide_eq_true azq
                have q8 : x1_1 < (a0.size : Int) := of_decide_eq_true azq
                have hx8 := bt_at a0 x1_1
                replace p8 := eq_true p8
                replace q8 := eq_true q8
                have p13 : 0 ≤ ((ji10) : Int) := of_decide_eq_true azq
                have q13 : (ji10) < (a0.size : Int) := of_decide_eq_true azq
                have hx13 := bt_at a0 (ji10)
                replace p13 := eq_true p13
                replace q13 := eq_true q13
                have p21 : 0 ≤ ((ji18) : Int) := of_decide_eq_true azq
                have q21 : (ji18) < (a0.size : Int) := of_decide_eq_true azq
                have hx21 := bt_at a0 (ji18)
                replace p21 := eq_true p21
                replace q21 := eq_true q21
                go_wp2_with (first | (go_at_call 74; (with_reducible refine (latchkeyref05_hex.calls k1 (bt a0 (ji18)) t192 _ A22.out).mono ?_); rintro e w' ⟨rfl, ⟨nd, rfl⟩⟩; (try first | exact ⟨rfl, _, World.drewN_drewN _ _ _⟩ | exact ⟨rfl, _, Eq.trans (World.drewN_drewN _ _ _) (congrArg (World.drewN _) (Nat.add_assoc _ _ _))⟩); have p26 : 0 ≤ ((ji23) : Int) := of_decide_eq_true azq; have q26 : (ji23) < (a0.size : Int) := of_decide_eq_true azq; have hx26 := bt_at a0 (ji23); replace p26 := eq_true p26; replace q26 := eq_true q26) | (go_at_call 74; (with_reducible refine (latchkeyref05_hex.calls k1 (bt a0 (ji23)) t193 _ A27.out).mono ?_); rintro e w' ⟨rfl, ⟨nd, rfl⟩⟩; (try first | exact ⟨rfl, _, World.drewN_drewN _ _ _⟩ | exact ⟨rfl, _, Eq.trans (World.drewN_drewN _ _ _) (congrArg (World.drewN _) (Nat.add_assoc _ _ _))⟩)) | ((with_reducible refine gate_builtin (b := .append) (xs := #[.tmp 45, .tmp 47]) rfl ?_); at_builtin; refine Kd.R_append (Kd.int .u8) (w0 := w) w.heap.size rfl (.tmp 45) (.tmp 47) 35 5 (.int .u8 0) 1 rfl Tryd.underlying35 info5 rfl (by decide) (by omega) u6 x6_1 ((wrap64 ((wrap64 (16 * t192)) + t193)) % 256) [.int .u8 ((wrap64 ((wrap64 (16 * t192)) + t193)) % 256)] (fun _ => True) (fun _ => False) rfl rfl ?aP (fun _ hk => hk.elim) ?aF ?aO ?aB ?aS ?aL ?_; (case aP => exact rfl); (case aB => exact bq); (case aF => exact (fun _ _ => trivial)); (case aO => exact (rxq HO_6.out)); (case aS => exact (below_size bq)); (case aL => have := LMc28.out; omega); intro v195 w29 ho hb hg hat; rw [← Ny194.out] at ho; have n0_ := Aside0.mk (hb); have n1_ := Aside0.mk (ho); clear HB; clear HO_6; have HB := n0_; have HO196 := n1_; clear n0_ n1_; clear ho hb hg hat))
                repeat (go_quiet (first | (go_at_call 74; (with_reducible refine (latchkeyref05_hex.calls k1 (bt a0 (ji18)) t192 _ A22.out).mono ?_); rintro e w' ⟨rfl, ⟨nd, rfl⟩⟩; (try first | exact ⟨rfl, _, World.drewN_drewN _ _ _⟩ | exact ⟨rfl, _, Eq.trans (World.drewN_drewN _ _ _) (congrArg (World.drewN _) (Nat.add_assoc _ _ _))⟩); have p26 : 0 ≤ ((ji23) : Int) := of_decide_eq_true azq; have q26 : (ji23) < (a0.size : Int) := of_decide_eq_true azq; have hx26 := bt_at a0 (ji23); replace p26 := eq_true p26; replace q26 := eq_true q26) | (go_at_call 74; (with_reducible refine (latchkeyref05_hex.calls k1 (bt a0 (ji23)) t193 _ A27.out).mono ?_); rintro e w' ⟨rfl, ⟨nd, rfl⟩⟩; (try first | exact ⟨rfl, _, World.drewN_drewN _ _ _⟩ | exact ⟨rfl, _, Eq.trans (World.drewN_drewN _ _ _) (congrArg (World.drewN _) (Nat.add_assoc _ _ _))⟩)) | ((with_reducible refine gate_builtin (b := .append) (xs := #[.tmp 45, .tmp 47]) rfl ?_); at_builtin; refine Kd.R_append (Kd.int .u8) (w0 := w) w.heap.size rfl (.tmp 45) (.tmp 47) 35 5 (.int .u8 0) 1 rfl Tryd.underlying35 info5 rfl (by decide) (by omega) u6 x6_1 ((wrap64 ((wrap64 (16 * t192)) + t193)) % 256) [.int .u8 ((wrap64 ((wrap64 (16 * t192)) + t193)) % 256)] (fun _ => True) (fun _ => False) rfl rfl ?aP (fun _ hk => hk.elim) ?aF ?aO ?aB ?aS ?aL ?_; (case aP => exact rfl); (case aB => exact bq); (case aF => exact (fun _ _ => trivial)); (case aO => exact (rxq HO_6.out)); (case aS => exact (below_size bq)); (case aL => have := LMc28.out; omega); intro v195 w29 ho hb hg hat; rw [← Ny194.out] at ho; have n0_ := Aside0.mk (hb); have n1_ := Aside0.mk (ho); clear HB; clear HO_6; have HB := n0_; have HO196 := n1_; clear n0_ n1_; clear ho hb hg hat)); try go_wp2_with (first | (go_at_call 74; (with_reducible refine (latchkeyref05_hex.calls k1 (bt a0 (ji18)) t192 _ A22.out).mono ?_); rintro e w' ⟨rfl, ⟨nd, rfl⟩⟩; (try first | exact ⟨rfl, _, World.drewN_drewN _ _ _⟩ | exact ⟨rfl, _, Eq.trans (World.drewN_drewN _ _ _) (congrArg (World.drewN _) (Nat.add_assoc _ _ _))⟩); have p26 : 0 ≤ ((ji23) : Int) := of_decide_eq_true azq; have q26 : (ji23) < (a0.size : Int) := of_decide_eq_true azq; have hx26 := bt_at a0 (ji23); replace p26 := eq_true p26; replace q26 := eq_true q26) | (go_at_call 74; (with_reducible refine (latchkeyref05_hex.calls k1 (bt a0 (ji23)) t193 _ A27.out).mono ?_); rintro e w' ⟨rfl, ⟨nd, rfl⟩⟩; (try first | exact ⟨rfl, _, World.drewN_drewN _ _ _⟩ | exact ⟨rfl, _, Eq.trans (World.drewN_drewN _ _ _) (congrArg (World.drewN _) (Nat.add_assoc _ _ _))⟩)) | ((with_reducible refine gate_builtin (b := .append) (xs := #[.tmp 45, .tmp 47]) rfl ?_); at_builtin; refine Kd.R_append (Kd.int .u8) (w0 := w) w.heap.size rfl (.tmp 45) (.tmp 47) 35 5 (.int .u8 0) 1 rfl Tryd.underlying35 info5 rfl (by decide) (by omega) u6 x6_1 ((wrap64 ((wrap64 (16 * t192)) + t193)) % 256) [.int .u8 ((wrap64 ((wrap64 (16 * t192)) + t193)) % 256)] (fun _ => True) (fun _ => False) rfl rfl ?aP (fun _ hk => hk.elim) ?aF ?aO ?aB ?aS ?aL ?_; (case aP => exact rfl); (case aB => exact bq); (case aF => exact (fun _ _ => trivial)); (case aO => exact (rxq HO_6.out)); (case aS => exact (below_size bq)); (case aL => have := LMc28.out; omega); intro v195 w29 ho hb hg hat; rw [← Ny194.out] at ho; have n0_ := Aside0.mk (hb); have n1_ := Aside0.mk (ho); clear HB; clear HO_6; have HB := n0_; have HO196 := n1_; clear n0_ n1_; clear ho hb hg hat)))
                go_roundg k1
                case measure => have := HK1.out; omega
                case rel => exact ⟨(wrap64 ((ji18) + 2)), (y194), (by first | rfl | (simp; done) | (simp only [← hji18] <;> (first | rfl | simp)) | (simp [*]; done)), H', ⟨by have := HK1.out; omega⟩, ⟨rxq HO196.out⟩, ⟨bq⟩⟩
               ·
                rw [if_neg c28] at H
                exact absurd H (by simp)
              ·
               rw [if_neg c25] at H
               exact absurd H (by simp)
             ·
              rw [if_neg c24] at H
              exact absurd H (by simp)
            ·
             rw [if_neg c20] at H
             exact absurd H (by simp)
           ·
            rw [if_neg c19] at H
            exact absurd H (by simp)
          ·
           rw [if_neg c17] at H
           have c17b0 : ((bt a0 (ji10)) == 120) = false := beq_eq_false_iff_ne.mpr c17
           have c17b1 : ((bt a0 (ji10)) != 120) = true := bne_iff_ne.mpr c17
           by_cases c30 : x6_1.length < 140737488355328
           ·
            rw [if_pos c30] at H
            have LMc30 := Aside0.mk c30
            clear c30
            obtain ⟨y197, hy197⟩ : ∃ y_ : List Int, y_ = (x6_1 ++ [bt a0 (ji10)]) := ⟨_, rfl⟩
            replace H : (latchkeyref05_quoted.l0 k1 a0 (wrap64 ((ji10) + 1)) y197) = some (r1, r2) := by first | (rw [hy197]; with_reducible exact H) | (have H2_ := (Option.bind_some _ _).symm.trans H; rw [hy197]; with_reducible exact H2_) | (have H2_ := (Option.bind_some _ _).symm.trans H; with_reducible exact H2_) | with_reducible exact H | (rw [hy197]; exact H) | exact H
            have Ny197 := Aside0.mk hy197
            clear hy197
            have H' := Aside0.mk H
            clear H
            have p5 : 0 ≤ (x1_1 : Int) := of_decide_eq_true azq
            have q5 : x1_1 < (a0.size : Int) := of_decide_eq_true azq
            have hx5 := bt_at a0 x1_1
            replace p5 := eq_true p5
            replace q5 := eq_true q5
            have p8 : 0 ≤ (x1_1 : Int) := of_decide_eq_true azq
            have q8 : x1_1 < (a0.size : Int) := of_decide_eq_true azq
            have hx8 := bt_at a0 x1_1
            replace p8 := eq_true p8
            replace q8 := eq_true q8
            have p13 : 0 ≤ ((ji10) : Int) := of_decide_eq_true azq
            have q13 : (ji10) < (a0.size : Int) := of_decide_eq_true azq
            have hx13 := bt_at a0 (ji10)
            replace p13 := eq_true p13
            replace q13 := eq_true q13
            go_wp2_with (first | ((with_reducible refine gate_builtin (b := .append) (xs := #[.tmp 45, .tmp 47]) rfl ?_); at_builtin; refine Kd.R_append (Kd.int .u8) (w0 := w) w.heap.size rfl (.tmp 45) (.tmp 47) 35 5 (.int .u8 0) 1 rfl Tryd.underlying35 info5 rfl (by decide) (by omega) u6 x6_1 (bt a0 (ji10)) [.int .u8 (bt a0 (ji10))] (fun _ => True) (fun _ => False) rfl rfl ?aP (fun _ hk => hk.elim) ?aF ?aO ?aB ?aS ?aL ?_; (case aP => exact rfl); (case aB => exact bq); (case aF => exact (fun _ _ => trivial)); (case aO => exact (rxq HO_6.out)); (case aS => exact (below_size bq)); (case aL => have := LMc30.out; omega); intro v198 w31 ho hb hg hat; rw [← Ny197.out] at ho; have n0_ := Aside0.mk (hb); have n1_ := Aside0.mk (ho); clear HB; clear HO_6; have HB := n0_; have HO199 := n1_; clear n0_ n1_; clear ho hb hg hat))
            repeat (go_quiet (first | ((with_reducible refine gate_builtin (b := .append) (xs := #[.tmp 45, .tmp 47]) rfl ?_); at_builtin; refine Kd.R_append (Kd.int .u8) (w0 := w) w.heap.size rfl (.tmp 45) (.tmp 47) 35 5 (.int .u8 0) 1 rfl Tryd.underlying35 info5 rfl (by decide) (by omega) u6 x6_1 (bt a0 (ji10)) [.int .u8 (bt a0 (ji10))] (fun _ => True) (fun _ => False) rfl rfl ?aP (fun _ hk => hk.elim) ?aF ?aO ?aB ?aS ?aL ?_; (case aP => exact rfl); (case aB => exact bq); (case aF => exact (fun _ _ => trivial)); (case aO => exact (rxq HO_6.out)); (case aS => exact (below_size bq)); (case aL => have := LMc30.out; omega); intro v198 w31 ho hb hg hat; rw [← Ny197.out] at ho; have n0_ := Aside0.mk (hb); have n1_ := Aside0.mk (ho); clear HB; clear HO_6; have HB := n0_; have HO199 := n1_; clear n0_ n1_; clear ho hb hg hat)); try go_wp2_with (first | ((with_reducible refine gate_builtin (b := .append) (xs := #[.tmp 45, .tmp 47]) rfl ?_); at_builtin; refine Kd.R_append (Kd.int .u8) (w0 := w) w.heap.size rfl (.tmp 45) (.tmp 47) 35 5 (.int .u8 0) 1 rfl Tryd.underlying35 info5 rfl (by decide) (by omega) u6 x6_1 (bt a0 (ji10)) [.int .u8 (bt a0 (ji10))] (fun _ => True) (fun _ => False) rfl rfl ?aP (fun _ hk => hk.elim) ?aF ?aO ?aB ?aS ?aL ?_; (case aP => exact rfl); (case aB => exact bq); (case aF => exact (fun _ _ => trivial)); (case aO => exact (rxq HO_6.out)); (case aS => exact (below_size bq)); (case aL => have := LMc30.out; omega); intro v198 w31 ho hb hg hat; rw [← Ny197.out] at ho; have n0_ := Aside0.mk (hb); have n1_ := Aside0.mk (ho); clear HB; clear HO_6; have HB := n0_; have HO199 := n1_; clear n0_ n1_; clear ho hb hg hat)))
            go_roundg k1
            case measure => have := HK1.out; omega
            case rel => exact ⟨(wrap64 ((ji10) + 1)), (y197), (by first | rfl | (simp; done) | (simp only [← hji10] <;> (first | rfl | simp)) | (simp [*]; done)), H', ⟨by have := HK1.out; omega⟩, ⟨rxq HO199.out⟩, ⟨bq⟩⟩
           ·
            rw [if_neg c30] at H
            exact absurd H (by simp)
        ·
         rw [if_neg c12] at H
         exact absurd H (by simp)
       ·
        rw [if_neg c11] at H
        exact absurd H (by simp)
      ·
       rw [if_neg c9] at H
       have c9b0 : ((bt a0 x1_1) == 92) = false := beq_eq_false_iff_ne.mpr c9
       have c9b1 : ((bt a0 x1_1) != 92) = true := bne_iff_ne.mpr c9
       by_cases c32 : x6_1.length < 140737488355328
       ·
        rw [if_pos c32] at H
        have LMc32 := Aside0.mk c32
        clear c32
        obtain ⟨y200, hy200⟩ : ∃ y_ : List Int, y_ = (x6_1 ++ [bt a0 x1_1]) := ⟨_, rfl⟩
        replace H : (latchkeyref05_quoted.l0 k1 a0 (wrap64 (x1_1 + 1)) y200) = some (r1, r2) := by first | (rw [hy200]; with_reducible exact H) | (have H2_ := (Option.bind_some _ _).symm.trans H; rw [hy200]; with_reducible exact H2_) | (have H2_ := (Option.bind_some _ _).symm.trans H; with_reducible exact H2_) | with_reducible exact H | (rw [hy200]; exact H) | exact H
        have Ny200 := Aside0.mk hy200
        clear hy200
        have H' := Aside0.mk H
        clear H
        have p5 : 0 ≤ (x1_1 : Int) := of_decide_eq_true azq
        have q5 : x1_1 < (a0.size : Int) := of_decide_eq_true azq
        have hx5 := bt_at a0 x1_1
        replace p5 := eq_true p5
        replace q5 := eq_true q5
        have p8 : 0 ≤ (x1_1 : Int) := of_decide_eq_true azq
        have q8 : x1_1 < (a0.size : Int) := of_decide_eq_true azq
        have hx8 := bt_at a0 x1_1
        replace p8 := eq_true p8
        replace q8 := eq_true q8
        go_wp2_with (first | ((with_reducible refine gate_builtin (b := .append) (xs := #[.tmp 45, .tmp 47]) rfl ?_); at_builtin; refine Kd.R_append (Kd.int .u8) (w0 := w) w.heap.size rfl (.tmp 45) (.tmp 47) 35 5 (.int .u8 0) 1 rfl Tryd.underlying35 info5 rfl (by decide) (by omega) u6 x6_1 (bt a0 x1_1) [.int .u8 (bt a0 x1_1)] (fun _ => True) (fun _ => False) rfl rfl ?aP (fun _ hk => hk.elim) ?aF ?aO ?aB ?aS ?aL ?_; (case aP => exact rfl); (case aB => exact bq); (case aF => exact (fun _ _ => trivial)); (case aO => exact (rxq HO_6.out)); (case aS => exact (below_size bq)); (case aL => have := LMc32.out; omega); intro v201 w33 ho hb hg hat; rw [← Ny200.out] at ho; have n0_ := Aside0.mk (hb); have n1_ := Aside0.mk (ho); clear HB; clear HO_6; have HB := n0_; have HO202 := n1_; clear n0_ n1_; clear ho hb hg hat))
        repeat (go_quiet (first | ((with_reducible refine gate_builtin (b := .append) (xs := #[.tmp 45, .tmp 47]) rfl ?_); at_builtin; refine Kd.R_append (Kd.int .u8) (w0 := w) w.heap.size rfl (.tmp 45) (.tmp 47) 35 5 (.int .u8 0) 1 rfl Tryd.underlying35 info5 rfl (by decide) (by omega) u6 x6_1 (bt a0 x1_1) [.int .u8 (bt a0 x1_1)] (fun _ => True) (fun _ => False) rfl rfl ?aP (fun _ hk => hk.elim) ?aF ?aO ?aB ?aS ?aL ?_; (case aP => exact rfl); (case aB => exact bq); (case aF => exact (fun _ _ => trivial)); (case aO => exact (rxq HO_6.out)); (case aS => exact (below_size bq)); (case aL => have := LMc32.out; omega); intro v201 w33 ho hb hg hat; rw [← Ny200.out] at ho; have n0_ := Aside0.mk (hb); have n1_ := Aside0.mk (ho); clear HB; clear HO_6; have HB := n0_; have HO202 := n1_; clear n0_ n1_; clear ho hb hg hat)); try go_wp2_with (first | ((with_reducible refine gate_builtin (b := .append) (xs := #[.tmp 45, .tmp 47]) rfl ?_); at_builtin; refine Kd.R_append (Kd.int .u8) (w0 := w) w.heap.size rfl (.tmp 45) (.tmp 47) 35 5 (.int .u8 0) 1 rfl Tryd.underlying35 info5 rfl (by decide) (by omega) u6 x6_1 (bt a0 x1_1) [.int .u8 (bt a0 x1_1)] (fun _ => True) (fun _ => False) rfl rfl ?aP (fun _ hk => hk.elim) ?aF ?aO ?aB ?aS ?aL ?_; (case aP => exact rfl); (case aB => exact bq); (case aF => exact (fun _ _ => trivial)); (case aO => exact (rxq HO_6.out)); (case aS => exact (below_size bq)); (case aL => have := LMc32.out; omega); intro v201 w33 ho hb hg hat; rw [← Ny200.out] at ho; have n0_ := Aside0.mk (hb); have n1_ := Aside0.mk (ho); clear HB; clear HO_6; have HB := n0_; have HO202 := n1_; clear n0_ n1_; clear ho hb hg hat)))
        go_roundg k1
        case measure => have := HK1.out; omega
        case rel => exact ⟨(wrap64 (x1_1 + 1)), (y200), (by first | rfl | (simp; done) | (simp [*]; done)), H', ⟨by have := HK1.out; omega⟩, ⟨rxq HO202.out⟩, ⟨bq⟩⟩
       ·
        rw [if_neg c32] at H
        exact absurd H (by simp)
    ·
     rw [if_neg c4] at H
     exact absurd H (by simp)
   ·
    rw [if_neg c3] at H
    exact absurd H (by simp)
end Go.Proofs.YteedjhoffjkhmaaDoor.PT
