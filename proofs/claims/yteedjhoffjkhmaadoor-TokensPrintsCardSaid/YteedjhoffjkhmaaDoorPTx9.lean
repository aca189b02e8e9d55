import Derived.Test.YteedjhoffjkhmaaDoorPTx0
import Derived.Test.YteedjhoffjkhmaaDoorPTx6
import Derived.Test.YteedjhoffjkhmaaDoorPTx7
namespace Go.Proofs.YteedjhoffjkhmaaDoor.PT
open Go.RowKit Go.Proofs.YteedjhoffjkhmaaDoorW.PrintWords Go.Proofs.YteedjhoffjkhmaaDoorW.PrintLast Go.Proofs.YteedjhoffjkhmaaDoorW.PrintMore
attribute [local go_sem] max2_int min2_int max_two min_two max_three min_three max_four min_four
set_option linter.unusedVariables false
set_option linter.unusedSimpArgs false
mutual
def latchkeyref05_machine_digits.j0 : Nat → Int → Int → Bool → Int → Int → Option (Bool × Int × Int)
 | 0, _, _, _, _, _ => none
 | k + 1, x1, x5, x30, x1000, x1001 => if x30 = true then (some (true, 6, x1001)) else ((latchkeyref05_digit.f x1).bind fun t139 => (if t139 = true then (if x5 = 7 then (latchkeyref05_machine_digits.j1 k x1 x5 true x1000 x1001) else (latchkeyref05_machine_digits.j1 k x1 x5 (x5 == 8) x1000 x1001)) else (latchkeyref05_machine_digits.j1 k x1 x5 false x1000 x1001)))
def latchkeyref05_machine_digits.j1 : Nat → Int → Int → Bool → Int → Int → Option (Bool × Int × Int)
 | 0, _, _, _, _, _ => none
 | k + 1, x1, x5, x40, x1000, x1001 => if x40 = true then (some (true, 9, x1001)) else ((latchkeyref05_digit.f x1).bind fun t140 => (if t140 = true then (some (true, x1000, x1001)) else (if x5 = 4 then (latchkeyref05_machine_digits.j2 k x1 x5 (x1 == 46) x1000 x1001) else (latchkeyref05_machine_digits.j2 k x1 x5 false x1000 x1001))))
def latchkeyref05_machine_digits.j2 : Nat → Int → Int → Bool → Int → Int → Option (Bool × Int × Int)
 | 0, _, _, _, _, _ => none
 | k + 1, x1, x5, x57, x1000, x1001 => if x57 = true then (some (true, 5, x1001)) else (if x5 = 6 then (latchkeyref05_machine_digits.j3 k x1 x5 (x1 == 101) x1000 x1001) else (latchkeyref05_machine_digits.j3 k x1 x5 false x1000 x1001))
def latchkeyref05_machine_digits.j3 : Nat → Int → Int → Bool → Int → Int → Option (Bool × Int × Int)
 | 0, _, _, _, _, _ => none
 | k + 1, x1, x5, x67, x1000, x1001 => if x67 = true then (some (true, 7, x1001)) else (if x5 = 7 then (latchkeyref05_machine_digits.j4 k x1 x5 (x1 == 45) x1000 x1001) else (latchkeyref05_machine_digits.j4 k x1 x5 false x1000 x1001))
def latchkeyref05_machine_digits.j4 : Nat → Int → Int → Bool → Int → Int → Option (Bool × Int × Int)
 | 0, _, _, _, _, _ => none
 | k + 1, x1, x5, x77, x1000, x1001 => if x77 = true then (some (true, 8, x1001)) else (if x5 = 4 then ((latchkeyref05_small.f x1).bind fun t141 => (if t141 = true then (some (false, x1000, x1001)) else ((latchkeyref05_machine_begin.f k x1000 x1001 x1).bind fun bt142 => (some (bt142.1, bt142.2.1, bt142.2.2))))) else (if x5 = 6 then ((latchkeyref05_small.f x1).bind fun t145 => (if t145 = true then (some (false, x1000, x1001)) else ((latchkeyref05_machine_begin.f k x1000 x1001 x1).bind fun bt146 => (some (bt146.1, bt146.2.1, bt146.2.2))))) else (if x5 = 9 then ((latchkeyref05_small.f x1).bind fun t149 => (if t149 = true then (some (false, x1000, x1001)) else ((latchkeyref05_machine_begin.f k x1000 x1001 x1).bind fun bt150 => (some (bt150.1, bt150.2.1, bt150.2.2))))) else (some (false, x1000, x1001)))))
end
def latchkeyref05_machine_digits.f (k : Nat) (s0_0 : Int) (s0_1 : Int) (a1 : Int) : Option (Bool × Int × Int) := (latchkeyref05_digit.f a1).bind fun t138 => (if t138 = true then (latchkeyref05_machine_digits.j0 k a1 s0_0 (s0_0 == 5) s0_0 s0_1) else (latchkeyref05_machine_digits.j0 k a1 s0_0 false s0_0 s0_1))
set_option maxHeartbeats 8000000 in
set_option maxRecDepth 100000 in
theorem latchkeyref05_machine_digits.calls (k : Nat) (g : Nat) (s0_0 : Int) (s0_1 : Int) (a1 : Int) (r1 : Bool) (r2 : Int) (r3 : Int) (w0 w : World) (hI : IsS58 w0 w g s0_0 s0_1) (hB : Below w0.heap.size w0 w) (h : latchkeyref05_machine_digits.f k s0_0 s0_1 a1 = some (r1, r2, r3)) :
  Calls Tryd.prog 73 #[.pointer (some ⟨g, 0, none⟩), .int .u8 a1] w fun e w' => e = .returned (.bool r1) ∧ IsS58 w0 w' g r2 r3 ∧ Below w0.heap.size w0 w' ∧ KeepBut w w' g none := by
 have HI0 := Aside0.mk hI
 have HK := Aside0.mk (KeepBut.refl w g none)
 have HL := Aside0.mk hB.size
 clear hI
 have HW0 := Aside0.mk hB.size
 have HB := Aside0.mk hB
 clear hB
 have H : ((latchkeyref05_digit.f a1).bind fun t138 => (if t138 = true then (latchkeyref05_machine_digits.j0 k a1 s0_0 (s0_0 == 5) s0_0 s0_1) else (latchkeyref05_machine_digits.j0 k a1 s0_0 false s0_0 s0_1))) = some (r1, r2, r3) := h
 clear h
 have HC3 := Aside0.mk H
 clear H
 obtain ⟨HGz4, hgz4⟩ := HI0.out
 have hcz4_0 := cellS58_0 HGz4
 have hcz4_1 := cellS58_1 HGz4
 have hfz4_0 := blk_frozen HGz4 0
 have hfz4_1 := blk_frozen HGz4 1
 clear HGz4 hgz4
 go_enter Tryd.func73, Tryd.ntmps73
 go_upto_region 3 with (fail)
 go_cut [30] (fun v30 wc => ∃ (kq : Nat) (x30_2 : Bool), v30 = .bool x30_2 ∧ Aside0 (latchkeyref05_machine_digits.j0 kq a1 s0_0 x30_2 s0_0 s0_1 = some (r1, r2, r3)) ∧ Aside0 (kq ≤ k) ∧ Aside0 (IsS58 w0 wc g s0_0 s0_1) ∧ Aside0 (KeepBut w wc g none) ∧ Aside0 (Below w0.heap.size w0 wc))
 case first =>
  have H := HC3.out
  clear HC3
  replace H := Option.bind_eq_some_iff.mp H
  obtain ⟨t138, A50, H⟩ := H
  replace H : (if t138 = true then (latchkeyref05_machine_digits.j0 k a1 s0_0 (s0_0 == 5) s0_0 s0_1) else (latchkeyref05_machine_digits.j0 k a1 s0_0 false s0_0 s0_1)) = some (r1, r2, r3) := H
  have A5 := Aside0.mk A50
  clear A50
  by_cases c6 : t138 = true
  ·
   subst c6
   have H1 : (latchkeyref05_machine_digits.j0 k a1 s0_0 (s0_0 == 5) s0_0 s0_1) = some (r1, r2, r3) := by rw [if_pos rfl] at H; exact H
   clear H
   have H := H1
   clear H1
   have H' := Aside0.mk H
   clear H
   go_wp2_with (first | ((with_reducible refine gate_callee (f := 56) rfl ?_); refine goesL_ (some 32) rfl rfl Tryd.func56 (by kernel_rfl) rfl #[.int .u8 a1] rfl agq ?_; (with_reducible refine (latchkeyref05_digit.calls a1 true _ A5.out).mono ?_); rintro e w' ⟨rfl, ⟨nd, rfl⟩⟩; refine ⟨_, rfl, ?_⟩))
   go_meet
   case rel => exact ⟨_, ((s0_0 == 5)), (by first | rfl | (simp; done) | (simp [*]; done)), H', ⟨by first | omega | exact Nat.le_refl _⟩, ⟨g3q⟩, ⟨g2q⟩, ⟨g4q⟩⟩
  ·
   replace c6 := Bool.eq_false_iff.mpr c6
   subst c6
   have H1 : (latchkeyref05_machine_digits.j0 k a1 s0_0 false s0_0 s0_1) = some (r1, r2, r3) := by rw [if_neg (show ¬ (false = true) by decide)] at H; exact H
   clear H
   have H := H1
   clear H1
   have H' := Aside0.mk H
   clear H
   go_wp2_with (first | ((with_reducible refine gate_callee (f := 56) rfl ?_); refine goesL_ (some 32) rfl rfl Tryd.func56 (by kernel_rfl) rfl #[.int .u8 a1] rfl agq ?_; (with_reducible refine (latchkeyref05_digit.calls a1 false _ A5.out).mono ?_); rintro e w' ⟨rfl, ⟨nd, rfl⟩⟩; refine ⟨_, rfl, ?_⟩))
   go_meet
   case rel => exact ⟨_, (false), (by first | rfl | (simp; done) | (simp [*]; done)), H', ⟨by first | omega | exact Nat.le_refl _⟩, ⟨g3q⟩, ⟨g2q⟩, ⟨g4q⟩⟩
 case rest =>
  clear HC3
  (try clear p2); (try clear c5); (try clear c6); (try clear hcz4_0); (try clear hcz4_1); (try clear hfz4_0); (try clear hfz4_1)
  obtain ⟨kq, x30_2, rfl, HA, HJ2, HI0, HK, HB⟩ := hcut
  cases kq with
  | zero => exact absurd HA.out (by simp [latchkeyref05_machine_digits.j0])
  | succ kj2 =>
   have H := HA.out
   clear HA
   simp only [latchkeyref05_machine_digits.j0] at H
   by_cases c7 : x30_2 = true
   ·
    subst c7
    have H1 : (some (true, 6, s0_1)) = some (r1, r2, r3) := by rw [if_pos rfl] at H; exact H
    clear H
    have H := H1
    clear H1
    simp only [Option.some.injEq, Prod.mk.injEq] at H
    obtain ⟨rfl, rfl, rfl⟩ := H
    obtain ⟨HGz8, hgz8⟩ := HI0.out
    have hcz8_0 := cellS58_0 HGz8
    have hcz8_1 := cellS58_1 HGz8
    have hfz8_0 := blk_frozen HGz8 0
    have hfz8_1 := blk_frozen HGz8 1
    clear HGz8 hgz8
    go_wp2
    go_ret
    exact ⟨erq, g3q, g4q, g2q⟩
   ·
    replace c7 := Bool.eq_false_iff.mpr c7
    subst c7
    have H1 : ((latchkeyref05_digit.f a1).bind fun t139 => (if t139 = true then (if s0_0 = 7 then (latchkeyref05_machine_digits.j1 kj2 a1 s0_0 true s0_0 s0_1) else (latchkeyref05_machine_digits.j1 kj2 a1 s0_0 (s0_0 == 8) s0_0 s0_1)) else (latchkeyref05_machine_digits.j1 kj2 a1 s0_0 false s0_0 s0_1))) = some (r1, r2, r3) := by rw [if_neg (show ¬ (false = true) by decide)] at H; exact H
    clear H
    have H := H1
    clear H1
    have HC9 := Aside0.mk H
    clear H
    go_upto_region 5 with (fail)
    go_cut [40] (fun v40 wc => ∃ (kq : Nat) (x40_8 : Bool), v40 = .bool x40_8 ∧ Aside0 (latchkeyref05_machine_digits.j1 kq a1 s0_0 x40_8 s0_0 s0_1 = some (r1, r2, r3)) ∧ Aside0 (kq ≤ kj2) ∧ Aside0 (IsS58 w0 wc g s0_0 s0_1) ∧ Aside0 (KeepBut w wc g none) ∧ Aside0 (Below w0.heap.size w0 wc))
    case first =>
     have H := HC9.out
     clear HC9
     replace H := Option.bind_eq_some_iff.mp H
     obtain ⟨t139, A100, H⟩ := H
     replace H : (if t139 = true then (if s0_0 = 7 then (latchkeyref05_machine_digits.j1 kj2 a1 s0_0 true s0_0 s0_1) else (latchkeyref05_machine_digits.j1 kj2 a1 s0_0 (s0_0 == 8) s0_0 s0_1)) else (latchkeyref05_machine_digits.j1 kj2 a1 s0_0 false s0_0 s0_1)) = some (r1, r2, r3) := H
     have A10 := Aside0.mk A100
     clear A100
     by_cases c11 : t139 = true
     ·
      subst c11
      have H1 : (if s0_0 = 7 then (latchkeyref05_machine_digits.j1 kj2 a1 s0_0 true s0_0 s0_1) else (latchkeyref05_machine_digits.j1 kj2 a1 s0_0 (s0_0 == 8) s0_0 s0_1)) = some (r1, r2, r3) := by rw [if_pos rfl] at H; exact H
      clear H
      have H := H1
      clear H1
      by_cases c12 : s0_0 = 7
      ·
       rw [if_pos c12] at H
       have c12b0 : (s0_0 == 7) = true := beq_iff_eq.mpr c12
       have c12b1 : (s0_0 != 7) = false := bne_eq_false_iff_eq.mpr c12
       clear c12
       (first | rw [c12b0] | (simp only [i64_w, i32_w]; rw [c12b0]) | skip)
       have H' := Aside0.mk H
       clear H
       go_wp2_with (first | ((with_reducible refine gate_callee (f := 56) rfl ?_); refine goesL_ (some 42) rfl rfl Tryd.func56 (by kernel_rfl) rfl #[.int .u8 a1] rfl agq ?_; (with_reducible refine (latchkeyref05_digit.calls a1 true _ A10.out).mono ?_); rintro e w' ⟨rfl, ⟨nd, rfl⟩⟩; refine ⟨_, rfl, ?_⟩))
       go_meet
       case rel => exact ⟨_, (true), (by first | rfl | (simp; done) | (simp [*]; done)), H', ⟨by have := HJ2.out; first | omega | exact Nat.le_refl _⟩, ⟨g3q⟩, ⟨g2q⟩, ⟨g4q⟩⟩
      ·
       rw [if_neg c12] at H
       have c12b0 : (s0_0 == 7) = false := beq_eq_false_iff_ne.mpr c12
       have c12b1 : (s0_0 != 7) = true := bne_iff_ne.mpr c12
       (first | rw [c12b0] | (simp only [i64_w, i32_w]; rw [c12b0]) | skip)
       have H' := Aside0.mk H
       clear H
       go_wp2_with (first | ((with_reducible refine gate_callee (f := 56) rfl ?_); refine goesL_ (some 42) rfl rfl Tryd.func56 (by kernel_rfl) rfl #[.int .u8 a1] rfl agq ?_; (with_reducible refine (latchkeyref05_digit.calls a1 true _ A10.out).mono ?_); rintro e w' ⟨rfl, ⟨nd, rfl⟩⟩; refine ⟨_, rfl, ?_⟩))
       go_meet
       case rel => exact ⟨_, ((s0_0 == 8)), (by first | rfl | (simp; done) | (simp [*]; done)), H', ⟨by have := HJ2.out; first | omega | exact Nat.le_refl _⟩, ⟨g3q⟩, ⟨g2q⟩, ⟨g4q⟩⟩
     ·
      replace c11 := Bool.eq_false_iff.mpr c11
      subst c11
      have H1 : (latchkeyref05_machine_digits.j1 kj2 a1 s0_0 false s0_0 s0_1) = some (r1, r2, r3) := by rw [if_neg (show ¬ (false = true) by decide)] at H; exact H
      clear H
      have H := H1
      clear H1
      have H' := Aside0.mk H
      clear H
      go_wp2_with (first | ((with_reducible refine gate_callee (f := 56) rfl ?_); refine goesL_ (some 42) rfl rfl Tryd.func56 (by kernel_rfl) rfl #[.int .u8 a1] rfl agq ?_; (with_reducible refine (latchkeyref05_digit.calls a1 false _ A10.out).mono ?_); rintro e w' ⟨rfl, ⟨nd, rfl⟩⟩; refine ⟨_, rfl, ?_⟩))
      go_meet
      case rel => exact ⟨_, (false), (by first | rfl | (simp; done) | (simp [*]; done)), H', ⟨by have := HJ2.out; first | omega | exact Nat.le_refl _⟩, ⟨g3q⟩, ⟨g2q⟩, ⟨g4q⟩⟩
    case rest =>
     clear HC9
     (try clear c1); (try clear p2); (try clear c5); (try clear c6); (try clear c7); (try clear c11); (try clear c12); (try clear c12b0); (try clear c12b1); (try clear hcz4_0); (try clear hcz4_1); (try clear hcz8_0); (try clear hcz8_1); (try clear hfz4_0); (try clear hfz4_1); (try clear hfz8_0); (try clear hfz8_1); (try clear p2)
     obtain ⟨kq, x40_8, rfl, HA, HJ8, HI0, HK, HB⟩ := hcut
     cases kq with
     | zero => exact absurd HA.out (by simp [latchkeyref05_machine_digits.j1])
     | succ kj8 =>
      have H := HA.out
      clear HA
      simp only [latchkeyref05_machine_digits.j1] at H
      by_cases c13 : x40_8 = true
      ·
       subst c13
       have H1 : (some (true, 9, s0_1)) = some (r1, r2, r3) := by rw [if_pos rfl] at H; exact H
       clear H
       have H := H1
       clear H1
       simp only [Option.some.injEq, Prod.mk.injEq] at H
       obtain ⟨rfl, rfl, rfl⟩ := H
       obtain ⟨HGz14, hgz14⟩ := HI0.out
       have hcz14_0 := cellS58_0 HGz14
       have hcz14_1 := cellS58_1 HGz14
       have hfz14_0 := blk_frozen HGz14 0
       have hfz14_1 := blk_frozen HGz14 1
       clear HGz14 hgz14
       go_wp2
       go_ret
       exact ⟨erq, g3q, g4q, g2q⟩
      ·
       replace c13 := Bool.eq_false_iff.mpr c13
       subst c13
       have H1 : ((latchkeyref05_digit.f a1).bind fun t140 => (if t140 = true then (some (true, s0_0, s0_1)) else (if s0_0 = 4 then (latchkeyref05_machine_digits.j2 kj8 a1 s0_0 (a1 == 46) s0_0 s0_1) else (latchkeyref05_machine_digits.j2 kj8 a1 s0_0 false s0_0 s0_1)))) = some (r1, r2, r3) := by rw [if_neg (show ¬ (false = true) by decide)] at H; exact H
       clear H
       have H := H1
       clear H1
       replace H := Option.bind_eq_some_iff.mp H
       obtain ⟨t140, A150, H⟩ := H
       replace H : (if t140 = true then (some (true, s0_0, s0_1)) else (if s0_0 = 4 then (latchkeyref05_machine_digits.j2 kj8 a1 s0_0 (a1 == 46) s0_0 s0_1) else (latchkeyref05_machine_digits.j2 kj8 a1 s0_0 false s0_0 s0_1))) = some (r1, r2, r3) := H
       have A15 := Aside0.mk A150
       clear A150
       by_cases c16 : t140 = true
       ·
        subst c16
        have H1 : (some (true, s0_0, s0_1)) = some (r1, r2, r3) := by rw [if_pos rfl] at H; exact H
        clear H
        have H := H1
        clear H1
        simp only [Option.some.injEq, Prod.mk.injEq] at H
        obtain ⟨rfl, rfl, rfl⟩ := H
        go_wp2_with (first | ((with_reducible refine gate_callee (f := 56) rfl ?_); refine goesL_ (some 56) rfl rfl Tryd.func56 (by kernel_rfl) rfl #[.int .u8 a1] rfl agq ?_; (with_reducible refine (latchkeyref05_digit.calls a1 true _ A15.out).mono ?_); rintro e w' ⟨rfl, ⟨nd, rfl⟩⟩; refine ⟨_, rfl, ?_⟩))
        go_ret
        exact ⟨erq, g3q, g4q, g2q⟩
       ·
        replace c16 := Bool.eq_false_iff.mpr c16
        subst c16
        have H1 : (if s0_0 = 4 then (latchkeyref05_machine_digits.j2 kj8 a1 s0_0 (a1 == 46) s0_0 s0_1) else (latchkeyref05_machine_digits.j2 kj8 a1 s0_0 false s0_0 s0_1)) = some (r1, r2, r3) := by rw [if_neg (show ¬ (false = true) by decide)] at H; exact H
        clear H
        have H := H1
        clear H1
        have HC17 := Aside0.mk H
        clear H
        go_upto_region 8 with (first | ((with_reducible refine gate_callee (f := 56) rfl ?_); refine goesL_ (some 56) rfl rfl Tryd.func56 (by kernel_rfl) rfl #[.int .u8 a1] rfl agq ?_; (with_reducible refine (latchkeyref05_digit.calls a1 false _ A15.out).mono ?_); rintro e w' ⟨rfl, ⟨nd, rfl⟩⟩; refine ⟨_, rfl, ?_⟩))
        (try simp only [Act.put, List.setIfInBounds_toArray, List.set_cons_zero, List.set_cons_succ])
        go_cut [57] (fun v57 wc => ∃ (kq : Nat) (x57_16 : Bool), v57 = .bool x57_16 ∧ Aside0 (latchkeyref05_machine_digits.j2 kq a1 s0_0 x57_16 s0_0 s0_1 = some (r1, r2, r3)) ∧ Aside0 (kq ≤ kj8) ∧ Aside0 (IsS58 w0 wc g s0_0 s0_1) ∧ Aside0 (KeepBut w wc g none) ∧ Aside0 (Below w0.heap.size w0 wc))
        case first =>
         have H := HC17.out
         clear HC17
         by_cases c18 : s0_0 = 4
         ·
          rw [if_pos c18] at H
          have c18b0 : (s0_0 == 4) = true := beq_iff_eq.mpr c18
          have c18b1 : (s0_0 != 4) = false := bne_eq_false_iff_eq.mpr c18
          clear c18
          (first | rw [c18b0] | (simp only [i64_w, i32_w]; rw [c18b0]) | skip)
          have H' := Aside0.mk H
          clear H
          go_wp2
          go_meet
          case rel => exact ⟨_, ((a1 == 46)), (by first | rfl | (simp; done) | (simp [*]; done)), H', ⟨by have := HJ2.out; have := HJ8.out; first | omega | exact Nat.le_refl _⟩, ⟨g3q⟩, ⟨g2q⟩, ⟨g4q⟩⟩
         ·
          rw [if_neg c18] at H
          have c18b0 : (s0_0 == 4) = false := beq_eq_false_iff_ne.mpr c18
          have c18b1 : (s0_0 != 4) = true := bne_iff_ne.mpr c18
          (first | rw [c18b0] | (simp only [i64_w, i32_w]; rw [c18b0]) | skip)
          have H' := Aside0.mk H
          clear H
          go_wp2
          go_meet
          case rel => exact ⟨_, (false), (by first | rfl | (simp; done) | (simp [*]; done)), H', ⟨by have := HJ2.out; have := HJ8.out; first | omega | exact Nat.le_refl _⟩, ⟨g3q⟩, ⟨g2q⟩, ⟨g4q⟩⟩
        case rest =>
         clear HC17
         (try clear c1); (try clear p2); (try clear c5); (try clear c6); (try clear c7); (try clear c11); (try clear c12); (try clear c12b0); (try clear c12b1); (try clear c13); (try clear c16); (try clear c18); (try clear c18b0); (try clear c18b1); (try clear hcz14_0); (try clear hcz14_1); (try clear hcz4_0); (try clear hcz4_1); (try clear hcz8_0); (try clear hcz8_1); (try clear hfz14_0); (try clear hfz14_1); (try clear hfz4_0); (try clear hfz4_1); (try clear hfz8_0); (try clear hfz8_1); (try clear p2)
         obtain ⟨kq, x57_16, rfl, HA, HJ16, HI0, HK, HB⟩ := hcut
         cases kq with
         | zero => exact absurd HA.out (by simp [latchkeyref05_machine_digits.j2])
         | succ kj16 =>
          have H := HA.out
          clear HA
          simp only [latchkeyref05_machine_digits.j2] at H
          by_cases c19 : x57_16 = true
          ·
           subst c19
           have H1 : (some (true, 5, s0_1)) = some (r1, r2, r3) := by rw [if_pos rfl] at H; exact H
           clear H
           have H := H1
           clear H1
           simp only [Option.some.injEq, Prod.mk.injEq] at H
           obtain ⟨rfl, rfl, rfl⟩ := H
           obtain ⟨HGz20, hgz20⟩ := HI0.out
           have hcz20_0 := cellS58_0 HGz20
           have hcz20_1 := cellS58_1 HGz20
           have hfz20_0 := blk_frozen HGz20 0
           have hfz20_1 := blk_frozen HGz20 1
           clear HGz20 hgz20
           go_wp2
           go_ret
           exact ⟨erq, g3q, g4q, g2q⟩
          ·
           replace c19 := Bool.eq_false_iff.mpr c19
           subst c19
           have H1 : (if s0_0 = 6 then (latchkeyref05_machine_digits.j3 kj16 a1 s0_0 (a1 == 101) s0_0 s0_1) else (latchkeyref05_machine_digits.j3 kj16 a1 s0_0 false s0_0 s0_1)) = some (r1, r2, r3) := by rw [if_neg (show ¬ (false = true) by decide)] at H; exact H
           clear H
           have H := H1
           clear H1
           have HC21 := Aside0.mk H
           clear H
           go_upto_region 10 with (fail)
           go_cut [67] (fun v67 wc => ∃ (kq : Nat) (x67_20 : Bool), v67 = .bool x67_20 ∧ Aside0 (latchkeyref05_machine_digits.j3 kq a1 s0_0 x67_20 s0_0 s0_1 = some (r1, r2, r3)) ∧ Aside0 (kq ≤ kj16) ∧ Aside0 (IsS58 w0 wc g s0_0 s0_1) ∧ Aside0 (KeepBut w wc g none) ∧ Aside0 (Below w0.heap.size w0 wc))
           case first =>
            have H := HC21.out
            clear HC21
            by_cases c22 : s0_0 = 6
            ·
             rw [if_pos c22] at H
             have c22b0 : (s0_0 == 6) = true := beq_iff_eq.mpr c22
             have c22b1 : (s0_0 != 6) = false := bne_eq_false_iff_eq.mpr c22
             clear c22
             (first | rw [c22b0] | (simp only [i64_w, i32_w]; rw [c22b0]) | skip)
             have H' := Aside0.mk H
             clear H
             go_wp2
             go_meet
             case rel => exact ⟨_, ((a1 == 101)), (by first | rfl | (simp; done) | (simp [*]; done)), H', ⟨by have := HJ2.out; have := HJ8.out; have := HJ16.out; first | omega | exact Nat.le_refl _⟩, ⟨g3q⟩, ⟨g2q⟩, ⟨g4q⟩⟩
            ·
             rw [if_neg c22] at H
             have c22b0 : (s0_0 == 6) = false := beq_eq_false_iff_ne.mpr c22
             have c22b1 : (s0_0 != 6) = true := bne_iff_ne.mpr c22
             (first | rw [c22b0] | (simp only [i64_w, i32_w]; rw [c22b0]) | skip)
             have H' := Aside0.mk H
             clear H
             go_wp2
             go_meet
             case rel => exact ⟨_, (false), (by first | rfl | (simp; done) | (simp [*]; done)), H', ⟨by have := HJ2.out; have := HJ8.out; have := HJ16.out; first | omega | exact Nat.le_refl _⟩, ⟨g3q⟩, ⟨g2q⟩, ⟨g4q⟩⟩
           case rest =>
            clear HC21
            (try clear c1); (try clear c2); (try clear p2); (try clear c5); (try clear c6); (try clear c7); (try clear c11); (try clear c12); (try clear c12b0); (try clear c12b1); (try clear c13); (try clear c16); (try clear c18); (try clear c18b0); (try clear c18b1); (try clear c19); (try clear c22); (try clear c22b0); (try clear c22b1); (try clear hcz14_0); (try clear hcz14_1); (try clear hcz20_0); (try clear hcz20_1); (try clear hcz4_0); (try clear hcz4_1); (try clear hcz8_0); (try clear hcz8_1); (try clear hfz14_0); (try clear hfz14_1); (try clear hfz20_0); (try clear hfz20_1); (try clear hfz4_0); (try clear hfz4_1); (try clear hfz8_0); (try clear hfz8_1); (try clear p2)
            obtain ⟨kq, x67_20, rfl, HA, HJ20, HI0, HK, HB⟩ := hcut
            cases kq with
            | zero => exact absurd HA.out (by simp [latchkeyref05_machine_digits.j3])
            | succ kj20 =>
             have H := HA.out
             clear HA
             simp only [latchkeyref05_machine_digits.j3] at H
             by_cases c23 : x67_20 = true
             ·
              subst c23
              have H1 : (some (true, 7, s0_1)) = some (r1, r2, r3) := by rw [if_pos rfl] at H; exact H
              clear H
              have H := H1
              clear H1
              simp only [Option.some.injEq, Prod.mk.injEq] at H
              obtain ⟨rfl, rfl, rfl⟩ := H
              obtain ⟨HGz24, hgz24⟩ := HI0.out
              have hcz24_0 := cellS58_0 HGz24
              have hcz24_1 := cellS58_1 HGz24
              have hfz24_0 := blk_frozen HGz24 0
              have hfz24_1 := blk_frozen HGz24 1
              clear HGz24 hgz24
              go_wp2
              go_ret
              exact ⟨erq, g3q, g4q, g2q⟩
             ·
              replace c23 := Bool.eq_false_iff.mpr c23
              subst c23
              have H1 : (if s0_0 = 7 then (latchkeyref05_machine_digits.j4 kj20 a1 s0_0 (a1 == 45) s0_0 s0_1) else (latchkeyref05_machine_digits.j4 kj20 a1 s0_0 false s0_0 s0_1)) = some (r1, r2, r3) := by rw [if_neg (show ¬ (false = true) by decide)] at H; exact H
              clear H
              have H := H1
              clear H1
              have HC25 := Aside0.mk H
              clear H
              go_upto_region 12 with (fail)
              go_cut [77] (fun v77 wc => ∃ (kq : Nat) (x77_24 : Bool), v77 = .bool x77_24 ∧ Aside0 (latchkeyref05_machine_digits.j4 kq a1 s0_0 x77_24 s0_0 s0_1 = some (r1, r2, r3)) ∧ Aside0 (kq ≤ kj20) ∧ Aside0 (IsS58 w0 wc g s0_0 s0_1) ∧ Aside0 (KeepBut w wc g none) ∧ Aside0 (Below w0.heap.size w0 wc))
              case first =>
               have H := HC25.out
               clear HC25
               by_cases c26 : s0_0 = 7
               ·
                rw [if_pos c26] at H
                have c26b0 : (s0_0 == 7) = true := beq_iff_eq.mpr c26
                have c26b1 : (s0_0 != 7) = false := bne_eq_false_iff_eq.mpr c26
                clear c26
                (first | rw [c26b0] | (simp only [i64_w, i32_w]; rw [c26b0]) | skip)
                have H' := Aside0.mk H
                clear H
                go_wp2
                go_meet
                case rel => exact ⟨_, ((a1 == 45)), (by first | rfl | (simp; done) | (simp [*]; done)), H', ⟨by have := HJ2.out; have := HJ8.out; have := HJ16.out; have := HJ20.out; first | omega | exact Nat.le_refl _⟩, ⟨g3q⟩, ⟨g2q⟩, ⟨g4q⟩⟩
               ·
                rw [if_neg c26] at H
                have c26b0 : (s0_0 == 7) = false := beq_eq_false_iff_ne.mpr c26
                have c26b1 : (s0_0 != 7) = true := bne_iff_ne.mpr c26
                (first | rw [c26b0] | (simp only [i64_w, i32_w]; rw [c26b0]) | skip)
                have H' := Aside0.mk H
                clear H
                go_wp2
                go_meet
                case rel => exact ⟨_, (false), (by first | rfl | (simp; done) | (simp [*]; done)), H', ⟨by have := HJ2.out; have := HJ8.out; have := HJ16.out; have := HJ20.out; first | omega | exact Nat.le_refl _⟩, ⟨g3q⟩, ⟨g2q⟩, ⟨g4q⟩⟩
              case rest =>
               clear HC25
               (try clear c1); (try clear c2); (try clear p2); (try clear c5); (try clear c6); (try clear c7); (try clear c11); (try clear c12); (try clear c12b0); (try clear c12b1); (try clear c13); (try clear c16); (try clear c18); (try clear c18b0); (try clear c18b1); (try clear c19); (try clear c22); (try clear c22b0); (try clear c22b1); (try clear c23); (try clear c26); (try clear c26b0); (try clear c26b1); (try clear hcz14_0); (try clear hcz14_1); (try clear hcz20_0); (try clear hcz20_1); (try clear hcz24_0); (try clear hcz24_1); (try clear hcz4_0); (try clear hcz4_1); (try clear hcz8_0); (try clear hcz8_1); (try clear hfz14_0); (try clear hfz14_1); (try clear hfz20_0); (try clear hfz20_1); (try clear hfz24_0); (try clear hfz24_1); (try clear hfz4_0); (try clear hfz4_1); (try clear hfz8_0); (try clear hfz8_1); (try clear p2)
               obtain ⟨kq, x77_24, rfl, HA, HJ24, HI0, HK, HB⟩ := hcut
               cases kq with
               | zero => exact absurd HA.out (by simp [latchkeyref05_machine_digits.j4])
               | succ kj24 =>
                have H := HA.out
                clear HA
                simp only [latchkeyref05_machine_digits.j4] at H
                by_cases c27 : x77_24 = true
                ·
                 subst c27
                 have H1 : (some (true, 8, s0_1)) = some (r1, r2, r3) := by rw [if_pos rfl] at H; exact H
                 clear H
                 have H := H1
                 clear H1
                 simp only [Option.some.injEq, Prod.mk.injEq] at H
                 obtain ⟨rfl, rfl, rfl⟩ := H
                 obtain ⟨HGz28, hgz28⟩ := HI0.out
                 have hcz28_0 := cellS58_0 HGz28
                 have hcz28_1 := cellS58_1 HGz28
                 have hfz28_0 := blk_frozen HGz28 0
                 have hfz28_1 := blk_frozen HGz28 1
                 clear HGz28 hgz28
                 go_wp2
                 go_ret
                 exact ⟨erq, g3q, g4q, g2q⟩
                ·
                 replace c27 := Bool.eq_false_iff.mpr c27
                 subst c27
                 have H1 : (if s0_0 = 4 then ((latchkeyref05_small.f a1).bind fun t141 => (if t141 = true then (some (false, s0_0, s0_1)) else ((latchkeyref05_machine_begin.f kj24 s0_0 s0_1 a1).bind fun bt142 => (some (bt142.1, bt142.2.1, bt142.2.2))))) else (if s0_0 = 6 then ((latchkeyref05_small.f a1).bind fun t145 => (if t145 = true then (some (false, s0_0, s0_1)) else ((latchkeyref05_machine_begin.f kj24 s0_0 s0_1 a1).bind fun bt146 => (some (bt146.1, bt146.2.1, bt146.2.2))))) else (if s0_0 = 9 then ((latchkeyref05_small.f a1).bind fun t149 => (if t149 = true then (some (false, s0_0, s0_1)) else ((latchkeyref05_machine_begin.f kj24 s0_0 s0_1 a1).bind fun bt150 => (some (bt150.1, bt150.2.1, bt150.2.2))))) else (some (false, s0_0, s0_1))))) = some (r1, r2, r3) := by rw [if_neg (show ¬ (false = true) by decide)] at H; exact H
                 clear H
                 have H := H1
                 clear H1
                 by_cases c29 : s0_0 = 4
                 ·
                  rw [if_pos c29] at H
                  have c29b0 : (s0_0 == 4) = true := beq_iff_eq.mpr c29
                  have c29b1 : (s0_0 != 4) = false := bne_eq_false_iff_eq.mpr c29
                  clear c29
                  replace H := Option.bind_eq_some_iff.mp H
                  obtain ⟨t141, A300, H⟩ := H
                  replace H : (if t141 = true then (some (false, s0_0, s0_1)) else ((latchkeyref05_machine_begin.f kj24 s0_0 s0_1 a1).bind fun bt142 => (some (bt142.1, bt142.2.1, bt142.2.2)))) = some (r1, r2, r3) := H
                  have A30 := Aside0.mk A300
                  clear A300
                  by_cases c31 : t141 = true
                  ·
                   subst c31
                   have H1 : (some (false, s0_0, s0_1)) = some (r1, r2, r3) := by rw [if_pos rfl] at H; exact H
                   clear H
                   have H := H1
                   clear H1
                   simp only [Option.some.injEq, Prod.mk.injEq] at H
                   obtain ⟨rfl, rfl, rfl⟩ := H
                   go_wp2_with (first | (go_at_call 53; (with_reducible refine (latchkeyref05_small.calls a1 true _ A30.out).mono ?_); rintro e w' ⟨rfl, ⟨nd, rfl⟩⟩))
                   go_ret
                   exact ⟨erq, g3q, g4q, g2q⟩
                  ·
                   replace c31 := Bool.eq_false_iff.mpr c31
                   subst c31
                   have H1 : ((latchkeyref05_machine_begin.f kj24 s0_0 s0_1 a1).bind fun bt142 => (some (bt142.1, bt142.2.1, bt142.2.2))) = some (r1, r2, r3) := by rw [if_neg (show ¬ (false = true) by decide)] at H; exact H
                   clear H
                   have H := H1
                   clear H1
                   replace H := Option.bind_eq_some_iff.mp H
                   obtain ⟨⟨t142, t143, t144⟩, A320, H⟩ := H
                   replace H : (some (t142, t143, t144)) = some (r1, r2, r3) := H
                   have A32 := Aside0.mk A320
                   clear A320
                   simp only [Option.some.injEq, Prod.mk.injEq] at H
                   obtain ⟨rfl, rfl, rfl⟩ := H
                   go_wp2_with (first | (go_at_call 53; (with_reducible refine (latchkeyref05_small.calls a1 false _ A30.out).mono ?_); rintro e w' ⟨rfl, ⟨nd, rfl⟩⟩) | (go_at_call 71; (with_reducible refine (latchkeyref05_machine_begin.calls kj24 g s0_0 s0_1 a1 t142 t143 t144 w0 _ ?side1 ?side2 A32.out).mono ?_); (case side1 => repeat (first | (with_reducible first | exact HI0.out | apply IsS58.alloc | apply IsS58.drewN | apply IsS58.drew | apply IsS58.set_0 | apply IsS58.set_1) | exact HI0.out)); (case side2 => repeat (first | (with_reducible first | exact HB.out | apply below_alloc | apply pw_below_drewN | apply below_drew1 | refine below_set ?_ (IsS58.ge HI0.out)) | exact HB.out)); rintro e w33 ⟨rfl, hi, hb, hk⟩; have n0_ := Aside0.mk (KeepBut.trans g2q hk (.inl rfl)); have n1_ := Aside0.mk (hb); have n2_ := Aside0.mk (hi); clear HK; clear HB; clear HI0; have HK := n0_; have HB := n1_; have HI0 := n2_; clear n0_ n1_ n2_; (try clear hb); (try clear hb2); (try clear hk); (try clear hi)))
                   go_ret
                   exact ⟨erq, g3q, g4q, g2q⟩
                 ·
                  rw [if_neg c29] at H
                  have c29b0 : (s0_0 == 4) = false := beq_eq_false_iff_ne.mpr c29
                  have c29b1 : (s0_0 != 4) = true := bne_iff_ne.mpr c29
                  by_cases c34 : s0_0 = 6
                  ·
                   rw [if_pos c34] at H
                   have c34b0 : (s0_0 == 6) = true := beq_iff_eq.mpr c34
                   have c34b1 : (s0_0 != 6) = false := bne_eq_false_iff_eq.mpr c34
                   clear c34
                   replace H := Option.bind_eq_some_iff.mp H
                   obtain ⟨t145, A350, H⟩ := H
                   replace H : (if t145 = true then (some (false, s0_0, s0_1)) else ((latchkeyref05_machine_begin.f kj24 s0_0 s0_1 a1).bind fun bt146 => (some (bt146.1, bt146.2.1, bt146.2.2)))) = some (r1, r2, r3) := H
                   have A35 := Aside0.mk A350
                   clear A350
                   by_cases c36 : t145 = true
                   ·
                    subst c36
                    have H1 : (some (false, s0_0, s0_1)) = some (r1, r2, r3) := by rw [if_pos rfl] at H; exact H
                    clear H
                    have H := H1
                    clear H1
                    simp only [Option.some.injEq, Prod.mk.injEq] at H
                    obtain ⟨rfl, rfl, rfl⟩ := H
                    go_wp2_with (first | (go_at_call 53; (with_reducible refine (latchkeyref05_small.calls a1 true _ A35.out).mono ?_); rintro e w' ⟨rfl, ⟨nd, rfl⟩⟩))
                    go_ret
                    exact ⟨erq, g3q, g4q, g2q⟩
                   ·
                    replace c36 := Bool.eq_false_iff.mpr c36
                    subst c36
                    have H1 : ((latchkeyref05_machine_begin.f kj24 s0_0 s0_1 a1).bind fun bt146 => (some (bt146.1, bt146.2.1, bt146.2.2))) = some (r1, r2, r3) := by rw [if_neg (show ¬ (false = true) by decide)] at H; exact H
                    clear H
                    have H := H1
                    clear H1
                    replace H := Option.bind_eq_some_iff.mp H
                    obtain ⟨⟨t146, t147, t148⟩, A370, H⟩ := H
                    replace H : (some (t146, t147, t148)) = some (r1, r2, r3) := H
                    have A37 := Aside0.mk A370
                    clear A370
                    simp only [Option.some.injEq, Prod.mk.injEq] at H
                    obtain ⟨rfl, rfl, rfl⟩ := H
                    go_wp2_with (first | (go_at_call 53; (with_reducible refine (latchkeyref05_small.calls a1 false _ A35.out).mono ?_); rintro e w' ⟨rfl, ⟨nd, rfl⟩⟩) | (go_at_call 71; (with_reducible refine (latchkeyref05_machine_begin.calls kj24 g s0_0 s0_1 a1 t146 t147 t148 w0 _ ?side1 ?side2 A37.out).mono ?_); (case side1 => repeat (first | (with_reducible first | exact HI0.out | apply IsS58.alloc | apply IsS58.drewN | apply IsS58.drew | apply IsS58.set_0 | apply IsS58.set_1) | exact HI0.out)); (case side2 => repeat (first | (with_reducible first | exact HB.out | apply below_alloc | apply pw_below_drewN | apply below_drew1 | refine below_set ?_ (IsS58.ge HI0.out)) | exact HB.out)); rintro e w38 ⟨rfl, hi, hb, hk⟩; have n0_ := Aside0.mk (KeepBut.trans g2q hk (.inl rfl)); have n1_ := Aside0.mk (hb); have n2_ := Aside0.mk (hi); clear HK; clear HB; clear HI0; have HK := n0_; have HB := n1_; have HI0 := n2_; clear n0_ n1_ n2_; (try clear hb); (try clear hb2); (try clear hk); (try clear hi)))
                    go_ret
                    exact ⟨erq, g3q, g4q, g2q⟩
                  ·
                   rw [if_neg c34] at H
                   have c34b0 : (s0_0 == 6) = false := beq_eq_false_iff_ne.mpr c34
                   have c34b1 : (s0_0 != 6) = true := bne_iff_ne.mpr c34
                   by_cases c39 : s0_0 = 9
                   ·
                    rw [if_pos c39] at H
                    have c39b0 : (s0_0 == 9) = true := beq_iff_eq.mpr c39
                    have c39b1 : (s0_0 != 9) = false := bne_eq_false_iff_eq.mpr c39
                    clear c39
                    replace H := Option.bind_eq_some_iff.mp H
                    obtain ⟨t149, A400, H⟩ := H
                    replace H : (if t149 = true then (some (false, s0_0, s0_1)) else ((latchkeyref05_machine_begin.f kj24 s0_0 s0_1 a1).bind fun bt150 => (some (bt150.1, bt150.2.1, bt150.2.2)))) = some (r1, r2, r3) := H
                    have A40 := Aside0.mk A400
                    clear A400
                    by_cases c41 : t149 = true
                    ·
                     subst c41
                     have H1 : (some (false, s0_0, s0_1)) = some (r1, r2, r3) := by rw [if_pos rfl] at H; exact H
                     clear H
                     have H := H1
                     clear H1
                     simp only [Option.some.injEq, Prod.mk.injEq] at H
                     obtain ⟨rfl, rfl, rfl⟩ := H
                     go_wp2_with (first | (go_at_call 53; (with_reducible refine (latchkeyref05_small.calls a1 true _ A40.out).mono ?_); rintro e w' ⟨rfl, ⟨nd, rfl⟩⟩))
                     go_ret
                     exact ⟨erq, g3q, g4q, g2q⟩
                    ·
                     replace c41 := Bool.eq_false_iff.mpr c41
                     subst c41
                     have H1 : ((latchkeyref05_machine_begin.f kj24 s0_0 s0_1 a1).bind fun bt150 => (some (bt150.1, bt150.2.1, bt150.2.2))) = some (r1, r2, r3) := by rw [if_neg (show ¬ (false = true) by decide)] at H; exact H
                     clear H
                     have H := H1
                     clear H1
                     replace H := Option.bind_eq_some_iff.mp H
                     obtain ⟨⟨t150, t151, t152⟩, A420, H⟩ := H
                     replace H : (some (t150, t151, t152)) = some (r1, r2, r3) := H
                     have A42 := Aside0.mk A420
                     clear A420
                     simp only [Option.some.injEq, Prod.mk.injEq] at H
                     obtain ⟨rfl, rfl, rfl⟩ := H
                     go_wp2_with (first | (go_at_call 53; (with_reducible refine (latchkeyref05_small.calls a1 false _ A40.out).mono ?_); rintro e w' ⟨rfl, ⟨nd, rfl⟩⟩) | (go_at_call 71; (with_reducible refine (latchkeyref05_machine_begin.calls kj24 g s0_0 s0_1 a1 t150 t151 t152 w0 _ ?side1 ?side2 A42.out).mono ?_); (case side1 => repeat (first | (with_reducible first | exact HI0.out | apply IsS58.alloc | apply IsS58.drewN | apply IsS58.drew | apply IsS58.set_0 | apply IsS58.set_1) | exact HI0.out)); (case side2 => repeat (first | (with_reducible first | exact HB.out | apply below_alloc | apply pw_below_drewN | apply below_drew1 | refine below_set ?_ (IsS58.ge HI0.out)) | exact HB.out)); rintro e w43 ⟨rfl, hi, hb, hk⟩; have n0_ := Aside0.mk (KeepBut.trans g2q hk (.inl rfl)); have n1_ := Aside0.mk (hb); have n2_ := Aside0.mk (hi); clear HK; clear HB; clear HI0; have HK := n0_; have HB := n1_; have HI0 := n2_; clear n0_ n1_ n2_; (try clear hb); (try clear hb2); (try clear hk); (try clear hi)))
                     go_ret
                     exact ⟨erq, g3q, g4q, g2q⟩
                   ·
                    rw [if_neg c39] at H
                    have c39b0 : (s0_0 == 9) = false := beq_eq_false_iff_ne.mpr c39
                    have c39b1 : (s0_0 != 9) = true := bne_iff_ne.mpr c39
                    simp only [Option.some.injEq, Prod.mk.injEq] at H
                    obtain ⟨rfl, rfl, rfl⟩ := H
                    go_wp2
                    go_ret
                    exact ⟨erq, g3q, g4q, g2q⟩
end Go.Proofs.YteedjhoffjkhmaaDoor.PT
