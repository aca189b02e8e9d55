import Derived.Test.YteedjhoffjkhmaaDoorPTx0
import Derived.Test.YteedjhoffjkhmaaDoorPTx19
import Derived.Test.YteedjhoffjkhmaaDoorPTx20
namespace Go.Proofs.YteedjhoffjkhmaaDoor.PT
open Go.RowKit Go.Proofs.YteedjhoffjkhmaaDoorW.PrintWords Go.Proofs.YteedjhoffjkhmaaDoorW.PrintLast Go.Proofs.YteedjhoffjkhmaaDoorW.PrintMore
attribute [local go_sem] max2_int min2_int max_two min_two max_three min_three max_four min_four
set_option linter.unusedVariables false
set_option linter.unusedSimpArgs false
mutual
def latchkeyref05_Print.l0 : Nat → List (S37) → Int → Option (ByteArray × Int)
 | 0, _, _ => none
 | k + 1, x0, x4 => if x4 < (x0.length : Int) then (if 0 ≤ x4 then ((latchkeyref05_May.f k ((rd_T37 x0 x4).f0) ((rd_T37 x0 x4).f1) ((rd_T37 x0 x4).f2) ((rd_T37 x0 x4).f3) (x4 == (wrap64 ((x0.length : Int) - 1)))).bind fun t414 => (if t414 = true then (latchkeyref05_Print.l0 k x0 (wrap64 (x4 + 1))) else (some ((⟨#[]⟩ : ByteArray), 50)))) else (none)) else (latchkeyref05_Print.l1 k x0 0 0)
def latchkeyref05_Print.l1 : Nat → List (S37) → Int → Int → Option (ByteArray × Int)
 | 0, _, _, _ => none
 | k + 1, x0, x5, x6 => if x6 < (x0.length : Int) then (latchkeyref05_Print.j2 k x0 x5 x6 (decide (x5 ≤ 65536))) else (latchkeyref05_Print.j2 k x0 x5 x6 false)
def latchkeyref05_Print.j2 : Nat → List (S37) → Int → Int → Bool → Option (ByteArray × Int)
 | 0, _, _, _, _ => none
 | k + 1, x0, x5, x6, x35 => if x35 = true then (if 0 ≤ x6 then (if x6 < (x0.length : Int) then (if ((rd_T37 x0 x6).f0) = 7 then (latchkeyref05_Print.l1 k x0 x5 (wrap64 (x6 + 1))) else (if x6 > 0 then (if ((rd_T37 x0 x6).f0) = 5 then ((latchkeyref05_size.f k ((rd_T37 x0 x6).f1)).bind fun t418 => (latchkeyref05_Print.l1 k x0 (wrap64 ((wrap64 (x5 + 1)) + t418)) (wrap64 (x6 + 1)))) else (latchkeyref05_Print.l1 k x0 (wrap64 ((wrap64 (x5 + 1)) + (((rd_T37 x0 x6).f1).size : Int))) (wrap64 (x6 + 1)))) else (if ((rd_T37 x0 x6).f0) = 5 then ((latchkeyref05_size.f k ((rd_T37 x0 x6).f1)).bind fun t422 => (latchkeyref05_Print.l1 k x0 (wrap64 (x5 + t422)) (wrap64 (x6 + 1)))) else (latchkeyref05_Print.l1 k x0 (wrap64 (x5 + (((rd_T37 x0 x6).f1).size : Int))) (wrap64 (x6 + 1)))))) else (none)) else (none)) else (if x5 > 65536 then (some ((⟨#[]⟩ : ByteArray), 3)) else (latchkeyref05_Print.l2 k x0 ([] : List Int) 0))
def latchkeyref05_Print.l2 : Nat → List (S37) → List Int → Int → Option (ByteArray × Int)
 | 0, _, _, _ => none
 | k + 1, x0, x7, x8 => if x8 < (x0.length : Int) then (if 0 ≤ x8 then (if ((rd_T37 x0 x8).f0) = 7 then (latchkeyref05_Print.l2 k x0 x7 (wrap64 (x8 + 1))) else (if x8 > 0 then (if x7.length < 140737488355328 then (latchkeyref05_Print.j4 k x0 (x7 ++ [32]) x8) else (none)) else (latchkeyref05_Print.j4 k x0 x7 x8))) else (none)) else (some (strOfNums x7, 0))
def latchkeyref05_Print.j4 : Nat → List (S37) → List Int → Int → Option (ByteArray × Int)
 | 0, _, _, _ => none
 | k + 1, x0, x7, x8 => if 0 ≤ x8 then (if x8 < (x0.length : Int) then (if ((rd_T37 x0 x8).f0) = 5 then ((latchkeyref05_Quote.f k ((rd_T37 x0 x8).f1)).bind fun t430 => (latchkeyref05_Print.j5 k x0 x7 x8 t430)) else (latchkeyref05_Print.j5 k x0 x7 x8 ((rd_T37 x0 x8).f1))) else (none)) else (none)
def latchkeyref05_Print.j5 : Nat → List (S37) → List Int → Int → ByteArray → Option (ByteArray × Int)
 | 0, _, _, _, _ => none
 | k + 1, x0, x7, x8, x9 => latchkeyref05_Print.l3 k x0 x7 x8 x9 0
def latchkeyref05_Print.l3 : Nat → List (S37) → List Int → Int → ByteArray → Int → Option (ByteArray × Int)
 | 0, _, _, _, _, _ => none
 | k + 1, x0, x7, x8, x9, x10 => if x10 < (x9.size : Int) then (if 0 ≤ x10 then (if x7.length < 140737488355328 then (latchkeyref05_Print.l3 k x0 (x7 ++ [bt x9 x10]) x8 x9 (wrap64 (x10 + 1))) else (none)) else (none)) else (latchkeyref05_Print.l2 k x0 x7 (wrap64 (x8 + 1)))
end
def latchkeyref05_Print.f (k : Nat) (l0 : List (S37)) : Option (ByteArray × Int) := latchkeyref05_Print.l0 k l0 0
set_option maxHeartbeats 8000000 in
set_option maxRecDepth 100000 in
theorem latchkeyref05_Print.calls (k : Nat) (A0 : Option Addr) (c0 : Nat) (l0 : List (S37)) (r1 : ByteArray) (r2 : Int) (w : World) (hr0 : Kd.C k37 w A0 l0.length l0) (hc0 : l0.length ≤ c0) (h : latchkeyref05_Print.f k l0 = some (r1, r2)) :
  Calls Tryd.prog 17 #[.slice A0 l0.length c0] w fun e w' => e = .returned (.tuple #[.string r1, .int .i64 r2]) ∧ Below w.heap.size w w' := by
 have hu37 := Tryd.underlying37
 have HR0 := Aside0.mk hr0
 have HC0 := Aside0.mk hc0
 clear hr0 hc0
 have HB := Aside0.mk (Below.refl w.heap.size w)
 have H : (latchkeyref05_Print.l0 k l0 0) = some (r1, r2) := h
 clear h
 have H' := Aside0.mk H
 clear H
 go_enter Tryd.func17, Tryd.ntmps17
 go_wp2
 go_loopg [4] k (fun kq v4 w' => ∃ (x4_1 : Int), v4 = .int .i64 x4_1 ∧ Aside0 (latchkeyref05_Print.l0 kq l0 x4_1 = some (r1, r2)) ∧ Aside0 (kq ≤ k) ∧ Aside0 (Below w.heap.size w w'))
 case atStart => exact ⟨(0), (by first | rfl | (simp; done) | (simp [*]; done)), H', ⟨Nat.le_refl _⟩, ⟨bq⟩⟩
 case round =>
  clear H'
  (try clear c1)
  obtain ⟨x4_1, rfl, HA, HK1, HB⟩ := hrel
  cases gk with
  | zero => exact absurd HA.out (by simp [latchkeyref05_Print.l0])
  | succ k1 =>
   have H := HA.out
   clear HA
   simp only [latchkeyref05_Print.l0] at H
   by_cases c2 : x4_1 < (l0.length : Int)
   ·
    rw [if_pos c2] at H
    have c2b0 : decide (x4_1 < (l0.length : Int)) = true := decide_eq_true c2
    clear c2
    by_cases c3 : 0 ≤ x4_1
    ·
     rw [if_pos c3] at H
     have c3b0 : decide (0 ≤ x4_1) = true := decide_eq_true c3
     clear c3
     replace H := Option.bind_eq_some_iff.mp H
     obtain ⟨t414, A40, H⟩ := H
     replace H : (if t414 = true then (latchkeyref05_Print.l0 k1 l0 (wrap64 (x4_1 + 1))) else (some ((⟨#[]⟩ : ByteArray), 50))) = some (r1, r2) := H
     have A4 := Aside0.mk A40
     clear A40
     by_cases c5 : t414 = true
     ·
      subst c5
      have H1 : (latchkeyref05_Print.l0 k1 l0 (wrap64 (x4_1 + 1))) = some (r1, r2) := by rw [if_pos rfl] at H; exact H
      clear H
      have H := H1
      clear H1
      have H' := Aside0.mk H
      clear H
      have p413 : 0 ≤ (x4_1 : Int) := of_decide_eq_true azq
      have q413 : x4_1 < (l0.length : Int) := of_decide_eq_true azq
      obtain ⟨ad413, e413, hx413_0, hx413_1, hx413_2, hx413_3⟩ := at_T37 HR0.out x4_1 p413 q413
      cases e413
      replace hx413_0 := (HB.out.cell (World.block_lt_of_cell? w _ hx413_0)).trans hx413_0
      replace hx413_1 := (HB.out.cell (World.block_lt_of_cell? w _ hx413_1)).trans hx413_1
      replace hx413_2 := (HB.out.cell (World.block_lt_of_cell? w _ hx413_2)).trans hx413_2
      replace hx413_3 := (HB.out.cell (World.block_lt_of_cell? w _ hx413_3)).trans hx413_3
      replace p413 := eq_true p413
      replace q413 := eq_true q413
      go_wp2_with (first | ((with_reducible refine gate_callee (f := 38) rfl ?_); refine goesL_ (some 26) rfl rfl Tryd.func38 (by kernel_rfl) rfl #[.agg #[.int .i64 ((rd_T37 l0 x4_1).f0), .string ((rd_T37 l0 x4_1).f1), .int .i64 ((rd_T37 l0 x4_1).f2), .int .i64 ((rd_T37 l0 x4_1).f3)], .bool (x4_1 == (wrap64 ((l0.length : Int) - 1)))] rfl agq ?_; (with_reducible refine (latchkeyref05_May.calls k1 ((rd_T37 l0 x4_1).f0) ((rd_T37 l0 x4_1).f1) ((rd_T37 l0 x4_1).f2) ((rd_T37 l0 x4_1).f3) (x4_1 == (wrap64 ((l0.length : Int) - 1))) true _ A4.out).mono ?_); rintro e w6 ⟨rfl, hb⟩; refine ⟨_, rfl, ?_⟩; have n0_ := Aside0.mk (below_step bq hb); clear HB; have HB := n0_; clear n0_; (try clear hb); (try clear hb2); (try clear hk); (try clear hi)))
      go_roundg k1
      case measure => have := HK1.out; omega
      case rel => exact ⟨(wrap64 (x4_1 + 1)), (by first | rfl | (simp; done) | (simp [*]; done)), H', ⟨by have := HK1.out; omega⟩, ⟨bq⟩⟩
     ·
      replace c5 := Bool.eq_false_iff.mpr c5
      subst c5
      have H1 : (some ((⟨#[]⟩ : ByteArray), 50)) = some (r1, r2) := by rw [if_neg (show ¬ (false = true) by decide)] at H; exact H
      clear H
      have H := H1
      clear H1
      simp only [Option.some.injEq, Prod.mk.injEq] at H
      obtain ⟨rfl, rfl⟩ := H
      have p413 : 0 ≤ (x4_1 : Int) := of_decide_eq_true azq
      have q413 : x4_1 < (l0.length : Int) := of_decide_eq_true azq
      obtain ⟨ad413, e413, hx413_0, hx413_1, hx413_2, hx413_3⟩ := at_T37 HR0.out x4_1 p413 q413
      cases e413
      replace hx413_0 := (HB.out.cell (World.block_lt_of_cell? w _ hx413_0)).trans hx413_0
      replace hx413_1 := (HB.out.cell (World.block_lt_of_cell? w _ hx413_1)).trans hx413_1
      replace hx413_2 := (HB.out.cell (World.block_lt_of_cell? w _ hx413_2)).trans hx413_2
      replace hx413_3 := (HB.out.cell (World.block_lt_of_cell? w _ hx413_3)).trans hx413_3
      replace p413 := eq_true p413
      replace q413 := eq_true q413
      go_wp2_with (first | ((with_reducible refine gate_callee (f := 38) rfl ?_); refine goesL_ (some 26) rfl rfl Tryd.func38 (by kernel_rfl) rfl #[.agg #[.int .i64 ((rd_T37 l0 x4_1).f0), .string ((rd_T37 l0 x4_1).f1), .int .i64 ((rd_T37 l0 x4_1).f2), .int .i64 ((rd_T37 l0 x4_1).f3)], .bool (x4_1 == (wrap64 ((l0.length : Int) - 1)))] rfl agq ?_; (with_reducible refine (latchkeyref05_May.calls k1 ((rd_T37 l0 x4_1).f0) ((rd_T37 l0 x4_1).f1) ((rd_T37 l0 x4_1).f2) ((rd_T37 l0 x4_1).f3) (x4_1 == (wrap64 ((l0.length : Int) - 1))) false _ A4.out).mono ?_); rintro e w7 ⟨rfl, hb⟩; refine ⟨_, rfl, ?_⟩; have n0_ := Aside0.mk (below_step bq hb); clear HB; have HB := n0_; clear n0_; (try clear hb); (try clear hb2); (try clear hk); (try clear hi)))
      go_ret2
      exact ⟨erq, bq⟩
    ·
     rw [if_neg c3] at H
     exact absurd H (by simp)
   ·
    rw [if_neg c2] at H
    have c2b0 : decide (x4_1 < (l0.length : Int)) = false := decide_eq_false c2
    clear c2
    have H' := Aside0.mk H
    clear H
    go_wp2
    go_loopg [5, 6] k1 (fun kq v5 v6 w' => ∃ (x5_2 : Int) (x6_2 : Int), v5 = .int .i64 x5_2 ∧ v6 = .int .i64 x6_2 ∧ Aside0 (latchkeyref05_Print.l1 kq l0 x5_2 x6_2 = some (r1, r2)) ∧ Aside0 (kq ≤ k1) ∧ Aside0 (Below w.heap.size w w'))
    case atStart => exact ⟨(0), (0), (by first | rfl | (simp; done) | (simp [*]; done)), (by first | rfl | (simp; done) | (simp [*]; done)), H', ⟨Nat.le_refl _⟩, ⟨bq⟩⟩
    case round =>
     clear H'
     (try clear c1); (try clear c2); (try clear c2b0); (try clear p2); (try clear c3); (try clear c3b0); (try clear p4); (try clear q4); (try clear hx4); (try clear c5); (try clear p6); (try clear hx413_0); (try clear hx413_1); (try clear hx413_2); (try clear hx413_3); (try clear p413); (try clear q413)
     obtain ⟨x5_2, x6_2, rfl, rfl, HA, HK2, HB⟩ := hrel
     cases gk with
     | zero => exact absurd HA.out (by simp [latchkeyref05_Print.l1])
     | succ k2 =>
      have H := HA.out
      clear HA
      simp only [latchkeyref05_Print.l1] at H
      have HC8 := Aside0.mk H
      clear H
      go_upto_region 8 with (fail)
      go_cut [35] (fun v35 wc => ∃ (kq : Nat) (x35_7 : Bool), v35 = .bool x35_7 ∧ Aside0 (latchkeyref05_Print.j2 kq l0 x5_2 x6_2 x35_7 = some (r1, r2)) ∧ Aside0 (kq ≤ k2) ∧ Aside0 (Below w.heap.size w wc))
      case first =>
       have H := HC8.out
       clear HC8
       by_cases c9 : x6_2 < (l0.length : Int)
       ·
        rw [if_pos c9] at H
        have c9b0 : decide (x6_2 < (l0.length : Int)) = true := decide_eq_true c9
        clear c9
        (first | rw [c9b0] | (simp only [i64_w, i32_w]; rw [c9b0]) | skip)
        have H' := Aside0.mk H
        clear H
        go_wp2
        go_meet
        case rel => exact ⟨_, (decide (x5_2 ≤ 65536)), (by first | rfl | (simp; done) | (simp [*]; done)), H', ⟨by have := HK1.out; have := HK2.out; first | omega | exact Nat.le_refl _⟩, ⟨bq⟩⟩
       ·
        rw [if_neg c9] at H
        have c9b0 : decide (x6_2 < (l0.length : Int)) = false := decide_eq_false c9
        clear c9
        (first | rw [c9b0] | (simp only [i64_w, i32_w]; rw [c9b0]) | skip)
        have H' := Aside0.mk H
        clear H
        go_wp2
        go_meet
        case rel => exact ⟨_, (false), (by first | rfl | (simp; done) | (simp [*]; done)), H', ⟨by have := HK1.out; have := HK2.out; first | omega | exact Nat.le_refl _⟩, ⟨bq⟩⟩
      case rest =>
       clear HC8
       (try clear c1); (try clear c2); (try clear c2b0); (try clear p2); (try clear c3); (try clear c3b0); (try clear p4); (try clear q4); (try clear hx4); (try clear c5); (try clear p6); (try clear c9); (try clear c9b0); (try clear hx413_0); (try clear hx413_1); (try clear hx413_2); (try clear hx413_3); (try clear p2); (try clear p4); (try clear p413); (try clear p6); (try clear q4); (try clear q413)
       obtain ⟨kq, x35_7, rfl, HA, HJ7, HB⟩ := hcut
       cases kq with
       | zero => exact absurd HA.out (by simp [latchkeyref05_Print.j2])
       | succ kj7 =>
        have H := HA.out
        clear HA
        simp only [latchkeyref05_Print.j2] at H
        by_cases c10 : x35_7 = true
        ·
         subst c10
         have H1 : (if 0 ≤ x6_2 then (if x6_2 < (l0.length : Int) then (if ((rd_T37 l0 x6_2).f0) = 7 then (latchkeyref05_Print.l1 kj7 l0 x5_2 (wrap64 (x6_2 + 1))) else (if x6_2 > 0 then (if ((rd_T37 l0 x6_2).f0) = 5 then ((latchkeyref05_size.f kj7 ((rd_T37 l0 x6_2).f1)).bind fun t418 => (latchkeyref05_Print.l1 kj7 l0 (wrap64 ((wrap64 (x5_2 + 1)) + t418)) (wrap64 (x6_2 + 1)))) else (latchkeyref05_Print.l1 kj7 l0 (wrap64 ((wrap64 (x5_2 + 1)) + (((rd_T37 l0 x6_2).f1).size : Int))) (wrap64 (x6_2 + 1)))) else (if ((rd_T37 l0 x6_2).f0) = 5 then ((latchkeyref05_size.f kj7 ((rd_T37 l0 x6_2).f1)).bind fun t422 => (latchkeyref05_Print.l1 kj7 l0 (wrap64 (x5_2 + t422)) (wrap64 (x6_2 + 1)))) else (latchkeyref05_Print.l1 kj7 l0 (wrap64 (x5_2 + (((rd_T37 l0 x6_2).f1).size : Int))) (wrap64 (x6_2 + 1)))))) else (none)) else (none)) = some (r1, r2) := by rw [if_pos rfl] at H; exact H
         clear H
         have H := H1
         clear H1
         by_cases c11 : 0 ≤ x6_2
         ·
          rw [if_pos c11] at H
          have c11b0 : decide (0 ≤ x6_2) = true := decide_eq_true c11
          clear c11
          by_cases c12 : x6_2 < (l0.length : Int)
          ·
           rw [if_pos c12] at H
           have c12b0 : decide (x6_2 < (l0.length : Int)) = true := decide_eq_true c12
           clear c12
           by_cases c13 : ((rd_T37 l0 x6_2).f0) = 7
           ·
            rw [if_pos c13] at H
            have c13b0 : (((rd_T37 l0 x6_2).f0) == 7) = true := beq_iff_eq.mpr c13
            have c13b1 : (((rd_T37 l0 x6_2).f0) != 7) = false := bne_eq_false_iff_eq.mpr c13
            clear c13
            have H' := Aside0.mk H
            clear H
            have p415 : 0 ≤ (x6_2 : Int) := of_decide_eq_true azq
            have q415 : x6_2 < (l0.length : Int) := of_decide_eq_true azq
            obtain ⟨ad415, e415, hx415_0, hx415_1, hx415_2, hx415_3⟩ := at_T37 HR0.out x6_2 p415 q415
            cases e415
            replace hx415_0 := (HB.out.cell (World.block_lt_of_cell? w _ hx415_0)).trans hx415_0
            replace hx415_1 := (HB.out.cell (World.block_lt_of_cell? w _ hx415_1)).trans hx415_1
            replace hx415_2 := (HB.out.cell (World.block_lt_of_cell? w _ hx415_2)).trans hx415_2
            replace hx415_3 := (HB.out.cell (World.block_lt_of_cell? w _ hx415_3)).trans hx415_3
            replace p415 := eq_true p415
            replace q415 := eq_true q415
            go_wp2
            go_roundg kj7
            case measure => have := HK1.out; have := HK2.out; have := HJ7.out; omega
            case rel => exact ⟨(x5_2), (wrap64 (x6_2 + 1)), (by first | rfl | (simp; done) | (simp [*]; done)), (by first | rfl | (simp; done) | (simp [*]; done)), H', ⟨by have := HK1.out; have := HK2.out; have := HJ7.out; omega⟩, ⟨bq⟩⟩
           ·
            rw [if_neg c13] at H
            have c13b0 : (((rd_T37 l0 x6_2).f0) == 7) = false := beq_eq_false_iff_ne.mpr c13
            have c13b1 : (((rd_T37 l0 x6_2).f0) != 7) = true := bne_iff_ne.mpr c13
            by_cases c14 : x6_2 > 0
            ·
             rw [if_pos c14] at H
             have c14b0 : decide (0 < x6_2) = true := decide_eq_true c14
             clear c14
             by_cases c15 : ((rd_T37 l0 x6_2).f0) = 5
             ·
              rw [if_pos c15] at H
              have c15b0 : (((rd_T37 l0 x6_2).f0) == 5) = true := beq_iff_eq.mpr c15
              have c15b1 : (((rd_T37 l0 x6_2).f0) != 5) = false := bne_eq_false_iff_eq.mpr c15
              clear c15
              replace H := Option.bind_eq_some_iff.mp H
              obtain ⟨t418, A160, H⟩ := H
              replace H : (latchkeyref05_Print.l1 kj7 l0 (wrap64 ((wrap64 (x5_2 + 1)) + t418)) (wrap64 (x6_2 + 1))) = some (r1, r2) := H
              have A16 := Aside0.mk A160
              clear A160
              have H' := Aside0.mk H
              clear H
              have p415 : 0 ≤ (x6_2 : Int) := of_decide_eq_true azq
              have q415 : x6_2 < (l0.length : Int) := of_decide_eq_true azq
              obtain ⟨ad415, e415, hx415_0, hx415_1, hx415_2, hx415_3⟩ := at_T37 HR0.out x6_2 p415 q415
              cases e415
              replace hx415_0 := (HB.out.cell (World.block_lt_of_cell? w _ hx415_0)).trans hx415_0
              replace hx415_1 := (HB.out.cell (World.block_lt_of_cell? w _ hx415_1)).trans hx415_1
              replace hx415_2 := (HB.out.cell (World.block_lt_of_cell? w _ hx415_2)).trans hx415_2
              replace hx415_3 := (HB.out.cell (World.block_lt_of_cell? w _ hx415_3)).trans hx415_3
              replace p415 := eq_true p415
              replace q415 := eq_true q415
              have p416 : 0 ≤ (x6_2 : Int) := of_decide_eq_true azq
              have q416 : x6_2 < (l0.length : Int) := of_decide_eq_true azq
              obtain ⟨ad416, e416, hx416_0, hx416_1, hx416_2, hx416_3⟩ := at_T37 HR0.out x6_2 p416 q416
              obtain rfl : ad415 = ad416 := (by injection e416)
              replace hx416_0 := (HB.out.cell (World.block_lt_of_cell? w _ hx416_0)).trans hx416_0
              replace hx416_1 := (HB.out.cell (World.block_lt_of_cell? w _ hx416_1)).trans hx416_1
              replace hx416_2 := (HB.out.cell (World.block_lt_of_cell? w _ hx416_2)).trans hx416_2
              replace hx416_3 := (HB.out.cell (World.block_lt_of_cell? w _ hx416_3)).trans hx416_3
              replace p416 := eq_true p416
              replace q416 := eq_true q416
              have p417 : 0 ≤ (x6_2 : Int) := of_decide_eq_true azq
              have q417 : x6_2 < (l0.length : Int) := of_decide_eq_true azq
              obtain ⟨ad417, e417, hx417_0, hx417_1, hx417_2, hx417_3⟩ := at_T37 HR0.out x6_2 p417 q417
              obtain rfl : ad415 = ad417 := (by injection e417)
              replace hx417_0 := (HB.out.cell (World.block_lt_of_cell? w _ hx417_0)).trans hx417_0
              replace hx417_1 := (HB.out.cell (World.block_lt_of_cell? w _ hx417_1)).trans hx417_1
              replace hx417_2 := (HB.out.cell (World.block_lt_of_cell? w _ hx417_2)).trans hx417_2
              replace hx417_3 := (HB.out.cell (World.block_lt_of_cell? w _ hx417_3)).trans hx417_3
              replace p417 := eq_true p417
              replace q417 := eq_true q417
              go_wp2_with (first | ((with_reducible refine gate_callee (f := 39) rfl ?_); refine goesL_ (some 60) rfl rfl Tryd.func39 (by kernel_rfl) rfl #[.string ((rd_T37 l0 x6_2).f1)] rfl agq ?_; (with_reducible refine (latchkeyref05_size.calls kj7 ((rd_T37 l0 x6_2).f1) t418 _ A16.out).mono ?_); rintro e w' ⟨rfl, ⟨nd, rfl⟩⟩; refine ⟨_, rfl, ?_⟩))
              go_roundg kj7
              case measure => have := HK1.out; have := HK2.out; have := HJ7.out; omega
              case rel => exact ⟨(wrap64 ((wrap64 (x5_2 + 1)) + t418)), (wrap64 (x6_2 + 1)), (by first | rfl | (simp; done) | (simp [*]; done)), (by first | rfl | (simp; done) | (simp [*]; done)), H', ⟨by have := HK1.out; have := HK2.out; have := HJ7.out; omega⟩, ⟨bq⟩⟩
             ·
              rw [if_neg c15] at H
              have c15b0 : (((rd_T37 l0 x6_2).f0) == 5) = false := beq_eq_false_iff_ne.mpr c15
              have c15b1 : (((rd_T37 l0 x6_2).f0) != 5) = true := bne_iff_ne.mpr c15
              have H' := Aside0.mk H
              clear H
              have p415 : 0 ≤ (x6_2 : Int) := of_decide_eq_true azq
              have q415 : x6_2 < (l0.length : Int) := of_decide_eq_true azq
              obtain ⟨ad415, e415, hx415_0, hx415_1, hx415_2, hx415_3⟩ := at_T37 HR0.out x6_2 p415 q415
              cases e415
              replace hx415_0 := (HB.out.cell (World.block_lt_of_cell? w _ hx415_0)).trans hx415_0
              replace hx415_1 := (HB.out.cell (World.block_lt_of_cell? w _ hx415_1)).trans hx415_1
              replace hx415_2 := (HB.out.cell (World.block_lt_of_cell? w _ hx415_2)).trans hx415_2
              replace hx415_3 := (HB.out.cell (World.block_lt_of_cell? w _ hx415_3)).trans hx415_3
              replace p415 := eq_true p415
              replace q415 := eq_true q415
              have p416 : 0 ≤ (x6_2 : Int) := of_decide_eq_true azq
              have q416 : x6_2 < (l0.length : Int) := of_decide_eq_true azq
              obtain ⟨ad416, e416, hx416_0, hx416_1, hx416_2, hx416_3⟩ := at_T37 HR0.out x6_2 p416 q416
              obtain rfl : ad415 = ad416 := (by injection e416)
              replace hx416_0 := (HB.out.cell (World.block_lt_of_cell? w _ hx416_0)).trans hx416_0
              replace hx416_1 := (HB.out.cell (World.block_lt_of_cell? w _ hx416_1)).trans hx416_1
              replace hx416_2 := (HB.out.cell (World.block_lt_of_cell? w _ hx416_2)).trans hx416_2
              replace hx416_3 := (HB.out.cell (World.block_lt_of_cell? w _ hx416_3)).trans hx416_3
              replace p416 := eq_true p416
              replace q416 := eq_true q416
              have p419 : 0 ≤ (x6_2 : Int) := of_decide_eq_true azq
              have q419 : x6_2 < (l0.length : Int) := of_decide_eq_true azq
              obtain ⟨ad419, e419, hx419_0, hx419_1, hx419_2, hx419_3⟩ := at_T37 HR0.out x6_2 p419 q419
              obtain rfl : ad415 = ad419 := (by injection e419)
              replace hx419_0 := (HB.out.cell (World.block_lt_of_cell? w _ hx419_0)).trans hx419_0
              replace hx419_1 := (HB.out.cell (World.block_lt_of_cell? w _ hx419_1)).trans hx419_1
              replace hx419_2 := (HB.out.cell (World.block_lt_of_cell? w _ hx419_2)).trans hx419_2
              replace hx419_3 := (HB.out.cell (World.block_lt_of_cell? w _ hx419_3)).trans hx419_3
              replace p419 := eq_true p419
              replace q419 := eq_true q419
              go_wp2
              go_roundg kj7
              case measure => have := HK1.out; have := HK2.out; have := HJ7.out; omega
              case rel => exact ⟨(wrap64 ((wrap64 (x5_2 + 1)) + (((rd_T37 l0 x6_2).f1).size : Int))), (wrap64 (x6_2 + 1)), (by first | rfl | (simp; done) | (simp [*]; done)), (by first | rfl | (simp; done) | (simp [*]; done)), H', ⟨by have := HK1.out; have := HK2.out; have := HJ7.out; omega⟩, ⟨bq⟩⟩
            ·
             rw [if_neg c14] at H
             have c14b0 : decide (0 < x6_2) = false := decide_eq_false c14
             clear c14
             by_cases c17 : ((rd_T37 l0 x6_2).f0) = 5
             ·
              rw [if_pos c17] at H
              have c17b0 : (((rd_T37 l0 x6_2).f0) == 5) = true := beq_iff_eq.mpr c17
              have c17b1 : (((rd_T37 l0 x6_2).f0) != 5) = false := bne_eq_false_iff_eq.mpr c17
              clear c17
              replace H := Option.bind_eq_some_iff.mp H
              obtain ⟨t422, A180, H⟩ := H
              replace H : (latchkeyref05_Print.l1 kj7 l0 (wrap64 (x5_2 + t422)) (wrap64 (x6_2 + 1))) = some (r1, r2) := H
              have A18 := Aside0.mk A180
              clear A180
              have H' := Aside0.mk H
              clear H
              have p415 : 0 ≤ (x6_2 : Int) := of_decide_eq_true azq
              have q415 : x6_2 < (l0.length : Int) := of_decide_eq_true azq
              obtain ⟨ad415, e415, hx415_0, hx415_1, hx415_2, hx415_3⟩ := at_T37 HR0.out x6_2 p415 q415
              cases e415
              replace hx415_0 := (HB.out.cell (World.block_lt_of_cell? w _ hx415_0)).trans hx415_0
              replace hx415_1 := (HB.out.cell (World.block_lt_of_cell? w _ hx415_1)).trans hx415_1
              replace hx415_2 := (HB.out.cell (World.block_lt_of_cell? w _ hx415_2)).trans hx415_2
              replace hx415_3 := (HB.out.cell (World.block_lt_of_cell? w _ hx415_3)).trans hx415_3
              replace p415 := eq_true p415
              replace q415 := eq_true q415
              have p420 : 0 ≤ (x6_2 : Int) := of_decide_eq_true azq
              have q420 : x6_2 < (l0.length : Int) := of_decide_eq_true azq
              obtain ⟨ad420, e420, hx420_0, hx420_1, hx420_2, hx420_3⟩ := at_T37 HR0.out x6_2 p420 q420
              obtain rfl : ad415 = ad420 := (by injection e420)
              replace hx420_0 := (HB.out.cell (World.block_lt_of_cell? w _ hx420_0)).trans hx420_0
              replace hx420_1 := (HB.out.cell (World.block_lt_of_cell? w _ hx420_1)).trans hx420_1
              replace hx420_2 := (HB.out.cell (World.block_lt_of_cell? w _ hx420_2)).trans hx420_2
              replace hx420_3 := (HB.out.cell (World.block_lt_of_cell? w _ hx420_3)).trans hx420_3
              replace p420 := eq_true p420
              replace q420 := eq_true q420
              have p421 : 0 ≤ (x6_2 : Int) := of_decide_eq_true azq
              have q421 : x6_2 < (l0.length : Int) := of_decide_eq_true azq
              obtain ⟨ad421, e421, hx421_0, hx421_1, hx421_2, hx421_3⟩ := at_T37 HR0.out x6_2 p421 q421
              obtain rfl : ad415 = ad421 := (by injection e421)
              replace hx421_0 := (HB.out.cell (World.block_lt_of_cell? w _ hx421_0)).trans hx421_0
              replace hx421_1 := (HB.out.cell (World.block_lt_of_cell? w _ hx421_1)).trans hx421_1
              replace hx421_2 := (HB.out.cell (World.block_lt_of_cell? w _ hx421_2)).trans hx421_2
              replace hx421_3 := (HB.out.cell (World.block_lt_of_cell? w _ hx421_3)).trans hx421_3
              replace p421 := eq_true p421
              replace q421 := eq_true q421
              go_wp2_with (first | ((with_reducible refine gate_callee (f := 39) rfl ?_); refine goesL_ (some 60) rfl rfl Tryd.func39 (by kernel_rfl) rfl #[.string ((rd_T37 l0 x6_2).f1)] rfl agq ?_; (with_reducible refine (latchkeyref05_size.calls kj7 ((rd_T37 l0 x6_2).f1) t422 _ A18.out).mono ?_); rintro e w' ⟨rfl, ⟨nd, rfl⟩⟩; refine ⟨_, rfl, ?_⟩))
              go_roundg kj7
              case measure => have := HK1.out; have := HK2.out; have := HJ7.out; omega
              case rel => exact ⟨(wrap64 (x5_2 + t422)), (wrap64 (x6_2 + 1)), (by first | rfl | (simp; done) | (simp [*]; done)), (by first | rfl | (simp; done) | (simp [*]; done)), H', ⟨by have := HK1.out; have := HK2.out; have := HJ7.out; omega⟩, ⟨bq⟩⟩
             ·
              rw [if_neg c17] at H
              have c17b0 : (((rd_T37 l0 x6_2).f0) == 5) = false := beq_eq_false_iff_ne.mpr c17
              have c17b1 : (((rd_T37 l0 x6_2).f0) != 5) = true := bne_iff_ne.mpr c17
              have H' := Aside0.mk H
              clear H
              have p415 : 0 ≤ (x6_2 : Int) := of_decide_eq_true azq
              have q415 : x6_2 < (l0.length : Int) := of_decide_eq_true azq
              obtain ⟨ad415, e415, hx415_0, hx415_1, hx415_2, hx415_3⟩ := at_T37 HR0.out x6_2 p415 q415
              cases e415
              replace hx415_0 := (HB.out.cell (World.block_lt_of_cell? w _ hx415_0)).trans hx415_0
              replace hx415_1 := (HB.out.cell (World.block_lt_of_cell? w _ hx415_1)).trans hx415_1
              replace hx415_2 := (HB.out.cell (World.block_lt_of_cell? w _ hx415_2)).trans hx415_2
              replace hx415_3 := (HB.out.cell (World.block_lt_of_cell? w _ hx415_3)).trans hx415_3
              replace p415 := eq_true p415
              replace q415 := eq_true q415
              have p420 : 0 ≤ (x6_2 : Int) := of_decide_eq_true azq
              have q420 : x6_2 < (l0.length : Int) := of_decide_eq_true azq
              obtain ⟨ad420, e420, hx420_0, hx420_1, hx420_2, hx420_3⟩ := at_T37 HR0.out x6_2 p420 q420
              obtain rfl : ad415 = ad420 := (by injection e420)
              replace hx420_0 := (HB.out.cell (World.block_lt_of_cell? w _ hx420_0)).trans hx420_0
              replace hx420_1 := (HB.out.cell (World.block_lt_of_cell? w _ hx420_1)).trans hx420_1
              replace hx420_2 := (HB.out.cell (World.block_lt_of_cell? w _ hx420_2)).trans hx420_2
              replace hx420_3 := (HB.out.cell (World.block_lt_of_cell? w _ hx420_3)).trans hx420_3
              replace p420 := eq_true p420
              replace q420 := eq_true q420
              have p423 : 0 ≤ (x6_2 : Int) := of_decide_eq_true azq
              have q423 : x6_2 < (l0.length : Int) := of_decide_eq_true azq
              obtain ⟨ad423, e423, hx423_0, hx423_1, hx423_2, hx423_3⟩ := at_T37 HR0.out x6_2 p423 q423
              obtain rfl : ad415 = ad423 := (by injection e423)
              replace hx423_0 := (HB.out.cell (World.block_lt_of_cell? w _ hx423_0)).trans hx423_0
              replace hx423_1 := (HB.out.cell (World.block_lt_of_cell? w _ hx423_1)).trans hx423_1
              replace hx423_2 := (HB.out.cell (World.block_lt_of_cell? w _ hx423_2)).trans hx423_2
              replace hx423_3 := (HB.out.cell (World.block_lt_of_cell? w _ hx423_3)).trans hx423_3
              replace p423 := eq_true p423
              replace q423 := eq_true q423
              go_wp2
              go_roundg kj7
              case measure => have := HK1.out; have := HK2.out; have := HJ7.out; omega
              case rel => exact ⟨(wrap64 (x5_2 + (((rd_T37 l0 x6_2).f1).size : Int))), (wrap64 (x6_2 + 1)), (by first | rfl | (simp; done) | (simp [*]; done)), (by first | rfl | (simp; done) | (simp [*]; done)), H', ⟨by have := HK1.out; have := HK2.out; have := HJ7.out; omega⟩, ⟨bq⟩⟩
          ·
           rw [if_neg c12] at H
           exact absurd H (by simp)
         ·
          rw [if_neg c11] at H
          exact absurd H (by simp)
        ·
         replace c10 := Bool.eq_false_iff.mpr c10
         subst c10
         have H1 : (if x5_2 > 65536 then (some ((⟨#[]⟩ : ByteArray), 3)) else (latchkeyref05_Print.l2 kj7 l0 ([] : List Int) 0)) = some (r1, r2) := by rw [if_neg (show ¬ (false = true) by decide)] at H; exact H
         clear H
         have H := H1
         clear H1
         by_cases c19 : x5_2 > 65536
         ·
          rw [if_pos c19] at H
          have c19b0 : decide (65536 < x5_2) = true := decide_eq_true c19
          clear c19
          simp only [Option.some.injEq, Prod.mk.injEq] at H
          obtain ⟨rfl, rfl⟩ := H
          go_wp2
          go_ret2
          exact ⟨erq, bq⟩
         ·
          rw [if_neg c19] at H
          have c19b0 : decide (65536 < x5_2) = false := decide_eq_false c19
          clear c19
          have H' := Aside0.mk H
          clear H
          go_wp2
          go_loopg [7, 8] kj7 (fun kq v7 v8 w' => ∃ (x7_4 : List Int) (x8_4 : Int), v8 = .int .i64 x8_4 ∧ Aside0 (latchkeyref05_Print.l2 kq l0 x7_4 x8_4 = some (r1, r2)) ∧ Aside0 (kq ≤ kj7) ∧ Aside0 (Kd.R (Kd.int .u8) 5 w' w.heap.size (fun _ => True) v7 x7_4) ∧ Aside0 (Below w.heap.size w w'))
          case atStart => exact ⟨(([] : List Int)), (0), (by first | rfl | (simp; done) | (simp [*]; done)), H', ⟨Nat.le_refl _⟩, ⟨by first | exact Kd.R_nil _ _ _ _ _ | exact Kd.N_nil _ _ _ _ _ | exact Kd.V_nil _ _ _ _ _ | exact Kd.Q_nil _ _ _ _ _ | exact Kd.S_nil _ _ _ _ _⟩, ⟨bq⟩⟩
          case round =>
           clear H'
           (try clear c1); (try clear c2); (try clear c2b0); (try clear p2); (try clear c3); (try clear c3b0); (try clear p4); (try clear q4); (try clear hx4); (try clear c5); (try clear p6); (try clear c9); (try clear c9b0); (try clear c10); (try clear c11); (try clear c11b0); (try clear c12); (try clear c12b0); (try clear c13); (try clear c13b0); (try clear c13b1); (try clear c14); (try clear c14b0); (try clear c15); (try clear c15b0); (try clear c15b1); (try clear c17); (try clear c17b0); (try clear c17b1); (try clear c19); (try clear c19b0); (try clear hx413_0); (try clear hx413_1); (try clear hx413_2); (try clear hx413_3); (try clear hx415_0); (try clear hx415_1); (try clear hx415_2); (try clear hx415_3); (try clear hx416_0); (try clear hx416_1); (try clear hx416_2); (try clear hx416_3); (try clear hx417_0); (try clear hx417_1); (try clear hx417_2); (try clear hx417_3); (try clear hx419_0); (try clear hx419_1); (try clear hx419_2); (try clear hx419_3); (try clear hx420_0); (try clear hx420_1); (try clear hx420_2); (try clear hx420_3); (try clear hx421_0); (try clear hx421_1); (try clear hx421_2); (try clear hx421_3); (try clear hx423_0); (try clear hx423_1); (try clear hx423_2); (try clear hx423_3); (try clear p2); (try clear p4); (try clear p413); (try clear p415); (try clear p416); (try clear p417); (try clear p419); (try clear p420); (try clear p421); (try clear p423); (try clear p6); (try clear q4); (try clear q413); (try clear q415); (try clear q416); (try clear q417); (try clear q419); (try clear q420); (try clear q421); (try clear q423)
           obtain ⟨x7_4, x8_4, rfl, HA, HK4, HO_7, HB⟩ := hrel
           cases gk with
           | zero => exact absurd HA.out (by simp [latchkeyref05_Print.l2])
           | succ k4 =>
            have H := HA.out
            clear HA
            simp only [latchkeyref05_Print.l2] at H
            by_cases c20 : x8_4 < (l0.length : Int)
            ·
             rw [if_pos c20] at H
             have c20b0 : decide (x8_4 < (l0.length : Int)) = true := decide_eq_true c20
             clear c20
             by_cases c21 : 0 ≤ x8_4
             ·
              rw [if_pos c21] at H
              have c21b0 : decide (0 ≤ x8_4) = true := decide_eq_true c21
              clear c21
              by_cases c22 : ((rd_T37 l0 x8_4).f0) = 7
              ·
               rw [if_pos c22] at H
               have c22b0 : (((rd_T37 l0 x8_4).f0) == 7) = true := beq_iff_eq.mpr c22
               have c22b1 : (((rd_T37 l0 x8_4).f0) != 7) = false := bne_eq_false_iff_eq.mpr c22
               clear c22
               have H' := Aside0.mk H
               clear H
               have p424 : 0 ≤ (x8_4 : Int) := of_decide_eq_true azq
               have q424 : x8_4 < (l0.length : Int) := of_decide_eq_true azq
               obtain ⟨ad424, e424, hx424_0, hx424_1, hx424_2, hx424_3⟩ := at_T37 HR0.out x8_4 p424 q424
               cases e424
               replace hx424_0 := (HB.out.cell (World.block_lt_of_cell? w _ hx424_0)).trans hx424_0
               replace hx424_1 := (HB.out.cell (World.block_lt_of_cell? w _ hx424_1)).trans hx424_1
               replace hx424_2 := (HB.out.cell (World.block_lt_of_cell? w _ hx424_2)).trans hx424_2
               replace hx424_3 := (HB.out.cell (World.block_lt_of_cell? w _ hx424_3)).trans hx424_3
               replace p424 := eq_true p424
               replace q424 := eq_true q424
               go_wp2
               go_roundg k4
               case measure => have := HK1.out; have := HK2.out; have := HJ7.out; have := HK4.out; omega
               case rel => exact ⟨(x7_4), (wrap64 (x8_4 + 1)), (by first | rfl | (simp; done) | (simp [*]; done)), H', ⟨by have := HK1.out; have := HK2.out; have := HJ7.out; have := HK4.out; omega⟩, ⟨rxq HO_7.out⟩, ⟨bq⟩⟩
              ·
               rw [if_neg c22] at H
               have c22b0 : (((rd_T37 l0 x8_4).f0) == 7) = false := beq_eq_false_iff_ne.mpr c22
               have c22b1 : (((rd_T37 l0 x8_4).f0) != 7) = true := bne_iff_ne.mpr c22
               have HC23 := Aside0.mk H
               clear H
               have p424 : 0 ≤ (x8_4 : Int) := of_decide_eq_true azq
               have q424 : x8_4 < (l0.length : Int) := of_decide_eq_true azq
               obtain ⟨ad424, e424, hx424_0, hx424_1, hx424_2, hx424_3⟩ := at_T37 HR0.out x8_4 p424 q424
               cases e424
               replace hx424_0 := (HB.out.cell (World.block_lt_of_cell? w _ hx424_0)).trans hx424_0
               replace hx424_1 := (HB.out.cell (World.block_lt_of_cell? w _ hx424_1)).trans hx424_1
               replace hx424_2 := (HB.out.cell (World.block_lt_of_cell? w _ hx424_2)).trans hx424_2
               replace hx424_3 := (HB.out.cell (World.block_lt_of_cell? w _ hx424_3)).trans hx424_3
               replace p424 := eq_true p424
               replace q424 := eq_true q424
               go_upto_if 85 with (fail)
               go_cut [7] (fun v7 wc => ∃ (kq : Nat) (x7_22 : List Int), Aside0 (latchkeyref05_Print.j4 kq l0 x7_22 x8_4 = some (r1, r2)) ∧ Aside0 (kq ≤ k4) ∧ Aside0 (Kd.R (Kd.int .u8) 5 wc w.heap.size (fun _ => True) v7 x7_22) ∧ Aside0 (Below w.heap.size w wc))
               case first =>
                have H := HC23.out
                clear HC23
                by_cases c24 : x8_4 > 0
                ·
                 rw [if_pos c24] at H
                 have c24b0 : decide (0 < x8_4) = true := decide_eq_true c24
                 clear c24
                 (first | rw [c24b0] | (simp only [i64_w, i32_w]; rw [c24b0]) | skip)
                 by_cases c25 : x7_4.length < 140737488355328
                 ·
                  rw [if_pos c25] at H
                  have LMc25 := Aside0.mk c25
                  clear c25
                  obtain ⟨y425, hy425⟩ : ∃ y_ : List Int, y_ = (x7_4 ++ [32]) := ⟨_, rfl⟩
                  replace H : (latchkeyref05_Print.j4 k4 l0 y425 x8_4) = some (r1, r2) := by first | (rw [hy425]; with_reducible exact H) | (have H2_ := (Option.bind_some _ _).symm.trans H; rw [hy425]; with_reducible exact H2_) | (have H2_ := (Option.bind_some _ _).symm.trans H; with_reducible exact H2_) | with_reducible exact H | (rw [hy425]; exact H) | exact H
                  have Ny425 := Aside0.mk hy425
                  clear hy425
                  have H' := Aside0.mk H
                  clear H
                  go_wp2_with (first | ((with_reducible refine gate_builtin (b := .append) (xs := #[.tmp 86, .tmp 87]) rfl ?_); at_builtin; refine Kd.R_append (Kd.int .u8) (w0 := w) w.heap.size rfl (.tmp 86) (.tmp 87) 35 5 (.int .u8 0) 1 rfl Tryd.underlying35 info5 rfl (by decide) (by omega) u7 x7_4 32 [.int .u8 32] (fun _ => True) (fun _ => False) rfl rfl ?aP (fun _ hk => hk.elim) ?aF ?aO ?aB ?aS ?aL ?_; (case aP => exact rfl); (case aB => exact bq); (case aF => exact (fun _ _ => trivial)); (case aO => exact (rxq HO_7.out)); (case aS => exact (below_size bq)); (case aL => have := LMc25.out; omega); intro v426 w26 ho hb hg hat; rw [← Ny425.out] at ho; have n0_ := Aside0.mk (hb); have n1_ := Aside0.mk (ho); clear HB; clear HO_7; have HB := n0_; have HO427 := n1_; clear n0_ n1_; clear ho hb hg hat))
                  go_meet
                  case rel => exact ⟨_, (y425), H', ⟨by have := HK1.out; have := HK2.out; have := HJ7.out; have := HK4.out; first | omega | exact Nat.le_refl _⟩, ⟨rxq HO427.out⟩, ⟨bq⟩⟩
                 ·
                  rw [if_neg c25] at H
                  exact absurd H (by simp)
                ·
                 rw [if_neg c24] at H
                 have c24b0 : decide (0 < x8_4) = false := decide_eq_false c24
                 clear c24
                 (first | rw [c24b0] | (simp only [i64_w, i32_w]; rw [c24b0]) | skip)
                 have H' := Aside0.mk H
                 clear H
                 go_wp2
                 go_meet
                 case rel => exact ⟨_, (x7_4), H', ⟨by have := HK1.out; have := HK2.out; have := HJ7.out; have := HK4.out; first | omega | exact Nat.le_refl _⟩, ⟨rxq HO_7.out⟩, ⟨bq⟩⟩
               case rest =>
                clear HC23
                (try clear c1); (try clear c2); (try clear c2b0); (try clear p2); (try clear c3); (try clear c3b0); (try clear p4); (try clear q4); (try clear hx4); (try clear c5); (try clear p6); (try clear c9); (try clear c9b0); (try clear c10); (try clear c11); (try clear c11b0); (try clear c12); (try clear c12b0); (try clear c13); (try clear c13b0); (try clear c13b1); (try clear c14); (try clear c14b0); (try clear c15); (try clear c15b0); (try clear c15b1); (try clear c17); (try clear c17b0); (try clear c17b1); (try clear c19); (try clear c19b0); (try clear c20); (try clear c20b0); (try clear c21); (try clear c21b0); (try clear c22); (try clear c22b0); (try clear c22b1); (try clear c24); (try clear c24b0); (try clear c25); (try clear hx413_0); (try clear hx413_1); (try clear hx413_2); (try clear hx413_3); (try clear hx415_0); (try clear hx415_1); (try clear hx415_2); (try clear hx415_3); (try clear hx416_0); (try clear hx416_1); (try clear hx416_2); (try clear hx416_3); (try clear hx417_0); (try clear hx417_1); (try clear hx417_2); (try clear hx417_3); (try clear hx419_0); (try clear hx419_1); (try clear hx419_2); (try clear hx419_3); (try clear hx420_0); (try clear hx420_1); (try clear hx420_2); (try clear hx420_3); (try clear hx421_0); (try clear hx421_1); (try clear hx421_2); (try clear hx421_3); (try clear hx423_0); (try clear hx423_1); (try clear hx423_2); (try clear hx423_3); (try clear hx424_0); (try clear hx424_1); (try clear hx424_2); (try clear hx424_3); (try clear p2); (try clear p4); (try clear p413); (try clear p415); (try clear p416); (try clear p417); (try clear p419); (try clear p420); (try clear p421); (try clear p423); (try clear p424); (try clear p6); (try clear q4); (try clear q413); (try clear q415); (try clear q416); (try clear q417); (try clear q419); (try clear q420); (try clear q421); (try clear q423); (try clear q424)
                obtain ⟨kq, x7_22, HA, HJ22, HO_7, HB⟩ := hcut
                cases kq with
                | zero => exact absurd HA.out (by simp [latchkeyref05_Print.j4])
                | succ kj22 =>
                 have H := HA.out
                 clear HA
                 simp only [latchkeyref05_Print.j4] at H
                 by_cases c27 : 0 ≤ x8_4
                 ·
                  rw [if_pos c27] at H
                  have c27b0 : decide (0 ≤ x8_4) = true := decide_eq_true c27
                  clear c27
                  by_cases c28 : x8_4 < (l0.length : Int)
                  ·
                   rw [if_pos c28] at H
                   have c28b0 : decide (x8_4 < (l0.length : Int)) = true := decide_eq_true c28
                   clear c28
                   have HC29 := Aside0.mk H
                   clear H
                   have p428 : 0 ≤ (x8_4 : Int) := of_decide_eq_true azq
                   have q428 : x8_4 < (l0.length : Int) := of_decide_eq_true azq
                   obtain ⟨ad428, e428, hx428_0, hx428_1, hx428_2, hx428_3⟩ := at_T37 HR0.out x8_4 p428 q428
                   obtain rfl : ad424 = ad428 := (by injection e428)
                   replace hx428_0 := (HB.out.cell (World.block_lt_of_cell? w _ hx428_0)).trans hx428_0
                   replace hx428_1 := (HB.out.cell (World.block_lt_of_cell? w _ hx428_1)).trans hx428_1
                   replace hx428_2 := (HB.out.cell (World.block_lt_of_cell? w _ hx428_2)).trans hx428_2
                   replace hx428_3 := (HB.out.cell (World.block_lt_of_cell? w _ hx428_3)).trans hx428_3
                   replace p428 := eq_true p428
                   replace q428 := eq_true q428
                   have p429 : 0 ≤ (x8_4 : Int) := of_decide_eq_true azq
                   have q429 : x8_4 < (l0.length : Int) := of_decide_eq_true azq
                   obtain ⟨ad429, e429, hx429_0, hx429_1, hx429_2, hx429_3⟩ := at_T37 HR0.out x8_4 p429 q429
                   obtain rfl : ad424 = ad429 := (by injection e429)
                   replace hx429_0 := (HB.out.cell (World.block_lt_of_cell? w _ hx429_0)).trans hx429_0
                   replace hx429_1 := (HB.out.cell (World.block_lt_of_cell? w _ hx429_1)).trans hx429_1
                   replace hx429_2 := (HB.out.cell (World.block_lt_of_cell? w _ hx429_2)).trans hx429_2
                   replace hx429_3 := (HB.out.cell (World.block_lt_of_cell? w _ hx429_3)).trans hx429_3
                   replace p429 := eq_true p429
                   replace q429 := eq_true q429
                   go_upto_if 99 with (fail)
                   go_cut [9] (fun v9 wc => ∃ (kq : Nat) (x9_28 : ByteArray), v9 = .string x9_28 ∧ Aside0 (latchkeyref05_Print.j5 kq l0 x7_22 x8_4 x9_28 = some (r1, r2)) ∧ Aside0 (kq ≤ kj22) ∧ Aside0 (Kd.R (Kd.int .u8) 5 wc w.heap.size (fun _ => True) u7 x7_22) ∧ Aside0 (Below w.heap.size w wc))
                   case first =>
                    have H := HC29.out
                    clear HC29
                    by_cases c30 : ((rd_T37 l0 x8_4).f0) = 5
                    ·
                     rw [if_pos c30] at H
                     have c30b0 : (((rd_T37 l0 x8_4).f0) == 5) = true := beq_iff_eq.mpr c30
                     have c30b1 : (((rd_T37 l0 x8_4).f0) != 5) = false := bne_eq_false_iff_eq.mpr c30
                     clear c30
                     (first | rw [c30b0] | (simp only [i64_w, i32_w]; rw [c30b0]) | skip)
                     replace H := Option.bind_eq_some_iff.mp H
                     obtain ⟨t430, A310, H⟩ := H
                     replace H : (latchkeyref05_Print.j5 kj22 l0 x7_22 x8_4 t430) = some (r1, r2) := H
                     have A31 := Aside0.mk A310
                     clear A310
                     have H' := Aside0.mk H
                     clear H
                     go_wp2_with (first | ((with_reducible refine gate_callee (f := 40) rfl ?_); refine goesL_ (some 101) rfl rfl Tryd.func40 (by kernel_rfl) rfl #[.string ((rd_T37 l0 x8_4).f1)] rfl agq ?_; (with_reducible refine (latchkeyref05_Quote.calls kj22 ((rd_T37 l0 x8_4).f1) t430 _ A31.out).mono ?_); rintro e w32 ⟨rfl, hb⟩; refine ⟨_, rfl, ?_⟩; have n0_ := Aside0.mk (Kd.R_below (rxq HO_7.out) hb); have n1_ := Aside0.mk (below_step bq hb); clear HO_7; clear HB; have HO_7 := n0_; have HB := n1_; clear n0_ n1_; (try clear hb); (try clear hb2); (try clear hk); (try clear hi)))
                     go_meet
                     case rel => exact ⟨_, (t430), (by first | rfl | (simp; done) | (simp [*]; done)), H', ⟨by have := HK1.out; have := HK2.out; have := HJ7.out; have := HK4.out; have := HJ22.out; first | omega | exact Nat.le_refl _⟩, ⟨rxq HO_7.out⟩, ⟨bq⟩⟩
                    ·
                     rw [if_neg c30] at H
                     have c30b0 : (((rd_T37 l0 x8_4).f0) == 5) = false := beq_eq_false_iff_ne.mpr c30
                     have c30b1 : (((rd_T37 l0 x8_4).f0) != 5) = true := bne_iff_ne.mpr c30
                     (first | rw [c30b0] | (simp only [i64_w, i32_w]; rw [c30b0]) | skip)
                     have H' := Aside0.mk H
                     clear H
                     go_wp2
                     go_meet
                     case rel => exact ⟨_, ((rd_T37 l0 x8_4).f1), (by first | rfl | (simp; done) | (simp [*]; done)), H', ⟨by have := HK1.out; have := HK2.out; have := HJ7.out; have := HK4.out; have := HJ22.out; first | omega | exact Nat.le_refl _⟩, ⟨rxq HO_7.out⟩, ⟨bq⟩⟩
                   case rest =>
                    clear HC29
                    (try clear c1); (try clear c2); (try clear c2b0); (try clear p2); (try clear c3); (try clear c3b0); (try clear c4); (try clear p4); (try clear q4); (try clear hx4); (try clear c5); (try clear p6); (try clear c9); (try clear c9b0); (try clear c10); (try clear c11); (try clear c11b0); (try clear c12); (try clear c12b0); (try clear c13); (try clear c13b0); (try clear c13b1); (try clear c14); (try clear c14b0); (try clear c15); (try clear c15b0); (try clear c15b1); (try clear c17); (try clear c17b0); (try clear c17b1); (try clear c19); (try clear c19b0); (try clear c20); (try clear c20b0); (try clear c21); (try clear c21b0); (try clear c22); (try clear c22b0); (try clear c22b1); (try clear c24); (try clear c24b0); (try clear c25); (try clear c27); (try clear c27b0); (try clear c28); (try clear c28b0); (try clear c30); (try clear c30b0); (try clear c30b1); (try clear hx413_0); (try clear hx413_1); (try clear hx413_2); (try clear hx413_3); (try clear hx415_0); (try clear hx415_1); (try clear hx415_2); (try clear hx415_3); (try clear hx416_0); (try clear hx416_1); (try clear hx416_2); (try clear hx416_3); (try clear hx417_0); (try clear hx417_1); (try clear hx417_2); (try clear hx417_3); (try clear hx419_0); (try clear hx419_1); (try clear hx419_2); (try clear hx419_3); (try clear hx420_0); (try clear hx420_1); (try clear hx420_2); (try clear hx420_3); (try clear hx421_0); (try clear hx421_1); (try clear hx421_2); (try clear hx421_3); (try clear hx423_0); (try clear hx423_1); (try clear hx423_2); (try clear hx423_3); (try clear hx424_0); (try clear hx424_1); (try clear hx424_2); (try clear hx424_3); (try clear hx428_0); (try clear hx428_1); (try clear hx428_2); (try clear hx428_3); (try clear hx429_0); (try clear hx429_1); (try clear hx429_2); (try clear hx429_3); (try clear p2); (try clear p4); (try clear p413); (try clear p415); (try clear p416); (try clear p417); (try clear p419); (try clear p420); (try clear p421); (try clear p423); (try clear p424); (try clear p428); (try clear p429); (try clear p6); (try clear q4); (try clear q413); (try clear q415); (try clear q416); (try clear q417); (try clear q419); (try clear q420); (try clear q421); (try clear q423); (try clear q424); (try clear q428); (try clear q429)
                    obtain ⟨kq, x9_28, rfl, HA, HJ28, HO_7, HB⟩ := hcut
                    cases kq with
                    | zero => exact absurd HA.out (by simp [latchkeyref05_Print.j5])
                    | succ kj28 =>
                     have H := HA.out
                     clear HA
                     simp only [latchkeyref05_Print.j5] at H
                     have H' := Aside0.mk H
                     clear H
                     go_wp2
                     go_loopg [7, 10] kj28 (fun kq v7 v10 w' => ∃ (x7_7 : List Int) (x10_7 : Int), v10 = .int .i64 x10_7 ∧ Aside0 (latchkeyref05_Print.l3 kq l0 x7_7 x8_4 x9_28 x10_7 = some (r1, r2)) ∧ Aside0 (kq ≤ kj28) ∧ Aside0 (Kd.R (Kd.int .u8) 5 w' w.heap.size (fun _ => True) v7 x7_7) ∧ Aside0 (Below w.heap.size w w'))
                     case atStart => exact ⟨(x7_22), (0), (by first | rfl | (simp; done) | (simp [*]; done)), H', ⟨Nat.le_refl _⟩, ⟨rxq HO_7.out⟩, ⟨bq⟩⟩
                     case round =>
                      clear H'
                      (try clear c1); (try clear c2); (try clear c2b0); (try clear p2); (try clear c3); (try clear c3b0); (try clear c4); (try clear p4); (try clear q4); (try clear hx4); (try clear c5); (try clear p6); (try clear c9); (try clear c9b0); (try clear c10); (try clear c11); (try clear c11b0); (try clear c12); (try clear c12b0); (try clear c13); (try clear c13b0); (try clear c13b1); (try clear c14); (try clear c14b0); (try clear c15); (try clear c15b0); (try clear c15b1); (try clear c17); (try clear c17b0); (try clear c17b1); (try clear c19); (try clear c19b0); (try clear c20); (try clear c20b0); (try clear c21); (try clear c21b0); (try clear c22); (try clear c22b0); (try clear c22b1); (try clear c24); (try clear c24b0); (try clear c25); (try clear c27); (try clear c27b0); (try clear c28); (try clear c28b0); (try clear c30); (try clear c30b0); (try clear c30b1); (try clear hx413_0); (try clear hx413_1); (try clear hx413_2); (try clear hx413_3); (try clear hx415_0); (try clear hx415_1); (try clear hx415_2); (try clear hx415_3); (try clear hx416_0); (try clear hx416_1); (try clear hx416_2); (try clear hx416_3); (try clear hx417_0); (try clear hx417_1); (try clear hx417_2); (try clear hx417_3); (try clear hx419_0); (try clear hx419_1); (try clear hx419_2); (try clear hx419_3); (try clear hx420_0); (try clear hx420_1); (try clear hx420_2); (try clear hx420_3); (try clear hx421_0); (try clear hx421_1); (try clear hx421_2); (try clear hx421_3); (try clear hx423_0); (try clear hx423_1); (try clear hx423_2); (try clear hx423_3); (try clear hx424_0); (try clear hx424_1); (try clear hx424_2); (try clear hx424_3); (try clear hx428_0); (try clear hx428_1); (try clear hx428_2); (try clear hx428_3); (try clear hx429_0); (try clear hx429_1); (try clear hx429_2); (try clear hx429_3); (try clear p2); (try clear p4); (try clear p413); (try clear p415); (try clear p416); (try clear p417); (try clear p419); (try clear p420); (try clear p421); (try clear p423); (try clear p424); (try clear p428); (try clear p429); (try clear p6); (try clear q4); (try clear q413); (try clear q415); (try clear q416); (try clear q417); (try clear q419); (try clear q420); (try clear q421); (try clear q423); (try clear q424); (try clear q428); (try clear q429)
                      obtain ⟨x7_7, x10_7, rfl, HA, HK7, HO_7, HB⟩ := hrel
                      cases gk with
                      | zero => exact absurd HA.out (by simp [latchkeyref05_Print.l3])
                      | succ k7 =>
                       have H := HA.out
                       clear HA
                       simp only [latchkeyref05_Print.l3] at H
                       by_cases c33 : x10_7 < (x9_28.size : Int)
                       ·
                        rw [if_pos c33] at H
                        have c33b0 : decide (x10_7 < (x9_28.size : Int)) = true := decide_eq_true c33
                        clear c33
                        by_cases c34 : 0 ≤ x10_7
                        ·
                         rw [if_pos c34] at H
                         have c34b0 : decide (0 ≤ x10_7) = true := decide_eq_true c34
                         clear c34
                         by_cases c36 : x7_7.length < 140737488355328
                         ·
                          rw [if_pos c36] at H
                          have LMc36 := Aside0.mk c36
                          clear c36
                          obtain ⟨y431, hy431⟩ : ∃ y_ : List Int, y_ = (x7_7 ++ [bt x9_28 x10_7]) := ⟨_, rfl⟩
                          replace H : (latchkeyref05_Print.l3 k7 l0 y431 x8_4 x9_28 (wrap64 (x10_7 + 1))) = some (r1, r2) := by first | (rw [hy431]; with_reducible exact H) | (have H2_ := (Option.bind_some _ _).symm.trans H; rw [hy431]; with_reducible exact H2_) | (have H2_ := (Option.bind_some _ _).symm.trans H; with_reducible exact H2_) | with_reducible exact H | (rw [hy431]; exact H) | exact H
                          have Ny431 := Aside0.mk hy431
                          clear hy431
                          have H' := Aside0.mk H
                          clear H
                          have p35 : 0 ≤ (x10_7 : Int) := of_decide_eq_true azq
                          have q35 : x10_7 < (x9_28.size : Int) := of_decide_eq_true azq
                          have hx35 := bt_at x9_28 x10_7
                          replace p35 := eq_true p35
                          replace q35 := eq_true q35
                          go_wp2_with (first | ((with_reducible refine gate_builtin (b := .append) (xs := #[.tmp 108, .tmp 112]) rfl ?_); at_builtin; refine Kd.R_append (Kd.int .u8) (w0 := w) w.heap.size rfl (.tmp 108) (.tmp 112) 35 5 (.int .u8 0) 1 rfl Tryd.underlying35 info5 rfl (by decide) (by omega) u7 x7_7 (bt x9_28 x10_7) [.int .u8 (bt x9_28 x10_7)] (fun _ => True) (fun _ => False) rfl rfl ?aP (fun _ hk => hk.elim) ?aF ?aO ?aB ?aS ?aL ?_; (case aP => exact rfl); (case aB => exact bq); (case aF => exact (fun _ _ => trivial)); (case aO => exact (rxq HO_7.out)); (case aS => exact (below_size bq)); (case aL => have := LMc36.out; omega); intro v432 w37 ho hb hg hat; rw [← Ny431.out] at ho; have n0_ := Aside0.mk (hb); have n1_ := Aside0.mk (ho); clear HB; clear HO_7; have HB := n0_; have HO433 := n1_; clear n0_ n1_; clear ho hb hg hat))
                          go_roundg k7
                          case measure => have := HK1.out; have := HK2.out; have := HJ7.out; have := HK4.out; have := HJ22.out; have := HJ28.out; have := HK7.out; omega
                          case rel => exact ⟨(y431), (wrap64 (x10_7 + 1)), (by first | rfl | (simp; done) | (simp [*]; done)), H', ⟨by have := HK1.out; have := HK2.out; have := HJ7.out; have := HK4.out; have := HJ22.out; have := HJ28.out; have := HK7.out; omega⟩, ⟨rxq HO433.out⟩, ⟨bq⟩⟩
                         ·
                          rw [if_neg c36] at H
                          exact absurd H (by simp)
                        ·
                         rw [if_neg c34] at H
                         exact absurd H (by simp)
                       ·
                        rw [if_neg c33] at H
                        have c33b0 : decide (x10_7 < (x9_28.size : Int)) = false := decide_eq_false c33
                        clear c33
                        have H' := Aside0.mk H
                        clear H
                        go_wp2
                        go_roundg k7
                        case measure => have := HK1.out; have := HK2.out; have := HJ7.out; have := HK4.out; have := HJ22.out; have := HJ28.out; have := HK7.out; omega
                        case rel => exact ⟨(x7_7), (wrap64 (x8_4 + 1)), (by first | rfl | (simp; done) | (simp [*]; done)), H', ⟨by have := HK1.out; have := HK2.out; have := HJ7.out; have := HK4.out; have := HJ22.out; have := HJ28.out; have := HK7.out; omega⟩, ⟨rxq HO_7.out⟩, ⟨bq⟩⟩
                  ·
                   rw [if_neg c28] at H
                   exact absurd H (by simp)
                 ·
                  rw [if_neg c27] at H
                  exact absurd H (by simp)
             ·
              rw [if_neg c21] at H
              exact absurd H (by simp)
            ·
             rw [if_neg c20] at H
             have c20b0 : decide (x8_4 < (l0.length : Int)) = false := decide_eq_false c20
             clear c20
             simp only [Option.some.injEq, Prod.mk.injEq] at H
             obtain ⟨rfl, rfl⟩ := H
             have hcv38 := own_string (P := Tryd.prog) Tryd.underlying35 Tryd.underlying5 Tryd.underlying9 (Kd.own_of_R HO_7.out)
             go_wp2
             go_ret2
             exact ⟨erq, bq⟩
end Go.Proofs.YteedjhoffjkhmaaDoor.PT
