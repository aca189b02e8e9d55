import Derived.Test.YteedjhoffjkhmaaDoorPTx0
import Derived.Test.YteedjhoffjkhmaaDoorPTx6
import Derived.Test.YteedjhoffjkhmaaDoorPTx7
import Derived.Test.YteedjhoffjkhmaaDoorPTx10
import Derived.Test.YteedjhoffjkhmaaDoorPTx11
import Derived.Test.YteedjhoffjkhmaaDoorPTx12
namespace Go.Proofs.YteedjhoffjkhmaaDoor.PT
open Go.RowKit Go.Proofs.YteedjhoffjkhmaaDoorW.PrintWords Go.Proofs.YteedjhoffjkhmaaDoorW.PrintLast Go.Proofs.YteedjhoffjkhmaaDoorW.PrintMore
attribute [local go_sem] max2_int min2_int max_two min_two max_three min_three max_four min_four
set_option linter.unusedVariables false
set_option linter.unusedSimpArgs false
mutual
def latchkeyref05_piece.j1 : Nat → ByteArray → Int → Int → Option (Int × ByteArray × Int × Int × Int)
 | 0, _, _, _ => none
 | k + 1, x0, x1, x6 => if 0 ≤ x1 then (if x1 ≤ x6 then (if x6 ≤ (x0.size : Int) then ((latchkeyref05_Word.f k (x0.extract (x1 : Int).toNat (x6 : Int).toNat)).bind fun t206 => (if t206 = true then (some (2, x0.extract (x1 : Int).toNat (x6 : Int).toNat, 0, 0, x6)) else (some (1, x0.extract (x1 : Int).toNat (x6 : Int).toNat, 0, 0, x6)))) else (none)) else (none)) else (none)
def latchkeyref05_piece.l0 : Nat → ByteArray → Int → Int → Option (Int × ByteArray × Int × Int × Int)
 | 0, _, _, _ => none
 | k + 1, x0, x1, x6 => if x6 < (x0.size : Int) then (if 0 ≤ x6 then ((latchkeyref05_within.f (bt x0 x6)).bind fun t205 => (if t205 = true then (latchkeyref05_piece.l0 k x0 x1 (wrap64 (x6 + 1))) else (latchkeyref05_piece.j1 k x0 x1 x6))) else (none)) else (latchkeyref05_piece.j1 k x0 x1 x6)
end
def latchkeyref05_piece.f (k : Nat) (a0 : ByteArray) (a1 : Int) : Option (Int × ByteArray × Int × Int × Int) := if 0 ≤ a1 then (if a1 < (a0.size : Int) then ((latchkeyref05_small.f (bt a0 a1)).bind fun t204 => (if t204 = true then (latchkeyref05_piece.l0 k a0 a1 (wrap64 (a1 + 1))) else ((latchkeyref05_digit.f (bt a0 a1)).bind fun t207 => (if t207 = true then ((latchkeyref05_number.f k a0 a1).bind fun bt208 => (if bt208.2 = true then (if a1 ≤ bt208.1 then (if bt208.1 ≤ (a0.size : Int) then (some (4, a0.extract (a1 : Int).toNat (bt208.1 : Int).toNat, 0, 0, bt208.1)) else (none)) else (none)) else (if a1 ≤ bt208.1 then (if bt208.1 ≤ (a0.size : Int) then (some (3, a0.extract (a1 : Int).toNat (bt208.1 : Int).toNat, 0, 0, bt208.1)) else (none)) else (none)))) else (if (bt a0 a1) = 34 then ((latchkeyref05_quoted.f k a0 a1).bind fun bt210 => (some (5, bt210.2, 0, 0, bt210.1))) else (if (wrap64 (a1 + 1)) < (a0.size : Int) then (if a1 ≤ (wrap64 ((wrap64 (a1 + 1)) + 1)) then (if (wrap64 ((wrap64 (a1 + 1)) + 1)) ≤ (a0.size : Int) then ((latchkeyref05_mark.f k (a0.extract (a1 : Int).toNat ((wrap64 ((wrap64 (a1 + 1)) + 1)) : Int).toNat)).bind fun t212 => (if t212 = true then (some (6, a0.extract (a1 : Int).toNat ((wrap64 ((wrap64 (a1 + 1)) + 1)) : Int).toNat, 0, 0, wrap64 ((wrap64 (a1 + 1)) + 1))) else (if a1 ≤ (wrap64 (a1 + 1)) then (if (wrap64 (a1 + 1)) ≤ (a0.size : Int) then (some (6, a0.extract (a1 : Int).toNat ((wrap64 (a1 + 1)) : Int).toNat, 0, 0, wrap64 (a1 + 1))) else (none)) else (none)))) else (none)) else (none)) else (if a1 ≤ (wrap64 (a1 + 1)) then (if (wrap64 (a1 + 1)) ≤ (a0.size : Int) then (some (6, a0.extract (a1 : Int).toNat ((wrap64 (a1 + 1)) : Int).toNat, 0, 0, wrap64 (a1 + 1))) else (none)) else (none)))))))) else (none)) else (none)
set_option maxHeartbeats 8000000 in
set_option maxRecDepth 100000 in
theorem latchkeyref05_piece.calls (k : Nat) (a0 : ByteArray) (a1 : Int) (r1 : Int) (r2 : ByteArray) (r3 : Int) (r4 : Int) (r5 : Int) (w : World) (h : latchkeyref05_piece.f k a0 a1 = some (r1, r2, r3, r4, r5)) :
  Calls Tryd.prog 33 #[.string a0, .int .i64 a1] w fun e w' => e = .returned (.tuple #[.agg #[.int .i64 r1, .string r2, .int .i64 r3, .int .i64 r4], .int .i64 r5]) ∧ Below w.heap.size w w' := by
 have hu37 := Tryd.underlying37
 have HB := Aside0.mk (Below.refl w.heap.size w)
 have H : (if 0 ≤ a1 then (if a1 < (a0.size : Int) then ((latchkeyref05_small.f (bt a0 a1)).bind fun t204 => (if t204 = true then (latchkeyref05_piece.l0 k a0 a1 (wrap64 (a1 + 1))) else ((latchkeyref05_digit.f (bt a0 a1)).bind fun t207 => (if t207 = true then ((latchkeyref05_number.f k a0 a1).bind fun bt208 => (if bt208.2 = true then (if a1 ≤ bt208.1 then (if bt208.1 ≤ (a0.size : Int) then (some (4, a0.extract (a1 : Int).toNat (bt208.1 : Int).toNat, 0, 0, bt208.1)) else (none)) else (none)) else (if a1 ≤ bt208.1 then (if bt208.1 ≤ (a0.size : Int) then (some (3, a0.extract (a1 : Int).toNat (bt208.1 : Int).toNat, 0, 0, bt208.1)) else (none)) else (none)))) else (if (bt a0 a1) = 34 then ((latchkeyref05_quoted.f k a0 a1).bind fun bt210 => (some (5, bt210.2, 0, 0, bt210.1))) else (if (wrap64 (a1 + 1)) < (a0.size : Int) then (if a1 ≤ (wrap64 ((wrap64 (a1 + 1)) + 1)) then (if (wrap64 ((wrap64 (a1 + 1)) + 1)) ≤ (a0.size : Int) then ((latchkeyref05_mark.f k (a0.extract (a1 : Int).toNat ((wrap64 ((wrap64 (a1 + 1)) + 1)) : Int).toNat)).bind fun t212 => (if t212 = true then (some (6, a0.extract (a1 : Int).toNat ((wrap64 ((wrap64 (a1 + 1)) + 1)) : Int).toNat, 0, 0, wrap64 ((wrap64 (a1 + 1)) + 1))) else (if a1 ≤ (wrap64 (a1 + 1)) then (if (wrap64 (a1 + 1)) ≤ (a0.size : Int) then (some (6, a0.extract (a1 : Int).toNat ((wrap64 (a1 + 1)) : Int).toNat, 0, 0, wrap64 (a1 + 1))) else (none)) else (none)))) else (none)) else (none)) else (if a1 ≤ (wrap64 (a1 + 1)) then (if (wrap64 (a1 + 1)) ≤ (a0.size : Int) then (some (6, a0.extract (a1 : Int).toNat ((wrap64 (a1 + 1)) : Int).toNat, 0, 0, wrap64 (a1 + 1))) else (none)) else (none)))))))) else (none)) else (none)) = some (r1, r2, r3, r4, r5) := h
 clear h
 by_cases c3 : 0 ≤ a1
 ·
  rw [if_pos c3] at H
  have c3b0 : decide (0 ≤ a1) = true := decide_eq_true c3
  clear c3
  by_cases c4 : a1 < (a0.size : Int)
  ·
   rw [if_pos c4] at H
   have c4b0 : decide (a1 < (a0.size : Int)) = true := decide_eq_true c4
   clear c4
   replace H := Option.bind_eq_some_iff.mp H
   obtain ⟨t204, A60, H⟩ := H
   replace H : (if t204 = true then (latchkeyref05_piece.l0 k a0 a1 (wrap64 (a1 + 1))) else ((latchkeyref05_digit.f (bt a0 a1)).bind fun t207 => (if t207 = true then ((latchkeyref05_number.f k a0 a1).bind fun bt208 => (if bt208.2 = true then (if a1 ≤ bt208.1 then (if bt208.1 ≤ (a0.size : Int) then (some (4, a0.extract (a1 : Int).toNat (bt208.1 : Int).toNat, 0, 0, bt208.1)) else (none)) else (none)) else (if a1 ≤ bt208.1 then (if bt208.1 ≤ (a0.size : Int) then (some (3, a0.extract (a1 : Int).toNat (bt208.1 : Int).toNat, 0, 0, bt208.1)) else (none)) else (none)))) else (if (bt a0 a1) = 34 then ((latchkeyref05_quoted.f k a0 a1).bind fun bt210 => (some (5, bt210.2, 0, 0, bt210.1))) else (if (wrap64 (a1 + 1)) < (a0.size : Int) then (if a1 ≤ (wrap64 ((wrap64 (a1 + 1)) + 1)) then (if (wrap64 ((wrap64 (a1 + 1)) + 1)) ≤ (a0.size : Int) then ((latchkeyref05_mark.f k (a0.extract (a1 : Int).toNat ((wrap64 ((wrap64 (a1 + 1)) + 1)) : Int).toNat)).bind fun t212 => (if t212 = true then (some (6, a0.extract (a1 : Int).toNat ((wrap64 ((wrap64 (a1 + 1)) + 1)) : Int).toNat, 0, 0, wrap64 ((wrap64 (a1 + 1)) + 1))) else (if a1 ≤ (wrap64 (a1 + 1)) then (if (wrap64 (a1 + 1)) ≤ (a0.size : Int) then (some (6, a0.extract (a1 : Int).toNat ((wrap64 (a1 + 1)) : Int).toNat, 0, 0, wrap64 (a1 + 1))) else (none)) else (none)))) else (none)) else (none)) else (if a1 ≤ (wrap64 (a1 + 1)) then (if (wrap64 (a1 + 1)) ≤ (a0.size : Int) then (some (6, a0.extract (a1 : Int).toNat ((wrap64 (a1 + 1)) : Int).toNat, 0, 0, wrap64 (a1 + 1))) else (none)) else (none))))))) = some (r1, r2, r3, r4, r5) := H
   have A6 := Aside0.mk A60
   clear A60
   by_cases c7 : t204 = true
   ·
    subst c7
    have H1 : (latchkeyref05_piece.l0 k a0 a1 (wrap64 (a1 + 1))) = some (r1, r2, r3, r4, r5) := by rw [if_pos rfl] at H; exact H
    clear H
    have H := H1
    clear H1
    have HC8 := Aside0.mk H
    clear H
    go_enter Tryd.func33, Tryd.ntmps33
    go_upto_block 1 with (first | ((with_reducible refine gate_dst (N := 4) rfl ?_); refine box_event ?hg (N := 4) ?hd (cs := #[.int .i64 0, .string (⟨#[]⟩ : ByteArray), .int .i64 0, .int .i64 0]) (t := 37) ?hr ?_; (case hd => rfl); (case hg => rfl); (case hr => first | (go_simp; done) | (go_simp; rfl)); intro gb203 hg w9 hbox hb; have n0_ := Aside0.mk (below_step bq hb); have n1_ := Aside0.mk (hbox); have n2_ := Aside0.mk ((by rw [hg]; exact (below_size bq) : w.heap.size ≤ gb203)); have n3_ := Aside0.mk ((by rw [hg]; exact (below_size bq) : w.heap.size ≤ gb203)); clear HB; have HB := n0_; have BK203 := n1_; have GW203 := n2_; have GE203 := n3_; clear n0_ n1_ n2_ n3_; clear hb hbox hg; have p5 : 0 ≤ (a1 : Int) := of_decide_eq_true azq; have q5 : a1 < (a0.size : Int) := of_decide_eq_true azq; have hx5 := bt_at a0 a1; replace p5 := eq_true p5; replace q5 := eq_true q5) | ((with_reducible refine gate_callee (f := 53) rfl ?_); refine goesL_ (some 17) rfl rfl Tryd.func53 (by kernel_rfl) rfl #[.int .u8 (bt a0 a1)] rfl agq ?_; (with_reducible refine (latchkeyref05_small.calls (bt a0 a1) true _ A6.out).mono ?_); rintro e w' ⟨rfl, ⟨nd, rfl⟩⟩; refine ⟨_, rfl, ?_⟩))
    (try simp only [Act.put, List.setIfInBounds_toArray, List.set_cons_zero, List.set_cons_succ])
    go_cut [6] (fun v6 wc => ∃ (kq : Nat) (x6_7 : Int), v6 = .int .i64 x6_7 ∧ Aside0 (latchkeyref05_piece.j1 kq a0 a1 x6_7 = some (r1, r2, r3, r4, r5)) ∧ Aside0 (kq ≤ k) ∧ Aside0 (wc.heap[gb203]? = some (.cells #[.int .i64 0, .string (⟨#[]⟩ : ByteArray), .int .i64 0, .int .i64 0] 37 (0, 0))) ∧ Aside0 (Below w.heap.size w wc))
    case first =>
     have H := HC8.out
     clear HC8
     have H' := Aside0.mk H
     clear H
     go_wp2
     go_loopg [6] k (fun kq v6 w' => ∃ (x6_1 : Int), v6 = .int .i64 x6_1 ∧ Aside0 (latchkeyref05_piece.l0 kq a0 a1 x6_1 = some (r1, r2, r3, r4, r5)) ∧ Aside0 (kq ≤ k) ∧ Aside0 (w'.heap[gb203]? = some (.cells #[.int .i64 0, .string (⟨#[]⟩ : ByteArray), .int .i64 0, .int .i64 0] 37 (0, 0))) ∧ Aside0 (Below w.heap.size w w'))
     case atStart => exact ⟨(wrap64 (a1 + 1)), (by first | rfl | (simp; done) | (simp [*]; done)), H', ⟨Nat.le_refl _⟩, ⟨by (with_reducible repeat (first | refine blk_drewN ?_ _ | refine blk_drew ?_ | refine blk_alloc ?_ _)); exact BK203.out⟩, ⟨g7q⟩⟩
     case round =>
      clear H'
      (try clear p2); (try clear c3); (try clear c3b0); (try clear c4); (try clear c4b0); (try clear c5); (try clear p5); (try clear q5); (try clear hx5); (try clear p6); (try clear c7); (try clear p5); (try clear q5)
      obtain ⟨x6_1, rfl, HA, HK1, BK203, HB⟩ := hrel
      cases gk with
      | zero => exact absurd HA.out (by simp [latchkeyref05_piece.l0])
      | succ k1 =>
       have H := HA.out
       clear HA
       simp only [latchkeyref05_piece.l0] at H
       by_cases c10 : x6_1 < (a0.size : Int)
       ·
        rw [if_pos c10] at H
        have c10b0 : decide (x6_1 < (a0.size : Int)) = true := decide_eq_true c10
        clear c10
        (first | rw [c10b0] | (simp only [i64_w, i32_w]; rw [c10b0]) | skip)
        by_cases c11 : 0 ≤ x6_1
        ·
         rw [if_pos c11] at H
         have c11b0 : decide (0 ≤ x6_1) = true := decide_eq_true c11
         clear c11
         replace H := Option.bind_eq_some_iff.mp H
         obtain ⟨t205, A130, H⟩ := H
         replace H : (if t205 = true then (latchkeyref05_piece.l0 k1 a0 a1 (wrap64 (x6_1 + 1))) else (latchkeyref05_piece.j1 k1 a0 a1 x6_1)) = some (r1, r2, r3, r4, r5) := H
         have A13 := Aside0.mk A130
         clear A130
         by_cases c14 : t205 = true
         ·
          subst c14
          have H1 : (latchkeyref05_piece.l0 k1 a0 a1 (wrap64 (x6_1 + 1))) = some (r1, r2, r3, r4, r5) := by rw [if_pos rfl] at H; exact H
          clear H
          have H := H1
          clear H1
          have H' := Aside0.mk H
          clear H
          have p12 : 0 ≤ (x6_1 : Int) := of_decide_eq_true azq
          have q12 : x6_1 < (a0.size : Int) := of_decide_eq_true azq
          have hx12 := bt_at a0 x6_1
          replace p12 := eq_true p12
          replace q12 := eq_true q12
          go_wp2_with (first | (go_at_call 54; (with_reducible refine (latchkeyref05_within.calls (bt a0 x6_1) true _ A13.out).mono ?_); rintro e w' ⟨rfl, ⟨nd, rfl⟩⟩))
          go_roundg k1
          case measure => have := HK1.out; omega
          case rel => exact ⟨(wrap64 (x6_1 + 1)), (by first | rfl | (simp; done) | (simp [*]; done)), H', ⟨by have := HK1.out; omega⟩, ⟨by (with_reducible repeat (first | refine blk_drewN ?_ _ | refine blk_drew ?_ | refine blk_alloc ?_ _)); exact BK203.out⟩, ⟨g7q⟩⟩
         ·
          replace c14 := Bool.eq_false_iff.mpr c14
          subst c14
          have H1 : (latchkeyref05_piece.j1 k1 a0 a1 x6_1) = some (r1, r2, r3, r4, r5) := by rw [if_neg (show ¬ (false = true) by decide)] at H; exact H
          clear H
          have H := H1
          clear H1
          have H' := Aside0.mk H
          clear H
          have p12 : 0 ≤ (x6_1 : Int) := of_decide_eq_true azq
          have q12 : x6_1 < (a0.size : Int) := of_decide_eq_true azq
          have hx12 := bt_at a0 x6_1
          replace p12 := eq_true p12
          replace q12 := eq_true q12
          go_wp2_with (first | (go_at_call 54; (with_reducible refine (latchkeyref05_within.calls (bt a0 x6_1) false _ A13.out).mono ?_); rintro e w' ⟨rfl, ⟨nd, rfl⟩⟩))
          go_meet
          case rel => exact ⟨_, (x6_1), (by first | rfl | (simp; done) | (simp [*]; done)), H', ⟨by have := HK1.out; first | omega | exact Nat.le_refl _⟩, ⟨by (with_reducible repeat (first | refine blk_drewN ?_ _ | refine blk_drew ?_ | refine blk_alloc ?_ _)); exact BK203.out⟩, ⟨g7q⟩⟩
        ·
         rw [if_neg c11] at H
         exact absurd H (by simp)
       ·
        rw [if_neg c10] at H
        have c10b0 : decide (x6_1 < (a0.size : Int)) = false := decide_eq_false c10
        clear c10
        (first | rw [c10b0] | (simp only [i64_w, i32_w]; rw [c10b0]) | skip)
        have H' := Aside0.mk H
        clear H
        go_wp2
        go_meet
        case rel => exact ⟨_, (x6_1), (by first | rfl | (simp; done) | (simp [*]; done)), H', ⟨by have := HK1.out; first | omega | exact Nat.le_refl _⟩, ⟨by (with_reducible repeat (first | refine blk_drewN ?_ _ | refine blk_drew ?_ | refine blk_alloc ?_ _)); exact BK203.out⟩, ⟨g7q⟩⟩
    case rest =>
     clear HC8
     (try clear c1); (try clear p1); (try clear q1); (try clear hx1); (try clear p2); (try clear c3); (try clear c3b0); (try clear c4); (try clear c4b0); (try clear c5); (try clear p5); (try clear q5); (try clear hx5); (try clear p6); (try clear c7); (try clear c10); (try clear c10b0); (try clear c11); (try clear c11b0); (try clear p12); (try clear q12); (try clear hx12); (try clear c14); (try clear p12); (try clear p2); (try clear p5); (try clear p6); (try clear q12); (try clear q5)
     obtain ⟨kq, x6_7, rfl, HA, HJ7, BK203, HB⟩ := hcut
     cases kq with
     | zero => exact absurd HA.out (by simp [latchkeyref05_piece.j1])
     | succ kj7 =>
      have H := HA.out
      clear HA
      simp only [latchkeyref05_piece.j1] at H
      by_cases c15 : 0 ≤ a1
      ·
       rw [if_pos c15] at H
       have c15b0 := eq_true c15
       have c15b1 : decide (0 ≤ a1) = true := decide_eq_true c15
       clear c15
       by_cases c16 : a1 ≤ x6_7
       ·
        rw [if_pos c16] at H
        have c16b0 := eq_true c16
        have c16b1 : decide (a1 ≤ x6_7) = true := decide_eq_true c16
        clear c16
        by_cases c17 : x6_7 ≤ (a0.size : Int)
        ·
         rw [if_pos c17] at H
         have c17b0 := eq_true c17
         have c17b1 : decide (x6_7 ≤ (a0.size : Int)) = true := decide_eq_true c17
         clear c17
         replace H := Option.bind_eq_some_iff.mp H
         obtain ⟨t206, A180, H⟩ := H
         replace H : (if t206 = true then (some (2, a0.extract (a1 : Int).toNat (x6_7 : Int).toNat, 0, 0, x6_7)) else (some (1, a0.extract (a1 : Int).toNat (x6_7 : Int).toNat, 0, 0, x6_7))) = some (r1, r2, r3, r4, r5) := H
         have A18 := Aside0.mk A180
         clear A180
         by_cases c19 : t206 = true
         ·
          subst c19
          have H1 : (some (2, a0.extract (a1 : Int).toNat (x6_7 : Int).toNat, 0, 0, x6_7)) = some (r1, r2, r3, r4, r5) := by rw [if_pos rfl] at H; exact H
          clear H
          have H := H1
          clear H1
          have c20b0 := eq_true (of_decide_eq_true azq : 0 ≤ a1)
          have c21b0 := eq_true (of_decide_eq_true azq : a1 ≤ x6_7)
          have c22b0 := eq_true (of_decide_eq_true azq : x6_7 ≤ (a0.size : Int))
          simp only [Option.some.injEq, Prod.mk.injEq] at H
          obtain ⟨rfl, rfl, rfl, rfl, rfl⟩ := H
          go_wp2_with (first | ((with_reducible refine gate_callee (f := 55) rfl ?_); refine goesL_ (some 34) rfl rfl Tryd.func55 (by kernel_rfl) rfl #[.string (a0.extract (a1 : Int).toNat (x6_7 : Int).toNat)] rfl agq ?_; (with_reducible refine (latchkeyref05_Word.calls kj7 (a0.extract (a1 : Int).toNat (x6_7 : Int).toNat) true _ A18.out).mono ?_); rintro e w23 ⟨rfl, hb⟩; refine ⟨_, rfl, ?_⟩; have n0_ := Aside0.mk (blk_below (g := gb203) (o := .cells #[.int .i64 0, .string (⟨#[]⟩ : ByteArray), .int .i64 0, .int .i64 0] 37 (0, 0)) (bxq BK203.out) hb); have n1_ := Aside0.mk (below_step g7q hb); clear BK203; clear HB; have BK203 := n0_; have HB := n1_; clear n0_ n1_; (try clear hb); (try clear hb2); (try clear hk); (try clear hi); have hcz24_0 : w23.cell? ⟨gb203, 0, none⟩ = some (.int .i64 0) := (blk_cell BK203.out 0).trans rfl; have hcz24_1 : w23.cell? ⟨gb203, 1, none⟩ = some (.string (⟨#[]⟩ : ByteArray)) := (blk_cell BK203.out 1).trans rfl; have hcz24_2 : w23.cell? ⟨gb203, 2, none⟩ = some (.int .i64 0) := (blk_cell BK203.out 2).trans rfl; have hcz24_3 : w23.cell? ⟨gb203, 3, none⟩ = some (.int .i64 0) := (blk_cell BK203.out 3).trans rfl; have hfz24_0 := blk_frozen BK203.out 0; have hfz24_1 := blk_frozen BK203.out 1; have hfz24_2 := blk_frozen BK203.out 2; have hfz24_3 := blk_frozen BK203.out 3))
          refine bodyPost_ret (results_ct rfl _ _ gb203 37 #[.int .i64 2, .string (a0.extract (a1 : Int).toNat (x6_7 : Int).toNat), .int .i64 0, .int .i64 0] (0, 0) _ rfl (by (with_reducible repeat (first | refine blk_drewN ?_ _ | refine blk_drew ?_ | refine blk_alloc ?_ _)); refine blk_put (cs := #[.int .i64 2, .string (a0.extract (a1 : Int).toNat (x6_7 : Int).toNat), .int .i64 0, .int .i64 0]) ?_ 3 _ rfl; (with_reducible repeat (first | refine blk_drewN ?_ _ | refine blk_drew ?_ | refine blk_alloc ?_ _)); refine blk_put (cs := #[.int .i64 2, .string (a0.extract (a1 : Int).toNat (x6_7 : Int).toNat), .int .i64 0, .int .i64 0]) ?_ 2 _ rfl; (with_reducible repeat (first | refine blk_drewN ?_ _ | refine blk_drew ?_ | refine blk_alloc ?_ _)); refine blk_put (cs := #[.int .i64 2, .string (⟨#[]⟩ : ByteArray), .int .i64 0, .int .i64 0]) ?_ 1 _ rfl; (with_reducible repeat (first | refine blk_drewN ?_ _ | refine blk_drew ?_ | refine blk_alloc ?_ _)); refine blk_put (cs := #[.int .i64 0, .string (⟨#[]⟩ : ByteArray), .int .i64 0, .int .i64 0]) ?_ 0 _ rfl; (with_reducible repeat (first | refine blk_drewN ?_ _ | refine blk_drew ?_ | refine blk_alloc ?_ _)); exact BK203.out) Tryd.underlying37 rfl (by kernel_rfl)) rfl ?_
          exact ⟨erq, g7q⟩
         ·
          replace c19 := Bool.eq_false_iff.mpr c19
          subst c19
          have H1 : (some (1, a0.extract (a1 : Int).toNat (x6_7 : Int).toNat, 0, 0, x6_7)) = some (r1, r2, r3, r4, r5) := by rw [if_neg (show ¬ (false = true) by decide)] at H; exact H
          clear H
          have H := H1
          clear H1
          have c25b0 := eq_true (of_decide_eq_true azq : 0 ≤ a1)
          have c26b0 := eq_true (of_decide_eq_true azq : a1 ≤ x6_7)
          have c27b0 := eq_true (of_decide_eq_true azq : x6_7 ≤ (a0.size : Int))
          simp only [Option.some.injEq, Prod.mk.injEq] at H
          obtain ⟨rfl, rfl, rfl, rfl, rfl⟩ := H
          go_wp2_with (first | ((with_reducible refine gate_callee (f := 55) rfl ?_); refine goesL_ (some 34) rfl rfl Tryd.func55 (by kernel_rfl) rfl #[.string (a0.extract (a1 : Int).toNat (x6_7 : Int).toNat)] rfl agq ?_; (with_reducible refine (latchkeyref05_Word.calls kj7 (a0.extract (a1 : Int).toNat (x6_7 : Int).toNat) false _ A18.out).mono ?_); rintro e w28 ⟨rfl, hb⟩; refine ⟨_, rfl, ?_⟩; have n0_ := Aside0.mk (blk_below (g := gb203) (o := .cells #[.int .i64 0, .string (⟨#[]⟩ : ByteArray), .int .i64 0, .int .i64 0] 37 (0, 0)) (bxq BK203.out) hb); have n1_ := Aside0.mk (below_step g7q hb); clear BK203; clear HB; have BK203 := n0_; have HB := n1_; clear n0_ n1_; (try clear hb); (try clear hb2); (try clear hk); (try clear hi); have hcz29_0 : w28.cell? ⟨gb203, 0, none⟩ = some (.int .i64 0) := (blk_cell BK203.out 0).trans rfl; have hcz29_1 : w28.cell? ⟨gb203, 1, none⟩ = some (.string (⟨#[]⟩ : ByteArray)) := (blk_cell BK203.out 1).trans rfl; have hcz29_2 : w28.cell? ⟨gb203, 2, none⟩ = some (.int .i64 0) := (blk_cell BK203.out 2).trans rfl; have hcz29_3 : w28.cell? ⟨gb203, 3, none⟩ = some (.int .i64 0) := (blk_cell BK203.out 3).trans rfl; have hfz29_0 := blk_frozen BK203.out 0; have hfz29_1 := blk_frozen BK203.out 1; have hfz29_2 := blk_frozen BK203.out 2; have hfz29_3 := blk_frozen BK203.out 3))
          refine bodyPost_ret (results_ct rfl _ _ gb203 37 #[.int .i64 1, .string (a0.extract (a1 : Int).toNat (x6_7 : Int).toNat), .int .i64 0, .int .i64 0] (0, 0) _ rfl (by (with_reducible repeat (first | refine blk_drewN ?_ _ | refine blk_drew ?_ | refine blk_alloc ?_ _)); refine blk_put (cs := #[.int .i64 1, .string (a0.extract (a1 : Int).toNat (x6_7 : Int).toNat), .int .i64 0, .int .i64 0]) ?_ 3 _ rfl; (with_reducible repeat (first | refine blk_drewN ?_ _ | refine blk_drew ?_ | refine blk_alloc ?_ _)); refine blk_put (cs := #[.int .i64 1, .string (a0.extract (a1 : Int).toNat (x6_7 : Int).toNat), .int .i64 0, .int .i64 0]) ?_ 2 _ rfl; (with_reducible repeat (first | refine blk_drewN ?_ _ | refine blk_drew ?_ | refine blk_alloc ?_ _)); refine blk_put (cs := #[.int .i64 1, .string (⟨#[]⟩ : ByteArray), .int .i64 0, .int .i64 0]) ?_ 1 _ rfl; (with_reducible repeat (first | refine blk_drewN ?_ _ | refine blk_drew ?_ | refine blk_alloc ?_ _)); refine blk_put (cs := #[.int .i64 0, .string (⟨#[]⟩ : ByteArray), .int .i64 0, .int .i64 0]) ?_ 0 _ rfl; (with_reducible repeat (first | refine blk_drewN ?_ _ | refine blk_drew ?_ | refine blk_alloc ?_ _)); exact BK203.out) Tryd.underlying37 rfl (by kernel_rfl)) rfl ?_
          exact ⟨erq, g7q⟩
        ·
         rw [if_neg c17] at H
         exact absurd H (by simp)
       ·
        rw [if_neg c16] at H
        exact absurd H (by simp)
      ·
       rw [if_neg c15] at H
       exact absurd H (by simp)
   ·
    replace c7 := Bool.eq_false_iff.mpr c7
    subst c7
    have H1 : ((latchkeyref05_digit.f (bt a0 a1)).bind fun t207 => (if t207 = true then ((latchkeyref05_number.f k a0 a1).bind fun bt208 => (if bt208.2 = true then (if a1 ≤ bt208.1 then (if bt208.1 ≤ (a0.size : Int) then (some (4, a0.extract (a1 : Int).toNat (bt208.1 : Int).toNat, 0, 0, bt208.1)) else (none)) else (none)) else (if a1 ≤ bt208.1 then (if bt208.1 ≤ (a0.size : Int) then (some (3, a0.extract (a1 : Int).toNat (bt208.1 : Int).toNat, 0, 0, bt208.1)) else (none)) else (none)))) else (if (bt a0 a1) = 34 then ((latchkeyref05_quoted.f k a0 a1).bind fun bt210 => (some (5, bt210.2, 0, 0, bt210.1))) else (if (wrap64 (a1 + 1)) < (a0.size : Int) then (if a1 ≤ (wrap64 ((wrap64 (a1 + 1)) + 1)) then (if (wrap64 ((wrap64 (a1 + 1)) + 1)) ≤ (a0.size : Int) then ((latchkeyref05_mark.f k (a0.extract (a1 : Int).toNat ((wrap64 ((wrap64 (a1 + 1)) + 1)) : Int).toNat)).bind fun t212 => (if t212 = true then (some (6, a0.extract (a1 : Int).toNat ((wrap64 ((wrap64 (a1 + 1)) + 1)) : Int).toNat, 0, 0, wrap64 ((wrap64 (a1 + 1)) + 1))) else (if a1 ≤ (wrap64 (a1 + 1)) then (if (wrap64 (a1 + 1)) ≤ (a0.size : Int) then (some (6, a0.extract (a1 : Int).toNat ((wrap64 (a1 + 1)) : Int).toNat, 0, 0, wrap64 (a1 + 1))) else (none)) else (none)))) else (none)) else (none)) else (if a1 ≤ (wrap64 (a1 + 1)) then (if (wrap64 (a1 + 1)) ≤ (a0.size : Int) then (some (6, a0.extract (a1 : Int).toNat ((wrap64 (a1 + 1)) : Int).toNat, 0, 0, wrap64 (a1 + 1))) else (none)) else (none)))))) = some (r1, r2, r3, r4, r5) := by rw [if_neg (show ¬ (false = true) by decide)] at H; exact H
    clear H
    have H := H1
    clear H1
    replace H := Option.bind_eq_some_iff.mp H
    obtain ⟨t207, A310, H⟩ := H
    replace H : (if t207 = true then ((latchkeyref05_number.f k a0 a1).bind fun bt208 => (if bt208.2 = true then (if a1 ≤ bt208.1 then (if bt208.1 ≤ (a0.size : Int) then (some (4, a0.extract (a1 : Int).toNat (bt208.1 : Int).toNat, 0, 0, bt208.1)) else (none)) else (none)) else (if a1 ≤ bt208.1 then (if bt208.1 ≤ (a0.size : Int) then (some (3, a0.extract (a1 : Int).toNat (bt208.1 : Int).toNat, 0, 0, bt208.1)) else (none)) else (none)))) else (if (bt a0 a1) = 34 then ((latchkeyref05_quoted.f k a0 a1).bind fun bt210 => (some (5, bt210.2, 0, 0, bt210.1))) else (if (wrap64 (a1 + 1)) < (a0.size : Int) then (if a1 ≤ (wrap64 ((wrap64 (a1 + 1)) + 1)) then (if (wrap64 ((wrap64 (a1 + 1)) + 1)) ≤ (a0.size : Int) then ((latchkeyref05_mark.f k (a0.extract (a1 : Int).toNat ((wrap64 ((wrap64 (a1 + 1)) + 1)) : Int).toNat)).bind fun t212 => (if t212 = true then (some (6, a0.extract (a1 : Int).toNat ((wrap64 ((wrap64 (a1 + 1)) + 1)) : Int).toNat, 0, 0, wrap64 ((wrap64 (a1 + 1)) + 1))) else (if a1 ≤ (wrap64 (a1 + 1)) then (if (wrap64 (a1 + 1)) ≤ (a0.size : Int) then (some (6, a0.extract (a1 : Int).toNat ((wrap64 (a1 + 1)) : Int).toNat, 0, 0, wrap64 (a1 + 1))) else (none)) else (none)))) else (none)) else (none)) else (if a1 ≤ (wrap64 (a1 + 1)) then (if (wrap64 (a1 + 1)) ≤ (a0.size : Int) then (some (6, a0.extract (a1 : Int).toNat ((wrap64 (a1 + 1)) : Int).toNat, 0, 0, wrap64 (a1 + 1))) else (none)) else (none))))) = some (r1, r2, r3, r4, r5) := H
    have A31 := Aside0.mk A310
    clear A310
    by_cases c32 : t207 = true
    ·
     subst c32
     have H1 : ((latchkeyref05_number.f k a0 a1).bind fun bt208 => (if bt208.2 = true then (if a1 ≤ bt208.1 then (if bt208.1 ≤ (a0.size : Int) then (some (4, a0.extract (a1 : Int).toNat (bt208.1 : Int).toNat, 0, 0, bt208.1)) else (none)) else (none)) else (if a1 ≤ bt208.1 then (if bt208.1 ≤ (a0.size : Int) then (some (3, a0.extract (a1 : Int).toNat (bt208.1 : Int).toNat, 0, 0, bt208.1)) else (none)) else (none)))) = some (r1, r2, r3, r4, r5) := by rw [if_pos rfl] at H; exact H
     clear H
     have H := H1
     clear H1
     replace H := Option.bind_eq_some_iff.mp H
     obtain ⟨⟨t208, t209⟩, A330, H⟩ := H
     replace H : (if t209 = true then (if a1 ≤ t208 then (if t208 ≤ (a0.size : Int) then (some (4, a0.extract (a1 : Int).toNat (t208 : Int).toNat, 0, 0, t208)) else (none)) else (none)) else (if a1 ≤ t208 then (if t208 ≤ (a0.size : Int) then (some (3, a0.extract (a1 : Int).toNat (t208 : Int).toNat, 0, 0, t208)) else (none)) else (none))) = some (r1, r2, r3, r4, r5) := H
     have A33 := Aside0.mk A330
     clear A330
     by_cases c34 : t209 = true
     ·
      subst c34
      have H1 : (if a1 ≤ t208 then (if t208 ≤ (a0.size : Int) then (some (4, a0.extract (a1 : Int).toNat (t208 : Int).toNat, 0, 0, t208)) else (none)) else (none)) = some (r1, r2, r3, r4, r5) := by rw [if_pos rfl] at H; exact H
      clear H
      have H := H1
      clear H1
      have c35b0 := eq_true (of_decide_eq_true azq : 0 ≤ a1)
      by_cases c36 : a1 ≤ t208
      ·
       rw [if_pos c36] at H
       have c36b0 := eq_true c36
       have c36b1 : decide (a1 ≤ t208) = true := decide_eq_true c36
       clear c36
       by_cases c37 : t208 ≤ (a0.size : Int)
       ·
        rw [if_pos c37] at H
        have c37b0 := eq_true c37
        have c37b1 : decide (t208 ≤ (a0.size : Int)) = true := decide_eq_true c37
        clear c37
        simp only [Option.some.injEq, Prod.mk.injEq] at H
        obtain ⟨rfl, rfl, rfl, rfl, rfl⟩ := H
        go_enter Tryd.func33, Tryd.ntmps33
        go_wp2_with (first | ((with_reducible refine gate_dst (N := 4) rfl ?_); refine box_event ?hg (N := 4) ?hd (cs := #[.int .i64 0, .string (⟨#[]⟩ : ByteArray), .int .i64 0, .int .i64 0]) (t := 37) ?hr ?_; (case hd => rfl); (case hg => rfl); (case hr => first | (go_simp; done) | (go_simp; rfl)); intro gb203 hg w38 hbox hb; have n0_ := Aside0.mk (below_step bq hb); have n1_ := Aside0.mk (hbox); have n2_ := Aside0.mk ((by rw [hg]; exact (below_size bq) : w.heap.size ≤ gb203)); have n3_ := Aside0.mk ((by rw [hg]; exact (below_size bq) : w.heap.size ≤ gb203)); clear HB; have HB := n0_; have BK203 := n1_; have GW203 := n2_; have GE203 := n3_; clear n0_ n1_ n2_ n3_; clear hb hbox hg; have p5 : 0 ≤ (a1 : Int) := of_decide_eq_true azq; have q5 : a1 < (a0.size : Int) := of_decide_eq_true azq; have hx5 := bt_at a0 a1; replace p5 := eq_true p5; replace q5 := eq_true q5) | ((with_reducible refine gate_callee (f := 53) rfl ?_); refine goesL_ (some 17) rfl rfl Tryd.func53 (by kernel_rfl) rfl #[.int .u8 (bt a0 a1)] rfl agq ?_; (with_reducible refine (latchkeyref05_small.calls (bt a0 a1) false _ A6.out).mono ?_); rintro e w' ⟨rfl, ⟨nd, rfl⟩⟩; refine ⟨_, rfl, ?_⟩; (try (rw [drewN_self w38]; generalize hq_ : World.drewN w38 _ = w38; have n0_ : Aside0 (w38.heap[gb203]? = some (.cells #[.int .i64 0, .string (⟨#[]⟩ : ByteArray), .int .i64 0, .int .i64 0] 37 (0, 0))) := ⟨by rw [← hq_]; exact (bxq BK203.out)⟩; have n1_ : Aside0 (Below w.heap.size w w38) := ⟨by rw [← hq_]; exact g7q⟩; clear BK203 HB hq_; have BK203 := n0_; have HB := n1_; clear n0_ n1_)); have p30 : 0 ≤ (a1 : Int) := of_decide_eq_true azq; have q30 : a1 < (a0.size : Int) := of_decide_eq_true azq; have hx30 := bt_at a0 a1; replace p30 := eq_true p30; replace q30 := eq_true q30) | ((with_reducible refine gate_callee (f := 56) rfl ?_); refine goesL_ (some 51) rfl rfl Tryd.func56 (by kernel_rfl) rfl #[.int .u8 (bt a0 a1)] rfl agq ?_; (with_reducible refine (latchkeyref05_digit.calls (bt a0 a1) true _ A31.out).mono ?_); rintro e w' ⟨rfl, ⟨nd, rfl⟩⟩; refine ⟨_, rfl, ?_⟩; (try (rw [drewN_self w38]; generalize hq_ : World.drewN w38 _ = w38; have n0_ : Aside0 (w38.heap[gb203]? = some (.cells #[.int .i64 0, .string (⟨#[]⟩ : ByteArray), .int .i64 0, .int .i64 0] 37 (0, 0))) := ⟨by rw [← hq_]; exact (bxq BK203.out)⟩; have n1_ : Aside0 (Below w.heap.size w w38) := ⟨by rw [← hq_]; exact g7q⟩; clear BK203 HB hq_; have BK203 := n0_; have HB := n1_; clear n0_ n1_))) | ((with_reducible refine gate_callee (f := 57) rfl ?_); refine goesL_ (some 55) rfl rfl Tryd.func57 (by kernel_rfl) rfl #[.string a0, .int .i64 a1] rfl agq ?_; (with_reducible refine (latchkeyref05_number.calls k a0 a1 t208 true _ A33.out).mono ?_); rintro e w' ⟨rfl, ⟨nd, rfl⟩⟩; refine ⟨_, rfl, ?_⟩; (try (rw [drewN_self w38]; generalize hq_ : World.drewN w38 _ = w38; have n0_ : Aside0 (w38.heap[gb203]? = some (.cells #[.int .i64 0, .string (⟨#[]⟩ : ByteArray), .int .i64 0, .int .i64 0] 37 (0, 0))) := ⟨by rw [← hq_]; exact (bxq BK203.out)⟩; have n1_ : Aside0 (Below w.heap.size w w38) := ⟨by rw [← hq_]; exact g7q⟩; clear BK203 HB hq_; have BK203 := n0_; have HB := n1_; clear n0_ n1_)); have hcz39_0 : w38.cell? ⟨gb203, 0, none⟩ = some (.int .i64 0) := (blk_cell BK203.out 0).trans rfl; have hcz39_1 : w38.cell? ⟨gb203, 1, none⟩ = some (.string (⟨#[]⟩ : ByteArray)) := (blk_cell BK203.out 1).trans rfl; have hcz39_2 : w38.cell? ⟨gb203, 2, none⟩ = some (.int .i64 0) := (blk_cell BK203.out 2).trans rfl; have hcz39_3 : w38.cell? ⟨gb203, 3, none⟩ = some (.int .i64 0) := (blk_cell BK203.out 3).trans rfl; have hfz39_0 := blk_frozen BK203.out 0; have hfz39_1 := blk_frozen BK203.out 1; have hfz39_2 := blk_frozen BK203.out 2; have hfz39_3 := blk_frozen BK203.out 3))
        refine bodyPost_ret (results_ct rfl _ _ gb203 37 #[.int .i64 4, .string (a0.extract (a1 : Int).toNat (t208 : Int).toNat), .int .i64 0, .int .i64 0] (0, 0) _ rfl (by (with_reducible repeat (first | refine blk_drewN ?_ _ | refine blk_drew ?_ | refine blk_alloc ?_ _)); refine blk_put (cs := #[.int .i64 4, .string (a0.extract (a1 : Int).toNat (t208 : Int).toNat), .int .i64 0, .int .i64 0]) ?_ 3 _ rfl; (with_reducible repeat (first | refine blk_drewN ?_ _ | refine blk_drew ?_ | refine blk_alloc ?_ _)); refine blk_put (cs := #[.int .i64 4, .string (a0.extract (a1 : Int).toNat (t208 : Int).toNat), .int .i64 0, .int .i64 0]) ?_ 2 _ rfl; (with_reducible repeat (first | refine blk_drewN ?_ _ | refine blk_drew ?_ | refine blk_alloc ?_ _)); refine blk_put (cs := #[.int .i64 4, .string (⟨#[]⟩ : ByteArray), .int .i64 0, .int .i64 0]) ?_ 1 _ rfl; (with_reducible repeat (first | refine blk_drewN ?_ _ | refine blk_drew ?_ | refine blk_alloc ?_ _)); refine blk_put (cs := #[.int .i64 0, .string (⟨#[]⟩ : ByteArray), .int .i64 0, .int .i64 0]) ?_ 0 _ rfl; (with_reducible repeat (first | refine blk_drewN ?_ _ | refine blk_drew ?_ | refine blk_alloc ?_ _)); exact BK203.out) Tryd.underlying37 rfl (by kernel_rfl)) rfl ?_
        exact ⟨erq, g7q⟩
       ·
        rw [if_neg c37] at H
        exact absurd H (by simp)
      ·
       rw [if_neg c36] at H
       exact absurd H (by simp)
     ·
      replace c34 := Bool.eq_false_iff.mpr c34
      subst c34
      have H1 : (if a1 ≤ t208 then (if t208 ≤ (a0.size : Int) then (some (3, a0.extract (a1 : Int).toNat (t208 : Int).toNat, 0, 0, t208)) else (none)) else (none)) = some (r1, r2, r3, r4, r5) := by rw [if_neg (show ¬ (false = true) by decide)] at H; exact H
      clear H
      have H := H1
      clear H1
      have c40b0 := eq_true (of_decide_eq_true azq : 0 ≤ a1)
      by_cases c41 : a1 ≤ t208
      ·
       rw [if_pos c41] at H
       have c41b0 := eq_true c41
       have c41b1 : decide (a1 ≤ t208) = true := decide_eq_true c41
       clear c41
       by_cases c42 : t208 ≤ (a0.size : Int)
       ·
        rw [if_pos c42] at H
        have c42b0 := eq_true c42
        have c42b1 : decide (t208 ≤ (a0.size : Int)) = true := decide_eq_true c42
        clear c42
        simp only [Option.some.injEq, Prod.mk.injEq] at H
        obtain ⟨rfl, rfl, rfl, rfl, rfl⟩ := H
        go_enter Tryd.func33, Tryd.ntmps33
        go_wp2_with (first | ((with_reducible refine gate_dst (N := 4) rfl ?_); refine box_event ?hg (N := 4) ?hd (cs := #[.int .i64 0, .string (⟨#[]⟩ : ByteArray), .int .i64 0, .int .i64 0]) (t := 37) ?hr ?_; (case hd => rfl); (case hg => rfl); (case hr => first | (go_simp; done) | (go_simp; rfl)); intro gb203 hg w43 hbox hb; have n0_ := Aside0.mk (below_step bq hb); have n1_ := Aside0.mk (hbox); have n2_ := Aside0.mk ((by rw [hg]; exact (below_size bq) : w.heap.size ≤ gb203)); have n3_ := Aside0.mk ((by rw [hg]; exact (below_size bq) : w.heap.size ≤ gb203)); clear HB; have HB := n0_; have BK203 := n1_; have GW203 := n2_; have GE203 := n3_; clear n0_ n1_ n2_ n3_; clear hb hbox hg; have p5 : 0 ≤ (a1 : Int) := of_decide_eq_true azq; have q5 : a1 < (a0.size : Int) := of_decide_eq_true azq; have hx5 := bt_at a0 a1; replace p5 := eq_true p5; replace q5 := eq_true q5) | ((with_reducible refine gate_callee (f := 53) rfl ?_); refine goesL_ (some 17) rfl rfl Tryd.func53 (by kernel_rfl) rfl #[.int .u8 (bt a0 a1)] rfl agq ?_; (with_reducible refine (latchkeyref05_small.calls (bt a0 a1) false _ A6.out).mono ?_); rintro e w' ⟨rfl, ⟨nd, rfl⟩⟩; refine ⟨_, rfl, ?_⟩; (try (rw [drewN_self w43]; generalize hq_ : World.drewN w43 _ = w43; have n0_ : Aside0 (w43.heap[gb203]? = some (.cells #[.int .i64 0, .string (⟨#[]⟩ : ByteArray), .int .i64 0, .int .i64 0] 37 (0, 0))) := ⟨by rw [← hq_]; exact (bxq BK203.out)⟩; have n1_ : Aside0 (Below w.heap.size w w43) := ⟨by rw [← hq_]; exact g7q⟩; clear BK203 HB hq_; have BK203 := n0_; have HB := n1_; clear n0_ n1_)); have p30 : 0 ≤ (a1 : Int) := of_decide_eq_true azq; have q30 : a1 < (a0.size : Int) := of_decide_eq_true azq; have hx30 := bt_at a0 a1; replace p30 := eq_true p30; replace q30 := eq_true q30) | ((with_reducible refine gate_callee (f := 56) rfl ?_); refine goesL_ (some 51) rfl rfl Tryd.func56 (by kernel_rfl) rfl #[.int .u8 (bt a0 a1)] rfl agq ?_; (with_reducible refine (latchkeyref05_digit.calls (bt a0 a1) true _ A31.out).mono ?_); rintro e w' ⟨rfl, ⟨nd, rfl⟩⟩; refine ⟨_, rfl, ?_⟩; (try (rw [drewN_self w43]; generalize hq_ : World.drewN w43 _ = w43; have n0_ : Aside0 (w43.heap[gb203]? = some (.cells #[.int .i64 0, .string (⟨#[]⟩ : ByteArray), .int .i64 0, .int .i64 0] 37 (0, 0))) := ⟨by rw [← hq_]; exact (bxq BK203.out)⟩; have n1_ : Aside0 (Below w.heap.size w w43) := ⟨by rw [← hq_]; exact g7q⟩; clear BK203 HB hq_; have BK203 := n0_; have HB := n1_; clear n0_ n1_))) | ((with_reducible refine gate_callee (f := 57) rfl ?_); refine goesL_ (some 55) rfl rfl Tryd.func57 (by kernel_rfl) rfl #[.string a0, .int .i64 a1] rfl agq ?_; (with_reducible refine (latchkeyref05_number.calls k a0 a1 t208 false _ A33.out).mono ?_); rintro e w' ⟨rfl, ⟨nd, rfl⟩⟩; refine ⟨_, rfl, ?_⟩; (try (rw [drewN_self w43]; generalize hq_ : World.drewN w43 _ = w43; have n0_ : Aside0 (w43.heap[gb203]? = some (.cells #[.int .i64 0, .string (⟨#[]⟩ : ByteArray), .int .i64 0, .int .i64 0] 37 (0, 0))) := ⟨by rw [← hq_]; exact (bxq BK203.out)⟩; have n1_ : Aside0 (Below w.heap.size w w43) := ⟨by rw [← hq_]; exact g7q⟩; clear BK203 HB hq_; have BK203 := n0_; have HB := n1_; clear n0_ n1_)); have hcz44_0 : w43.cell? ⟨gb203, 0, none⟩ = some (.int .i64 0) := (blk_cell BK203.out 0).trans rfl; have hcz44_1 : w43.cell? ⟨gb203, 1, none⟩ = some (.string (⟨#[]⟩ : ByteArray)) := (blk_cell BK203.out 1).trans rfl; have hcz44_2 : w43.cell? ⟨gb203, 2, none⟩ = some (.int .i64 0) := (blk_cell BK203.out 2).trans rfl; have hcz44_3 : w43.cell? ⟨gb203, 3, none⟩ = some (.int .i64 0) := (blk_cell BK203.out 3).trans rfl; have hfz44_0 := blk_frozen BK203.out 0; have hfz44_1 := blk_frozen BK203.out 1; have hfz44_2 := blk_frozen BK203.out 2; have hfz44_3 := blk_frozen BK203.out 3))
        refine bodyPost_ret (results_ct rfl _ _ gb203 37 #[.int .i64 3, .string (a0.extract (a1 : Int).toNat (t208 : Int).toNat), .int .i64 0, .int .i64 0] (0, 0) _ rfl (by (with_reducible repeat (first | refine blk_drewN ?_ _ | refine blk_drew ?_ | refine blk_alloc ?_ _)); refine blk_put (cs := #[.int .i64 3, .string (a0.extract (a1 : Int).toNat (t208 : Int).toNat), .int .i64 0, .int .i64 0]) ?_ 3 _ rfl; (with_reducible repeat (first | refine blk_drewN ?_ _ | refine blk_drew ?_ | refine blk_alloc ?_ _)); refine blk_put (cs := #[.int .i64 3, .string (a0.extract (a1 : Int).toNat (t208 : Int).toNat), .int .i64 0, .int .i64 0]) ?_ 2 _ rfl; (with_reducible repeat (first | refine blk_drewN ?_ _ | refine blk_drew ?_ | refine blk_alloc ?_ _)); refine blk_put (cs := #[.int .i64 3, .string (⟨#[]⟩ : ByteArray), .int .i64 0, .int .i64 0]) ?_ 1 _ rfl; (with_reducible repeat (first | refine blk_drewN ?_ _ | refine blk_drew ?_ | refine blk_alloc ?_ _)); refine blk_put (cs := #[.int .i64 0, .string (⟨#[]⟩ : ByteArray), .int .i64 0, .int .i64 0]) ?_ 0 _ rfl; (with_reducible repeat (first | refine blk_drewN ?_ _ | refine blk_drew ?_ | refine blk_alloc ?_ _)); exact BK203.out) Tryd.underlying37 rfl (by kernel_rfl)) rfl ?_
        exact ⟨erq, g7q⟩
       ·
        rw [if_neg c42] at H
        exact absurd H (by simp)
      ·
       rw [if_neg c41] at H
       exact absurd H (by simp)
    ·
     replace c32 := Bool.eq_false_iff.mpr c32
     subst c32
     have H1 : (if (bt a0 a1) = 34 then ((latchkeyref05_quoted.f k a0 a1).bind fun bt210 => (some (5, bt210.2, 0, 0, bt210.1))) else (if (wrap64 (a1 + 1)) < (a0.size : Int) then (if a1 ≤ (wrap64 ((wrap64 (a1 + 1)) + 1)) then (if (wrap64 ((wrap64 (a1 + 1)) + 1)) ≤ (a0.size : Int) then ((latchkeyref05_mark.f k (a0.extract (a1 : Int).toNat ((wrap64 ((wrap64 (a1 + 1)) + 1)) : Int).toNat)).bind fun t212 => (if t212 = true then (some (6, a0.extract (a1 : Int).toNat ((wrap64 ((wrap64 (a1 + 1)) + 1)) : Int).toNat, 0, 0, wrap64 ((wrap64 (a1 + 1)) + 1))) else (if a1 ≤ (wrap64 (a1 + 1)) then (if (wrap64 (a1 + 1)) ≤ (a0.size : Int) then (some (6, a0.extract (a1 : Int).toNat ((wrap64 (a1 + 1)) : Int).toNat, 0, 0, wrap64 (a1 + 1))) else (none)) else (none)))) else (none)) else (none)) else (if a1 ≤ (wrap64 (a1 + 1)) then (if (wrap64 (a1 + 1)) ≤ (a0.size : Int) then (some (6, a0.extract (a1 : Int).toNat ((wrap64 (a1 + 1)) : Int).toNat, 0, 0, wrap64 (a1 + 1))) else (none)) else (none)))) = some (r1, r2, r3, r4, r5) := by rw [if_neg (show ¬ (false = true) by decide)] at H; exact H
     clear H
     have H := H1
     clear H1
     by_cases c46 : (bt a0 a1) = 34
     ·
      rw [if_pos c46] at H
      have c46b0 : ((bt a0 a1) == 34) = true := beq_iff_eq.mpr c46
      have c46b1 : ((bt a0 a1) != 34) = false := bne_eq_false_iff_eq.mpr c46
      clear c46
      replace H := Option.bind_eq_some_iff.mp H
      obtain ⟨⟨t210, t211⟩, A470, H⟩ := H
      replace H : (some (5, t211, 0, 0, t210)) = some (r1, r2, r3, r4, r5) := H
      have A47 := Aside0.mk A470
      clear A470
      simp only [Option.some.injEq, Prod.mk.injEq] at H
      obtain ⟨rfl, rfl, rfl, rfl, rfl⟩ := H
      go_enter Tryd.func33, Tryd.ntmps33
      go_wp2_with (first | ((with_reducible refine gate_dst (N := 4) rfl ?_); refine box_event ?hg (N := 4) ?hd (cs := #[.int .i64 0, .string (⟨#[]⟩ : ByteArray), .int .i64 0, .int .i64 0]) (t := 37) ?hr ?_; (case hd => rfl); (case hg => rfl); (case hr => first | (go_simp; done) | (go_simp; rfl)); intro gb203 hg w48 hbox hb; have n0_ := Aside0.mk (below_step bq hb); have n1_ := Aside0.mk (hbox); have n2_ := Aside0.mk ((by rw [hg]; exact (below_size bq) : w.heap.size ≤ gb203)); have n3_ := Aside0.mk ((by rw [hg]; exact (below_size bq) : w.heap.size ≤ gb203)); clear HB; have HB := n0_; have BK203 := n1_; have GW203 := n2_; have GE203 := n3_; clear n0_ n1_ n2_ n3_; clear hb hbox hg; have p5 : 0 ≤ (a1 : Int) := of_decide_eq_true azq; have q5 : a1 < (a0.size : Int) := of_decide_eq_true azq; have hx5 := bt_at a0 a1; replace p5 := eq_true p5; replace q5 := eq_true q5) | ((with_reducible refine gate_callee (f := 53) rfl ?_); refine goesL_ (some 17) rfl rfl Tryd.func53 (by kernel_rfl) rfl #[.int .u8 (bt a0 a1)] rfl agq ?_; (with_reducible refine (latchkeyref05_small.calls (bt a0 a1) false _ A6.out).mono ?_); rintro e w' ⟨rfl, ⟨nd, rfl⟩⟩; refine ⟨_, rfl, ?_⟩; (try (rw [drewN_self w48]; generalize hq_ : World.drewN w48 _ = w48; have n0_ : Aside0 (w48.heap[gb203]? = some (.cells #[.int .i64 0, .string (⟨#[]⟩ : ByteArray), .int .i64 0, .int .i64 0] 37 (0, 0))) := ⟨by rw [← hq_]; exact (bxq BK203.out)⟩; have n1_ : Aside0 (Below w.heap.size w w48) := ⟨by rw [← hq_]; exact g7q⟩; clear BK203 HB hq_; have BK203 := n0_; have HB := n1_; clear n0_ n1_)); have p30 : 0 ≤ (a1 : Int) := of_decide_eq_true azq; have q30 : a1 < (a0.size : Int) := of_decide_eq_true azq; have hx30 := bt_at a0 a1; replace p30 := eq_true p30; replace q30 := eq_true q30) | ((with_reducible refine gate_callee (f := 56) rfl ?_); refine goesL_ (some 51) rfl rfl Tryd.func56 (by kernel_rfl) rfl #[.int .u8 (bt a0 a1)] rfl agq ?_; (with_reducible refine (latchkeyref05_digit.calls (bt a0 a1) false _ A31.out).mono ?_); rintro e w' ⟨rfl, ⟨nd, rfl⟩⟩; refine ⟨_, rfl, ?_⟩; (try (rw [drewN_self w48]; generalize hq_ : World.drewN w48 _ = w48; have n0_ : Aside0 (w48.heap[gb203]? = some (.cells #[.int .i64 0, .string (⟨#[]⟩ : ByteArray), .int .i64 0, .int .i64 0] 37 (0, 0))) := ⟨by rw [← hq_]; exact (bxq BK203.out)⟩; have n1_ : Aside0 (Below w.heap.size w w48) := ⟨by rw [← hq_]; exact g7q⟩; clear BK203 HB hq_; have BK203 := n0_; have HB := n1_; clear n0_ n1_)); have p45 : 0 ≤ (a1 : Int) := of_decide_eq_true azq; have q45 : a1 < (a0.size : Int) := of_decide_eq_true azq; have hx45 := bt_at a0 a1; replace p45 := eq_true p45; replace q45 := eq_true q45) | ((with_reducible refine gate_callee (f := 58) rfl ?_); refine goesL_ (some 79) rfl rfl Tryd.func58 (by kernel_rfl) rfl #[.string a0, .int .i64 a1] rfl agq ?_; (with_reducible refine (latchkeyref05_quoted.calls k a0 a1 t210 t211 _ A47.out).mono ?_); rintro e w49 ⟨rfl, hb⟩; refine ⟨_, rfl, ?_⟩; have n0_ := Aside0.mk (blk_below (g := gb203) (o := .cells #[.int .i64 0, .string (⟨#[]⟩ : ByteArray), .int .i64 0, .int .i64 0] 37 (0, 0)) (bxq BK203.out) hb); have n1_ := Aside0.mk (below_step g7q hb); clear BK203; clear HB; have BK203 := n0_; have HB := n1_; clear n0_ n1_; (try clear hb); (try clear hb2); (try clear hk); (try clear hi); have hcz50_0 : w49.cell? ⟨gb203, 0, none⟩ = some (.int .i64 0) := (blk_cell BK203.out 0).trans rfl; have hcz50_1 : w49.cell? ⟨gb203, 1, none⟩ = some (.string (⟨#[]⟩ : ByteArray)) := (blk_cell BK203.out 1).trans rfl; have hcz50_2 : w49.cell? ⟨gb203, 2, none⟩ = some (.int .i64 0) := (blk_cell BK203.out 2).trans rfl; have hcz50_3 : w49.cell? ⟨gb203, 3, none⟩ = some (.int .i64 0) := (blk_cell BK203.out 3).trans rfl; have hfz50_0 := blk_frozen BK203.out 0; have hfz50_1 := blk_frozen BK203.out 1; have hfz50_2 := blk_frozen BK203.out 2; have hfz50_3 := blk_frozen BK203.out 3))
      refine bodyPost_ret (results_ct rfl _ _ gb203 37 #[.int .i64 5, .string t211, .int .i64 0, .int .i64 0] (0, 0) _ rfl (by (with_reducible repeat (first | refine blk_drewN ?_ _ | refine blk_drew ?_ | refine blk_alloc ?_ _)); refine blk_put (cs := #[.int .i64 5, .string t211, .int .i64 0, .int .i64 0]) ?_ 3 _ rfl; (with_reducible repeat (first | refine blk_drewN ?_ _ | refine blk_drew ?_ | refine blk_alloc ?_ _)); refine blk_put (cs := #[.int .i64 5, .string t211, .int .i64 0, .int .i64 0]) ?_ 2 _ rfl; (with_reducible repeat (first | refine blk_drewN ?_ _ | refine blk_drew ?_ | refine blk_alloc ?_ _)); refine blk_put (cs := #[.int .i64 5, .string (⟨#[]⟩ : ByteArray), .int .i64 0, .int .i64 0]) ?_ 1 _ rfl; (with_reducible repeat (first | refine blk_drewN ?_ _ | refine blk_drew ?_ | refine blk_alloc ?_ _)); refine blk_put (cs := #[.int .i64 0, .string (⟨#[]⟩ : ByteArray), .int .i64 0, .int .i64 0]) ?_ 0 _ rfl; (with_reducible repeat (first | refine blk_drewN ?_ _ | refine blk_drew ?_ | refine blk_alloc ?_ _)); exact BK203.out) Tryd.underlying37 rfl (by kernel_rfl)) rfl ?_
      exact ⟨erq, g7q⟩
     ·
      rw [if_neg c46] at H
      have c46b0 : ((bt a0 a1) == 34) = false := beq_eq_false_iff_ne.mpr c46
      have c46b1 : ((bt a0 a1) != 34) = true := bne_iff_ne.mpr c46
      by_cases c51 : (wrap64 (a1 + 1)) < (a0.size : Int)
      ·
       rw [if_pos c51] at H
       have c51b0 : decide ((wrap64 (a1 + 1)) < (a0.size : Int)) = true := decide_eq_true c51
       clear c51
       have c52b0 := eq_true (of_decide_eq_true azq : 0 ≤ a1)
       by_cases c53 : a1 ≤ (wrap64 ((wrap64 (a1 + 1)) + 1))
       ·
        rw [if_pos c53] at H
        have c53b0 := eq_true c53
        have c53b1 : decide (a1 ≤ (wrap64 ((wrap64 (a1 + 1)) + 1))) = true := decide_eq_true c53
        by_cases c54 : (wrap64 ((wrap64 (a1 + 1)) + 1)) ≤ (a0.size : Int)
        ·
         rw [if_pos c54] at H
         have c54b0 := eq_true c54
         have c54b1 : decide ((wrap64 ((wrap64 (a1 + 1)) + 1)) ≤ (a0.size : Int)) = true := decide_eq_true c54
         replace H := Option.bind_eq_some_iff.mp H
         obtain ⟨t212, A550, H⟩ := H
         replace H : (if t212 = true then (some (6, a0.extract (a1 : Int).toNat ((wrap64 ((wrap64 (a1 + 1)) + 1)) : Int).toNat, 0, 0, wrap64 ((wrap64 (a1 + 1)) + 1))) else (if a1 ≤ (wrap64 (a1 + 1)) then (if (wrap64 (a1 + 1)) ≤ (a0.size : Int) then (some (6, a0.extract (a1 : Int).toNat ((wrap64 (a1 + 1)) : Int).toNat, 0, 0, wrap64 (a1 + 1))) else (none)) else (none))) = some (r1, r2, r3, r4, r5) := H
         have A55 := Aside0.mk A550
         clear A550
         by_cases c56 : t212 = true
         ·
          subst c56
          have H1 : (some (6, a0.extract (a1 : Int).toNat ((wrap64 ((wrap64 (a1 + 1)) + 1)) : Int).toNat, 0, 0, wrap64 ((wrap64 (a1 + 1)) + 1))) = some (r1, r2, r3, r4, r5) := by rw [if_pos rfl] at H; exact H
          clear H
          have H := H1
          clear H1
          have c57b0 := eq_true (of_decide_eq_true azq : 0 ≤ a1)
          have c58b0 := eq_true (of_decide_eq_true azq : a1 ≤ (wrap64 ((wrap64 (a1 + 1)) + 1)))
          have c59b0 := eq_true (of_decide_eq_true azq : (wrap64 ((wrap64 (a1 + 1)) + 1)) ≤ (a0.size : Int))
          simp only [Option.some.injEq, Prod.mk.injEq] at H
          obtain ⟨rfl, rfl, rfl, rfl, rfl⟩ := H
          go_enter Tryd.func33, Tryd.ntmps33
          go_wp2_with (first | ((with_reducible refine gate_dst (N := 4) rfl ?_); refine box_event ?hg (N := 4) ?hd (cs := #[.int .i64 0, .string (⟨#[]⟩ : ByteArray), .int .i64 0, .int .i64 0]) (t := 37) ?hr ?_; (case hd => rfl); (case hg => rfl); (case hr => first | (go_simp; done) | (go_simp; rfl)); intro gb203 hg w60 hbox hb; have n0_ := Aside0.mk (below_step bq hb); have n1_ := Aside0.mk (hbox); have n2_ := Aside0.mk ((by rw [hg]; exact (below_size bq) : w.heap.size ≤ gb203)); have n3_ := Aside0.mk ((by rw [hg]; exact (below_size bq) : w.heap.size ≤ gb203)); clear HB; have HB := n0_; have BK203 := n1_; have GW203 := n2_; have GE203 := n3_; clear n0_ n1_ n2_ n3_; clear hb hbox hg; have p5 : 0 ≤ (a1 : Int) := of_decide_eq_true azq; have q5 : a1 < (a0.size : Int) := of_decide_eq_true azq; have hx5 := bt_at a0 a1; replace p5 := eq_true p5; replace q5 := eq_true q5) | ((with_reducible refine gate_callee (f := 53) rfl ?_); refine goesL_ (some 17) rfl rfl Tryd.func53 (by kernel_rfl) rfl #[.int .u8 (bt a0 a1)] rfl agq ?_; (with_reducible refine (latchkeyref05_small.calls (bt a0 a1) false _ A6.out).mono ?_); rintro e w' ⟨rfl, ⟨nd, rfl⟩⟩; refine ⟨_, rfl, ?_⟩; (try (rw [drewN_self w60]; generalize hq_ : World.drewN w60 _ = w60; have n0_ : Aside0 (w60.heap[gb203]? = some (.cells #[.int .i64 0, .string (⟨#[]⟩ : ByteArray), .int .i64 0, .int .i64 0] 37 (0, 0))) := ⟨by rw [← hq_]; exact (bxq BK203.out)⟩; have n1_ : Aside0 (Below w.heap.size w w60) := ⟨by rw [← hq_]; exact g7q⟩; clear BK203 HB hq_; have BK203 := n0_; have HB := n1_; clear n0_ n1_)); have p30 : 0 ≤ (a1 : Int) := of_decide_eq_true azq; have q30 : a1 < (a0.size : Int) := of_decide_eq_true azq; have hx30 := bt_at a0 a1; replace p30 := eq_true p30; replace q30 := eq_true q30) | ((with_reducible refine gate_callee (f := 56) rfl ?_); refine goesL_ (some 51) rfl rfl Tryd.func56 (by kernel_rfl) rfl #[.int .u8 (bt a0 a1)] rfl agq ?_; (with_reducible refine (latchkeyref05_digit.calls (bt a0 a1) false _ A31.out).mono ?_); rintro e w' ⟨rfl, ⟨nd, rfl⟩⟩; refine ⟨_, rfl, ?_⟩; (try (rw [drewN_self w60]; generalize hq_ : World.drewN w60 _ = w60; have n0_ : Aside0 (w60.heap[gb203]? = some (.cells #[.int .i64 0, .string (⟨#[]⟩ : ByteArray), .int .i64 0, .int .i64 0] 37 (0, 0))) := ⟨by rw [← hq_]; exact (bxq BK203.out)⟩; have n1_ : Aside0 (Below w.heap.size w w60) := ⟨by rw [← hq_]; exact g7q⟩; clear BK203 HB hq_; have BK203 := n0_; have HB := n1_; clear n0_ n1_)); have p45 : 0 ≤ (a1 : Int) := of_decide_eq_true azq; have q45 : a1 < (a0.size : Int) := of_decide_eq_true azq; have hx45 := bt_at a0 a1; replace p45 := eq_true p45; replace q45 := eq_true q45) | (go_at_call 59; (with_reducible refine (latchkeyref05_mark.calls k (a0.extract (a1 : Int).toNat ((wrap64 ((wrap64 (a1 + 1)) + 1)) : Int).toNat) true _ A55.out).mono ?_); rintro e w61 ⟨rfl, hb⟩; have n0_ := Aside0.mk (blk_below (g := gb203) (o := .cells #[.int .i64 0, .string (⟨#[]⟩ : ByteArray), .int .i64 0, .int .i64 0] 37 (0, 0)) (bxq BK203.out) hb); have n1_ := Aside0.mk (below_step g7q hb); clear BK203; clear HB; have BK203 := n0_; have HB := n1_; clear n0_ n1_; (try clear hb); (try clear hb2); (try clear hk); (try clear hi); have hcz62_0 : w61.cell? ⟨gb203, 0, none⟩ = some (.int .i64 0) := (blk_cell BK203.out 0).trans rfl; have hcz62_1 : w61.cell? ⟨gb203, 1, none⟩ = some (.string (⟨#[]⟩ : ByteArray)) := (blk_cell BK203.out 1).trans rfl; have hcz62_2 : w61.cell? ⟨gb203, 2, none⟩ = some (.int .i64 0) := (blk_cell BK203.out 2).trans rfl; have hcz62_3 : w61.cell? ⟨gb203, 3, none⟩ = some (.int .i64 0) := (blk_cell BK203.out 3).trans rfl; have hfz62_0 := blk_frozen BK203.out 0; have hfz62_1 := blk_frozen BK203.out 1; have hfz62_2 := blk_frozen BK203.out 2; have hfz62_3 := blk_frozen BK203.out 3))
          refine bodyPost_ret (results_ct rfl _ _ gb203 37 #[.int .i64 6, .string (a0.extract (a1 : Int).toNat ((wrap64 ((wrap64 (a1 + 1)) + 1)) : Int).toNat), .int .i64 0, .int .i64 0] (0, 0) _ rfl (by (with_reducible repeat (first | refine blk_drewN ?_ _ | refine blk_drew ?_ | refine blk_alloc ?_ _)); refine blk_put (cs := #[.int .i64 6, .string (a0.extract (a1 : Int).toNat ((wrap64 ((wrap64 (a1 + 1)) + 1)) : Int).toNat), .int .i64 0, .int .i64 0]) ?_ 3 _ rfl; (with_reducible repeat (first | refine blk_drewN ?_ _ | refine blk_drew ?_ | refine blk_alloc ?_ _)); refine blk_put (cs := #[.int .i64 6, .string (a0.extract (a1 : Int).toNat ((wrap64 ((wrap64 (a1 + 1)) + 1)) : Int).toNat), .int .i64 0, .int .i64 0]) ?_ 2 _ rfl; (with_reducible repeat (first | refine blk_drewN ?_ _ | refine blk_drew ?_ | refine blk_alloc ?_ _)); refine blk_put (cs := #[.int .i64 6, .string (⟨#[]⟩ : ByteArray), .int .i64 0, .int .i64 0]) ?_ 1 _ rfl; (with_reducible repeat (first | refine blk_drewN ?_ _ | refine blk_drew ?_ | refine blk_alloc ?_ _)); refine blk_put (cs := #[.int .i64 0, .string (⟨#[]⟩ : ByteArray), .int .i64 0, .int .i64 0]) ?_ 0 _ rfl; (with_reducible repeat (first | refine blk_drewN ?_ _ | refine blk_drew ?_ | refine blk_alloc ?_ _)); exact BK203.out) Tryd.underlying37 rfl (by kernel_rfl)) rfl ?_
          exact ⟨erq, g7q⟩
         ·
          replace c56 := Bool.eq_false_iff.mpr c56
          subst c56
          have H1 : (if a1 ≤ (wrap64 (a1 + 1)) then (if (wrap64 (a1 + 1)) ≤ (a0.size : Int) then (some (6, a0.extract (a1 : Int).toNat ((wrap64 (a1 + 1)) : Int).toNat, 0, 0, wrap64 (a1 + 1))) else (none)) else (none)) = some (r1, r2, r3, r4, r5) := by rw [if_neg (show ¬ (false = true) by decide)] at H; exact H
          clear H
          have H := H1
          clear H1
          have c63b0 := eq_true (of_decide_eq_true azq : 0 ≤ a1)
          by_cases c64 : a1 ≤ (wrap64 (a1 + 1))
          ·
           rw [if_pos c64] at H
           have c64b0 := eq_true c64
           have c64b1 : decide (a1 ≤ (wrap64 (a1 + 1))) = true := decide_eq_true c64
           by_cases c65 : (wrap64 (a1 + 1)) ≤ (a0.size : Int)
           ·
            rw [if_pos c65] at H
            have c65b0 := eq_true c65
            have c65b1 : decide ((wrap64 (a1 + 1)) ≤ (a0.size : Int)) = true := decide_eq_true c65
            simp only [Option.some.injEq, Prod.mk.injEq] at H
            obtain ⟨rfl, rfl, rfl, rfl, rfl⟩ := H
            go_enter Tryd.func33, Tryd.ntmps33
            go_wp2_with (first | ((with_reducible refine gate_dst (N := 4) rfl ?_); refine box_event ?hg (N := 4) ?hd (cs := #[.int .i64 0, .string (⟨#[]⟩ : ByteArray), .int .i64 0, .int .i64 0]) (t := 37) ?hr ?_; (case hd => rfl); (case hg => rfl); (case hr => first | (go_simp; done) | (go_simp; rfl)); intro gb203 hg w66 hbox hb; have n0_ := Aside0.mk (below_step bq hb); have n1_ := Aside0.mk (hbox); have n2_ := Aside0.mk ((by rw [hg]; exact (below_size bq) : w.heap.size ≤ gb203)); have n3_ := Aside0.mk ((by rw [hg]; exact (below_size bq) : w.heap.size ≤ gb203)); clear HB; have HB := n0_; have BK203 := n1_; have GW203 := n2_; have GE203 := n3_; clear n0_ n1_ n2_ n3_; clear hb hbox hg; have p5 : 0 ≤ (a1 : Int) := of_decide_eq_true azq; have q5 : a1 < (a0.size : Int) := of_decide_eq_true azq; have hx5 := bt_at a0 a1; replace p5 := eq_true p5; replace q5 := eq_true q5) | ((with_reducible refine gate_callee (f := 53) rfl ?_); refine goesL_ (some 17) rfl rfl Tryd.func53 (by kernel_rfl) rfl #[.int .u8 (bt a0 a1)] rfl agq ?_; (with_reducible refine (latchkeyref05_small.calls (bt a0 a1) false _ A6.out).mono ?_); rintro e w' ⟨rfl, ⟨nd, rfl⟩⟩; refine ⟨_, rfl, ?_⟩; (try (rw [drewN_self w66]; generalize hq_ : World.drewN w66 _ = w66; have n0_ : Aside0 (w66.heap[gb203]? = some (.cells #[.int .i64 0, .string (⟨#[]⟩ : ByteArray), .int .i64 0, .int .i64 0] 37 (0, 0))) := ⟨by rw [← hq_]; exact (bxq BK203.out)⟩; have n1_ : Aside0 (Below w.heap.size w w66) := ⟨by rw [← hq_]; exact g7q⟩; clear BK203 HB hq_; have BK203 := n0_; have HB := n1_; clear n0_ n1_)); have p30 : 0 ≤ (a1 : Int) := of_decide_eq_true azq; have q30 : a1 < (a0.size : Int) := of_decide_eq_true azq; have hx30 := bt_at a0 a1; replace p30 := eq_true p30; replace q30 := eq_true q30) | ((with_reducible refine gate_callee (f := 56) rfl ?_); refine goesL_ (some 51) rfl rfl Tryd.func56 (by kernel_rfl) rfl #[.int .u8 (bt a0 a1)] rfl agq ?_; (with_reducible refine (latchkeyref05_digit.calls (bt a0 a1) false _ A31.out).mono ?_); rintro e w' ⟨rfl, ⟨nd, rfl⟩⟩; refine ⟨_, rfl, ?_⟩; (try (rw [drewN_self w66]; generalize hq_ : World.drewN w66 _ = w66; have n0_ : Aside0 (w66.heap[gb203]? = some (.cells #[.int .i64 0, .string (⟨#[]⟩ : ByteArray), .int .i64 0, .int .i64 0] 37 (0, 0))) := ⟨by rw [← hq_]; exact (bxq BK203.out)⟩; have n1_ : Aside0 (Below w.heap.size w w66) := ⟨by rw [← hq_]; exact g7q⟩; clear BK203 HB hq_; have BK203 := n0_; have HB := n1_; clear n0_ n1_)); have p45 : 0 ≤ (a1 : Int) := of_decide_eq_true azq; have q45 : a1 < (a0.size : Int) := of_decide_eq_true azq; have hx45 := bt_at a0 a1; replace p45 := eq_true p45; replace q45 := eq_true q45) | (go_at_call 59; (with_reducible refine (latchkeyref05_mark.calls k (a0.extract (a1 : Int).toNat ((wrap64 ((wrap64 (a1 + 1)) + 1)) : Int).toNat) false _ A55.out).mono ?_); rintro e w67 ⟨rfl, hb⟩; have n0_ := Aside0.mk (blk_below (g := gb203) (o := .cells #[.int .i64 0, .string (⟨#[]⟩ : ByteArray), .int .i64 0, .int .i64 0] 37 (0, 0)) (bxq BK203.out) hb); have n1_ := Aside0.mk (below_step g7q hb); clear BK203; clear HB; have BK203 := n0_; have HB := n1_; clear n0_ n1_; (try clear hb); (try clear hb2); (try clear hk); (try clear hi); have hcz68_0 : w67.cell? ⟨gb203, 0, none⟩ = some (.int .i64 0) := (blk_cell BK203.out 0).trans rfl; have hcz68_1 : w67.cell? ⟨gb203, 1, none⟩ = some (.string (⟨#[]⟩ : ByteArray)) := (blk_cell BK203.out 1).trans rfl; have hcz68_2 : w67.cell? ⟨gb203, 2, none⟩ = some (.int .i64 0) := (blk_cell BK203.out 2).trans rfl; have hcz68_3 : w67.cell? ⟨gb203, 3, none⟩ = some (.int .i64 0) := (blk_cell BK203.out 3).trans rfl; have hfz68_0 := blk_frozen BK203.out 0; have hfz68_1 := blk_frozen BK203.out 1; have hfz68_2 := blk_frozen BK203.out 2; have hfz68_3 := blk_frozen BK203.out 3))
            refine bodyPost_ret (results_ct rfl _ _ gb203 37 #[.int .i64 6, .string (a0.extract (a1 : Int).toNat ((wrap64 (a1 + 1)) : Int).toNat), .int .i64 0, .int .i64 0] (0, 0) _ rfl (by (with_reducible repeat (first | refine blk_drewN ?_ _ | refine blk_drew ?_ | refine blk_alloc ?_ _)); refine blk_put (cs := #[.int .i64 6, .string (a0.extract (a1 : Int).toNat ((wrap64 (a1 + 1)) : Int).toNat), .int .i64 0, .int .i64 0]) ?_ 3 _ rfl; (with_reducible repeat (first | refine blk_drewN ?_ _ | refine blk_drew ?_ | refine blk_alloc ?_ _)); refine blk_put (cs := #[.int .i64 6, .string (a0.extract (a1 : Int).toNat ((wrap64 (a1 + 1)) : Int).toNat), .int .i64 0, .int .i64 0]) ?_ 2 _ rfl; (with_reducible repeat (first | refine blk_drewN ?_ _ | refine blk_drew ?_ | refine blk_alloc ?_ _)); refine blk_put (cs := #[.int .i64 6, .string (⟨#[]⟩ : ByteArray), .int .i64 0, .int .i64 0]) ?_ 1 _ rfl; (with_reducible repeat (first | refine blk_drewN ?_ _ | refine blk_drew ?_ | refine blk_alloc ?_ _)); refine blk_put (cs := #[.int .i64 0, .string (⟨#[]⟩ : ByteArray), .int .i64 0, .int .i64 0]) ?_ 0 _ rfl; (with_reducible repeat (first | refine blk_drewN ?_ _ | refine blk_drew ?_ | refine blk_alloc ?_ _)); exact BK203.out) Tryd.underlying37 rfl (by kernel_rfl)) rfl ?_
            exact ⟨erq, g7q⟩
           ·
            rw [if_neg c65] at H
            exact absurd H (by simp)
          ·
           rw [if_neg c64] at H
           exact absurd H (by simp)
        ·
         rw [if_neg c54] at H
         exact absurd H (by simp)
       ·
        rw [if_neg c53] at H
        exact absurd H (by simp)
      ·
       rw [if_neg c51] at H
       have c51b0 : decide ((wrap64 (a1 + 1)) < (a0.size : Int)) = false := decide_eq_false c51
       clear c51
       have c69b0 := eq_true (of_decide_eq_true azq : 0 ≤ a1)
       by_cases c70 : a1 ≤ (wrap64 (a1 + 1))
       ·
        rw [if_pos c70] at H
        have c70b0 := eq_true c70
        have c70b1 : decide (a1 ≤ (wrap64 (a1 + 1))) = true := decide_eq_true c70
        by_cases c71 : (wrap64 (a1 + 1)) ≤ (a0.size : Int)
        ·
         rw [if_pos c71] at H
         have c71b0 := eq_true c71
         have c71b1 : decide ((wrap64 (a1 + 1)) ≤ (a0.size : Int)) = true := decide_eq_true c71
         simp only [Option.some.injEq, Prod.mk.injEq] at H
         obtain ⟨rfl, rfl, rfl, rfl, rfl⟩ := H
         go_enter Tryd.func33, Tryd.ntmps33
         go_wp2_with (first | ((with_reducible refine gate_dst (N := 4) rfl ?_); refine box_event ?hg (N := 4) ?hd (cs := #[.int .i64 0, .string (⟨#[]⟩ : ByteArray), .int .i64 0, .int .i64 0]) (t := 37) ?hr ?_; (case hd => rfl); (case hg => rfl); (case hr => first | (go_simp; done) | (go_simp; rfl)); intro gb203 hg w72 hbox hb; have n0_ := Aside0.mk (below_step bq hb); have n1_ := Aside0.mk (hbox); have n2_ := Aside0.mk ((by rw [hg]; exact (below_size bq) : w.heap.size ≤ gb203)); have n3_ := Aside0.mk ((by rw [hg]; exact (below_size bq) : w.heap.size ≤ gb203)); clear HB; have HB := n0_; have BK203 := n1_; have GW203 := n2_; have GE203 := n3_; clear n0_ n1_ n2_ n3_; clear hb hbox hg; have p5 : 0 ≤ (a1 : Int) := of_decide_eq_true azq; have q5 : a1 < (a0.size : Int) := of_decide_eq_true azq; have hx5 := bt_at a0 a1; replace p5 := eq_true p5; replace q5 := eq_true q5) | ((with_reducible refine gate_callee (f := 53) rfl ?_); refine goesL_ (some 17) rfl rfl Tryd.func53 (by kernel_rfl) rfl #[.int .u8 (bt a0 a1)] rfl agq ?_; (with_reducible refine (latchkeyref05_small.calls (bt a0 a1) false _ A6.out).mono ?_); rintro e w' ⟨rfl, ⟨nd, rfl⟩⟩; refine ⟨_, rfl, ?_⟩; (try (rw [drewN_self w72]; generalize hq_ : World.drewN w72 _ = w72; have n0_ : Aside0 (w72.heap[gb203]? = some (.cells #[.int .i64 0, .string (⟨#[]⟩ : ByteArray), .int .i64 0, .int .i64 0] 37 (0, 0))) := ⟨by rw [← hq_]; exact (bxq BK203.out)⟩; have n1_ : Aside0 (Below w.heap.size w w72) := ⟨by rw [← hq_]; exact g7q⟩; clear BK203 HB hq_; have BK203 := n0_; have HB := n1_; clear n0_ n1_)); have p30 : 0 ≤ (a1 : Int) := of_decide_eq_true azq; have q30 : a1 < (a0.size : Int) := of_decide_eq_true azq; have hx30 := bt_at a0 a1; replace p30 := eq_true p30; replace q30 := eq_true q30) | ((with_reducible refine gate_callee (f := 56) rfl ?_); refine goesL_ (some 51) rfl rfl Tryd.func56 (by kernel_rfl) rfl #[.int .u8 (bt a0 a1)] rfl agq ?_; (with_reducible refine (latchkeyref05_digit.calls (bt a0 a1) false _ A31.out).mono ?_); rintro e w' ⟨rfl, ⟨nd, rfl⟩⟩; refine ⟨_, rfl, ?_⟩; (try (rw [drewN_self w72]; generalize hq_ : World.drewN w72 _ = w72; have n0_ : Aside0 (w72.heap[gb203]? = some (.cells #[.int .i64 0, .string (⟨#[]⟩ : ByteArray), .int .i64 0, .int .i64 0] 37 (0, 0))) := ⟨by rw [← hq_]; exact (bxq BK203.out)⟩; have n1_ : Aside0 (Below w.heap.size w w72) := ⟨by rw [← hq_]; exact g7q⟩; clear BK203 HB hq_; have BK203 := n0_; have HB := n1_; clear n0_ n1_)); have p45 : 0 ≤ (a1 : Int) := of_decide_eq_true azq; have q45 : a1 < (a0.size : Int) := of_decide_eq_true azq; have hx45 := bt_at a0 a1; replace p45 := eq_true p45; replace q45 := eq_true q45; have hcz73_0 : w72.cell? ⟨gb203, 0, none⟩ = some (.int .i64 0) := (blk_cell BK203.out 0).trans rfl; have hcz73_1 : w72.cell? ⟨gb203, 1, none⟩ = some (.string (⟨#[]⟩ : ByteArray)) := (blk_cell BK203.out 1).trans rfl; have hcz73_2 : w72.cell? ⟨gb203, 2, none⟩ = some (.int .i64 0) := (blk_cell BK203.out 2).trans rfl; have hcz73_3 : w72.cell? ⟨gb203, 3, none⟩ = some (.int .i64 0) := (blk_cell BK203.out 3).trans rfl; have hfz73_0 := blk_frozen BK203.out 0; have hfz73_1 := blk_frozen BK203.out 1; have hfz73_2 := blk_frozen BK203.out 2; have hfz73_3 := blk_frozen BK203.out 3))
         refine bodyPost_ret (results_ct rfl _ _ gb203 37 #[.int .i64 6, .string (a0.extract (a1 : Int).toNat ((wrap64 (a1 + 1)) : Int).toNat), .int .i64 0, .int .i64 0] (0, 0) _ rfl (by (with_reducible repeat (first | refine blk_drewN ?_ _ | refine blk_drew ?_ | refine blk_alloc ?_ _)); refine blk_put (cs := #[.int .i64 6, .string (a0.extract (a1 : Int).toNat ((wrap64 (a1 + 1)) : Int).toNat), .int .i64 0, .int .i64 0]) ?_ 3 _ rfl; (with_reducible repeat (first | refine blk_drewN ?_ _ | refine blk_drew ?_ | refine blk_alloc ?_ _)); refine blk_put (cs := #[.int .i64 6, .string (a0.extract (a1 : Int).toNat ((wrap64 (a1 + 1)) : Int).toNat), .int .i64 0, .int .i64 0]) ?_ 2 _ rfl; (with_reducible repeat (first | refine blk_drewN ?_ _ | refine blk_drew ?_ | refine blk_alloc ?_ _)); refine blk_put (cs := #[.int .i64 6, .string (⟨#[]⟩ : ByteArray), .int .i64 0, .int .i64 0]) ?_ 1 _ rfl; (with_reducible repeat (first | refine blk_drewN ?_ _ | refine blk_drew ?_ | refine blk_alloc ?_ _)); refine blk_put (cs := #[.int .i64 0, .string (⟨#[]⟩ : ByteArray), .int .i64 0, .int .i64 0]) ?_ 0 _ rfl; (with_reducible repeat (first | refine blk_drewN ?_ _ | refine blk_drew ?_ | refine blk_alloc ?_ _)); exact BK203.out) Tryd.underlying37 rfl (by kernel_rfl)) rfl ?_
         exact ⟨erq, g7q⟩
        ·
         rw [if_neg c71] at H
         exact absurd H (by simp)
       ·
        rw [if_neg c70] at H
        exact absurd H (by simp)
  ·
   rw [if_neg c4] at H
   exact absurd H (by simp)
 ·
  rw [if_neg c3] at H
  exact absurd H (by simp)
end Go.Proofs.YteedjhoffjkhmaaDoor.PT
