import Derived.Test.YteedjhoffjkhmaaDoorPTx0
import Derived.Test.YteedjhoffjkhmaaDoorPTx3
import Derived.Test.YteedjhoffjkhmaaDoorPTx4
namespace Go.Proofs.YteedjhoffjkhmaaDoor.PT
open Go.RowKit Go.Proofs.YteedjhoffjkhmaaDoorW.PrintWords Go.Proofs.YteedjhoffjkhmaaDoorW.PrintLast Go.Proofs.YteedjhoffjkhmaaDoorW.PrintMore
attribute [local go_sem] max2_int min2_int max_two min_two max_three min_three max_four min_four
set_option linter.unusedVariables false
set_option linter.unusedSimpArgs false
mutual
def tokens_escape.j0 : Nat → ByteArray → Int → Bool → Option (Int × Int × Bool)
 | 0, _, _, _ => none
 | k + 1, x0, x12, x13 => if x13 = true then (if 0 < (x0.size : Int) then (some (bt x0 0, 1, true)) else (none)) else (if x12 = 110 then (some (10, 1, true)) else (if x12 = 120 then (tokens_escape.l0 k x0 0 1) else (some (0, 0, false))))
def tokens_escape.l0 : Nat → ByteArray → Int → Int → Option (Int × Int × Bool)
 | 0, _, _, _ => none
 | k + 1, x0, x5, x6 => if x6 < 3 then (if x6 = (x0.size : Int) then (some (0, x6, false)) else (if 0 ≤ x6 then (if x6 < (x0.size : Int) then ((tokens_hex.f k (bt x0 x6)).bind fun bt104 => (if bt104.2 = true then (tokens_escape.l0 k x0 (Go.bits .or .u8 ((x5 * 16) % 256) bt104.1) (wrap64 (x6 + 1))) else (some (0, x6, false)))) else (none)) else (none))) else (some (x5, 3, true))
end
def tokens_escape.f (k : Nat) (a0 : ByteArray) : Option (Int × Int × Bool) := if a0.toList = ([] : List UInt8) then (some (0, 0, false)) else (if 0 < (a0.size : Int) then (if (bt a0 0) = 34 then (tokens_escape.j0 k a0 (bt a0 0) ((bt a0 0) == 34)) else (tokens_escape.j0 k a0 (bt a0 0) ((bt a0 0) == 92))) else (none))
theorem tokens_escape.mono_l : ∀ k, (∀ y0 y1 y2, LeO (tokens_escape.j0 k y0 y1 y2) (tokens_escape.j0 (k + 1) y0 y1 y2)) ∧ (∀ y0 y1 y2, LeO (tokens_escape.l0 k y0 y1 y2) (tokens_escape.l0 (k + 1) y0 y1 y2))
 | 0 => ⟨fun _ _ _ r h => by simp [tokens_escape.j0] at h, fun _ _ _ r h => by simp [tokens_escape.l0] at h⟩
 | k + 1 => by
  obtain ⟨ih0, ih1⟩ := tokens_escape.mono_l k
  refine ⟨?_, ?_⟩
  ·
   intro y0 y1 y2
   unfold tokens_escape.j0
   repeat' first
   | (with_reducible exact ih0 _ _ _)
   | (with_reducible exact ih1 _ _ _)
   | (with_reducible exact tokens_hex.mono _ _)
   | (with_reducible exact LeO.refl _)
   | (with_reducible exact LeO.none _)
   | (with_reducible refine LeO.ite ?_ ?_)
   | (with_reducible refine LeO.bind ?_ (fun _ => ?_))
   | exact ih0 _ _ _
   | exact ih1 _ _ _
   | exact tokens_hex.mono _ _
   | exact LeO.none _
   | refine LeO.ite ?_ ?_
   | refine LeO.bind ?_ (fun _ => ?_)
  ·
   intro y0 y1 y2
   unfold tokens_escape.l0
   repeat' first
   | (with_reducible exact ih0 _ _ _)
   | (with_reducible exact ih1 _ _ _)
   | (with_reducible exact tokens_hex.mono _ _)
   | (with_reducible exact LeO.refl _)
   | (with_reducible exact LeO.none _)
   | (with_reducible refine LeO.ite ?_ ?_)
   | (with_reducible refine LeO.bind ?_ (fun _ => ?_))
   | exact ih0 _ _ _
   | exact ih1 _ _ _
   | exact tokens_hex.mono _ _
   | exact LeO.none _
   | refine LeO.ite ?_ ?_
   | refine LeO.bind ?_ (fun _ => ?_)
theorem tokens_escape.mono : ∀ a0 k, LeO (tokens_escape.f k a0) (tokens_escape.f (k + 1) a0) := by
 intro a0 k
 obtain ⟨ih0, ih1⟩ := tokens_escape.mono_l k
 unfold tokens_escape.f
 repeat' first
   | (with_reducible exact ih0 _ _ _)
   | (with_reducible exact ih1 _ _ _)
   | (with_reducible exact tokens_hex.mono _ _)
   | (with_reducible exact LeO.refl _)
   | (with_reducible exact LeO.none _)
   | (with_reducible refine LeO.ite ?_ ?_)
   | (with_reducible refine LeO.bind ?_ (fun _ => ?_))
   | exact ih0 _ _ _
   | exact ih1 _ _ _
   | exact tokens_hex.mono _ _
   | exact LeO.none _
   | refine LeO.ite ?_ ?_
   | refine LeO.bind ?_ (fun _ => ?_)
set_option maxHeartbeats 8000000 in
set_option maxRecDepth 100000 in
theorem tokens_escape.calls (k : Nat) (a0 : ByteArray) (r1 : Int) (r2 : Int) (r3 : Bool) (w : World) (h : tokens_escape.f k a0 = some (r1, r2, r3)) :
  Calls Tryd.prog 70 #[.string a0] w fun e w' => e = .returned (.tuple #[.int .u8 r1, .int .i64 r2, .bool r3]) ∧ Drawn0 w w' := by
 have H : (if a0.toList = ([] : List UInt8) then (some (0, 0, false)) else (if 0 < (a0.size : Int) then (if (bt a0 0) = 34 then (tokens_escape.j0 k a0 (bt a0 0) ((bt a0 0) == 34)) else (tokens_escape.j0 k a0 (bt a0 0) ((bt a0 0) == 92))) else (none))) = some (r1, r2, r3) := h
 clear h
 by_cases c2 : a0.toList = ([] : List UInt8)
 ·
  rw [if_pos c2] at H
  have c2b0 : (a0.toList == ([] : List UInt8)) = true := beq_iff_eq.mpr c2
  have c2b1 : (a0.toList != ([] : List UInt8)) = false := bne_eq_false_iff_eq.mpr c2
  clear c2
  simp only [Option.some.injEq, Prod.mk.injEq] at H
  obtain ⟨rfl, rfl, rfl⟩ := H
  go_enter Tryd.func70, Tryd.ntmps70
  go_wp2
  go_ret3
  exact ⟨by first | rfl | (simp; done) | (simp [*]; done), g1q⟩
 ·
  rw [if_neg c2] at H
  have c2b0 : (a0.toList == ([] : List UInt8)) = false := beq_eq_false_iff_ne.mpr c2
  have c2b1 : (a0.toList != ([] : List UInt8)) = true := bne_iff_ne.mpr c2
  by_cases c3 : 0 < (a0.size : Int)
  ·
   rw [if_pos c3] at H
   have c3b0 : decide (0 < (a0.size : Int)) = true := decide_eq_true c3
   have c3b1 : decide (0 < a0.size) = true := decide_eq_true (by omega)
   clear c3
   have HC5 := Aside0.mk H
   clear H
   have p4 : 0 ≤ (0 : Int) := (by omega)
   have q4 : 0 < a0.size := (by have : (0 : Int) < (a0.size : Int) := of_decide_eq_true azq; omega)
   have hx4 : ∀ h : 0 < a0.size, ((a0[0]'h).toNat : Int) = bt a0 0 := bt_at a0 0
   clear p4
   have qi4 : (0 < (a0.size : Int)) = True := eq_true (of_decide_eq_true azq)
   replace q4 := eq_true q4
   go_enter Tryd.func70, Tryd.ntmps70
   go_upto_if 13 with (fail)
   go_cut [13] (fun v13 wc => ∃ (kq : Nat) (x13_4 : Bool), v13 = .bool x13_4 ∧ Aside0 (tokens_escape.j0 kq a0 (bt a0 0) x13_4 = some (r1, r2, r3)) ∧ Aside0 (kq ≤ k) ∧ Drawn0 w wc)
   case first =>
    have H := HC5.out
    clear HC5
    by_cases c6 : (bt a0 0) = 34
    ·
     rw [if_pos c6] at H
     have c6b0 : ((bt a0 0) == 34) = true := beq_iff_eq.mpr c6
     have c6b1 : ((bt a0 0) != 34) = false := bne_eq_false_iff_eq.mpr c6
     clear c6
     (first | rw [c6b0] | (simp only [i64_w, i32_w]; rw [c6b0]) | skip)
     have H' := Aside0.mk H
     clear H
     go_wp2
     go_meet
     case rel => exact ⟨_, (((bt a0 0) == 34)), (by first | rfl | (simp; done) | (simp [*]; done)), H', ⟨by first | omega | exact Nat.le_refl _⟩, g1q⟩
    ·
     rw [if_neg c6] at H
     have c6b0 : ((bt a0 0) == 34) = false := beq_eq_false_iff_ne.mpr c6
     have c6b1 : ((bt a0 0) != 34) = true := bne_iff_ne.mpr c6
     (first | rw [c6b0] | (simp only [i64_w, i32_w]; rw [c6b0]) | skip)
     have H' := Aside0.mk H
     clear H
     go_wp2
     go_meet
     case rel => exact ⟨_, (((bt a0 0) == 92)), (by first | rfl | (simp; done) | (simp [*]; done)), H', ⟨by first | omega | exact Nat.le_refl _⟩, g1q⟩
   case rest =>
    clear HC5
    (try clear c2); (try clear c2b0); (try clear c2b1); (try clear p2); (try clear c3); (try clear c3b0); (try clear c3b1); (try clear p4); (try clear q4); (try clear hx4); (try clear qi4); (try clear c6); (try clear c6b0); (try clear c6b1); (try clear p4); (try clear q4)
    obtain ⟨kq, x13_4, rfl, HA, HJ4, ⟨mc4, rfl⟩⟩ := hcut
    cases kq with
    | zero => exact absurd HA.out (by simp [tokens_escape.j0])
    | succ kj4 =>
     have H := HA.out
     clear HA
     simp only [tokens_escape.j0] at H
     by_cases c7 : x13_4 = true
     ·
      subst c7
      have H1 : (if 0 < (a0.size : Int) then (some (bt a0 0, 1, true)) else (none)) = some (r1, r2, r3) := by rw [if_pos rfl] at H; exact H
      clear H
      have H := H1
      clear H1
      by_cases c8 : 0 < (a0.size : Int)
      ·
       rw [if_pos c8] at H
       have c8b0 : decide (0 < (a0.size : Int)) = true := decide_eq_true c8
       have c8b1 : decide (0 < a0.size) = true := decide_eq_true (by omega)
       clear c8
       simp only [Option.some.injEq, Prod.mk.injEq] at H
       obtain ⟨rfl, rfl, rfl⟩ := H
       have p9 : 0 ≤ (0 : Int) := (by omega)
       have q9 : 0 < a0.size := (by have : (0 : Int) < (a0.size : Int) := of_decide_eq_true azq; omega)
       have hx9 : ∀ h : 0 < a0.size, ((a0[0]'h).toNat : Int) = bt a0 0 := bt_at a0 0
       clear p9
       have qi9 : (0 < (a0.size : Int)) = True := eq_true (of_decide_eq_true azq)
       replace q9 := eq_true q9
       go_wp2
       go_ret3
       exact ⟨by first | rfl | (simp; done) | (simp [*]; done), g1q⟩
      ·
       rw [if_neg c8] at H
       exact absurd H (by simp)
     ·
      replace c7 := Bool.eq_false_iff.mpr c7
      subst c7
      have H1 : (if (bt a0 0) = 110 then (some (10, 1, true)) else (if (bt a0 0) = 120 then (tokens_escape.l0 kj4 a0 0 1) else (some (0, 0, false)))) = some (r1, r2, r3) := by rw [if_neg (show ¬ (false = true) by decide)] at H; exact H
      clear H
      have H := H1
      clear H1
      by_cases c10 : (bt a0 0) = 110
      ·
       rw [if_pos c10] at H
       have c10b0 : ((bt a0 0) == 110) = true := beq_iff_eq.mpr c10
       have c10b1 : ((bt a0 0) != 110) = false := bne_eq_false_iff_eq.mpr c10
       clear c10
       simp only [Option.some.injEq, Prod.mk.injEq] at H
       obtain ⟨rfl, rfl, rfl⟩ := H
       go_wp2
       go_ret3
       exact ⟨by first | rfl | (simp; done) | (simp [*]; done), g1q⟩
      ·
       rw [if_neg c10] at H
       have c10b0 : ((bt a0 0) == 110) = false := beq_eq_false_iff_ne.mpr c10
       have c10b1 : ((bt a0 0) != 110) = true := bne_iff_ne.mpr c10
       by_cases c11 : (bt a0 0) = 120
       ·
        rw [if_pos c11] at H
        have c11b0 : ((bt a0 0) == 120) = true := beq_iff_eq.mpr c11
        have c11b1 : ((bt a0 0) != 120) = false := bne_eq_false_iff_eq.mpr c11
        clear c11
        have H' := Aside0.mk H
        clear H
        go_wp2
        go_loopg [5, 6] kj4 (fun kq v5 v6 w' => ∃ (x5_2 : Int) (x6_2 : Int), v5 = .int .u8 x5_2 ∧ v6 = .int .i64 x6_2 ∧ Aside0 (tokens_escape.l0 kq a0 x5_2 x6_2 = some (r1, r2, r3)) ∧ Aside0 (kq ≤ kj4) ∧ Drawn0 w w')
        case atStart => exact ⟨(0), (1), (by first | rfl | (simp; done) | (simp [*]; done)), (by first | rfl | (simp; done) | (simp [*]; done)), H', ⟨Nat.le_refl _⟩, g1q⟩
        case round =>
         clear H'
         (try clear c1); (try clear c2); (try clear c2b0); (try clear c2b1); (try clear p2); (try clear c3); (try clear c3b0); (try clear c3b1); (try clear c4); (try clear p4); (try clear q4); (try clear hx4); (try clear qi4); (try clear c6); (try clear c6b0); (try clear c6b1); (try clear c7); (try clear c8); (try clear c8b0); (try clear c8b1); (try clear p9); (try clear q9); (try clear hx9); (try clear qi9); (try clear c10); (try clear c10b0); (try clear c10b1); (try clear c11); (try clear c11b0); (try clear c11b1); (try clear p2); (try clear p4); (try clear p9); (try clear q4); (try clear q9)
         obtain ⟨x5_2, x6_2, rfl, rfl, HA, HK2, ⟨m2, rfl⟩⟩ := hrel
         cases gk with
         | zero => exact absurd HA.out (by simp [tokens_escape.l0])
         | succ k2 =>
          have H := HA.out
          clear HA
          simp only [tokens_escape.l0] at H
          by_cases c12 : x6_2 < 3
          ·
           rw [if_pos c12] at H
           have c12b0 : decide (x6_2 < 3) = true := decide_eq_true c12
           clear c12
           by_cases c13 : x6_2 = (a0.size : Int)
           ·
            rw [if_pos c13] at H
            have c13b0 : (x6_2 == (a0.size : Int)) = true := beq_iff_eq.mpr c13
            have c13b1 : (x6_2 != (a0.size : Int)) = false := bne_eq_false_iff_eq.mpr c13
            clear c13
            simp only [Option.some.injEq, Prod.mk.injEq] at H
            obtain ⟨rfl, rfl, rfl⟩ := H
            go_wp2
            go_ret3
            exact ⟨by first | rfl | (simp; done) | (simp [*]; done), g1q⟩
           ·
            rw [if_neg c13] at H
            have c13b0 : (x6_2 == (a0.size : Int)) = false := beq_eq_false_iff_ne.mpr c13
            have c13b1 : (x6_2 != (a0.size : Int)) = true := bne_iff_ne.mpr c13
            by_cases c14 : 0 ≤ x6_2
            ·
             rw [if_pos c14] at H
             have c14b0 : decide (0 ≤ x6_2) = true := decide_eq_true c14
             clear c14
             by_cases c15 : x6_2 < (a0.size : Int)
             ·
              rw [if_pos c15] at H
              have c15b0 : decide (x6_2 < (a0.size : Int)) = true := decide_eq_true c15
              clear c15
              replace H := Option.bind_eq_some_iff.mp H
              obtain ⟨⟨t104, t105⟩, A170, H⟩ := H
              replace H : (if t105 = true then (tokens_escape.l0 k2 a0 (Go.bits .or .u8 ((x5_2 * 16) % 256) t104) (wrap64 (x6_2 + 1))) else (some (0, x6_2, false))) = some (r1, r2, r3) := H
              have A17 := Aside0.mk A170
              clear A170
              by_cases c18 : t105 = true
              ·
               subst c18
               have H1 : (tokens_escape.l0 k2 a0 (Go.bits .or .u8 ((x5_2 * 16) % 256) t104) (wrap64 (x6_2 + 1))) = some (r1, r2, r3) := by rw [if_pos rfl] at H; exact H
               clear H
               have H := H1
               clear H1
               have H' := Aside0.mk H
               clear H
               have p16 : 0 ≤ (x6_2 : Int) := of_decide_eq_true azq
               have q16 : x6_2 < (a0.size : Int) := of_decide_eq_true azq
               have hx16 := bt_at a0 x6_2
               replace p16 := eq_true p16
               replace q16 := eq_true q16
               go_wp2_with (first | ((with_reducible refine gate_callee (f := 80) rfl ?_); refine goesL_ (some 35) rfl rfl Tryd.func80 (by kernel_rfl) rfl #[.int .u8 (bt a0 x6_2)] rfl agq ?_; (with_reducible refine (tokens_hex.calls k2 (bt a0 x6_2) t104 true _ A17.out).mono ?_); rintro e w' ⟨rfl, ⟨nd, rfl⟩⟩; refine ⟨_, rfl, ?_⟩))
               go_roundg k2
               case measure => have := HJ4.out; have := HK2.out; omega
               case rel => exact ⟨(Go.bits .or .u8 ((x5_2 * 16) % 256) t104), (wrap64 (x6_2 + 1)), (by first | rfl | (simp; done) | (simp [*]; done)), (by first | rfl | (simp; done) | (simp [*]; done)), H', ⟨by have := HJ4.out; have := HK2.out; omega⟩, g1q⟩
              ·
               replace c18 := Bool.eq_false_iff.mpr c18
               subst c18
               have H1 : (some (0, x6_2, false)) = some (r1, r2, r3) := by rw [if_neg (show ¬ (false = true) by decide)] at H; exact H
               clear H
               have H := H1
               clear H1
               simp only [Option.some.injEq, Prod.mk.injEq] at H
               obtain ⟨rfl, rfl, rfl⟩ := H
               have p16 : 0 ≤ (x6_2 : Int) := of_decide_eq_true azq
               have q16 : x6_2 < (a0.size : Int) := of_decide_eq_true azq
               have hx16 := bt_at a0 x6_2
               replace p16 := eq_true p16
               replace q16 := eq_true q16
               go_wp2_with (first | ((with_reducible refine gate_callee (f := 80) rfl ?_); refine goesL_ (some 35) rfl rfl Tryd.func80 (by kernel_rfl) rfl #[.int .u8 (bt a0 x6_2)] rfl agq ?_; (with_reducible refine (tokens_hex.calls k2 (bt a0 x6_2) t104 false _ A17.out).mono ?_); rintro e w' ⟨rfl, ⟨nd, rfl⟩⟩; refine ⟨_, rfl, ?_⟩))
               go_ret3
               exact ⟨by first | rfl | (simp; done) | (simp [*]; done), g1q⟩
             ·
              rw [if_neg c15] at H
              exact absurd H (by simp)
            ·
             rw [if_neg c14] at H
             exact absurd H (by simp)
          ·
           rw [if_neg c12] at H
           have c12b0 : decide (x6_2 < 3) = false := decide_eq_false c12
           clear c12
           simp only [Option.some.injEq, Prod.mk.injEq] at H
           obtain ⟨rfl, rfl, rfl⟩ := H
           go_wp2
           go_ret3
           exact ⟨by first | rfl | (simp; done) | (simp [*]; done), g1q⟩
       ·
        rw [if_neg c11] at H
        have c11b0 : ((bt a0 0) == 120) = false := beq_eq_false_iff_ne.mpr c11
        have c11b1 : ((bt a0 0) != 120) = true := bne_iff_ne.mpr c11
        simp only [Option.some.injEq, Prod.mk.injEq] at H
        obtain ⟨rfl, rfl, rfl⟩ := H
        go_wp2
        go_ret3
        exact ⟨by first | rfl | (simp; done) | (simp [*]; done), g1q⟩
  ·
   rw [if_neg c3] at H
   exact absurd H (by simp)
def tokens_quoted.l0 : Nat → ByteArray → List Int → Int → Option (ByteArray × Int × Bool)
 | 0, _, _, _ => none
 | k + 1, x0, x5, x6 => if x6 < (x0.size : Int) then (if 0 ≤ x6 then (if (bt x0 x6) = 34 then (some (strOfNums x5, wrap64 (x6 + 1), true)) else (if (bt x0 x6) < 32 then (some ((⟨#[]⟩ : ByteArray), x6, false)) else (if (bt x0 x6) = 92 then (if 0 ≤ (wrap64 (x6 + 1)) then (if (wrap64 (x6 + 1)) ≤ (x0.size : Int) then ((tokens_escape.f k (x0.extract ((wrap64 (x6 + 1)) : Int).toNat x0.size)).bind fun bt106 => (if bt106.2.2 = true then (if x5.length < 140737488355328 then (tokens_quoted.l0 k x0 (x5 ++ [bt106.1]) (wrap64 ((wrap64 ((wrap64 (x6 + 1)) + (wrap64 (bt106.2.1 - 1)))) + 1))) else (none)) else (some ((⟨#[]⟩ : ByteArray), wrap64 ((wrap64 (x6 + 1)) + bt106.2.1), false)))) else (none)) else (none)) else (if x5.length < 140737488355328 then (tokens_quoted.l0 k x0 (x5 ++ [bt x0 x6]) (wrap64 (x6 + 1))) else (none))))) else (none)) else (some ((⟨#[]⟩ : ByteArray), (x0.size : Int), false))
def tokens_quoted.f (k : Nat) (a0 : ByteArray) : Option (ByteArray × Int × Bool) := tokens_quoted.l0 k a0 ([] : List Int) 0
theorem tokens_quoted.mono_l : ∀ k, (∀ y0 y1 y2, LeO (tokens_quoted.l0 k y0 y1 y2) (tokens_quoted.l0 (k + 1) y0 y1 y2))
 | 0 => fun _ _ _ r h => by simp [tokens_quoted.l0] at h
 | k + 1 => by
  have ih0 := tokens_quoted.mono_l k
  ·
   intro y0 y1 y2
   unfold tokens_quoted.l0
   repeat' first
   | (with_reducible exact ih0 _ _ _)
   | (with_reducible exact tokens_escape.mono _ _)
   | (with_reducible exact LeO.refl _)
   | (with_reducible exact LeO.none _)
   | (with_reducible refine LeO.ite ?_ ?_)
   | (with_reducible refine LeO.bind ?_ (fun _ => ?_))
   | exact ih0 _ _ _
   | exact tokens_escape.mono _ _
   | exact LeO.none _
   | refine LeO.ite ?_ ?_
   | refine LeO.bind ?_ (fun _ => ?_)
theorem tokens_quoted.mono : ∀ a0 k, LeO (tokens_quoted.f k a0) (tokens_quoted.f (k + 1) a0) := by
 intro a0 k
 have ih0 := tokens_quoted.mono_l k
 unfold tokens_quoted.f
 repeat' first
   | (with_reducible exact ih0 _ _ _)
   | (with_reducible exact tokens_escape.mono _ _)
   | (with_reducible exact LeO.refl _)
   | (with_reducible exact LeO.none _)
   | (with_reducible refine LeO.ite ?_ ?_)
   | (with_reducible refine LeO.bind ?_ (fun _ => ?_))
   | exact ih0 _ _ _
   | exact tokens_escape.mono _ _
   | exact LeO.none _
   | refine LeO.ite ?_ ?_
   | refine LeO.bind ?_ (fun _ => ?_)
set_option maxHeartbeats 8000000 in
set_option maxRecDepth 100000 in
theorem tokens_quoted.calls (k : Nat) (a0 : ByteArray) (r1 : ByteArray) (r2 : Int) (r3 : Bool) (w : World) (h : tokens_quoted.f k a0 = some (r1, r2, r3)) :
  Calls Tryd.prog 49 #[.string a0] w fun e w' => e = .returned (.tuple #[.string r1, .int .i64 r2, .bool r3]) ∧ Below w.heap.size w w' := by
 have HB := Aside0.mk (Below.refl w.heap.size w)
 have H : (tokens_quoted.l0 k a0 ([] : List Int) 0) = some (r1, r2, r3) := h
 clear h
 have H' := Aside0.mk H
 clear H
 go_enter Tryd.func49, Tryd.ntmps49
 go_wp2
 go_loopg [5, 6] k (fun kq v5 v6 w' => ∃ (x5_1 : List Int) (x6_1 : Int), v6 = .int .i64 x6_1 ∧ Aside0 (tokens_quoted.l0 kq a0 x5_1 x6_1 = some (r1, r2, r3)) ∧ Aside0 (kq ≤ k) ∧ Aside0 (Kd.R (Kd.int .u8) 5 w' w.heap.size (fun _ => True) v5 x5_1) ∧ Aside0 (Below w.heap.size w w'))
 case atStart => exact ⟨(([] : List Int)), (0), (by first | rfl | (simp; done) | (simp [*]; done)), H', ⟨Nat.le_refl _⟩, ⟨by first | exact Kd.R_nil _ _ _ _ _ | exact Kd.N_nil _ _ _ _ _ | exact Kd.V_nil _ _ _ _ _ | exact Kd.Q_nil _ _ _ _ _ | exact Kd.S_nil _ _ _ _ _⟩, ⟨bq⟩⟩
 case round =>
  clear H'
  obtain ⟨x5_1, x6_1, rfl, HA, HK1, HO_5, HB⟩ := hrel
  cases gk with
  | zero => exact absurd HA.out (by simp [tokens_quoted.l0])
  | succ k1 =>
   have H := HA.out
   clear HA
   simp only [tokens_quoted.l0] at H
   by_cases c2 : x6_1 < (a0.size : Int)
   ·
    rw [if_pos c2] at H
    have c2b0 : decide (x6_1 < (a0.size : Int)) = true := decide_eq_true c2
    clear c2
    by_cases c3 : 0 ≤ x6_1
    ·
     rw [if_pos c3] at H
     have c3b0 : decide (0 ≤ x6_1) = true := decide_eq_true c3
     clear c3
     by_cases c5 : (bt a0 x6_1) = 34
     ·
      rw [if_pos c5] at H
      have c5b0 : ((bt a0 x6_1) == 34) = true := beq_iff_eq.mpr c5
      have c5b1 : ((bt a0 x6_1) != 34) = false := bne_eq_false_iff_eq.mpr c5
      clear c5
      simp only [Option.some.injEq, Prod.mk.injEq] at H
      obtain ⟨rfl, rfl, rfl⟩ := H
      have p4 : 0 ≤ (x6_1 : Int) := of_decide_eq_true azq
      have q4 : x6_1 < (a0.size : Int) := of_decide_eq_true azq
      have hx4 := bt_at a0 x6_1
      replace p4 := eq_true p4
      replace q4 := eq_true q4
      have hcv6 := own_string (P := Tryd.prog) Tryd.underlying35 Tryd.underlying5 Tryd.underlying9 (Kd.own_of_R HO_5.out)
      go_wp2
      go_ret3
      exact ⟨by first | rfl | (simp [errW_none, errW_some]; exact (show ∀ L_ : List UInt8, L_.isEmpty = !(L_ != []) from fun L_ => by cases L_ <;> rfl) _) | (simp [errW_none, errW_some] <;> rfl) | (simp [*, errW_none, errW_some] <;> rfl), bq⟩
     ·
      rw [if_neg c5] at H
      have c5b0 : ((bt a0 x6_1) == 34) = false := beq_eq_false_iff_ne.mpr c5
      have c5b1 : ((bt a0 x6_1) != 34) = true := bne_iff_ne.mpr c5
      by_cases c7 : (bt a0 x6_1) < 32
      ·
       rw [if_pos c7] at H
       have c7b0 : decide ((bt a0 x6_1) < 32) = true := decide_eq_true c7
       clear c7
       simp only [Option.some.injEq, Prod.mk.injEq] at H
       obtain ⟨rfl, rfl, rfl⟩ := H
       have p4 : 0 ≤ (x6_1 : Int) := of_decide_eq_true azq
       have q4 : x6_1 < (a0.size : Int) := of_decide_eq_true azq
       have hx4 := bt_at a0 x6_1
       replace p4 := eq_true p4
       replace q4 := eq_true q4
       go_wp2
       go_ret3
       exact ⟨by first | rfl | (simp [errW_none, errW_some]; exact (show ∀ L_ : List UInt8, L_.isEmpty = !(L_ != []) from fun L_ => by cases L_ <;> rfl) _) | (simp [errW_none, errW_some] <;> rfl) | (simp [*, errW_none, errW_some] <;> rfl), bq⟩
      ·
       rw [if_neg c7] at H
       have c7b0 : decide ((bt a0 x6_1) < 32) = false := decide_eq_false c7
       clear c7
       by_cases c8 : (bt a0 x6_1) = 92
       ·
        rw [if_pos c8] at H
        have c8b0 : ((bt a0 x6_1) == 92) = true := beq_iff_eq.mpr c8
        have c8b1 : ((bt a0 x6_1) != 92) = false := bne_eq_false_iff_eq.mpr c8
        clear c8
        obtain ⟨ji9, hji9⟩ : ∃ j_ : Int, (wrap64 (x6_1 + 1)) = j_ := ⟨_, rfl⟩
        replace H : (if 0 ≤ (ji9) then (if (ji9) ≤ (a0.size : Int) then ((tokens_escape.f k1 (a0.extract ((ji9) : Int).toNat a0.size)).bind fun bt106 => (if bt106.2.2 = true then (if x5_1.length < 140737488355328 then (tokens_quoted.l0 k1 a0 (x5_1 ++ [bt106.1]) (wrap64 ((wrap64 ((ji9) + (wrap64 (bt106.2.1 - 1)))) + 1))) else (none)) else (some ((⟨#[]⟩ : ByteArray), wrap64 ((ji9) + bt106.2.1), false)))) else (none)) else (none)) = some (r1, r2, r3) := by first | (rw [hji9] at H; exact H) | (simp only [hji9] at H ⊢; exact H)
        have hji9w : (IntKind.i64.wrap (x6_1 + 1)) = ji9 := (i64_w _).trans hji9
        by_cases c10 : 0 ≤ (ji9)
        ·
         rw [if_pos c10] at H
         have c10b0 := eq_true c10
         have c10b1 : decide (0 ≤ (ji9)) = true := decide_eq_true c10
         clear c10
         by_cases c11 : (ji9) ≤ (a0.size : Int)
         ·
          rw [if_pos c11] at H
          have c11b0 := eq_true c11
          have c11b1 : decide ((ji9) ≤ (a0.size : Int)) = true := decide_eq_true c11
          clear c11
          replace H := Option.bind_eq_some_iff.mp H
          obtain ⟨⟨t106, t107, t108⟩, A120, H⟩ := H
          replace H : (if t108 = true then (if x5_1.length < 140737488355328 then (tokens_quoted.l0 k1 a0 (x5_1 ++ [t106]) (wrap64 ((wrap64 ((ji9) + (wrap64 (t107 - 1)))) + 1))) else (none)) else (some ((⟨#[]⟩ : ByteArray), wrap64 ((ji9) + t107), false))) = some (r1, r2, r3) := H
          have A12 := Aside0.mk A120
          clear A120
          by_cases c13 : t108 = true
          ·
           subst c13
           have H1 : (if x5_1.length < 140737488355328 then (tokens_quoted.l0 k1 a0 (x5_1 ++ [t106]) (wrap64 ((wrap64 ((ji9) + (wrap64 (t107 - 1)))) + 1))) else (none)) = some (r1, r2, r3) := by rw [if_pos rfl] at H; exact H
           clear H
           have H := H1
           clear H1
           by_cases c14 : x5_1.length < 140737488355328
           ·
            rw [if_pos c14] at H
            have LMc14 := Aside0.mk c14
            clear c14
            obtain ⟨y109, hy109⟩ : ∃ y_ : List Int, y_ = (x5_1 ++ [t106]) := ⟨_, rfl⟩
            replace H : (tokens_quoted.l0 k1 a0 y109 (wrap64 ((wrap64 ((ji9) + (wrap64 (t107 - 1)))) + 1))) = some (r1, r2, r3) := by first | (rw [hy109]; with_reducible exact H) | (have H2_ := (Option.bind_some _ _).symm.trans H; rw [hy109]; with_reducible exact H2_) | (have H2_ := (Option.bind_some _ _).symm.trans H; with_reducible exact H2_) | with_reducible exact H | (rw [hy109]; exact H) | exact H
            have Ny109 := Aside0.mk hy109
            clear hy109
            have H' := Aside0.mk H
            clear H
            have p4 : 0 ≤ (x6_1 : Int) := of_decide_eq_true azq
            have q4 : x6_1 < (a0.size : Int) := of_decide_eq_true azq
            have hx4 := bt_at a0 x6_1
            replace p4 := eq_true p4
            replace q4 := eq_true q4
            go_wp2_with (first | ((with_reducible refine gate_callee (f := 70) rfl ?_); refine goesL_ (some 26) rfl rfl Tryd.func70 (by kernel_rfl) rfl #[.string (a0.extract ((ji9) : Int).toNat a0.size)] rfl (by (try simp only [List.map_toArray, List.map_cons, List.map_nil]); first | done | (simp only [hji9]; rfl) | rfl | (simp only [List.length_drop, List.length_take]; rfl)) ?_; (with_reducible refine (tokens_escape.calls k1 (a0.extract ((ji9) : Int).toNat a0.size) t106 t107 true _ A12.out).mono ?_); rintro e w' ⟨rfl, ⟨nd, rfl⟩⟩; refine ⟨_, rfl, ?_⟩) | ((with_reducible refine gate_builtin (b := .append) (xs := #[.tmp 35, .tmp 37]) rfl ?_); at_builtin; refine Kd.R_append (Kd.int .u8) (w0 := w) w.heap.size rfl (.tmp 35) (.tmp 37) 35 5 (.int .u8 0) 1 rfl Tryd.underlying35 info5 rfl (by decide) (by omega) u5 x5_1 t106 [.int .u8 t106] (fun _ => True) (fun _ => False) rfl rfl ?aP (fun _ hk => hk.elim) ?aF ?aO ?aB ?aS ?aL ?_; (case aP => exact rfl); (case aB => exact bq); (case aF => exact (fun _ _ => trivial)); (case aO => exact (rxq HO_5.out)); (case aS => exact (below_size bq)); (case aL => have := LMc14.out; omega); intro v110 w15 ho hb hg hat; rw [← Ny109.out] at ho; have n0_ := Aside0.mk (hb); have n1_ := Aside0.mk (ho); clear HB; clear HO_5; have HB := n0_; have HO111 := n1_; clear n0_ n1_; clear ho hb hg hat))
            go_roundg k1
            case measure => have := HK1.out; omega
            case rel => exact ⟨(y109), (wrap64 ((wrap64 ((ji9) + (wrap64 (t107 - 1)))) + 1)), (by first | rfl | (simp; done) | (simp only [← hji9] <;> (first | rfl | simp)) | (simp [*]; done)), H', ⟨by have := HK1.out; omega⟩, ⟨rxq HO111.out⟩, ⟨bq⟩⟩
           ·
            rw [if_neg c14] at H
            exact absurd H (by simp)
          ·
           replace c13 := Bool.eq_false_iff.mpr c13
           subst c13
           have H1 : (some ((⟨#[]⟩ : ByteArray), wrap64 ((ji9) + t107), false)) = some (r1, r2, r3) := by rw [if_neg (show ¬ (false = true) by decide)] at H; exact H
           clear H
           have H := H1
           clear H1
           simp only [Option.some.injEq, Prod.mk.injEq] at H
           obtain ⟨rfl, rfl, rfl⟩ := H
           have p4 : 0 ≤ (x6_1 : Int) := of_decide_eq_true azq
           have q4 : x6_1 < (a0.size : Int) := of_decide_eq_true azq
           have hx4 := bt_at a0 x6_1
           replace p4 := eq_true p4
           replace q4 := eq_true q4
           go_wp2_with (first | ((with_reducible refine gate_callee (f := 70) rfl ?_); refine goesL_ (some 26) rfl rfl Tryd.func70 (by kernel_rfl) rfl #[.string (a0.extract ((ji9) : Int).toNat a0.size)] rfl (by (try simp only [List.map_toArray, List.map_cons, List.map_nil]); first | done | (simp only [hji9]; rfl) | rfl | (simp only [List.length_drop, List.length_take]; rfl)) ?_; (with_reducible refine (tokens_escape.calls k1 (a0.extract ((ji9) : Int).toNat a0.size) t106 t107 false _ A12.out).mono ?_); rintro e w' ⟨rfl, ⟨nd, rfl⟩⟩; refine ⟨_, rfl, ?_⟩))
           go_ret3
           exact ⟨by first | rfl | (simp [errW_none, errW_some]; exact (show ∀ L_ : List UInt8, L_.isEmpty = !(L_ != []) from fun L_ => by cases L_ <;> rfl) _) | (simp [errW_none, errW_some] <;> rfl) | (simp only [← hji9]; first | rfl | (simp [errW_none, errW_some] <;> rfl)) | (simp [*, errW_none, errW_some] <;> rfl), bq⟩
         ·
          rw [if_neg c11] at H
          exact absurd H (by simp)
        ·
         rw [if_neg c10] at H
         exact absurd H (by simp)
       ·
        rw [if_neg c8] at H
        have c8b0 : ((bt a0 x6_1) == 92) = false := beq_eq_false_iff_ne.mpr c8
        have c8b1 : ((bt a0 x6_1) != 92) = true := bne_iff_ne.mpr c8
        by_cases c16 : x5_1.length < 140737488355328
        ·
         rw [if_pos c16] at H
         have LMc16 := Aside0.mk c16
         clear c16
         obtain ⟨y112, hy112⟩ : ∃ y_ : List Int, y_ = (x5_1 ++ [bt a0 x6_1]) := ⟨_, rfl⟩
         replace H : (tokens_quoted.l0 k1 a0 y112 (wrap64 (x6_1 + 1))) = some (r1, r2, r3) := by first | (rw [hy112]; with_reducible exact H) | (have H2_ := (Option.bind_some _ _).symm.trans H; rw [hy112]; with_reducible exact H2_) | (have H2_ := (Option.bind_some _ _).symm.trans H; with_reducible exact H2_) | with_reducible exact H | (rw [hy112]; exact H) | exact H
         have Ny112 := Aside0.mk hy112
         clear hy112
         have H' := Aside0.mk H
         clear H
         have p4 : 0 ≤ (x6_1 : Int) := of_decide_eq_true azq
         have q4 : x6_1 < (a0.size : Int) := of_decide_eq_true azq
         have hx4 := bt_at a0 x6_1
         replace p4 := eq_true p4
         replace q4 := eq_true q4
         go_wp2_with (first | ((with_reducible refine gate_builtin (b := .append) (xs := #[.tmp 57, .tmp 59]) rfl ?_); at_builtin; refine Kd.R_append (Kd.int .u8) (w0 := w) w.heap.size rfl (.tmp 57) (.tmp 59) 35 5 (.int .u8 0) 1 rfl Tryd.underlying35 info5 rfl (by decide) (by omega) u5 x5_1 (bt a0 x6_1) [.int .u8 (bt a0 x6_1)] (fun _ => True) (fun _ => False) rfl rfl ?aP (fun _ hk => hk.elim) ?aF ?aO ?aB ?aS ?aL ?_; (case aP => exact rfl); (case aB => exact bq); (case aF => exact (fun _ _ => trivial)); (case aO => exact (rxq HO_5.out)); (case aS => exact (below_size bq)); (case aL => have := LMc16.out; omega); intro v113 w17 ho hb hg hat; rw [← Ny112.out] at ho; have n0_ := Aside0.mk (hb); have n1_ := Aside0.mk (ho); clear HB; clear HO_5; have HB := n0_; have HO114 := n1_; clear n0_ n1_; clear ho hb hg hat))
         go_roundg k1
         case measure => have := HK1.out; omega
         case rel => exact ⟨(y112), (wrap64 (x6_1 + 1)), (by first | rfl | (simp; done) | (simp [*]; done)), H', ⟨by have := HK1.out; omega⟩, ⟨rxq HO114.out⟩, ⟨bq⟩⟩
        ·
         rw [if_neg c16] at H
         exact absurd H (by simp)
    ·
     rw [if_neg c3] at H
     exact absurd H (by simp)
   ·
    rw [if_neg c2] at H
    have c2b0 : decide (x6_1 < (a0.size : Int)) = false := decide_eq_false c2
    clear c2
    simp only [Option.some.injEq, Prod.mk.injEq] at H
    obtain ⟨rfl, rfl, rfl⟩ := H
    go_wp2
    go_ret3
    exact ⟨by first | rfl | (simp [errW_none, errW_some]; exact (show ∀ L_ : List UInt8, L_.isEmpty = !(L_ != []) from fun L_ => by cases L_ <;> rfl) _) | (simp [errW_none, errW_some] <;> rfl) | (simp [*, errW_none, errW_some] <;> rfl), bq⟩
def tokens_mark.j0 : Nat → ByteArray → Bool → Option (Int)
 | 0, _, _ => none
 | k + 1, x0, x14 => if x14 = true then (some 2) else (if 0 < (x0.size : Int) then (if (bt x0 0) = 33 then (some (-1)) else (some 1)) else (none))
def tokens_mark.f (k : Nat) (a0 : ByteArray) : Option (Int) := if 0 < (a0.size : Int) then ((strings_IndexByte.f (⟨#[60, 62, 61, 33]⟩ : ByteArray) (bt a0 0)).bind fun t115 => (if t115 ≥ 0 then (if (a0.size : Int) > 1 then (if 1 < (a0.size : Int) then (tokens_mark.j0 k a0 ((bt a0 1) == 61)) else (none)) else (tokens_mark.j0 k a0 false)) else ((strings_IndexByte.f (⟨#[91, 93, 40, 41, 44, 58, 35, 42, 43, 45, 47]⟩ : ByteArray) (bt a0 0)).bind fun t116 => (if t116 ≥ 0 then (some 1) else (some 0))))) else (none)
theorem tokens_mark.mono_l : ∀ k, (∀ y0 y1, LeO (tokens_mark.j0 k y0 y1) (tokens_mark.j0 (k + 1) y0 y1))
 | 0 => fun _ _ r h => by simp [tokens_mark.j0] at h
 | k + 1 => by
  have ih0 := tokens_mark.mono_l k
  ·
   intro y0 y1
   unfold tokens_mark.j0
   repeat' first
   | (with_reducible exact ih0 _ _)
   | (with_reducible exact LeO.refl _)
   | (with_reducible exact LeO.none _)
   | (with_reducible refine LeO.ite ?_ ?_)
   | (with_reducible refine LeO.bind ?_ (fun _ => ?_))
   | exact ih0 _ _
   | exact LeO.none _
   | refine LeO.ite ?_ ?_
   | refine LeO.bind ?_ (fun _ => ?_)
theorem tokens_mark.mono : ∀ a0 k, LeO (tokens_mark.f k a0) (tokens_mark.f (k + 1) a0) := by
 intro a0 k
 have ih0 := tokens_mark.mono_l k
 unfold tokens_mark.f
 repeat' first
   | (with_reducible exact ih0 _ _)
   | (with_reducible exact LeO.refl _)
   | (with_reducible exact LeO.none _)
   | (with_reducible refine LeO.ite ?_ ?_)
   | (with_reducible refine LeO.bind ?_ (fun _ => ?_))
   | exact ih0 _ _
   | exact LeO.none _
   | refine LeO.ite ?_ ?_
   | refine LeO.bind ?_ (fun _ => ?_)
set_option maxHeartbeats 8000000 in
set_option maxRecDepth 100000 in
theorem tokens_mark.calls (k : Nat) (a0 : ByteArray) (r : Int) (w : World) (h : tokens_mark.f k a0 = some r) :
  Calls Tryd.prog 50 #[.string a0] w fun e w' => e = .returned (.int .i64 r) ∧ Drawn0 w w' := by
 have H : (if 0 < (a0.size : Int) then ((strings_IndexByte.f (⟨#[60, 62, 61, 33]⟩ : ByteArray) (bt a0 0)).bind fun t115 => (if t115 ≥ 0 then (if (a0.size : Int) > 1 then (if 1 < (a0.size : Int) then (tokens_mark.j0 k a0 ((bt a0 1) == 61)) else (none)) else (tokens_mark.j0 k a0 false)) else ((strings_IndexByte.f (⟨#[91, 93, 40, 41, 44, 58, 35, 42, 43, 45, 47]⟩ : ByteArray) (bt a0 0)).bind fun t116 => (if t116 ≥ 0 then (some 1) else (some 0))))) else (none)) = some r := h
 clear h
 by_cases c2 : 0 < (a0.size : Int)
 ·
  rw [if_pos c2] at H
  have c2b0 : decide (0 < (a0.size : Int)) = true := decide_eq_true c2
  have c2b1 : decide (0 < a0.size) = true := decide_eq_true (by omega)
  clear c2
  replace H := Option.bind_eq_some_iff.mp H
  obtain ⟨t115, A40, H⟩ := H
  replace H : (if t115 ≥ 0 then (if (a0.size : Int) > 1 then (if 1 < (a0.size : Int) then (tokens_mark.j0 k a0 ((bt a0 1) == 61)) else (none)) else (tokens_mark.j0 k a0 false)) else ((strings_IndexByte.f (⟨#[91, 93, 40, 41, 44, 58, 35, 42, 43, 45, 47]⟩ : ByteArray) (bt a0 0)).bind fun t116 => (if t116 ≥ 0 then (some 1) else (some 0)))) = some r := H
  have A4 := Aside0.mk A40
  clear A40
  by_cases c5 : t115 ≥ 0
  ·
   rw [if_pos c5] at H
   have c5b0 : decide (0 ≤ t115) = true := decide_eq_true c5
   clear c5
   have HC6 := Aside0.mk H
   clear H
   have p3 : 0 ≤ (0 : Int) := (by omega)
   have q3 : 0 < a0.size := (by have : (0 : Int) < (a0.size : Int) := of_decide_eq_true azq; omega)
   have hx3 : ∀ h : 0 < a0.size, ((a0[0]'h).toNat : Int) = bt a0 0 := bt_at a0 0
   clear p3
   have qi3 : (0 < (a0.size : Int)) = True := eq_true (of_decide_eq_true azq)
   replace q3 := eq_true q3
   go_enter Tryd.func50, Tryd.ntmps50
   go_upto_region 2 with (first | ((with_reducible refine gate_callee (f := 43) rfl ?_); refine goesL_ (some 5) rfl rfl Tryd.func43 (by kernel_rfl) rfl #[.string (⟨#[60, 62, 61, 33]⟩ : ByteArray), .int .u8 (bt a0 0)] rfl agq ?_; (with_reducible refine (strings_IndexByte.calls (⟨#[60, 62, 61, 33]⟩ : ByteArray) (bt a0 0) t115 _ A4.out).mono ?_); rintro e w' ⟨rfl, ⟨nd, rfl⟩⟩; refine ⟨_, rfl, ?_⟩))
   (try simp only [Act.put, List.setIfInBounds_toArray, List.set_cons_zero, List.set_cons_succ])
   go_cut [14] (fun v14 wc => ∃ (kq : Nat) (x14_5 : Bool), v14 = .bool x14_5 ∧ Aside0 (tokens_mark.j0 kq a0 x14_5 = some r) ∧ Aside0 (kq ≤ k) ∧ Drawn0 w wc)
   case first =>
    have H := HC6.out
    clear HC6
    by_cases c7 : (a0.size : Int) > 1
    ·
     rw [if_pos c7] at H
     have c7b0 : decide (1 < (a0.size : Int)) = true := decide_eq_true c7
     have c7b1 : decide (1 < a0.size) = true := decide_eq_true (by omega)
     clear c7
     (first | rw [c7b0] | (simp only [i64_w, i32_w]; rw [c7b0]) | skip)
     by_cases c8 : 1 < (a0.size : Int)
     ·
      rw [if_pos c8] at H
      have c8b0 : decide (1 < (a0.size : Int)) = true := decide_eq_true c8
      have c8b1 : decide (1 < a0.size) = true := decide_eq_true (by omega)
      clear c8
      have H' := Aside0.mk H
      clear H
      have p9 : 0 ≤ (1 : Int) := (by omega)
      have q9 : 1 < a0.size := (by have : (1 : Int) < (a0.size : Int) := of_decide_eq_true azq; omega)
      have hx9 : ∀ h : 1 < a0.size, ((a0[1]'h).toNat : Int) = bt a0 1 := bt_at a0 1
      clear p9
      have qi9 : (1 < (a0.size : Int)) = True := eq_true (of_decide_eq_true azq)
      replace q9 := eq_true q9
      go_wp2
      go_meet
      case rel => exact ⟨_, (((bt a0 1) == 61)), (by first | rfl | (simp; done) | (simp [*]; done)), H', ⟨by first | omega | exact Nat.le_refl _⟩, g1q⟩
     ·
      rw [if_neg c8] at H
      exact absurd H (by simp)
    ·
     rw [if_neg c7] at H
     have c7b0 : decide (1 < (a0.size : Int)) = false := decide_eq_false c7
     have c7b1 : decide (1 < a0.size) = false := decide_eq_false (by omega)
     clear c7
     (first | rw [c7b0] | (simp only [i64_w, i32_w]; rw [c7b0]) | skip)
     have H' := Aside0.mk H
     clear H
     go_wp2
     go_meet
     case rel => exact ⟨_, (false), (by first | rfl | (simp; done) | (simp [*]; done)), H', ⟨by first | omega | exact Nat.le_refl _⟩, g1q⟩
   case rest =>
    clear HC6
    (try clear c2); (try clear c2b0); (try clear c2b1); (try clear p2); (try clear p3); (try clear q3); (try clear hx3); (try clear qi3); (try clear c4); (try clear c5); (try clear c5b0); (try clear c7); (try clear c7b0); (try clear c7b1); (try clear c8); (try clear c8b0); (try clear c8b1); (try clear p9); (try clear q9); (try clear hx9); (try clear qi9); (try clear p3); (try clear p9); (try clear q3); (try clear q9)
    obtain ⟨kq, x14_5, rfl, HA, HJ5, ⟨mc5, rfl⟩⟩ := hcut
    cases kq with
    | zero => exact absurd HA.out (by simp [tokens_mark.j0])
    | succ kj5 =>
     have H := HA.out
     clear HA
     simp only [tokens_mark.j0] at H
     by_cases c10 : x14_5 = true
     ·
      subst c10
      have H1 : (some 2) = some r := by rw [if_pos rfl] at H; exact H
      clear H
      have H := H1
      clear H1
      obtain rfl := Option.some.inj H
      go_wp2
      go_ret
      exact ⟨by first | rfl | (simp; done) | (simp [*]; done), g1q⟩
     ·
      replace c10 := Bool.eq_false_iff.mpr c10
      subst c10
      have H1 : (if 0 < (a0.size : Int) then (if (bt a0 0) = 33 then (some (-1)) else (some 1)) else (none)) = some r := by rw [if_neg (show ¬ (false = true) by decide)] at H; exact H
      clear H
      have H := H1
      clear H1
      by_cases c11 : 0 < (a0.size : Int)
      ·
       rw [if_pos c11] at H
       have c11b0 : decide (0 < (a0.size : Int)) = true := decide_eq_true c11
       have c11b1 : decide (0 < a0.size) = true := decide_eq_true (by omega)
       clear c11
       by_cases c13 : (bt a0 0) = 33
       ·
        rw [if_pos c13] at H
        have c13b0 : ((bt a0 0) == 33) = true := beq_iff_eq.mpr c13
        have c13b1 : ((bt a0 0) != 33) = false := bne_eq_false_iff_eq.mpr c13
        clear c13
        obtain rfl := Option.some.inj H
        have p12 : 0 ≤ (0 : Int) := (by omega)
        have q12 : 0 < a0.size := (by have : (0 : Int) < (a0.size : Int) := of_decide_eq_true azq; omega)
        have hx12 : ∀ h : 0 < a0.size, ((a0[0]'h).toNat : Int) = bt a0 0 := bt_at a0 0
        clear p12
        have qi12 : (0 < (a0.size : Int)) = True := eq_true (of_decide_eq_true azq)
        replace q12 := eq_true q12
        go_wp2
        go_ret
        exact ⟨by first | rfl | (simp; done) | (simp [*]; done), g1q⟩
       ·
        rw [if_neg c13] at H
        have c13b0 : ((bt a0 0) == 33) = false := beq_eq_false_iff_ne.mpr c13
        have c13b1 : ((bt a0 0) != 33) = true := bne_iff_ne.mpr c13
        obtain rfl := Option.some.inj H
        have p12 : 0 ≤ (0 : Int) := (by omega)
        have q12 : 0 < a0.size := (by have : (0 : Int) < (a0.size : Int) := of_decide_eq_true azq; omega)
        have hx12 : ∀ h : 0 < a0.size, ((a0[0]'h).toNat : Int) = bt a0 0 := bt_at a0 0
        clear p12
        have qi12 : (0 < (a0.size : Int)) = True := eq_true (of_decide_eq_true azq)
        replace q12 := eq_true q12
        go_wp2
        go_ret
        exact ⟨by first | rfl | (simp; done) | (simp [*]; done), g1q⟩
      ·
       rw [if_neg c11] at H
       exact absurd H (by simp)
  ·
   rw [if_neg c5] at H
   have c5b0 : decide (0 ≤ t115) = false := decide_eq_false c5
   clear c5
   replace H := Option.bind_eq_some_iff.mp H
   obtain ⟨t116, A150, H⟩ := H
   replace H : (if t116 ≥ 0 then (some 1) else (some 0)) = some r := H
   have A15 := Aside0.mk A150
   clear A150
   by_cases c16 : t116 ≥ 0
   ·
    rw [if_pos c16] at H
    have c16b0 : decide (0 ≤ t116) = true := decide_eq_true c16
    clear c16
    obtain rfl := Option.some.inj H
    have p3 : 0 ≤ (0 : Int) := (by omega)
    have q3 : 0 < a0.size := (by have : (0 : Int) < (a0.size : Int) := of_decide_eq_true azq; omega)
    have hx3 : ∀ h : 0 < a0.size, ((a0[0]'h).toNat : Int) = bt a0 0 := bt_at a0 0
    clear p3
    have qi3 : (0 < (a0.size : Int)) = True := eq_true (of_decide_eq_true azq)
    replace q3 := eq_true q3
    go_enter Tryd.func50, Tryd.ntmps50
    go_wp2_with (first | ((with_reducible refine gate_callee (f := 43) rfl ?_); refine goesL_ (some 5) rfl rfl Tryd.func43 (by kernel_rfl) rfl #[.string (⟨#[60, 62, 61, 33]⟩ : ByteArray), .int .u8 (bt a0 0)] rfl agq ?_; (with_reducible refine (strings_IndexByte.calls (⟨#[60, 62, 61, 33]⟩ : ByteArray) (bt a0 0) t115 _ A4.out).mono ?_); rintro e w' ⟨rfl, ⟨nd, rfl⟩⟩; refine ⟨_, rfl, ?_⟩; have p14 : 0 ≤ (0 : Int) := (by omega); have q14 : 0 < a0.size := (by have : (0 : Int) < (a0.size : Int) := of_decide_eq_true azq; omega); have hx14 : ∀ h : 0 < a0.size, ((a0[0]'h).toNat : Int) = bt a0 0 := bt_at a0 0; clear p14; have qi14 : (0 < (a0.size : Int)) = True := eq_true (of_decide_eq_true azq); replace q14 := eq_true q14) | ((with_reducible refine gate_callee (f := 43) rfl ?_); refine goesL_ (some 20) rfl rfl Tryd.func43 (by kernel_rfl) rfl #[.string (⟨#[91, 93, 40, 41, 44, 58, 35, 42, 43, 45, 47]⟩ : ByteArray), .int .u8 (bt a0 0)] rfl agq ?_; (with_reducible refine (strings_IndexByte.calls (⟨#[91, 93, 40, 41, 44, 58, 35, 42, 43, 45, 47]⟩ : ByteArray) (bt a0 0) t116 _ A15.out).mono ?_); rintro e w' ⟨rfl, ⟨nd, rfl⟩⟩; refine ⟨_, rfl, ?_⟩))
    go_ret
    exact ⟨by first | rfl | (simp; done) | (simp [*]; done), g1q⟩
   ·
    rw [if_neg c16] at H
    have c16b0 : decide (0 ≤ t116) = false := decide_eq_false c16
    clear c16
    obtain rfl := Option.some.inj H
    have p3 : 0 ≤ (0 : Int) := (by omega)
    have q3 : 0 < a0.size := (by have : (0 : Int) < (a0.size : Int) := of_decide_eq_true azq; omega)
    have hx3 : ∀ h : 0 < a0.size, ((a0[0]'h).toNat : Int) = bt a0 0 := bt_at a0 0
    clear p3
    have qi3 : (0 < (a0.size : Int)) = True := eq_true (of_decide_eq_true azq)
    replace q3 := eq_true q3
    go_enter Tryd.func50, Tryd.ntmps50
    go_wp2_with (first | ((with_reducible refine gate_callee (f := 43) rfl ?_); refine goesL_ (some 5) rfl rfl Tryd.func43 (by kernel_rfl) rfl #[.string (⟨#[60, 62, 61, 33]⟩ : ByteArray), .int .u8 (bt a0 0)] rfl agq ?_; (with_reducible refine (strings_IndexByte.calls (⟨#[60, 62, 61, 33]⟩ : ByteArray) (bt a0 0) t115 _ A4.out).mono ?_); rintro e w' ⟨rfl, ⟨nd, rfl⟩⟩; refine ⟨_, rfl, ?_⟩; have p14 : 0 ≤ (0 : Int) := (by omega); have q14 : 0 < a0.size := (by have : (0 : Int) < (a0.size : Int) := of_decide_eq_true azq; omega); have hx14 : ∀ h : 0 < a0.size, ((a0[0]'h).toNat : Int) = bt a0 0 := bt_at a0 0; clear p14; have qi14 : (0 < (a0.size : Int)) = True := eq_true (of_decide_eq_true azq); replace q14 := eq_true q14) | ((with_reducible refine gate_callee (f := 43) rfl ?_); refine goesL_ (some 20) rfl rfl Tryd.func43 (by kernel_rfl) rfl #[.string (⟨#[91, 93, 40, 41, 44, 58, 35, 42, 43, 45, 47]⟩ : ByteArray), .int .u8 (bt a0 0)] rfl agq ?_; (with_reducible refine (strings_IndexByte.calls (⟨#[91, 93, 40, 41, 44, 58, 35, 42, 43, 45, 47]⟩ : ByteArray) (bt a0 0) t116 _ A15.out).mono ?_); rintro e w' ⟨rfl, ⟨nd, rfl⟩⟩; refine ⟨_, rfl, ?_⟩))
    go_ret
    exact ⟨by first | rfl | (simp; done) | (simp [*]; done), g1q⟩
 ·
  rw [if_neg c2] at H
  exact absurd H (by simp)
end Go.Proofs.YteedjhoffjkhmaaDoor.PT
