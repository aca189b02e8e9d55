import Derived.Test.YteedjhoffjkhmaaDoorPTx0
import Derived.Test.YteedjhoffjkhmaaDoorPTx3
import Derived.Test.YteedjhoffjkhmaaDoorPTx6
import Derived.Test.YteedjhoffjkhmaaDoorPTx7
import Derived.Test.YteedjhoffjkhmaaDoorPTx8
import Derived.Test.YteedjhoffjkhmaaDoorPTx9
namespace Go.Proofs.YteedjhoffjkhmaaDoor.PT
open Go.RowKit Go.Proofs.YteedjhoffjkhmaaDoorW.PrintWords Go.Proofs.YteedjhoffjkhmaaDoorW.PrintLast Go.Proofs.YteedjhoffjkhmaaDoorW.PrintMore
attribute [local go_sem] max2_int min2_int max_two min_two max_three min_three max_four min_four
set_option linter.unusedVariables false
set_option linter.unusedSimpArgs false
def latchkeyref05_machine_take.j0 : Nat → Int → Bool → Int → Int → Option (Bool × Int × Int)
 | 0, _, _, _, _ => none
 | k + 1, x1, x68, x1000, x1001 => if x68 = true then ((latchkeyref05_machine_text.f k x1000 x1001 x1).bind fun bt166 => (some (bt166.1, bt166.2.1, bt166.2.2))) else ((latchkeyref05_machine_digits.f k x1000 x1001 x1).bind fun bt169 => (some (bt169.1, bt169.2.1, bt169.2.2)))
def latchkeyref05_machine_take.f (k : Nat) (s0_0 : Int) (s0_1 : Int) (a1 : Int) : Option (Bool × Int × Int) := if s0_0 = 0 then ((latchkeyref05_machine_begin.f k s0_0 s0_1 a1).bind fun bt153 => (some (bt153.1, bt153.2.1, bt153.2.2))) else (if s0_0 = 1 then (if a1 = 47 then (some (true, 2, s0_1)) else ((latchkeyref05_machine_begin.f k s0_0 s0_1 a1).bind fun bt156 => (some (bt156.1, bt156.2.1, bt156.2.2)))) else (if s0_0 = 2 then (if a1 = 10 then (some (true, 0, s0_1)) else (some (true, s0_0, s0_1))) else (if s0_0 = 3 then ((latchkeyref05_within.f a1).bind fun t159 => (if t159 = true then (some (decide ((wrap64 (s0_1 + 1)) ≤ 32), s0_0, wrap64 (s0_1 + 1))) else ((latchkeyref05_machine_begin.f k s0_0 s0_1 a1).bind fun bt160 => (some (bt160.1, bt160.2.1, bt160.2.2))))) else (if s0_0 = 14 then (if a1 = 61 then (some (true, 0, s0_1)) else ((latchkeyref05_machine_begin.f k s0_0 s0_1 a1).bind fun bt163 => (some (bt163.1, bt163.2.1, bt163.2.2)))) else (if s0_0 = 15 then (some ((a1 == 61), 0, s0_1)) else (if s0_0 = 10 then (latchkeyref05_machine_take.j0 k a1 (s0_0 == 10) s0_0 s0_1) else (if s0_0 = 11 then (latchkeyref05_machine_take.j0 k a1 (s0_0 == 11) s0_0 s0_1) else (if s0_0 = 12 then (latchkeyref05_machine_take.j0 k a1 (s0_0 == 12) s0_0 s0_1) else (latchkeyref05_machine_take.j0 k a1 (s0_0 == 13) s0_0 s0_1)))))))))
set_option maxHeartbeats 8000000 in
set_option maxRecDepth 100000 in
theorem latchkeyref05_machine_take.calls (k : Nat) (g : Nat) (s0_0 : Int) (s0_1 : Int) (a1 : Int) (r1 : Bool) (r2 : Int) (r3 : Int) (w0 w : World) (hI : IsS58 w0 w g s0_0 s0_1) (hB : Below w0.heap.size w0 w) (h : latchkeyref05_machine_take.f k s0_0 s0_1 a1 = some (r1, r2, r3)) :
  Calls Tryd.prog 51 #[.pointer (some ⟨g, 0, none⟩), .int .u8 a1] w fun e w' => e = .returned (.bool r1) ∧ IsS58 w0 w' g r2 r3 ∧ Below w0.heap.size w0 w' ∧ KeepBut w w' g none := by
 have HI0 := Aside0.mk hI
 have HK := Aside0.mk (KeepBut.refl w g none)
 have HL := Aside0.mk hB.size
 clear hI
 have HW0 := Aside0.mk hB.size
 have HB := Aside0.mk hB
 clear hB
 have H : (if s0_0 = 0 then ((latchkeyref05_machine_begin.f k s0_0 s0_1 a1).bind fun bt153 => (some (bt153.1, bt153.2.1, bt153.2.2))) else (if s0_0 = 1 then (if a1 = 47 then (some (true, 2, s0_1)) else ((latchkeyref05_machine_begin.f k s0_0 s0_1 a1).bind fun bt156 => (some (bt156.1, bt156.2.1, bt156.2.2)))) else (if s0_0 = 2 then (if a1 = 10 then (some (true, 0, s0_1)) else (some (true, s0_0, s0_1))) else (if s0_0 = 3 then ((latchkeyref05_within.f a1).bind fun t159 => (if t159 = true then (some (decide ((wrap64 (s0_1 + 1)) ≤ 32), s0_0, wrap64 (s0_1 + 1))) else ((latchkeyref05_machine_begin.f k s0_0 s0_1 a1).bind fun bt160 => (some (bt160.1, bt160.2.1, bt160.2.2))))) else (if s0_0 = 14 then (if a1 = 61 then (some (true, 0, s0_1)) else ((latchkeyref05_machine_begin.f k s0_0 s0_1 a1).bind fun bt163 => (some (bt163.1, bt163.2.1, bt163.2.2)))) else (if s0_0 = 15 then (some ((a1 == 61), 0, s0_1)) else (if s0_0 = 10 then (latchkeyref05_machine_take.j0 k a1 (s0_0 == 10) s0_0 s0_1) else (if s0_0 = 11 then (latchkeyref05_machine_take.j0 k a1 (s0_0 == 11) s0_0 s0_1) else (if s0_0 = 12 then (latchkeyref05_machine_take.j0 k a1 (s0_0 == 12) s0_0 s0_1) else (latchkeyref05_machine_take.j0 k a1 (s0_0 == 13) s0_0 s0_1)))))))))) = some (r1, r2, r3) := h
 clear h
 by_cases c3 : s0_0 = 0
 ·
  rw [if_pos c3] at H
  have c3b0 : (s0_0 == 0) = true := beq_iff_eq.mpr c3
  have c3b1 : (s0_0 != 0) = false := bne_eq_false_iff_eq.mpr c3
  clear c3
  replace H := Option.bind_eq_some_iff.mp H
  obtain ⟨⟨t153, t154, t155⟩, A40, H⟩ := H
  replace H : (some (t153, t154, t155)) = some (r1, r2, r3) := H
  have A4 := Aside0.mk A40
  clear A40
  simp only [Option.some.injEq, Prod.mk.injEq] at H
  obtain ⟨rfl, rfl, rfl⟩ := H
  obtain ⟨HGz5, hgz5⟩ := HI0.out
  have hcz5_0 := cellS58_0 HGz5
  have hcz5_1 := cellS58_1 HGz5
  have hfz5_0 := blk_frozen HGz5 0
  have hfz5_1 := blk_frozen HGz5 1
  clear HGz5 hgz5
  go_enter Tryd.func51, Tryd.ntmps51
  go_wp2_with (first | ((with_reducible refine gate_callee (f := 71) rfl ?_); refine goesL_ (some 13) rfl rfl Tryd.func71 (by kernel_rfl) rfl #[.pointer (some ⟨g, 0, none⟩), .int .u8 a1] rfl agq ?_; (with_reducible refine (latchkeyref05_machine_begin.calls k g s0_0 s0_1 a1 t153 t154 t155 w0 _ ?side1 ?side2 A4.out).mono ?_); (case side1 => repeat (first | (with_reducible first | exact HI0.out | apply IsS58.alloc | apply IsS58.drewN | apply IsS58.drew | apply IsS58.set_0 | apply IsS58.set_1) | exact HI0.out)); (case side2 => repeat (first | (with_reducible first | exact HB.out | apply below_alloc | apply pw_below_drewN | apply below_drew1 | refine below_set ?_ (IsS58.ge HI0.out)) | exact HB.out)); rintro e w6 ⟨rfl, hi, hb, hk⟩; refine ⟨_, rfl, ?_⟩; have n0_ := Aside0.mk (KeepBut.trans g2q hk (.inl rfl)); have n1_ := Aside0.mk (hb); have n2_ := Aside0.mk (hi); clear HK; clear HB; clear HI0; have HK := n0_; have HB := n1_; have HI0 := n2_; clear n0_ n1_ n2_; (try clear hb); (try clear hb2); (try clear hk); (try clear hi)))
  go_ret
  exact ⟨erq, g3q, g4q, g2q⟩
 ·
  rw [if_neg c3] at H
  have c3b0 : (s0_0 == 0) = false := beq_eq_false_iff_ne.mpr c3
  have c3b1 : (s0_0 != 0) = true := bne_iff_ne.mpr c3
  by_cases c7 : s0_0 = 1
  ·
   rw [if_pos c7] at H
   have c7b0 : (s0_0 == 1) = true := beq_iff_eq.mpr c7
   have c7b1 : (s0_0 != 1) = false := bne_eq_false_iff_eq.mpr c7
   clear c7
   by_cases c8 : a1 = 47
   ·
    rw [if_pos c8] at H
    have c8b0 : (a1 == 47) = true := beq_iff_eq.mpr c8
    have c8b1 : (a1 != 47) = false := bne_eq_false_iff_eq.mpr c8
    clear c8
    simp only [Option.some.injEq, Prod.mk.injEq] at H
    obtain ⟨rfl, rfl, rfl⟩ := H
    obtain ⟨HGz9, hgz9⟩ := HI0.out
    have hcz9_0 := cellS58_0 HGz9
    have hcz9_1 := cellS58_1 HGz9
    have hfz9_0 := blk_frozen HGz9 0
    have hfz9_1 := blk_frozen HGz9 1
    clear HGz9 hgz9
    go_enter Tryd.func51, Tryd.ntmps51
    go_wp2
    go_ret
    exact ⟨erq, g3q, g4q, g2q⟩
   ·
    rw [if_neg c8] at H
    have c8b0 : (a1 == 47) = false := beq_eq_false_iff_ne.mpr c8
    have c8b1 : (a1 != 47) = true := bne_iff_ne.mpr c8
    replace H := Option.bind_eq_some_iff.mp H
    obtain ⟨⟨t156, t157, t158⟩, A100, H⟩ := H
    replace H : (some (t156, t157, t158)) = some (r1, r2, r3) := H
    have A10 := Aside0.mk A100
    clear A100
    simp only [Option.some.injEq, Prod.mk.injEq] at H
    obtain ⟨rfl, rfl, rfl⟩ := H
    obtain ⟨HGz11, hgz11⟩ := HI0.out
    have hcz11_0 := cellS58_0 HGz11
    have hcz11_1 := cellS58_1 HGz11
    have hfz11_0 := blk_frozen HGz11 0
    have hfz11_1 := blk_frozen HGz11 1
    clear HGz11 hgz11
    go_enter Tryd.func51, Tryd.ntmps51
    go_wp2_with (first | ((with_reducible refine gate_callee (f := 71) rfl ?_); refine goesL_ (some 23) rfl rfl Tryd.func71 (by kernel_rfl) rfl #[.pointer (some ⟨g, 0, none⟩), .int .u8 a1] rfl agq ?_; (with_reducible refine (latchkeyref05_machine_begin.calls k g s0_0 s0_1 a1 t156 t157 t158 w0 _ ?side1 ?side2 A10.out).mono ?_); (case side1 => repeat (first | (with_reducible first | exact HI0.out | apply IsS58.alloc | apply IsS58.drewN | apply IsS58.drew | apply IsS58.set_0 | apply IsS58.set_1) | exact HI0.out)); (case side2 => repeat (first | (with_reducible first | exact HB.out | apply below_alloc | apply pw_below_drewN | apply below_drew1 | refine below_set ?_ (IsS58.ge HI0.out)) | exact HB.out)); rintro e w12 ⟨rfl, hi, hb, hk⟩; refine ⟨_, rfl, ?_⟩; have n0_ := Aside0.mk (KeepBut.trans g2q hk (.inl rfl)); have n1_ := Aside0.mk (hb); have n2_ := Aside0.mk (hi); clear HK; clear HB; clear HI0; have HK := n0_; have HB := n1_; have HI0 := n2_; clear n0_ n1_ n2_; (try clear hb); (try clear hb2); (try clear hk); (try clear hi)))
    go_ret
    exact ⟨erq, g3q, g4q, g2q⟩
  ·
   rw [if_neg c7] at H
   have c7b0 : (s0_0 == 1) = false := beq_eq_false_iff_ne.mpr c7
   have c7b1 : (s0_0 != 1) = true := bne_iff_ne.mpr c7
   by_cases c13 : s0_0 = 2
   ·
    rw [if_pos c13] at H
    have c13b0 : (s0_0 == 2) = true := beq_iff_eq.mpr c13
    have c13b1 : (s0_0 != 2) = false := bne_eq_false_iff_eq.mpr c13
    clear c13
    by_cases c14 : a1 = 10
    ·
     rw [if_pos c14] at H
     have c14b0 : (a1 == 10) = true := beq_iff_eq.mpr c14
     have c14b1 : (a1 != 10) = false := bne_eq_false_iff_eq.mpr c14
     clear c14
     simp only [Option.some.injEq, Prod.mk.injEq] at H
     obtain ⟨rfl, rfl, rfl⟩ := H
     obtain ⟨HGz15, hgz15⟩ := HI0.out
     have hcz15_0 := cellS58_0 HGz15
     have hcz15_1 := cellS58_1 HGz15
     have hfz15_0 := blk_frozen HGz15 0
     have hfz15_1 := blk_frozen HGz15 1
     clear HGz15 hgz15
     go_enter Tryd.func51, Tryd.ntmps51
     go_wp2
     go_ret
     exact ⟨erq, g3q, g4q, g2q⟩
    ·
     rw [if_neg c14] at H
     have c14b0 : (a1 == 10) = false := beq_eq_false_iff_ne.mpr c14
     have c14b1 : (a1 != 10) = true := bne_iff_ne.mpr c14
     simp only [Option.some.injEq, Prod.mk.injEq] at H
     obtain ⟨rfl, rfl, rfl⟩ := H
     obtain ⟨HGz16, hgz16⟩ := HI0.out
     have hcz16_0 := cellS58_0 HGz16
     have hcz16_1 := cellS58_1 HGz16
     have hfz16_0 := blk_frozen HGz16 0
     have hfz16_1 := blk_frozen HGz16 1
     clear HGz16 hgz16
     go_enter Tryd.func51, Tryd.ntmps51
     go_wp2
     go_ret
     exact ⟨erq, g3q, g4q, g2q⟩
   ·
    rw [if_neg c13] at H
    have c13b0 : (s0_0 == 2) = false := beq_eq_false_iff_ne.mpr c13
    have c13b1 : (s0_0 != 2) = true := bne_iff_ne.mpr c13
    by_cases c17 : s0_0 = 3
    ·
     rw [if_pos c17] at H
     have c17b0 : (s0_0 == 3) = true := beq_iff_eq.mpr c17
     have c17b1 : (s0_0 != 3) = false := bne_eq_false_iff_eq.mpr c17
     clear c17
     replace H := Option.bind_eq_some_iff.mp H
     obtain ⟨t159, A180, H⟩ := H
     replace H : (if t159 = true then (some (decide ((wrap64 (s0_1 + 1)) ≤ 32), s0_0, wrap64 (s0_1 + 1))) else ((latchkeyref05_machine_begin.f k s0_0 s0_1 a1).bind fun bt160 => (some (bt160.1, bt160.2.1, bt160.2.2)))) = some (r1, r2, r3) := H
     have A18 := Aside0.mk A180
     clear A180
     by_cases c19 : t159 = true
     ·
      subst c19
      have H1 : (some (decide ((wrap64 (s0_1 + 1)) ≤ 32), s0_0, wrap64 (s0_1 + 1))) = some (r1, r2, r3) := by rw [if_pos rfl] at H; exact H
      clear H
      have H := H1
      clear H1
      simp only [Option.some.injEq, Prod.mk.injEq] at H
      obtain ⟨rfl, rfl, rfl⟩ := H
      obtain ⟨HGz20, hgz20⟩ := HI0.out
      have hcz20_0 := cellS58_0 HGz20
      have hcz20_1 := cellS58_1 HGz20
      have hfz20_0 := blk_frozen HGz20 0
      have hfz20_1 := blk_frozen HGz20 1
      clear HGz20 hgz20
      go_enter Tryd.func51, Tryd.ntmps51
      go_wp2_with (first | ((with_reducible refine gate_callee (f := 54) rfl ?_); refine goesL_ (some 34) rfl rfl Tryd.func54 (by kernel_rfl) rfl #[.int .u8 a1] rfl agq ?_; (with_reducible refine (latchkeyref05_within.calls a1 true _ A18.out).mono ?_); rintro e w' ⟨rfl, ⟨nd, rfl⟩⟩; refine ⟨_, rfl, ?_⟩))
      go_ret
      exact ⟨erq, g3q, g4q, g2q⟩
     ·
      replace c19 := Bool.eq_false_iff.mpr c19
      subst c19
      have H1 : ((latchkeyref05_machine_begin.f k s0_0 s0_1 a1).bind fun bt160 => (some (bt160.1, bt160.2.1, bt160.2.2))) = some (r1, r2, r3) := by rw [if_neg (show ¬ (false = true) by decide)] at H; exact H
      clear H
      have H := H1
      clear H1
      replace H := Option.bind_eq_some_iff.mp H
      obtain ⟨⟨t160, t161, t162⟩, A210, H⟩ := H
      replace H : (some (t160, t161, t162)) = some (r1, r2, r3) := H
      have A21 := Aside0.mk A210
      clear A210
      simp only [Option.some.injEq, Prod.mk.injEq] at H
      obtain ⟨rfl, rfl, rfl⟩ := H
      obtain ⟨HGz22, hgz22⟩ := HI0.out
      have hcz22_0 := cellS58_0 HGz22
      have hcz22_1 := cellS58_1 HGz22
      have hfz22_0 := blk_frozen HGz22 0
      have hfz22_1 := blk_frozen HGz22 1
      clear HGz22 hgz22
      go_enter Tryd.func51, Tryd.ntmps51
      go_wp2_with (first | ((with_reducible refine gate_callee (f := 54) rfl ?_); refine goesL_ (some 34) rfl rfl Tryd.func54 (by kernel_rfl) rfl #[.int .u8 a1] rfl agq ?_; (with_reducible refine (latchkeyref05_within.calls a1 false _ A18.out).mono ?_); rintro e w' ⟨rfl, ⟨nd, rfl⟩⟩; refine ⟨_, rfl, ?_⟩) | ((with_reducible refine gate_callee (f := 71) rfl ?_); refine goesL_ (some 50) rfl rfl Tryd.func71 (by kernel_rfl) rfl #[.pointer (some ⟨g, 0, none⟩), .int .u8 a1] rfl agq ?_; (with_reducible refine (latchkeyref05_machine_begin.calls k g s0_0 s0_1 a1 t160 t161 t162 w0 _ ?side1 ?side2 A21.out).mono ?_); (case side1 => repeat (first | (with_reducible first | exact HI0.out | apply IsS58.alloc | apply IsS58.drewN | apply IsS58.drew | apply IsS58.set_0 | apply IsS58.set_1) | exact HI0.out)); (case side2 => repeat (first | (with_reducible first | exact HB.out | apply below_alloc | apply pw_below_drewN | apply below_drew1 | refine below_set ?_ (IsS58.ge HI0.out)) | exact HB.out)); rintro e w23 ⟨rfl, hi, hb, hk⟩; refine ⟨_, rfl, ?_⟩; have n0_ := Aside0.mk (KeepBut.trans g2q hk (.inl rfl)); have n1_ := Aside0.mk (hb); have n2_ := Aside0.mk (hi); clear HK; clear HB; clear HI0; have HK := n0_; have HB := n1_; have HI0 := n2_; clear n0_ n1_ n2_; (try clear hb); (try clear hb2); (try clear hk); (try clear hi)))
      go_ret
      exact ⟨erq, g3q, g4q, g2q⟩
    ·
     rw [if_neg c17] at H
     have c17b0 : (s0_0 == 3) = false := beq_eq_false_iff_ne.mpr c17
     have c17b1 : (s0_0 != 3) = true := bne_iff_ne.mpr c17
     by_cases c24 : s0_0 = 14
     ·
      rw [if_pos c24] at H
      have c24b0 : (s0_0 == 14) = true := beq_iff_eq.mpr c24
      have c24b1 : (s0_0 != 14) = false := bne_eq_false_iff_eq.mpr c24
      clear c24
      by_cases c25 : a1 = 61
      ·
       rw [if_pos c25] at H
       have c25b0 : (a1 == 61) = true := beq_iff_eq.mpr c25
       have c25b1 : (a1 != 61) = false := bne_eq_false_iff_eq.mpr c25
       clear c25
       simp only [Option.some.injEq, Prod.mk.injEq] at H
       obtain ⟨rfl, rfl, rfl⟩ := H
       obtain ⟨HGz26, hgz26⟩ := HI0.out
       have hcz26_0 := cellS58_0 HGz26
       have hcz26_1 := cellS58_1 HGz26
       have hfz26_0 := blk_frozen HGz26 0
       have hfz26_1 := blk_frozen HGz26 1
       clear HGz26 hgz26
       go_enter Tryd.func51, Tryd.ntmps51
       go_wp2
       go_ret
       exact ⟨erq, g3q, g4q, g2q⟩
      ·
       rw [if_neg c25] at H
       have c25b0 : (a1 == 61) = false := beq_eq_false_iff_ne.mpr c25
       have c25b1 : (a1 != 61) = true := bne_iff_ne.mpr c25
       replace H := Option.bind_eq_some_iff.mp H
       obtain ⟨⟨t163, t164, t165⟩, A270, H⟩ := H
       replace H : (some (t163, t164, t165)) = some (r1, r2, r3) := H
       have A27 := Aside0.mk A270
       clear A270
       simp only [Option.some.injEq, Prod.mk.injEq] at H
       obtain ⟨rfl, rfl, rfl⟩ := H
       obtain ⟨HGz28, hgz28⟩ := HI0.out
       have hcz28_0 := cellS58_0 HGz28
       have hcz28_1 := cellS58_1 HGz28
       have hfz28_0 := blk_frozen HGz28 0
       have hfz28_1 := blk_frozen HGz28 1
       clear HGz28 hgz28
       go_enter Tryd.func51, Tryd.ntmps51
       go_wp2_with (first | ((with_reducible refine gate_callee (f := 71) rfl ?_); refine goesL_ (some 60) rfl rfl Tryd.func71 (by kernel_rfl) rfl #[.pointer (some ⟨g, 0, none⟩), .int .u8 a1] rfl agq ?_; (with_reducible refine (latchkeyref05_machine_begin.calls k g s0_0 s0_1 a1 t163 t164 t165 w0 _ ?side1 ?side2 A27.out).mono ?_); (case side1 => repeat (first | (with_reducible first | exact HI0.out | apply IsS58.alloc | apply IsS58.drewN | apply IsS58.drew | apply IsS58.set_0 | apply IsS58.set_1) | exact HI0.out)); (case side2 => repeat (first | (with_reducible first | exact HB.out | apply below_alloc | apply pw_below_drewN | apply below_drew1 | refine below_set ?_ (IsS58.ge HI0.out)) | exact HB.out)); rintro e w29 ⟨rfl, hi, hb, hk⟩; refine ⟨_, rfl, ?_⟩; have n0_ := Aside0.mk (KeepBut.trans g2q hk (.inl rfl)); have n1_ := Aside0.mk (hb); have n2_ := Aside0.mk (hi); clear HK; clear HB; clear HI0; have HK := n0_; have HB := n1_; have HI0 := n2_; clear n0_ n1_ n2_; (try clear hb); (try clear hb2); (try clear hk); (try clear hi)))
       go_ret
       exact ⟨erq, g3q, g4q, g2q⟩
     ·
      rw [if_neg c24] at H
      have c24b0 : (s0_0 == 14) = false := beq_eq_false_iff_ne.mpr c24
      have c24b1 : (s0_0 != 14) = true := bne_iff_ne.mpr c24
      by_cases c30 : s0_0 = 15
      ·
       rw [if_pos c30] at H
       have c30b0 : (s0_0 == 15) = true := beq_iff_eq.mpr c30
       have c30b1 : (s0_0 != 15) = false := bne_eq_false_iff_eq.mpr c30
       clear c30
       simp only [Option.some.injEq, Prod.mk.injEq] at H
       obtain ⟨rfl, rfl, rfl⟩ := H
       obtain ⟨HGz31, hgz31⟩ := HI0.out
       have hcz31_0 := cellS58_0 HGz31
       have hcz31_1 := cellS58_1 HGz31
       have hfz31_0 := blk_frozen HGz31 0
       have hfz31_1 := blk_frozen HGz31 1
       clear HGz31 hgz31
       go_enter Tryd.func51, Tryd.ntmps51
       go_wp2
       go_ret
       exact ⟨erq, g3q, g4q, g2q⟩
      ·
       rw [if_neg c30] at H
       have c30b0 : (s0_0 == 15) = false := beq_eq_false_iff_ne.mpr c30
       have c30b1 : (s0_0 != 15) = true := bne_iff_ne.mpr c30
       have HC32 := Aside0.mk H
       clear H
       obtain ⟨HGz33, hgz33⟩ := HI0.out
       have hcz33_0 := cellS58_0 HGz33
       have hcz33_1 := cellS58_1 HGz33
       have hfz33_0 := blk_frozen HGz33 0
       have hfz33_1 := blk_frozen HGz33 1
       clear HGz33 hgz33
       go_enter Tryd.func51, Tryd.ntmps51
       go_upto_if 68 with (fail)
       go_cut [68] (fun v68 wc => ∃ (kq : Nat) (x68_31 : Bool), v68 = .bool x68_31 ∧ Aside0 (latchkeyref05_machine_take.j0 kq a1 x68_31 s0_0 s0_1 = some (r1, r2, r3)) ∧ Aside0 (kq ≤ k) ∧ Aside0 (IsS58 w0 wc g s0_0 s0_1) ∧ Aside0 (KeepBut w wc g none) ∧ Aside0 (Below w0.heap.size w0 wc))
       case first =>
        have H := HC32.out
        clear HC32
        by_cases c34 : s0_0 = 10
        ·
         rw [if_pos c34] at H
         have c34b0 : (s0_0 == 10) = true := beq_iff_eq.mpr c34
         have c34b1 : (s0_0 != 10) = false := bne_eq_false_iff_eq.mpr c34
         clear c34
         (first | rw [c34b0] | (simp only [i64_w, i32_w]; rw [c34b0]) | skip)
         have H' := Aside0.mk H
         clear H
         go_wp2
         go_meet
         case rel => exact ⟨_, ((s0_0 == 10)), (by first | rfl | (simp; done) | (simp [*]; done)), H', ⟨by first | omega | exact Nat.le_refl _⟩, ⟨g3q⟩, ⟨g2q⟩, ⟨g4q⟩⟩
        ·
         rw [if_neg c34] at H
         have c34b0 : (s0_0 == 10) = false := beq_eq_false_iff_ne.mpr c34
         have c34b1 : (s0_0 != 10) = true := bne_iff_ne.mpr c34
         (first | rw [c34b0] | (simp only [i64_w, i32_w]; rw [c34b0]) | skip)
         by_cases c35 : s0_0 = 11
         ·
          rw [if_pos c35] at H
          have c35b0 : (s0_0 == 11) = true := beq_iff_eq.mpr c35
          have c35b1 : (s0_0 != 11) = false := bne_eq_false_iff_eq.mpr c35
          clear c35
          have H' := Aside0.mk H
          clear H
          go_wp2
          go_meet
          case rel => exact ⟨_, ((s0_0 == 11)), (by first | rfl | (simp; done) | (simp [*]; done)), H', ⟨by first | omega | exact Nat.le_refl _⟩, ⟨g3q⟩, ⟨g2q⟩, ⟨g4q⟩⟩
         ·
          rw [if_neg c35] at H
          have c35b0 : (s0_0 == 11) = false := beq_eq_false_iff_ne.mpr c35
          have c35b1 : (s0_0 != 11) = true := bne_iff_ne.mpr c35
          by_cases c36 : s0_0 = 12
          ·
           rw [if_pos c36] at H
           have c36b0 : (s0_0 == 12) = true := beq_iff_eq.mpr c36
           have c36b1 : (s0_0 != 12) = false := bne_eq_false_iff_eq.mpr c36
           clear c36
           have H' := Aside0.mk H
           clear H
           go_wp2
           go_meet
           case rel => exact ⟨_, ((s0_0 == 12)), (by first | rfl | (simp; done) | (simp [*]; done)), H', ⟨by first | omega | exact Nat.le_refl _⟩, ⟨g3q⟩, ⟨g2q⟩, ⟨g4q⟩⟩
          ·
           rw [if_neg c36] at H
           have c36b0 : (s0_0 == 12) = false := beq_eq_false_iff_ne.mpr c36
           have c36b1 : (s0_0 != 12) = true := bne_iff_ne.mpr c36
           have H' := Aside0.mk H
           clear H
           go_wp2
           go_meet
           case rel => exact ⟨_, ((s0_0 == 13)), (by first | rfl | (simp; done) | (simp [*]; done)), H', ⟨by first | omega | exact Nat.le_refl _⟩, ⟨g3q⟩, ⟨g2q⟩, ⟨g4q⟩⟩
       case rest =>
        clear HC32
        (try clear c1); (try clear c2); (try clear p2); (try clear c3); (try clear c3b0); (try clear c3b1); (try clear c5); (try clear p6); (try clear c7); (try clear c7b0); (try clear c7b1); (try clear c8); (try clear c8b0); (try clear c8b1); (try clear c13); (try clear c13b0); (try clear c13b1); (try clear c14); (try clear c14b0); (try clear c14b1); (try clear c17); (try clear c17b0); (try clear c17b1); (try clear c19); (try clear c24); (try clear c24b0); (try clear c24b1); (try clear c25); (try clear c25b0); (try clear c25b1); (try clear c30); (try clear c30b0); (try clear c30b1); (try clear c34); (try clear c34b0); (try clear c34b1); (try clear c35); (try clear c35b0); (try clear c35b1); (try clear c36); (try clear c36b0); (try clear c36b1); (try clear hcz11_0); (try clear hcz11_1); (try clear hcz15_0); (try clear hcz15_1); (try clear hcz16_0); (try clear hcz16_1); (try clear hcz20_0); (try clear hcz20_1); (try clear hcz22_0); (try clear hcz22_1); (try clear hcz26_0); (try clear hcz26_1); (try clear hcz28_0); (try clear hcz28_1); (try clear hcz31_0); (try clear hcz31_1); (try clear hcz33_0); (try clear hcz33_1); (try clear hcz5_0); (try clear hcz5_1); (try clear hcz9_0); (try clear hcz9_1); (try clear hfz11_0); (try clear hfz11_1); (try clear hfz15_0); (try clear hfz15_1); (try clear hfz16_0); (try clear hfz16_1); (try clear hfz20_0); (try clear hfz20_1); (try clear hfz22_0); (try clear hfz22_1); (try clear hfz26_0); (try clear hfz26_1); (try clear hfz28_0); (try clear hfz28_1); (try clear hfz31_0); (try clear hfz31_1); (try clear hfz33_0); (try clear hfz33_1); (try clear hfz5_0); (try clear hfz5_1); (try clear hfz9_0); (try clear hfz9_1)
        obtain ⟨kq, x68_31, rfl, HA, HJ31, HI0, HK, HB⟩ := hcut
        cases kq with
        | zero => exact absurd HA.out (by simp [latchkeyref05_machine_take.j0])
        | succ kj31 =>
         have H := HA.out
         clear HA
         simp only [latchkeyref05_machine_take.j0] at H
         by_cases c37 : x68_31 = true
         ·
          subst c37
          have H1 : ((latchkeyref05_machine_text.f kj31 s0_0 s0_1 a1).bind fun bt166 => (some (bt166.1, bt166.2.1, bt166.2.2))) = some (r1, r2, r3) := by rw [if_pos rfl] at H; exact H
          clear H
          have H := H1
          clear H1
          replace H := Option.bind_eq_some_iff.mp H
          obtain ⟨⟨t166, t167, t168⟩, A380, H⟩ := H
          replace H : (some (t166, t167, t168)) = some (r1, r2, r3) := H
          have A38 := Aside0.mk A380
          clear A380
          simp only [Option.some.injEq, Prod.mk.injEq] at H
          obtain ⟨rfl, rfl, rfl⟩ := H
          go_wp2_with (first | ((with_reducible refine gate_callee (f := 72) rfl ?_); refine goesL_ (some 75) rfl rfl Tryd.func72 (by kernel_rfl) rfl #[.pointer (some ⟨g, 0, none⟩), .int .u8 a1] rfl agq ?_; (with_reducible refine (latchkeyref05_machine_text.calls kj31 g s0_0 s0_1 a1 t166 t167 t168 w0 _ ?side1 ?side2 A38.out).mono ?_); (case side1 => repeat (first | (with_reducible first | exact HI0.out | apply IsS58.alloc | apply IsS58.drewN | apply IsS58.drew | apply IsS58.set_0 | apply IsS58.set_1) | exact HI0.out)); (case side2 => repeat (first | (with_reducible first | exact HB.out | apply below_alloc | apply pw_below_drewN | apply below_drew1 | refine below_set ?_ (IsS58.ge HI0.out)) | exact HB.out)); rintro e w39 ⟨rfl, hi, hb, hk⟩; refine ⟨_, rfl, ?_⟩; have n0_ := Aside0.mk (KeepBut.trans g2q hk (.inl rfl)); have n1_ := Aside0.mk (hb); have n2_ := Aside0.mk (hi); clear HK; clear HB; clear HI0; have HK := n0_; have HB := n1_; have HI0 := n2_; clear n0_ n1_ n2_; (try clear hb); (try clear hb2); (try clear hk); (try clear hi)))
          go_ret
          exact ⟨erq, g3q, g4q, g2q⟩
         ·
          replace c37 := Bool.eq_false_iff.mpr c37
          subst c37
          have H1 : ((latchkeyref05_machine_digits.f kj31 s0_0 s0_1 a1).bind fun bt169 => (some (bt169.1, bt169.2.1, bt169.2.2))) = some (r1, r2, r3) := by rw [if_neg (show ¬ (false = true) by decide)] at H; exact H
          clear H
          have H := H1
          clear H1
          replace H := Option.bind_eq_some_iff.mp H
          obtain ⟨⟨t169, t170, t171⟩, A400, H⟩ := H
          replace H : (some (t169, t170, t171)) = some (r1, r2, r3) := H
          have A40 := Aside0.mk A400
          clear A400
          simp only [Option.some.injEq, Prod.mk.injEq] at H
          obtain ⟨rfl, rfl, rfl⟩ := H
          go_wp2_with (first | ((with_reducible refine gate_callee (f := 73) rfl ?_); refine goesL_ (some 78) rfl rfl Tryd.func73 (by kernel_rfl) rfl #[.pointer (some ⟨g, 0, none⟩), .int .u8 a1] rfl agq ?_; (with_reducible refine (latchkeyref05_machine_digits.calls kj31 g s0_0 s0_1 a1 t169 t170 t171 w0 _ ?side1 ?side2 A40.out).mono ?_); (case side1 => repeat (first | (with_reducible first | exact HI0.out | apply IsS58.alloc | apply IsS58.drewN | apply IsS58.drew | apply IsS58.set_0 | apply IsS58.set_1) | exact HI0.out)); (case side2 => repeat (first | (with_reducible first | exact HB.out | apply below_alloc | apply pw_below_drewN | apply below_drew1 | refine below_set ?_ (IsS58.ge HI0.out)) | exact HB.out)); rintro e w41 ⟨rfl, hi, hb, hk⟩; refine ⟨_, rfl, ?_⟩; have n0_ := Aside0.mk (KeepBut.trans g2q hk (.inl rfl)); have n1_ := Aside0.mk (hb); have n2_ := Aside0.mk (hi); clear HK; clear HB; clear HI0; have HK := n0_; have HB := n1_; have HI0 := n2_; clear n0_ n1_ n2_; (try clear hb); (try clear hb2); (try clear hk); (try clear hi)))
          go_ret
          exact ⟨erq, g3q, g4q, g2q⟩
def runL (k : Nat) : List UInt8 → Nat → Int → Int → Option (Int × Int × Int)
 | [], i, st, n => some ((i : Int), st, n)
 | c :: t, i, st, n => (latchkeyref05_machine_take.f k st n (c.toNat : Int)).bind fun r => if r.1 = true then runL k t (i + 1) r.2.1 r.2.2 else some ((i : Int), st, n)
def latchkeyref05_run.f (k : Nat) (a0 : ByteArray) : Option (Int × Int × Int) := if a0.size ≤ 140737488351232 then runL k a0.data.toList 0 0 0 else none
set_option maxHeartbeats 8000000 in
set_option maxRecDepth 100000 in
theorem latchkeyref05_run.calls (k : Nat) (a0 : ByteArray) (r1 : Int) (r2 : Int) (r3 : Int) (w : World) (h : latchkeyref05_run.f k a0 = some (r1, r2, r3)) :
  Calls Tryd.prog 31 #[.string a0] w fun e w' => e = .returned (.tuple #[.int .i64 r1, .agg #[.int .i64 r2, .int .i64 r3]]) ∧ Below w.heap.size w w' := by
 have hsz : a0.size ≤ 140737488351232 := by
  unfold latchkeyref05_run.f at h
  split at h
  ·
   assumption
  ·
   cases h
 have hr : runL k a0.data.toList 0 0 0 = some (r1, r2, r3) := by
  unfold latchkeyref05_run.f at h
  rw [if_pos hsz] at h
  exact h
 have HR := Lib.hid hr
 clear h hr
 have hlen := Lib.hid (len_toList a0)
 go_enter Tryd.func31, Tryd.ntmps31
 go_wp2
 go_loopg [5] a0.size (fun gh s5 wr => ∃ (i : Nat) (st n : Int), s5 = .int .i64 i ∧ i ≤ a0.size ∧ Hid (a0.size - i = gh) ∧ Hid (runL k (a0.data.toList.drop i) i st n = some (r1, r2, r3)) ∧ Hid (IsS58 w wr (w.heap.size + 1) st n) ∧ Hid (Below w.heap.size w wr) ∧ Hid (wr.heap[w.heap.size]? = some (.cells #[.int .i64 0, .int .i64 0] 58 (0, 0))))
 case atStart =>
  refine ⟨0, 0, 0, rfl, Nat.zero_le _, Lib.hid rfl, HR, ⟨by simpa using heap_alloc_new (w.alloc (.cells #[.int .i64 0, .int .i64 0] 58)) (.cells #[.int .i64 0, .int .i64 0] 58), by omega⟩, ((Below.refl _ _).alloc (Nat.le_refl _) _).alloc (by simp) _, ?_⟩
  show ((w.alloc (.cells #[.int .i64 0, .int .i64 0] 58)).alloc (.cells #[.int .i64 0, .int .i64 0] 58)).heap[w.heap.size]? = _
  rw [Below.heap_alloc _ _ _ (by simp)]
  simpa using heap_alloc_new w (.cells #[.int .i64 0, .int .i64 0] 58)
 case round =>
  obtain ⟨i, st, n, rfl, hi, HGK, HR, HI, HB, HC⟩ := hrel
  obtain ⟨HG0, _⟩ := HI.out
  have hc0 := cellS58_0 HG0
  have hc1 := cellS58_1 HG0
  clear HG0
  by_cases hlt : i < a0.size
  ·
   have hdr := Lib.hid (drop_at' a0 i hlt)
   have hr := HR.out
   rw [hdr.out] at hr
   unfold runL at hr
   obtain ⟨⟨b, st', n'⟩, ht, hr2⟩ := Option.bind_eq_some_iff.mp hr
   have HT := Lib.hid ht
   have HR2 := Lib.hid hr2
   clear hr ht hr2 HR
   have hq := IsS58.lt HI.out
   have hbz := HB.out.size
   have hBz := blk_lt HC.out
   have HA : Hid ((wr.alloc (.cells #[.int .i64 st, .int .i64 n] 58)).heap[wr.heap.size]? = some (.cells #[.int .i64 st, .int .i64 n] 58 (0, 0))) := Lib.hid (by simpa using heap_alloc_new wr (.cells #[.int .i64 st, .int .i64 n] 58))
   have HB0 : Hid ((wr.alloc (.cells #[.int .i64 st, .int .i64 n] 58)).heap[w.heap.size]? = some (.cells #[.int .i64 0, .int .i64 0] 58 (0, 0))) := (Below.heap_alloc wr _ _ hBz).trans HC.out
   have hAz : (wr.alloc (.cells #[.int .i64 st, .int .i64 n] 58)).heap.size = wr.heap.size + 1 := by simp
   have HAZ := Lib.hid hAz
   clear hAz
   cases b
   ·
    simp only [if_neg (show ¬ false = true by decide), Option.some.injEq, Prod.mk.injEq] at HR2
    go_wp2_with (go_at_call 51; (with_reducible refine (latchkeyref05_machine_take.calls k (w.heap.size + 1) st n _ false st' n' w _ (HI.out.alloc _) (HB.out.alloc hbz _) HT.out).mono ?_); rintro e w2 ⟨rfl, hI2, hB2, hK2⟩)
    have hw2A := (hK2.2 wr.heap.size (by rw [HAZ.out]; omega) (by omega) (by simp)).trans HA.out
    have hw2B := (hK2.2 w.heap.size (by rw [HAZ.out]; omega) (by omega) (by simp)).trans HB0.out
    have ha0 := (blk_cell hw2A 0).trans (b := some (Value.int .i64 st)) rfl
    have ha1 := (blk_cell hw2A 1).trans (b := some (Value.int .i64 n)) rfl
    have hb0 := (blk_cell hw2B 0).trans (b := some (Value.int .i64 0)) rfl
    have hb1 := (blk_cell hw2B 1).trans (b := some (Value.int .i64 0)) rfl
    have hbf0 := blk_frozen hw2B 0
    have hbf1 := blk_frozen hw2B 1
    have HB2 := Lib.hid hB2
    clear hw2A hw2B hI2 hB2 hK2
    go_region
    go_wp2
    refine bodyPost_ret (v := .tuple #[.int .i64 i, .agg #[.int .i64 st, .int .i64 n]]) (by simp [results, Tryd.results31, go_sem, hb0, hb1]) rfl ?_
    rw [← HR2.out.1, ← HR2.out.2.1, ← HR2.out.2.2]
    exact ⟨rfl, ((HB2.out.setCell (Nat.le_refl _) _).setCell (Nat.le_refl _) _).drew⟩
   ·
    rw [if_pos rfl] at HR2
    go_wp2_with (go_at_call 51; (with_reducible refine (latchkeyref05_machine_take.calls k (w.heap.size + 1) st n _ true st' n' w _ (HI.out.alloc _) (HB.out.alloc hbz _) HT.out).mono ?_); rintro e w2 ⟨rfl, hI2, hB2, hK2⟩)
    go_roundg (a0.size - (i + 1))
    case measure => have := HGK.out; omega
    case rel => exact ⟨i + 1, st', n', by go_num, by omega, Lib.hid rfl, HR2, hI2, hB2, (hK2.2 w.heap.size (by rw [HAZ.out]; omega) (by omega) (by simp)).trans HB0.out⟩
  ·
   have he : i = a0.size := by omega
   have hr := HR.out
   rw [List.drop_eq_nil_of_le (by rw [hlen.out]; omega)] at hr
   simp only [runL, Option.some.injEq, Prod.mk.injEq] at hr
   have HR2 := Lib.hid hr
   have HE := Lib.hid he
   have hb0 := (blk_cell HC.out 0).trans (b := some (Value.int .i64 0)) rfl
   have hb1 := (blk_cell HC.out 1).trans (b := some (Value.int .i64 0)) rfl
   have hbf0 := blk_frozen HC.out 0
   have hbf1 := blk_frozen HC.out 1
   clear hr he HR
   go_wp2
   go_region
   go_wp2
   refine bodyPost_ret (v := .tuple #[.int .i64 a0.size, .agg #[.int .i64 st, .int .i64 n]]) (by simp [results, Tryd.results31, go_sem, hb0, hb1]) rfl ?_
   rw [← HR2.out.1, ← HR2.out.2.1, ← HR2.out.2.2, HE.out]
   exact ⟨rfl, ((HB.out.setCell (Nat.le_refl _) _).setCell (Nat.le_refl _) _).drew⟩
def latchkeyref05_Finish.j0 : Nat → Int → Bool → Option (ByteArray)
 | 0, _, _ => none
 | k + 1, x11, x12 => if x12 = true then (some (⟨#[48]⟩ : ByteArray)) else (if x11 = 10 then (some (⟨#[34]⟩ : ByteArray)) else (if x11 = 11 then (some (⟨#[110, 34]⟩ : ByteArray)) else (if x11 = 12 then (some (⟨#[48, 48, 34]⟩ : ByteArray)) else (if x11 = 13 then (some (⟨#[48, 34]⟩ : ByteArray)) else (if x11 = 15 then (some (⟨#[61]⟩ : ByteArray)) else (some (⟨#[]⟩ : ByteArray)))))))
def latchkeyref05_Finish.f (k : Nat) (a0 : ByteArray) : Option (ByteArray) := (latchkeyref05_run.f k a0).bind fun bt172 => (if bt172.2.1 = 5 then (latchkeyref05_Finish.j0 k bt172.2.1 (bt172.2.1 == 5)) else (if bt172.2.1 = 7 then (latchkeyref05_Finish.j0 k bt172.2.1 (bt172.2.1 == 7)) else (latchkeyref05_Finish.j0 k bt172.2.1 (bt172.2.1 == 8))))
set_option maxHeartbeats 8000000 in
set_option maxRecDepth 100000 in
theorem latchkeyref05_Finish.calls (k : Nat) (a0 : ByteArray) (r : ByteArray) (w : World) (h : latchkeyref05_Finish.f k a0 = some r) :
  Calls Tryd.prog 26 #[.string a0] w fun e w' => e = .returned (.string r) ∧ Below w.heap.size w w' := by
 have hu58 := Tryd.underlying58
 have HB := Aside0.mk (Below.refl w.heap.size w)
 have H : ((latchkeyref05_run.f k a0).bind fun bt172 => (if bt172.2.1 = 5 then (latchkeyref05_Finish.j0 k bt172.2.1 (bt172.2.1 == 5)) else (if bt172.2.1 = 7 then (latchkeyref05_Finish.j0 k bt172.2.1 (bt172.2.1 == 7)) else (latchkeyref05_Finish.j0 k bt172.2.1 (bt172.2.1 == 8))))) = some r := h
 clear h
 replace H := Option.bind_eq_some_iff.mp H
 obtain ⟨⟨t172, t173, t174⟩, A20, H⟩ := H
 replace H : (if t173 = 5 then (latchkeyref05_Finish.j0 k t173 (t173 == 5)) else (if t173 = 7 then (latchkeyref05_Finish.j0 k t173 (t173 == 7)) else (latchkeyref05_Finish.j0 k t173 (t173 == 8)))) = some r := H
 have A2 := Aside0.mk A20
 clear A20
 have HC3 := Aside0.mk H
 clear H
 go_enter Tryd.func26, Tryd.ntmps26
 go_upto_if 12 with (first | ((with_reducible refine gate_callee (f := 31) rfl ?_); refine goesL_ (some 7) rfl rfl Tryd.func31 (by kernel_rfl) rfl #[.string a0] rfl agq ?_; (with_reducible refine (latchkeyref05_run.calls k a0 t172 t173 t174 _ A2.out).mono ?_); rintro e w4 ⟨rfl, hb⟩; refine ⟨_, rfl, ?_⟩; have n0_ := Aside0.mk (below_step bq hb); clear HB; have HB := n0_; clear n0_; (try clear hb); (try clear hb2); (try clear hk); (try clear hi)) | ((with_reducible refine gate_dst (N := 4) rfl ?_); refine box_event ?hg (N := 4) ?hd (cs := #[.int .i64 0, .int .i64 0]) (t := 58) ?hr ?_; (case hd => rfl); (case hg => rfl); (case hr => first | (go_simp; done) | (go_simp; rfl)); intro gb175 hg w5 hbox hb; have n0_ := Aside0.mk (below_step bq hb); have n1_ := Aside0.mk (hbox); have n2_ := Aside0.mk ((by rw [hg]; exact (below_size bq) : w.heap.size ≤ gb175)); have n3_ := Aside0.mk ((by rw [hg]; exact (below_size bq) : w.heap.size ≤ gb175)); clear HB; have HB := n0_; have BK175 := n1_; have GW175 := n2_; have GE175 := n3_; clear n0_ n1_ n2_ n3_; clear hb hbox hg; have hcz6_0 : w5.cell? ⟨gb175, 0, none⟩ = some (.int .i64 0) := (blk_cell BK175.out 0).trans rfl; have hcz6_1 : w5.cell? ⟨gb175, 1, none⟩ = some (.int .i64 0) := (blk_cell BK175.out 1).trans rfl; have hfz6_0 := blk_frozen BK175.out 0; have hfz6_1 := blk_frozen BK175.out 1))
 (try simp only [Act.put, List.setIfInBounds_toArray, List.set_cons_zero, List.set_cons_succ])
 go_cut [12] (fun v12 wc => ∃ (kq : Nat) (x12_2 : Bool), v12 = .bool x12_2 ∧ Aside0 (latchkeyref05_Finish.j0 kq t173 x12_2 = some r) ∧ Aside0 (kq ≤ k) ∧ Aside0 (wc.heap[gb175]? = some (.cells #[.int .i64 t173, .int .i64 t174] 58 (0, 0))) ∧ Aside0 (Below w.heap.size w wc))
 case first =>
  have H := HC3.out
  clear HC3
  by_cases c7 : t173 = 5
  ·
   rw [if_pos c7] at H
   have c7b0 : (t173 == 5) = true := beq_iff_eq.mpr c7
   have c7b1 : (t173 != 5) = false := bne_eq_false_iff_eq.mpr c7
   clear c7
   (first | rw [c7b0] | (simp only [i64_w, i32_w]; rw [c7b0]) | skip)
   have H' := Aside0.mk H
   clear H
   go_wp2
   go_meet
   case rel => exact ⟨_, ((t173 == 5)), (by first | rfl | (simp; done) | (simp [*]; done)), H', ⟨by first | omega | exact Nat.le_refl _⟩, ⟨by (with_reducible repeat (first | refine blk_drewN ?_ _ | refine blk_drew ?_ | refine blk_alloc ?_ _)); refine blk_put (cs := #[.int .i64 t173, .int .i64 0]) ?_ 1 _ rfl; (with_reducible repeat (first | refine blk_drewN ?_ _ | refine blk_drew ?_ | refine blk_alloc ?_ _)); refine blk_put (cs := #[.int .i64 0, .int .i64 0]) ?_ 0 _ rfl; (with_reducible repeat (first | refine blk_drewN ?_ _ | refine blk_drew ?_ | refine blk_alloc ?_ _)); exact BK175.out⟩, ⟨g12q⟩⟩
  ·
   rw [if_neg c7] at H
   have c7b0 : (t173 == 5) = false := beq_eq_false_iff_ne.mpr c7
   have c7b1 : (t173 != 5) = true := bne_iff_ne.mpr c7
   (first | rw [c7b0] | (simp only [i64_w, i32_w]; rw [c7b0]) | skip)
   by_cases c8 : t173 = 7
   ·
    rw [if_pos c8] at H
    have c8b0 : (t173 == 7) = true := beq_iff_eq.mpr c8
    have c8b1 : (t173 != 7) = false := bne_eq_false_iff_eq.mpr c8
    clear c8
    have H' := Aside0.mk H
    clear H
    go_wp2
    go_meet
    case rel => exact ⟨_, ((t173 == 7)), (by first | rfl | (simp; done) | (simp [*]; done)), H', ⟨by first | omega | exact Nat.le_refl _⟩, ⟨by (with_reducible repeat (first | refine blk_drewN ?_ _ | refine blk_drew ?_ | refine blk_alloc ?_ _)); refine blk_put (cs := #[.int .i64 t173, .int .i64 0]) ?_ 1 _ rfl; (with_reducible repeat (first | refine blk_drewN ?_ _ | refine blk_drew ?_ | refine blk_alloc ?_ _)); refine blk_put (cs := #[.int .i64 0, .int .i64 0]) ?_ 0 _ rfl; (with_reducible repeat (first | refine blk_drewN ?_ _ | refine blk_drew ?_ | refine blk_alloc ?_ _)); exact BK175.out⟩, ⟨g12q⟩⟩
   ·
    rw [if_neg c8] at H
    have c8b0 : (t173 == 7) = false := beq_eq_false_iff_ne.mpr c8
    have c8b1 : (t173 != 7) = true := bne_iff_ne.mpr c8
    have H' := Aside0.mk H
    clear H
    go_wp2
    go_meet
    case rel => exact ⟨_, ((t173 == 8)), (by first | rfl | (simp; done) | (simp [*]; done)), H', ⟨by first | omega | exact Nat.le_refl _⟩, ⟨by (with_reducible repeat (first | refine blk_drewN ?_ _ | refine blk_drew ?_ | refine blk_alloc ?_ _)); refine blk_put (cs := #[.int .i64 t173, .int .i64 0]) ?_ 1 _ rfl; (with_reducible repeat (first | refine blk_drewN ?_ _ | refine blk_drew ?_ | refine blk_alloc ?_ _)); refine blk_put (cs := #[.int .i64 0, .int .i64 0]) ?_ 0 _ rfl; (with_reducible repeat (first | refine blk_drewN ?_ _ | refine blk_drew ?_ | refine blk_alloc ?_ _)); exact BK175.out⟩, ⟨g12q⟩⟩
 case rest =>
  clear HC3
  (try clear c2); (try clear p2); (try clear c3); (try clear c7); (try clear c7b0); (try clear c7b1); (try clear c8); (try clear c8b0); (try clear c8b1); (try clear hcz6_0); (try clear hcz6_1); (try clear hfz6_0); (try clear hfz6_1)
  obtain ⟨kq, x12_2, rfl, HA, HJ2, BK175, HB⟩ := hcut
  cases kq with
  | zero => exact absurd HA.out (by simp [latchkeyref05_Finish.j0])
  | succ kj2 =>
   have H := HA.out
   clear HA
   simp only [latchkeyref05_Finish.j0] at H
   by_cases c9 : x12_2 = true
   ·
    subst c9
    have H1 : (some (⟨#[48]⟩ : ByteArray)) = some r := by rw [if_pos rfl] at H; exact H
    clear H
    have H := H1
    clear H1
    obtain rfl := Option.some.inj H
    go_wp2
    go_ret
    exact ⟨erq, g12q⟩
   ·
    replace c9 := Bool.eq_false_iff.mpr c9
    subst c9
    have H1 : (if t173 = 10 then (some (⟨#[34]⟩ : ByteArray)) else (if t173 = 11 then (some (⟨#[110, 34]⟩ : ByteArray)) else (if t173 = 12 then (some (⟨#[48, 48, 34]⟩ : ByteArray)) else (if t173 = 13 then (some (⟨#[48, 34]⟩ : ByteArray)) else (if t173 = 15 then (some (⟨#[61]⟩ : ByteArray)) else (some (⟨#[]⟩ : ByteArray))))))) = some r := by rw [if_neg (show ¬ (false = true) by decide)] at H; exact H
    clear H
    have H := H1
    clear H1
    by_cases c10 : t173 = 10
    ·
     rw [if_pos c10] at H
     have c10b0 : (t173 == 10) = true := beq_iff_eq.mpr c10
     have c10b1 : (t173 != 10) = false := bne_eq_false_iff_eq.mpr c10
     clear c10
     obtain rfl := Option.some.inj H
     go_wp2
     go_ret
     exact ⟨erq, g12q⟩
    ·
     rw [if_neg c10] at H
     have c10b0 : (t173 == 10) = false := beq_eq_false_iff_ne.mpr c10
     have c10b1 : (t173 != 10) = true := bne_iff_ne.mpr c10
     by_cases c11 : t173 = 11
     ·
      rw [if_pos c11] at H
      have c11b0 : (t173 == 11) = true := beq_iff_eq.mpr c11
      have c11b1 : (t173 != 11) = false := bne_eq_false_iff_eq.mpr c11
      clear c11
      obtain rfl := Option.some.inj H
      go_wp2
      go_ret
      exact ⟨erq, g12q⟩
     ·
      rw [if_neg c11] at H
      have c11b0 : (t173 == 11) = false := beq_eq_false_iff_ne.mpr c11
      have c11b1 : (t173 != 11) = true := bne_iff_ne.mpr c11
      by_cases c12 : t173 = 12
      ·
       rw [if_pos c12] at H
       have c12b0 : (t173 == 12) = true := beq_iff_eq.mpr c12
       have c12b1 : (t173 != 12) = false := bne_eq_false_iff_eq.mpr c12
       clear c12
       obtain rfl := Option.some.inj H
       go_wp2
       go_ret
       exact ⟨erq, g12q⟩
      ·
       rw [if_neg c12] at H
       have c12b0 : (t173 == 12) = false := beq_eq_false_iff_ne.mpr c12
       have c12b1 : (t173 != 12) = true := bne_iff_ne.mpr c12
       by_cases c13 : t173 = 13
       ·
        rw [if_pos c13] at H
        have c13b0 : (t173 == 13) = true := beq_iff_eq.mpr c13
        have c13b1 : (t173 != 13) = false := bne_eq_false_iff_eq.mpr c13
        clear c13
        obtain rfl := Option.some.inj H
        go_wp2
        go_ret
        exact ⟨erq, g12q⟩
       ·
        rw [if_neg c13] at H
        have c13b0 : (t173 == 13) = false := beq_eq_false_iff_ne.mpr c13
        have c13b1 : (t173 != 13) = true := bne_iff_ne.mpr c13
        by_cases c14 : t173 = 15
        ·
         rw [if_pos c14] at H
         have c14b0 : (t173 == 15) = true := beq_iff_eq.mpr c14
         have c14b1 : (t173 != 15) = false := bne_eq_false_iff_eq.mpr c14
         clear c14
         obtain rfl := Option.some.inj H
         go_wp2
         go_ret
         exact ⟨erq, g12q⟩
        ·
         rw [if_neg c14] at H
         have c14b0 : (t173 == 15) = false := beq_eq_false_iff_ne.mpr c14
         have c14b1 : (t173 != 15) = true := bne_iff_ne.mpr c14
         obtain rfl := Option.some.inj H
         go_wp2
         go_ret
         exact ⟨erq, g12q⟩
end Go.Proofs.YteedjhoffjkhmaaDoor.PT
