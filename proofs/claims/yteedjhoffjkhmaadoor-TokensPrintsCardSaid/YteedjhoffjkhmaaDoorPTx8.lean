import Derived.Test.YteedjhoffjkhmaaDoorPTx0
import Derived.Test.YteedjhoffjkhmaaDoorPTx7
namespace Go.Proofs.YteedjhoffjkhmaaDoor.PT
open Go.RowKit Go.Proofs.YteedjhoffjkhmaaDoorW.PrintWords Go.Proofs.YteedjhoffjkhmaaDoorW.PrintLast Go.Proofs.YteedjhoffjkhmaaDoorW.PrintMore
attribute [local go_sem] max2_int min2_int max_two min_two max_three min_three max_four min_four
set_option linter.unusedVariables false
set_option linter.unusedSimpArgs false
def latchkeyref05_machine_text.f (k : Nat) (s0_0 : Int) (s0_1 : Int) (a1 : Int) : Option (Bool × Int × Int) := if s0_0 = 10 then (if a1 = 34 then (if a1 = 92 then (some (decide (a1 ≥ 32), 11, s0_1)) else (some (decide (a1 ≥ 32), 0, s0_1))) else (if a1 = 92 then (some (decide (a1 ≥ 32), 11, s0_1)) else (some (decide (a1 ≥ 32), s0_0, s0_1)))) else (if s0_0 = 11 then (if a1 = 120 then (if a1 = 34 then (some (true, 12, s0_1)) else (if a1 = 92 then (some (true, 12, s0_1)) else (if a1 = 110 then (some (true, 12, s0_1)) else (some ((a1 == 120), 12, s0_1))))) else (if a1 = 34 then (some (true, 10, s0_1)) else (if a1 = 92 then (some (true, 10, s0_1)) else (if a1 = 110 then (some (true, 10, s0_1)) else (some ((a1 == 120), 10, s0_1)))))) else (if s0_0 = 12 then ((latchkeyref05_hex.f k a1).bind fun t136 => (some (decide (t136 ≥ 0), 13, s0_1))) else ((latchkeyref05_hex.f k a1).bind fun t137 => (some (decide (t137 ≥ 0), 10, s0_1)))))
set_option maxHeartbeats 8000000 in
set_option maxRecDepth 100000 in
theorem latchkeyref05_machine_text.calls (k : Nat) (g : Nat) (s0_0 : Int) (s0_1 : Int) (a1 : Int) (r1 : Bool) (r2 : Int) (r3 : Int) (w0 w : World) (hI : IsS58 w0 w g s0_0 s0_1) (hB : Below w0.heap.size w0 w) (h : latchkeyref05_machine_text.f k s0_0 s0_1 a1 = some (r1, r2, r3)) :
  Calls Tryd.prog 72 #[.pointer (some ⟨g, 0, none⟩), .int .u8 a1] w fun e w' => e = .returned (.bool r1) ∧ IsS58 w0 w' g r2 r3 ∧ Below w0.heap.size w0 w' ∧ KeepBut w w' g none := by
 have HI0 := Aside0.mk hI
 have HK := Aside0.mk (KeepBut.refl w g none)
 have HL := Aside0.mk hB.size
 clear hI
 have HW0 := Aside0.mk hB.size
 have HB := Aside0.mk hB
 clear hB
 have H : (if s0_0 = 10 then (if a1 = 34 then (if a1 = 92 then (some (decide (a1 ≥ 32), 11, s0_1)) else (some (decide (a1 ≥ 32), 0, s0_1))) else (if a1 = 92 then (some (decide (a1 ≥ 32), 11, s0_1)) else (some (decide (a1 ≥ 32), s0_0, s0_1)))) else (if s0_0 = 11 then (if a1 = 120 then (if a1 = 34 then (some (true, 12, s0_1)) else (if a1 = 92 then (some (true, 12, s0_1)) else (if a1 = 110 then (some (true, 12, s0_1)) else (some ((a1 == 120), 12, s0_1))))) else (if a1 = 34 then (some (true, 10, s0_1)) else (if a1 = 92 then (some (true, 10, s0_1)) else (if a1 = 110 then (some (true, 10, s0_1)) else (some ((a1 == 120), 10, s0_1)))))) else (if s0_0 = 12 then ((latchkeyref05_hex.f k a1).bind fun t136 => (some (decide (t136 ≥ 0), 13, s0_1))) else ((latchkeyref05_hex.f k a1).bind fun t137 => (some (decide (t137 ≥ 0), 10, s0_1)))))) = some (r1, r2, r3) := h
 clear h
 by_cases c3 : s0_0 = 10
 ·
  rw [if_pos c3] at H
  have c3b0 : (s0_0 == 10) = true := beq_iff_eq.mpr c3
  have c3b1 : (s0_0 != 10) = false := bne_eq_false_iff_eq.mpr c3
  clear c3
  by_cases c4 : a1 = 34
  ·
   rw [if_pos c4] at H
   have c4b0 : (a1 == 34) = true := beq_iff_eq.mpr c4
   have c4b1 : (a1 != 34) = false := bne_eq_false_iff_eq.mpr c4
   clear c4
   by_cases c5 : a1 = 92
   ·
    rw [if_pos c5] at H
    have c5b0 : (a1 == 92) = true := beq_iff_eq.mpr c5
    have c5b1 : (a1 != 92) = false := bne_eq_false_iff_eq.mpr c5
    clear c5
    simp only [Option.some.injEq, Prod.mk.injEq] at H
    obtain ⟨rfl, rfl, rfl⟩ := H
    obtain ⟨HGz6, hgz6⟩ := HI0.out
    have hcz6_0 := cellS58_0 HGz6
    have hcz6_1 := cellS58_1 HGz6
    have hfz6_0 := blk_frozen HGz6 0
    have hfz6_1 := blk_frozen HGz6 1
    clear HGz6 hgz6
    go_enter Tryd.func72, Tryd.ntmps72
    go_wp2
    go_ret
    exact ⟨erq, g3q, g4q, g2q⟩
   ·
    rw [if_neg c5] at H
    have c5b0 : (a1 == 92) = false := beq_eq_false_iff_ne.mpr c5
    have c5b1 : (a1 != 92) = true := bne_iff_ne.mpr c5
    simp only [Option.some.injEq, Prod.mk.injEq] at H
    obtain ⟨rfl, rfl, rfl⟩ := H
    obtain ⟨HGz7, hgz7⟩ := HI0.out
    have hcz7_0 := cellS58_0 HGz7
    have hcz7_1 := cellS58_1 HGz7
    have hfz7_0 := blk_frozen HGz7 0
    have hfz7_1 := blk_frozen HGz7 1
    clear HGz7 hgz7
    go_enter Tryd.func72, Tryd.ntmps72
    go_wp2
    go_ret
    exact ⟨erq, g3q, g4q, g2q⟩
  ·
   rw [if_neg c4] at H
   have c4b0 : (a1 == 34) = false := beq_eq_false_iff_ne.mpr c4
   have c4b1 : (a1 != 34) = true := bne_iff_ne.mpr c4
   by_cases c8 : a1 = 92
   ·
    rw [if_pos c8] at H
    have c8b0 : (a1 == 92) = true := beq_iff_eq.mpr c8
    have c8b1 : (a1 != 92) = false := bne_eq_false_iff_eq.mpr c8
    clear c8
    simp only [Option.some.injEq, Prod.mk.injEq] at H
    obtain ⟨rfl, rfl, rfl⟩ := H
    obtain ⟨HGz9, hgz9⟩ := HI0.out
    have hcz9_0 := cellS58_0 HGz9
    have hcz9_1 := cellS58_1 HGz9
    have hfz9_0 := blk_frozen HGz9 0
    have hfz9_1 := blk_frozen HGz9 1
    clear HGz9 hgz9
    go_enter Tryd.func72, Tryd.ntmps72
    go_wp2
    go_ret
    exact ⟨erq, g3q, g4q, g2q⟩
   ·
    rw [if_neg c8] at H
    have c8b0 : (a1 == 92) = false := beq_eq_false_iff_ne.mpr c8
    have c8b1 : (a1 != 92) = true := bne_iff_ne.mpr c8
    simp only [Option.some.injEq, Prod.mk.injEq] at H
    obtain ⟨rfl, rfl, rfl⟩ := H
    obtain ⟨HGz10, hgz10⟩ := HI0.out
    have hcz10_0 := cellS58_0 HGz10
    have hcz10_1 := cellS58_1 HGz10
    have hfz10_0 := blk_frozen HGz10 0
    have hfz10_1 := blk_frozen HGz10 1
    clear HGz10 hgz10
    go_enter Tryd.func72, Tryd.ntmps72
    go_wp2
    go_ret
    exact ⟨erq, g3q, g4q, g2q⟩
 ·
  rw [if_neg c3] at H
  have c3b0 : (s0_0 == 10) = false := beq_eq_false_iff_ne.mpr c3
  have c3b1 : (s0_0 != 10) = true := bne_iff_ne.mpr c3
  by_cases c11 : s0_0 = 11
  ·
   rw [if_pos c11] at H
   have c11b0 : (s0_0 == 11) = true := beq_iff_eq.mpr c11
   have c11b1 : (s0_0 != 11) = false := bne_eq_false_iff_eq.mpr c11
   clear c11
   by_cases c12 : a1 = 120
   ·
    rw [if_pos c12] at H
    have c12b0 : (a1 == 120) = true := beq_iff_eq.mpr c12
    have c12b1 : (a1 != 120) = false := bne_eq_false_iff_eq.mpr c12
    clear c12
    by_cases c13 : a1 = 34
    ·
     rw [if_pos c13] at H
     have c13b0 : (a1 == 34) = true := beq_iff_eq.mpr c13
     have c13b1 : (a1 != 34) = false := bne_eq_false_iff_eq.mpr c13
     clear c13
     simp only [Option.some.injEq, Prod.mk.injEq] at H
     obtain ⟨rfl, rfl, rfl⟩ := H
     obtain ⟨HGz14, hgz14⟩ := HI0.out
     have hcz14_0 := cellS58_0 HGz14
     have hcz14_1 := cellS58_1 HGz14
     have hfz14_0 := blk_frozen HGz14 0
     have hfz14_1 := blk_frozen HGz14 1
     clear HGz14 hgz14
     go_enter Tryd.func72, Tryd.ntmps72
     go_wp2
     go_ret
     exact ⟨erq, g3q, g4q, g2q⟩
    ·
     rw [if_neg c13] at H
     have c13b0 : (a1 == 34) = false := beq_eq_false_iff_ne.mpr c13
     have c13b1 : (a1 != 34) = true := bne_iff_ne.mpr c13
     by_cases c15 : a1 = 92
     ·
      rw [if_pos c15] at H
      have c15b0 : (a1 == 92) = true := beq_iff_eq.mpr c15
      have c15b1 : (a1 != 92) = false := bne_eq_false_iff_eq.mpr c15
      clear c15
      simp only [Option.some.injEq, Prod.mk.injEq] at H
      obtain ⟨rfl, rfl, rfl⟩ := H
      obtain ⟨HGz16, hgz16⟩ := HI0.out
      have hcz16_0 := cellS58_0 HGz16
      have hcz16_1 := cellS58_1 HGz16
      have hfz16_0 := blk_frozen HGz16 0
      have hfz16_1 := blk_frozen HGz16 1
      clear HGz16 hgz16
      go_enter Tryd.func72, Tryd.ntmps72
      go_wp2
      go_ret
      exact ⟨erq, g3q, g4q, g2q⟩
     ·
      rw [if_neg c15] at H
      have c15b0 : (a1 == 92) = false := beq_eq_false_iff_ne.mpr c15
      have c15b1 : (a1 != 92) = true := bne_iff_ne.mpr c15
      by_cases c17 : a1 = 110
      ·
       rw [if_pos c17] at H
       have c17b0 : (a1 == 110) = true := beq_iff_eq.mpr c17
       have c17b1 : (a1 != 110) = false := bne_eq_false_iff_eq.mpr c17
       clear c17
       simp only [Option.some.injEq, Prod.mk.injEq] at H
       obtain ⟨rfl, rfl, rfl⟩ := H
       obtain ⟨HGz18, hgz18⟩ := HI0.out
       have hcz18_0 := cellS58_0 HGz18
       have hcz18_1 := cellS58_1 HGz18
       have hfz18_0 := blk_frozen HGz18 0
       have hfz18_1 := blk_frozen HGz18 1
       clear HGz18 hgz18
       go_enter Tryd.func72, Tryd.ntmps72
       go_wp2
       go_ret
       exact ⟨erq, g3q, g4q, g2q⟩
      ·
       rw [if_neg c17] at H
       have c17b0 : (a1 == 110) = false := beq_eq_false_iff_ne.mpr c17
       have c17b1 : (a1 != 110) = true := bne_iff_ne.mpr c17
       simp only [Option.some.injEq, Prod.mk.injEq] at H
       obtain ⟨rfl, rfl, rfl⟩ := H
       obtain ⟨HGz19, hgz19⟩ := HI0.out
       have hcz19_0 := cellS58_0 HGz19
       have hcz19_1 := cellS58_1 HGz19
       have hfz19_0 := blk_frozen HGz19 0
       have hfz19_1 := blk_frozen HGz19 1
       clear HGz19 hgz19
       go_enter Tryd.func72, Tryd.ntmps72
       go_wp2
       go_ret
       exact ⟨erq, g3q, g4q, g2q⟩
   ·
    rw [if_neg c12] at H
    have c12b0 : (a1 == 120) = false := beq_eq_false_iff_ne.mpr c12
    have c12b1 : (a1 != 120) = true := bne_iff_ne.mpr c12
    by_cases c20 : a1 = 34
    ·
     rw [if_pos c20] at H
     have c20b0 : (a1 == 34) = true := beq_iff_eq.mpr c20
     have c20b1 : (a1 != 34) = false := bne_eq_false_iff_eq.mpr c20
     clear c20
     simp only [Option.some.injEq, Prod.mk.injEq] at H
     obtain ⟨rfl, rfl, rfl⟩ := H
     obtain ⟨HGz21, hgz21⟩ := HI0.out
     have hcz21_0 := cellS58_0 HGz21
     have hcz21_1 := cellS58_1 HGz21
     have hfz21_0 := blk_frozen HGz21 0
     have hfz21_1 := blk_frozen HGz21 1
     clear HGz21 hgz21
     go_enter Tryd.func72, Tryd.ntmps72
     go_wp2
     go_ret
     exact ⟨erq, g3q, g4q, g2q⟩
    ·
     rw [if_neg c20] at H
     have c20b0 : (a1 == 34) = false := beq_eq_false_iff_ne.mpr c20
     have c20b1 : (a1 != 34) = true := bne_iff_ne.mpr c20
     by_cases c22 : a1 = 92
     ·
      rw [if_pos c22] at H
      have c22b0 : (a1 == 92) = true := beq_iff_eq.mpr c22
      have c22b1 : (a1 != 92) = false := bne_eq_false_iff_eq.mpr c22
      clear c22
      simp only [Option.some.injEq, Prod.mk.injEq] at H
      obtain ⟨rfl, rfl, rfl⟩ := H
      obtain ⟨HGz23, hgz23⟩ := HI0.out
      have hcz23_0 := cellS58_0 HGz23
      have hcz23_1 := cellS58_1 HGz23
      have hfz23_0 := blk_frozen HGz23 0
      have hfz23_1 := blk_frozen HGz23 1
      clear HGz23 hgz23
      go_enter Tryd.func72, Tryd.ntmps72
      go_wp2
      go_ret
      exact ⟨erq, g3q, g4q, g2q⟩
     ·
      rw [if_neg c22] at H
      have c22b0 : (a1 == 92) = false := beq_eq_false_iff_ne.mpr c22
      have c22b1 : (a1 != 92) = true := bne_iff_ne.mpr c22
      by_cases c24 : a1 = 110
      ·
       rw [if_pos c24] at H
       have c24b0 : (a1 == 110) = true := beq_iff_eq.mpr c24
       have c24b1 : (a1 != 110) = false := bne_eq_false_iff_eq.mpr c24
       clear c24
       simp only [Option.some.injEq, Prod.mk.injEq] at H
       obtain ⟨rfl, rfl, rfl⟩ := H
       obtain ⟨HGz25, hgz25⟩ := HI0.out
       have hcz25_0 := cellS58_0 HGz25
       have hcz25_1 := cellS58_1 HGz25
       have hfz25_0 := blk_frozen HGz25 0
       have hfz25_1 := blk_frozen HGz25 1
       clear HGz25 hgz25
       go_enter Tryd.func72, Tryd.ntmps72
       go_wp2
       go_ret
       exact ⟨erq, g3q, g4q, g2q⟩
      ·
       rw [if_neg c24] at H
       have c24b0 : (a1 == 110) = false := beq_eq_false_iff_ne.mpr c24
       have c24b1 : (a1 != 110) = true := bne_iff_ne.mpr c24
       simp only [Option.some.injEq, Prod.mk.injEq] at H
       obtain ⟨rfl, rfl, rfl⟩ := H
       obtain ⟨HGz26, hgz26⟩ := HI0.out
       have hcz26_0 := cellS58_0 HGz26
       have hcz26_1 := cellS58_1 HGz26
       have hfz26_0 := blk_frozen HGz26 0
       have hfz26_1 := blk_frozen HGz26 1
       clear HGz26 hgz26
       go_enter Tryd.func72, Tryd.ntmps72
       go_wp2
       go_ret
       exact ⟨erq, g3q, g4q, g2q⟩
  ·
   rw [if_neg c11] at H
   have c11b0 : (s0_0 == 11) = false := beq_eq_false_iff_ne.mpr c11
   have c11b1 : (s0_0 != 11) = true := bne_iff_ne.mpr c11
   by_cases c27 : s0_0 = 12
   ·
    rw [if_pos c27] at H
    have c27b0 : (s0_0 == 12) = true := beq_iff_eq.mpr c27
    have c27b1 : (s0_0 != 12) = false := bne_eq_false_iff_eq.mpr c27
    clear c27
    replace H := Option.bind_eq_some_iff.mp H
    obtain ⟨t136, A280, H⟩ := H
    replace H : (some (decide (t136 ≥ 0), 13, s0_1)) = some (r1, r2, r3) := H
    have A28 := Aside0.mk A280
    clear A280
    simp only [Option.some.injEq, Prod.mk.injEq] at H
    obtain ⟨rfl, rfl, rfl⟩ := H
    obtain ⟨HGz29, hgz29⟩ := HI0.out
    have hcz29_0 := cellS58_0 HGz29
    have hcz29_1 := cellS58_1 HGz29
    have hfz29_0 := blk_frozen HGz29 0
    have hfz29_1 := blk_frozen HGz29 1
    clear HGz29 hgz29
    go_enter Tryd.func72, Tryd.ntmps72
    go_wp2_with (first | ((with_reducible refine gate_callee (f := 74) rfl ?_); refine goesL_ (some 56) rfl rfl Tryd.func74 (by kernel_rfl) rfl #[.int .u8 a1] rfl agq ?_; (with_reducible refine (latchkeyref05_hex.calls k a1 t136 _ A28.out).mono ?_); rintro e w' ⟨rfl, ⟨nd, rfl⟩⟩; refine ⟨_, rfl, ?_⟩))
    go_ret
    exact ⟨erq, g3q, g4q, g2q⟩
   ·
    rw [if_neg c27] at H
    have c27b0 : (s0_0 == 12) = false := beq_eq_false_iff_ne.mpr c27
    have c27b1 : (s0_0 != 12) = true := bne_iff_ne.mpr c27
    replace H := Option.bind_eq_some_iff.mp H
    obtain ⟨t137, A300, H⟩ := H
    replace H : (some (decide (t137 ≥ 0), 10, s0_1)) = some (r1, r2, r3) := H
    have A30 := Aside0.mk A300
    clear A300
    simp only [Option.some.injEq, Prod.mk.injEq] at H
    obtain ⟨rfl, rfl, rfl⟩ := H
    obtain ⟨HGz31, hgz31⟩ := HI0.out
    have hcz31_0 := cellS58_0 HGz31
    have hcz31_1 := cellS58_1 HGz31
    have hfz31_0 := blk_frozen HGz31 0
    have hfz31_1 := blk_frozen HGz31 1
    clear HGz31 hgz31
    go_enter Tryd.func72, Tryd.ntmps72
    go_wp2_with (first | ((with_reducible refine gate_callee (f := 74) rfl ?_); refine goesL_ (some 56) rfl rfl Tryd.func74 (by kernel_rfl) rfl #[.int .u8 a1] rfl agq ?_; (with_reducible refine (latchkeyref05_hex.calls k a1 t137 _ A30.out).mono ?_); rintro e w' ⟨rfl, ⟨nd, rfl⟩⟩; refine ⟨_, rfl, ?_⟩))
    go_ret
    exact ⟨erq, g3q, g4q, g2q⟩
end Go.Proofs.YteedjhoffjkhmaaDoor.PT
