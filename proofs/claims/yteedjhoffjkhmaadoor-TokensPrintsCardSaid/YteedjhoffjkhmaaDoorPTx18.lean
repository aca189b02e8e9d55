import Derived.Test.YteedjhoffjkhmaaDoorPTx0
import Derived.Test.YteedjhoffjkhmaaDoorPTx10
import Derived.Test.YteedjhoffjkhmaaDoorPTx11
import Derived.Test.YteedjhoffjkhmaaDoorPTx13
namespace Go.Proofs.YteedjhoffjkhmaaDoor.PT
open Go.RowKit Go.Proofs.YteedjhoffjkhmaaDoorW.PrintWords Go.Proofs.YteedjhoffjkhmaaDoorW.PrintLast Go.Proofs.YteedjhoffjkhmaaDoorW.PrintMore
attribute [local go_sem] max2_int min2_int max_two min_two max_three min_three max_four min_four
set_option linter.unusedVariables false
set_option linter.unusedSimpArgs false
def latchkeyref00_BeyondTokens.l0 : Nat → List (S37) → Int → Int → Option (Bool)
 | 0, _, _, _ => none
 | k + 1, x0, x3, x4 => if x4 < (x0.length : Int) then (if x3 ≥ 0 then (if 0 ≤ x4 then (latchkeyref00_BeyondTokens.l0 k x0 (wrap64 ((wrap64 (x3 - 8)) - (((rd_T37 x0 x4).f1).size : Int))) (wrap64 (x4 + 1))) else (none)) else (some (decide (x3 < 0)))) else (some (decide (x3 < 0)))
def latchkeyref00_BeyondTokens.f (k : Nat) (l0 : List (S37)) : Option (Bool) := latchkeyref00_BeyondTokens.l0 k l0 2147483647 0
set_option maxHeartbeats 8000000 in
set_option maxRecDepth 100000 in
theorem latchkeyref00_BeyondTokens.calls (k : Nat) (A0 : Option Addr) (c0 : Nat) (l0 : List (S37)) (r : Bool) (w : World) (hr0 : Kd.C k37 w A0 l0.length l0) (hc0 : l0.length ≤ c0) (h : latchkeyref00_BeyondTokens.f k l0 = some r) :
  Calls Tryd.prog 14 #[.slice A0 l0.length c0] w fun e w' => e = .returned (.bool r) ∧ Drawn0 w w' := by
 have HR0 := Aside0.mk hr0
 have HC0 := Aside0.mk hc0
 clear hr0 hc0
 have H : (latchkeyref00_BeyondTokens.l0 k l0 2147483647 0) = some r := h
 clear h
 have H' := Aside0.mk H
 clear H
 go_enter Tryd.func14, Tryd.ntmps14
 go_wp2
 go_loopg [3, 4] k (fun kq v3 v4 w' => ∃ (x3_1 : Int) (x4_1 : Int), v3 = .int .i64 x3_1 ∧ v4 = .int .i64 x4_1 ∧ Aside0 (latchkeyref00_BeyondTokens.l0 kq l0 x3_1 x4_1 = some r) ∧ Aside0 (kq ≤ k) ∧ Drawn0 w w')
 case atStart => exact ⟨(2147483647), (0), (by first | rfl | (simp; done) | (simp [*]; done)), (by first | rfl | (simp; done) | (simp [*]; done)), H', ⟨Nat.le_refl _⟩, g1q⟩
 case round =>
  clear H'
  (try clear c1)
  obtain ⟨x3_1, x4_1, rfl, rfl, HA, HK1, ⟨m1, rfl⟩⟩ := hrel
  cases gk with
  | zero => exact absurd HA.out (by simp [latchkeyref00_BeyondTokens.l0])
  | succ k1 =>
   have H := HA.out
   clear HA
   simp only [latchkeyref00_BeyondTokens.l0] at H
   by_cases c2 : x4_1 < (l0.length : Int)
   ·
    rw [if_pos c2] at H
    have c2b0 : decide (x4_1 < (l0.length : Int)) = true := decide_eq_true c2
    clear c2
    by_cases c3 : x3_1 ≥ 0
    ·
     rw [if_pos c3] at H
     have c3b0 : decide (0 ≤ x3_1) = true := decide_eq_true c3
     clear c3
     by_cases c4 : 0 ≤ x4_1
     ·
      rw [if_pos c4] at H
      have c4b0 : decide (0 ≤ x4_1) = true := decide_eq_true c4
      clear c4
      have H' := Aside0.mk H
      clear H
      have p333 : 0 ≤ (x4_1 : Int) := of_decide_eq_true azq
      have q333 : x4_1 < (l0.length : Int) := of_decide_eq_true azq
      obtain ⟨ad333, e333, hx333_0, hx333_1, hx333_2, hx333_3⟩ := at_T37 HR0.out x4_1 p333 q333
      cases e333
      replace p333 := eq_true p333
      replace q333 := eq_true q333
      go_wp2
      go_roundg k1
      case measure => have := HK1.out; omega
      case rel => exact ⟨(wrap64 ((wrap64 (x3_1 - 8)) - (((rd_T37 l0 x4_1).f1).size : Int))), (wrap64 (x4_1 + 1)), (by first | rfl | (simp; done) | (simp [*]; done)), (by first | rfl | (simp; done) | (simp [*]; done)), H', ⟨by have := HK1.out; omega⟩, g1q⟩
     ·
      rw [if_neg c4] at H
      exact absurd H (by simp)
    ·
     rw [if_neg c3] at H
     have c3b0 : decide (0 ≤ x3_1) = false := decide_eq_false c3
     clear c3
     obtain rfl := Option.some.inj H
     go_wp2
     go_ret
     exact ⟨by first | rfl | (simp; done) | (simp [*]; done), g1q⟩
   ·
    rw [if_neg c2] at H
    have c2b0 : decide (x4_1 < (l0.length : Int)) = false := decide_eq_false c2
    clear c2
    obtain rfl := Option.some.inj H
    go_wp2
    go_ret
    exact ⟨by first | rfl | (simp; done) | (simp [*]; done), g1q⟩
def latchkeykit_markText.f (a0 : Int) (a1 : Int) : Option (ByteArray) := some (strOfNums (([35, (a0) % 256, (a0 / 256) % 256, (a0 / 65536) % 256, 47, (a1) % 256, (a1 / 256) % 256, (a1 / 65536) % 256] : List Int)))
set_option maxHeartbeats 8000000 in
set_option maxRecDepth 100000 in
theorem latchkeykit_markText.calls (a0 : Int) (a1 : Int) (r : ByteArray) (w : World) (h : latchkeykit_markText.f a0 a1 = some r) :
  Calls Tryd.prog 35 #[.int .i64 a0, .int .i64 a1] w fun e w' => e = .returned (.string r) ∧ Below w.heap.size w w' := by
 have HB := Aside0.mk (Below.refl w.heap.size w)
 have H : (some (strOfNums (([35, (a0) % 256, (a0 / 256) % 256, (a0 / 65536) % 256, 47, (a1) % 256, (a1 / 256) % 256, (a1 / 65536) % 256] : List Int)))) = some r := h
 clear h
 obtain ⟨y334, hy334⟩ : ∃ y_ : List Int, y_ = (([35, (a0) % 256, (a0 / 256) % 256, (a0 / 65536) % 256, 47, (a1) % 256, (a1 / 256) % 256, (a1 / 65536) % 256] : List Int)) := ⟨_, rfl⟩
 replace H : (some (strOfNums y334)) = some r := by first | (rw [hy334]; with_reducible exact H) | (have H2_ := (Option.bind_some _ _).symm.trans H; rw [hy334]; with_reducible exact H2_) | (have H2_ := (Option.bind_some _ _).symm.trans H; with_reducible exact H2_) | with_reducible exact H | (rw [hy334]; exact H) | exact H
 have Ny334 := Aside0.mk hy334
 clear hy334
 obtain rfl := Option.some.inj H
 go_enter Tryd.func35, Tryd.ntmps35
 go_wp2_with (first | ((with_reducible refine gate_dst (N := 21) rfl ?_); refine Kd.R_lit (Kd.int .u8) _ 5 ?hg (N := 21) ?hd (xs := ([35, (a0) % 256, (a0 / 256) % 256, (a0 / 65536) % 256, 47, (a1) % 256, (a1 / 256) % 256, (a1 / 65536) % 256] : List Int)) (inner := [.int .u8 35, .int .u8 ((a0) % 256), .int .u8 ((a0 / 256) % 256), .int .u8 ((a0 / 65536) % 256), .int .u8 47, .int .u8 ((a1) % 256), .int .u8 ((a1 / 256) % 256), .int .u8 ((a1 / 65536) % 256)]) (ok := fun _ => True) (okp := fun _ => True) ?hr ?hp (fun _ hk => hk) trivial (Below.refl _ _) (Nat.le_refl _) (by simp) ?_; (case hd => rfl); (case hg => rfl); (case hr => first | (go_simp; done) | (go_simp; rfl)); (case hp => exact (Reps.one (show Kd.M (Kd.int .u8) _ _ _ 35 [.int .u8 35] from rfl) (Reps.one (show Kd.M (Kd.int .u8) _ _ _ ((a0) % 256) [.int .u8 ((a0) % 256)] from rfl) (Reps.one (show Kd.M (Kd.int .u8) _ _ _ ((a0 / 256) % 256) [.int .u8 ((a0 / 256) % 256)] from rfl) (Reps.one (show Kd.M (Kd.int .u8) _ _ _ ((a0 / 65536) % 256) [.int .u8 ((a0 / 65536) % 256)] from rfl) (Reps.one (show Kd.M (Kd.int .u8) _ _ _ 47 [.int .u8 47] from rfl) (Reps.one (show Kd.M (Kd.int .u8) _ _ _ ((a1) % 256) [.int .u8 ((a1) % 256)] from rfl) (Reps.one (show Kd.M (Kd.int .u8) _ _ _ ((a1 / 256) % 256) [.int .u8 ((a1 / 256) % 256)] from rfl) (Reps.one (show Kd.M (Kd.int .u8) _ _ _ ((a1 / 65536) % 256) [.int .u8 ((a1 / 65536) % 256)] from rfl) (Reps.none _ _)))))))))); intro v335 w3 ho4 hb hg_ hnew_; clear hg_ hnew_; (first | rw [← Ny334.out] at ho4 | (simp only [Int.reduceToNat] at ho4; rw [← Ny334.out] at ho4)); have n0_ := Aside0.mk (Kd.R_lower ho4 (below_size bq)); have n1_ := Aside0.mk (below_step bq hb); clear HB; have HO336 := n0_; have HB := n1_; clear n0_ n1_; clear hb ho4; have hcv5 := own_string (P := Tryd.prog) Tryd.underlying35 Tryd.underlying5 Tryd.underlying9 (Kd.own_of_R HO336.out)))
 go_ret
 exact ⟨erq, bq⟩
def latchkeyref05_one.f (k : Nat) (a0 : ByteArray) (a1 : Int) : Option (Bool) := if (a0.size : Int) > 65536 then (some false) else ((latchkeyref05_run.f k a0).bind fun bt348 => (if a0.toList = ([] : List UInt8) then (some false) else (if bt348.1 < (a0.size : Int) then (some false) else ((latchkeyref05_Finish.f k a0).bind fun t352 => (if t352.toList = ([] : List UInt8) then ((latchkeyref05_skip.f k a0 0).bind fun t353 => (if t353 = 0 then ((latchkeyref05_piece.f k a0 0).bind fun bt354 => (if bt354.2.2.2.2 = (a0.size : Int) then (some (bt354.1 == a1)) else (some false))) else (some false))) else (some false))))))
set_option maxHeartbeats 8000000 in
set_option maxRecDepth 100000 in
theorem latchkeyref05_one.calls (k : Nat) (a0 : ByteArray) (a1 : Int) (r : Bool) (w : World) (h : latchkeyref05_one.f k a0 a1 = some r) :
  Calls Tryd.prog 62 #[.string a0, .int .i64 a1] w fun e w' => e = .returned (.bool r) ∧ Below w.heap.size w w' := by
 have hu58 := Tryd.underlying58
 have hu37 := Tryd.underlying37
 have HB := Aside0.mk (Below.refl w.heap.size w)
 have H : (if (a0.size : Int) > 65536 then (some false) else ((latchkeyref05_run.f k a0).bind fun bt348 => (if a0.toList = ([] : List UInt8) then (some false) else (if bt348.1 < (a0.size : Int) then (some false) else ((latchkeyref05_Finish.f k a0).bind fun t352 => (if t352.toList = ([] : List UInt8) then ((latchkeyref05_skip.f k a0 0).bind fun t353 => (if t353 = 0 then ((latchkeyref05_piece.f k a0 0).bind fun bt354 => (if bt354.2.2.2.2 = (a0.size : Int) then (some (bt354.1 == a1)) else (some false))) else (some false))) else (some false))))))) = some r := h
 clear h
 by_cases c3 : (a0.size : Int) > 65536
 ·
  rw [if_pos c3] at H
  have c3b0 : decide (65536 < (a0.size : Int)) = true := decide_eq_true c3
  have c3b1 : decide (65536 < a0.size) = true := decide_eq_true (by omega)
  clear c3
  obtain rfl := Option.some.inj H
  go_enter Tryd.func62, Tryd.ntmps62
  go_wp2
  go_ret
  exact ⟨erq, bq⟩
 ·
  rw [if_neg c3] at H
  have c3b0 : decide (65536 < (a0.size : Int)) = false := decide_eq_false c3
  have c3b1 : decide (65536 < a0.size) = false := decide_eq_false (by omega)
  clear c3
  replace H := Option.bind_eq_some_iff.mp H
  obtain ⟨⟨t348, t349, t350⟩, A40, H⟩ := H
  replace H : (if a0.toList = ([] : List UInt8) then (some false) else (if t348 < (a0.size : Int) then (some false) else ((latchkeyref05_Finish.f k a0).bind fun t352 => (if t352.toList = ([] : List UInt8) then ((latchkeyref05_skip.f k a0 0).bind fun t353 => (if t353 = 0 then ((latchkeyref05_piece.f k a0 0).bind fun bt354 => (if bt354.2.2.2.2 = (a0.size : Int) then (some (bt354.1 == a1)) else (some false))) else (some false))) else (some false))))) = some r := H
  have A4 := Aside0.mk A40
  clear A40
  by_cases c5 : a0.toList = ([] : List UInt8)
  ·
   rw [if_pos c5] at H
   have c5b0 : (a0.toList == ([] : List UInt8)) = true := beq_iff_eq.mpr c5
   have c5b1 : (a0.toList != ([] : List UInt8)) = false := bne_eq_false_iff_eq.mpr c5
   clear c5
   obtain rfl := Option.some.inj H
   go_enter Tryd.func62, Tryd.ntmps62
   go_wp2_with (first | ((with_reducible refine gate_callee (f := 31) rfl ?_); refine goesL_ (some 14) rfl rfl Tryd.func31 (by kernel_rfl) rfl #[.string a0] rfl agq ?_; (with_reducible refine (latchkeyref05_run.calls k a0 t348 t349 t350 _ A4.out).mono ?_); rintro e w6 ⟨rfl, hb⟩; refine ⟨_, rfl, ?_⟩; have n0_ := Aside0.mk (below_step bq hb); clear HB; have HB := n0_; clear n0_; (try clear hb); (try clear hb2); (try clear hk); (try clear hi)) | ((with_reducible refine gate_dst (N := 6) rfl ?_); (try (refine gate_guard (by rfl) ?_; dsimp only)); refine box_event ?hg (N := 6) ?hd (cs := #[.int .i64 0, .int .i64 0]) (t := 58) ?hr ?_; (case hd => rfl); (case hg => rfl); (case hr => first | (go_simp; done) | (go_simp; rfl)); intro gb351 hg w7 hbox hb; have n0_ := Aside0.mk (below_step bq hb); have n1_ := Aside0.mk (hbox); have n2_ := Aside0.mk ((by rw [hg]; exact (below_size bq) : w.heap.size ≤ gb351)); have n3_ := Aside0.mk ((by rw [hg]; exact (below_size bq) : w.heap.size ≤ gb351)); clear HB; have HB := n0_; have BK351 := n1_; have GW351 := n2_; have GE351 := n3_; clear n0_ n1_ n2_ n3_; clear hb hbox hg; have hcz8_0 : w7.cell? ⟨gb351, 0, none⟩ = some (.int .i64 0) := (blk_cell BK351.out 0).trans rfl; have hcz8_1 : w7.cell? ⟨gb351, 1, none⟩ = some (.int .i64 0) := (blk_cell BK351.out 1).trans rfl; have hfz8_0 := blk_frozen BK351.out 0; have hfz8_1 := blk_frozen BK351.out 1))
   go_ret
   exact ⟨erq, g9q⟩
  ·
   rw [if_neg c5] at H
   have c5b0 : (a0.toList == ([] : List UInt8)) = false := beq_eq_false_iff_ne.mpr c5
   have c5b1 : (a0.toList != ([] : List UInt8)) = true := bne_iff_ne.mpr c5
   by_cases c9 : t348 < (a0.size : Int)
   ·
    rw [if_pos c9] at H
    have c9b0 : decide (t348 < (a0.size : Int)) = true := decide_eq_true c9
    clear c9
    obtain rfl := Option.some.inj H
    go_enter Tryd.func62, Tryd.ntmps62
    go_wp2_with (first | ((with_reducible refine gate_callee (f := 31) rfl ?_); refine goesL_ (some 14) rfl rfl Tryd.func31 (by kernel_rfl) rfl #[.string a0] rfl agq ?_; (with_reducible refine (latchkeyref05_run.calls k a0 t348 t349 t350 _ A4.out).mono ?_); rintro e w10 ⟨rfl, hb⟩; refine ⟨_, rfl, ?_⟩; have n0_ := Aside0.mk (below_step bq hb); clear HB; have HB := n0_; clear n0_; (try clear hb); (try clear hb2); (try clear hk); (try clear hi)) | ((with_reducible refine gate_dst (N := 6) rfl ?_); (try (refine gate_guard (by rfl) ?_; dsimp only)); refine box_event ?hg (N := 6) ?hd (cs := #[.int .i64 0, .int .i64 0]) (t := 58) ?hr ?_; (case hd => rfl); (case hg => rfl); (case hr => first | (go_simp; done) | (go_simp; rfl)); intro gb351 hg w11 hbox hb; have n0_ := Aside0.mk (below_step bq hb); have n1_ := Aside0.mk (hbox); have n2_ := Aside0.mk ((by rw [hg]; exact (below_size bq) : w.heap.size ≤ gb351)); have n3_ := Aside0.mk ((by rw [hg]; exact (below_size bq) : w.heap.size ≤ gb351)); clear HB; have HB := n0_; have BK351 := n1_; have GW351 := n2_; have GE351 := n3_; clear n0_ n1_ n2_ n3_; clear hb hbox hg; have hcz12_0 : w11.cell? ⟨gb351, 0, none⟩ = some (.int .i64 0) := (blk_cell BK351.out 0).trans rfl; have hcz12_1 : w11.cell? ⟨gb351, 1, none⟩ = some (.int .i64 0) := (blk_cell BK351.out 1).trans rfl; have hfz12_0 := blk_frozen BK351.out 0; have hfz12_1 := blk_frozen BK351.out 1))
    go_ret
    exact ⟨erq, g9q⟩
   ·
    rw [if_neg c9] at H
    have c9b0 : decide (t348 < (a0.size : Int)) = false := decide_eq_false c9
    clear c9
    replace H := Option.bind_eq_some_iff.mp H
    obtain ⟨t352, A130, H⟩ := H
    replace H : (if t352.toList = ([] : List UInt8) then ((latchkeyref05_skip.f k a0 0).bind fun t353 => (if t353 = 0 then ((latchkeyref05_piece.f k a0 0).bind fun bt354 => (if bt354.2.2.2.2 = (a0.size : Int) then (some (bt354.1 == a1)) else (some false))) else (some false))) else (some false)) = some r := H
    have A13 := Aside0.mk A130
    clear A130
    by_cases c14 : t352.toList = ([] : List UInt8)
    ·
     rw [if_pos c14] at H
     have c14b0 : (t352.toList == ([] : List UInt8)) = true := beq_iff_eq.mpr c14
     have c14b1 : (t352.toList != ([] : List UInt8)) = false := bne_eq_false_iff_eq.mpr c14
     clear c14
     replace H := Option.bind_eq_some_iff.mp H
     obtain ⟨t353, A150, H⟩ := H
     replace H : (if t353 = 0 then ((latchkeyref05_piece.f k a0 0).bind fun bt354 => (if bt354.2.2.2.2 = (a0.size : Int) then (some (bt354.1 == a1)) else (some false))) else (some false)) = some r := H
     have A15 := Aside0.mk A150
     clear A150
     by_cases c16 : t353 = 0
     ·
      rw [if_pos c16] at H
      have c16b0 : (t353 == 0) = true := beq_iff_eq.mpr c16
      have c16b1 : (t353 != 0) = false := bne_eq_false_iff_eq.mpr c16
      clear c16
      replace H := Option.bind_eq_some_iff.mp H
      obtain ⟨⟨t354, t355, t356, t357, t358⟩, A170, H⟩ := H
      replace H : (if t358 = (a0.size : Int) then (some (t354 == a1)) else (some false)) = some r := H
      have A17 := Aside0.mk A170
      clear A170
      by_cases c18 : t358 = (a0.size : Int)
      ·
       rw [if_pos c18] at H
       have c18b0 : (t358 == (a0.size : Int)) = true := beq_iff_eq.mpr c18
       have c18b1 : (t358 != (a0.size : Int)) = false := bne_eq_false_iff_eq.mpr c18
       clear c18
       obtain rfl := Option.some.inj H
       go_enter Tryd.func62, Tryd.ntmps62
       go_wp2_with (first | ((with_reducible refine gate_callee (f := 31) rfl ?_); refine goesL_ (some 14) rfl rfl Tryd.func31 (by kernel_rfl) rfl #[.string a0] rfl agq ?_; (with_reducible refine (latchkeyref05_run.calls k a0 t348 t349 t350 _ A4.out).mono ?_); rintro e w19 ⟨rfl, hb⟩; refine ⟨_, rfl, ?_⟩; have n0_ := Aside0.mk (below_step bq hb); clear HB; have HB := n0_; clear n0_; (try clear hb); (try clear hb2); (try clear hk); (try clear hi)) | ((with_reducible refine gate_dst (N := 6) rfl ?_); (try (refine gate_guard (by rfl) ?_; dsimp only)); refine box_event ?hg (N := 6) ?hd (cs := #[.int .i64 0, .int .i64 0]) (t := 58) ?hr ?_; (case hd => rfl); (case hg => rfl); (case hr => first | (go_simp; done) | (go_simp; rfl)); intro gb351 hg w20 hbox hb; have n0_ := Aside0.mk (below_step bq hb); have n1_ := Aside0.mk (hbox); have n2_ := Aside0.mk ((by rw [hg]; exact (below_size bq) : w.heap.size ≤ gb351)); have n3_ := Aside0.mk ((by rw [hg]; exact (below_size bq) : w.heap.size ≤ gb351)); clear HB; have HB := n0_; have BK351 := n1_; have GW351 := n2_; have GE351 := n3_; clear n0_ n1_ n2_ n3_; clear hb hbox hg; have hcz21_0 : w20.cell? ⟨gb351, 0, none⟩ = some (.int .i64 0) := (blk_cell BK351.out 0).trans rfl; have hcz21_1 : w20.cell? ⟨gb351, 1, none⟩ = some (.int .i64 0) := (blk_cell BK351.out 1).trans rfl; have hfz21_0 := blk_frozen BK351.out 0; have hfz21_1 := blk_frozen BK351.out 1) | (go_at_call 26; (with_reducible refine (latchkeyref05_Finish.calls k a0 t352 _ A13.out).mono ?_); rintro e w22 ⟨rfl, hb⟩; have n0_ := Aside0.mk (blk_below (g := gb351) (o := .cells #[.int .i64 t349, .int .i64 t350] 58 (0, 0)) (by (with_reducible repeat (first | refine blk_drewN ?_ _ | refine blk_drew ?_ | refine blk_alloc ?_ _)); refine blk_put (cs := #[.int .i64 t349, .int .i64 0]) ?_ 1 _ rfl; (with_reducible repeat (first | refine blk_drewN ?_ _ | refine blk_drew ?_ | refine blk_alloc ?_ _)); refine blk_put (cs := #[.int .i64 0, .int .i64 0]) ?_ 0 _ rfl; (with_reducible repeat (first | refine blk_drewN ?_ _ | refine blk_drew ?_ | refine blk_alloc ?_ _)); exact BK351.out) hb); have n1_ := Aside0.mk (below_step g9q hb); clear BK351; clear HB; have BK351 := n0_; have HB := n1_; clear n0_ n1_; (try clear hb); (try clear hb2); (try clear hk); (try clear hi)) | (go_at_call 32; (with_reducible refine (latchkeyref05_skip.calls k a0 0 t353 _ A15.out).mono ?_); rintro e w' ⟨rfl, ⟨nd, rfl⟩⟩; (try (rw [drewN_self w22]; generalize hq_ : World.drewN w22 _ = w22; have n0_ : Aside0 (w22.heap[gb351]? = some (.cells #[.int .i64 t349, .int .i64 t350] 58 (0, 0))) := ⟨by rw [← hq_]; exact (bxq BK351.out)⟩; have n1_ : Aside0 (Below w.heap.size w w22) := ⟨by rw [← hq_]; exact g9q⟩; clear BK351 HB hq_; have BK351 := n0_; have HB := n1_; clear n0_ n1_))) | ((with_reducible refine gate_callee (f := 33) rfl ?_); refine goesL_ (some 37) rfl rfl Tryd.func33 (by kernel_rfl) rfl #[.string a0, .int .i64 0] rfl agq ?_; (with_reducible refine (latchkeyref05_piece.calls k a0 0 t354 t355 t356 t357 t358 _ A17.out).mono ?_); rintro e w23 ⟨rfl, hb⟩; refine ⟨_, rfl, ?_⟩; have n0_ := Aside0.mk (blk_below (g := gb351) (o := .cells #[.int .i64 t349, .int .i64 t350] 58 (0, 0)) (bxq BK351.out) hb); have n1_ := Aside0.mk (below_step g9q hb); clear BK351; clear HB; have BK351 := n0_; have HB := n1_; clear n0_ n1_; (try clear hb); (try clear hb2); (try clear hk); (try clear hi)) | ((with_reducible refine gate_dst (N := 7) rfl ?_); (try (refine gate_guard (by rfl) ?_; dsimp only)); refine box_event ?hg (N := 7) ?hd (cs := #[.int .i64 0, .string (⟨#[]⟩ : ByteArray), .int .i64 0, .int .i64 0]) (t := 37) ?hr ?_; (case hd => rfl); (case hg => rfl); (case hr => first | (go_simp; done) | (go_simp; rfl)); intro gb359 hg w24 hbox hb; have n0_ := Aside0.mk (blk_below (g := gb351) (o := .cells #[.int .i64 t349, .int .i64 t350] 58 (0, 0)) (bxq BK351.out) hb); have n1_ := Aside0.mk (below_step g9q hb); have n2_ := Aside0.mk (hbox); have n3_ := Aside0.mk ((by rw [hg]; exact (below_size g9q) : w.heap.size ≤ gb359)); have n4_ := Aside0.mk ((by rw [hg]; exact (below_size g9q) : w.heap.size ≤ gb359)); have n5_ := Aside0.mk ((by rw [hg]; exact Nat.ne_of_lt (blk_lt (g := gb351) (o := .cells #[.int .i64 t349, .int .i64 t350] 58 (0, 0)) (bxq BK351.out)) : gb351 ≠ gb359)); have n6_ := Aside0.mk ((by rw [hg]; exact Nat.ne_of_gt (blk_lt (g := gb351) (o := .cells #[.int .i64 t349, .int .i64 t350] 58 (0, 0)) (bxq BK351.out)) : gb359 ≠ gb351)); clear BK351; clear HB; have BK351 := n0_; have HB := n1_; have BK359 := n2_; have GW359 := n3_; have GE359 := n4_; have NB351_359 := n5_; have NB359_351 := n6_; clear n0_ n1_ n2_ n3_ n4_ n5_ n6_; clear hb hbox hg; have hnb25 := NB359_351.out; have hnc25 := NB351_359.out; have hcz26_0 : w24.cell? ⟨gb359, 0, none⟩ = some (.int .i64 0) := (blk_cell BK359.out 0).trans rfl; have hcz26_1 : w24.cell? ⟨gb359, 1, none⟩ = some (.string (⟨#[]⟩ : ByteArray)) := (blk_cell BK359.out 1).trans rfl; have hcz26_2 : w24.cell? ⟨gb359, 2, none⟩ = some (.int .i64 0) := (blk_cell BK359.out 2).trans rfl; have hcz26_3 : w24.cell? ⟨gb359, 3, none⟩ = some (.int .i64 0) := (blk_cell BK359.out 3).trans rfl; have hfz26_0 := blk_frozen BK359.out 0; have hfz26_1 := blk_frozen BK359.out 1; have hfz26_2 := blk_frozen BK359.out 2; have hfz26_3 := blk_frozen BK359.out 3))
       go_ret
       exact ⟨erq, by repeat (first | (with_reducible first | exact HB.out | apply below_alloc | apply pw_below_drewN | apply below_drew1 | refine below_set ?_ GE351.out | refine below_set ?_ GE359.out) | exact HB.out)⟩
      ·
       rw [if_neg c18] at H
       have c18b0 : (t358 == (a0.size : Int)) = false := beq_eq_false_iff_ne.mpr c18
       have c18b1 : (t358 != (a0.size : Int)) = true := bne_iff_ne.mpr c18
       obtain rfl := Option.some.inj H
       go_enter Tryd.func62, Tryd.ntmps62
       go_wp2_with (first | ((with_reducible refine gate_callee (f := 31) rfl ?_); refine goesL_ (some 14) rfl rfl Tryd.func31 (by kernel_rfl) rfl #[.string a0] rfl agq ?_; (with_reducible refine (latchkeyref05_run.calls k a0 t348 t349 t350 _ A4.out).mono ?_); rintro e w27 ⟨rfl, hb⟩; refine ⟨_, rfl, ?_⟩; have n0_ := Aside0.mk (below_step bq hb); clear HB; have HB := n0_; clear n0_; (try clear hb); (try clear hb2); (try clear hk); (try clear hi)) | ((with_reducible refine gate_dst (N := 6) rfl ?_); (try (refine gate_guard (by rfl) ?_; dsimp only)); refine box_event ?hg (N := 6) ?hd (cs := #[.int .i64 0, .int .i64 0]) (t := 58) ?hr ?_; (case hd => rfl); (case hg => rfl); (case hr => first | (go_simp; done) | (go_simp; rfl)); intro gb351 hg w28 hbox hb; have n0_ := Aside0.mk (below_step bq hb); have n1_ := Aside0.mk (hbox); have n2_ := Aside0.mk ((by rw [hg]; exact (below_size bq) : w.heap.size ≤ gb351)); have n3_ := Aside0.mk ((by rw [hg]; exact (below_size bq) : w.heap.size ≤ gb351)); clear HB; have HB := n0_; have BK351 := n1_; have GW351 := n2_; have GE351 := n3_; clear n0_ n1_ n2_ n3_; clear hb hbox hg; have hcz29_0 : w28.cell? ⟨gb351, 0, none⟩ = some (.int .i64 0) := (blk_cell BK351.out 0).trans rfl; have hcz29_1 : w28.cell? ⟨gb351, 1, none⟩ = some (.int .i64 0) := (blk_cell BK351.out 1).trans rfl; have hfz29_0 := blk_frozen BK351.out 0; have hfz29_1 := blk_frozen BK351.out 1) | (go_at_call 26; (with_reducible refine (latchkeyref05_Finish.calls k a0 t352 _ A13.out).mono ?_); rintro e w30 ⟨rfl, hb⟩; have n0_ := Aside0.mk (blk_below (g := gb351) (o := .cells #[.int .i64 t349, .int .i64 t350] 58 (0, 0)) (by (with_reducible repeat (first | refine blk_drewN ?_ _ | refine blk_drew ?_ | refine blk_alloc ?_ _)); refine blk_put (cs := #[.int .i64 t349, .int .i64 0]) ?_ 1 _ rfl; (with_reducible repeat (first | refine blk_drewN ?_ _ | refine blk_drew ?_ | refine blk_alloc ?_ _)); refine blk_put (cs := #[.int .i64 0, .int .i64 0]) ?_ 0 _ rfl; (with_reducible repeat (first | refine blk_drewN ?_ _ | refine blk_drew ?_ | refine blk_alloc ?_ _)); exact BK351.out) hb); have n1_ := Aside0.mk (below_step g9q hb); clear BK351; clear HB; have BK351 := n0_; have HB := n1_; clear n0_ n1_; (try clear hb); (try clear hb2); (try clear hk); (try clear hi)) | (go_at_call 32; (with_reducible refine (latchkeyref05_skip.calls k a0 0 t353 _ A15.out).mono ?_); rintro e w' ⟨rfl, ⟨nd, rfl⟩⟩; (try (rw [drewN_self w30]; generalize hq_ : World.drewN w30 _ = w30; have n0_ : Aside0 (w30.heap[gb351]? = some (.cells #[.int .i64 t349, .int .i64 t350] 58 (0, 0))) := ⟨by rw [← hq_]; exact (bxq BK351.out)⟩; have n1_ : Aside0 (Below w.heap.size w w30) := ⟨by rw [← hq_]; exact g9q⟩; clear BK351 HB hq_; have BK351 := n0_; have HB := n1_; clear n0_ n1_))) | ((with_reducible refine gate_callee (f := 33) rfl ?_); refine goesL_ (some 37) rfl rfl Tryd.func33 (by kernel_rfl) rfl #[.string a0, .int .i64 0] rfl agq ?_; (with_reducible refine (latchkeyref05_piece.calls k a0 0 t354 t355 t356 t357 t358 _ A17.out).mono ?_); rintro e w31 ⟨rfl, hb⟩; refine ⟨_, rfl, ?_⟩; have n0_ := Aside0.mk (blk_below (g := gb351) (o := .cells #[.int .i64 t349, .int .i64 t350] 58 (0, 0)) (bxq BK351.out) hb); have n1_ := Aside0.mk (below_step g9q hb); clear BK351; clear HB; have BK351 := n0_; have HB := n1_; clear n0_ n1_; (try clear hb); (try clear hb2); (try clear hk); (try clear hi)) | ((with_reducible refine gate_dst (N := 7) rfl ?_); (try (refine gate_guard (by rfl) ?_; dsimp only)); refine box_event ?hg (N := 7) ?hd (cs := #[.int .i64 0, .string (⟨#[]⟩ : ByteArray), .int .i64 0, .int .i64 0]) (t := 37) ?hr ?_; (case hd => rfl); (case hg => rfl); (case hr => first | (go_simp; done) | (go_simp; rfl)); intro gb359 hg w32 hbox hb; have n0_ := Aside0.mk (blk_below (g := gb351) (o := .cells #[.int .i64 t349, .int .i64 t350] 58 (0, 0)) (bxq BK351.out) hb); have n1_ := Aside0.mk (below_step g9q hb); have n2_ := Aside0.mk (hbox); have n3_ := Aside0.mk ((by rw [hg]; exact (below_size g9q) : w.heap.size ≤ gb359)); have n4_ := Aside0.mk ((by rw [hg]; exact (below_size g9q) : w.heap.size ≤ gb359)); have n5_ := Aside0.mk ((by rw [hg]; exact Nat.ne_of_lt (blk_lt (g := gb351) (o := .cells #[.int .i64 t349, .int .i64 t350] 58 (0, 0)) (bxq BK351.out)) : gb351 ≠ gb359)); have n6_ := Aside0.mk ((by rw [hg]; exact Nat.ne_of_gt (blk_lt (g := gb351) (o := .cells #[.int .i64 t349, .int .i64 t350] 58 (0, 0)) (bxq BK351.out)) : gb359 ≠ gb351)); clear BK351; clear HB; have BK351 := n0_; have HB := n1_; have BK359 := n2_; have GW359 := n3_; have GE359 := n4_; have NB351_359 := n5_; have NB359_351 := n6_; clear n0_ n1_ n2_ n3_ n4_ n5_ n6_; clear hb hbox hg; have hnb33 := NB359_351.out; have hnc33 := NB351_359.out; have hcz34_0 : w32.cell? ⟨gb359, 0, none⟩ = some (.int .i64 0) := (blk_cell BK359.out 0).trans rfl; have hcz34_1 : w32.cell? ⟨gb359, 1, none⟩ = some (.string (⟨#[]⟩ : ByteArray)) := (blk_cell BK359.out 1).trans rfl; have hcz34_2 : w32.cell? ⟨gb359, 2, none⟩ = some (.int .i64 0) := (blk_cell BK359.out 2).trans rfl; have hcz34_3 : w32.cell? ⟨gb359, 3, none⟩ = some (.int .i64 0) := (blk_cell BK359.out 3).trans rfl; have hfz34_0 := blk_frozen BK359.out 0; have hfz34_1 := blk_frozen BK359.out 1; have hfz34_2 := blk_frozen BK359.out 2; have hfz34_3 := blk_frozen BK359.out 3))
       go_ret
       exact ⟨erq, by repeat (first | (with_reducible first | exact HB.out | apply below_alloc | apply pw_below_drewN | apply below_drew1 | refine below_set ?_ GE351.out | refine below_set ?_ GE359.out) | exact HB.out)⟩
     ·
      rw [if_neg c16] at H
      have c16b0 : (t353 == 0) = false := beq_eq_false_iff_ne.mpr c16
      have c16b1 : (t353 != 0) = true := bne_iff_ne.mpr c16
      obtain rfl := Option.some.inj H
      go_enter Tryd.func62, Tryd.ntmps62
      go_wp2_with (first | ((with_reducible refine gate_callee (f := 31) rfl ?_); refine goesL_ (some 14) rfl rfl Tryd.func31 (by kernel_rfl) rfl #[.string a0] rfl agq ?_; (with_reducible refine (latchkeyref05_run.calls k a0 t348 t349 t350 _ A4.out).mono ?_); rintro e w35 ⟨rfl, hb⟩; refine ⟨_, rfl, ?_⟩; have n0_ := Aside0.mk (below_step bq hb); clear HB; have HB := n0_; clear n0_; (try clear hb); (try clear hb2); (try clear hk); (try clear hi)) | ((with_reducible refine gate_dst (N := 6) rfl ?_); (try (refine gate_guard (by rfl) ?_; dsimp only)); refine box_event ?hg (N := 6) ?hd (cs := #[.int .i64 0, .int .i64 0]) (t := 58) ?hr ?_; (case hd => rfl); (case hg => rfl); (case hr => first | (go_simp; done) | (go_simp; rfl)); intro gb351 hg w36 hbox hb; have n0_ := Aside0.mk (below_step bq hb); have n1_ := Aside0.mk (hbox); have n2_ := Aside0.mk ((by rw [hg]; exact (below_size bq) : w.heap.size ≤ gb351)); have n3_ := Aside0.mk ((by rw [hg]; exact (below_size bq) : w.heap.size ≤ gb351)); clear HB; have HB := n0_; have BK351 := n1_; have GW351 := n2_; have GE351 := n3_; clear n0_ n1_ n2_ n3_; clear hb hbox hg; have hcz37_0 : w36.cell? ⟨gb351, 0, none⟩ = some (.int .i64 0) := (blk_cell BK351.out 0).trans rfl; have hcz37_1 : w36.cell? ⟨gb351, 1, none⟩ = some (.int .i64 0) := (blk_cell BK351.out 1).trans rfl; have hfz37_0 := blk_frozen BK351.out 0; have hfz37_1 := blk_frozen BK351.out 1) | (go_at_call 26; (with_reducible refine (latchkeyref05_Finish.calls k a0 t352 _ A13.out).mono ?_); rintro e w38 ⟨rfl, hb⟩; have n0_ := Aside0.mk (blk_below (g := gb351) (o := .cells #[.int .i64 t349, .int .i64 t350] 58 (0, 0)) (by (with_reducible repeat (first | refine blk_drewN ?_ _ | refine blk_drew ?_ | refine blk_alloc ?_ _)); refine blk_put (cs := #[.int .i64 t349, .int .i64 0]) ?_ 1 _ rfl; (with_reducible repeat (first | refine blk_drewN ?_ _ | refine blk_drew ?_ | refine blk_alloc ?_ _)); refine blk_put (cs := #[.int .i64 0, .int .i64 0]) ?_ 0 _ rfl; (with_reducible repeat (first | refine blk_drewN ?_ _ | refine blk_drew ?_ | refine blk_alloc ?_ _)); exact BK351.out) hb); have n1_ := Aside0.mk (below_step g9q hb); clear BK351; clear HB; have BK351 := n0_; have HB := n1_; clear n0_ n1_; (try clear hb); (try clear hb2); (try clear hk); (try clear hi)) | (go_at_call 32; (with_reducible refine (latchkeyref05_skip.calls k a0 0 t353 _ A15.out).mono ?_); rintro e w' ⟨rfl, ⟨nd, rfl⟩⟩))
      go_ret
      exact ⟨erq, g9q⟩
    ·
     rw [if_neg c14] at H
     have c14b0 : (t352.toList == ([] : List UInt8)) = false := beq_eq_false_iff_ne.mpr c14
     have c14b1 : (t352.toList != ([] : List UInt8)) = true := bne_iff_ne.mpr c14
     obtain rfl := Option.some.inj H
     go_enter Tryd.func62, Tryd.ntmps62
     go_wp2_with (first | ((with_reducible refine gate_callee (f := 31) rfl ?_); refine goesL_ (some 14) rfl rfl Tryd.func31 (by kernel_rfl) rfl #[.string a0] rfl agq ?_; (with_reducible refine (latchkeyref05_run.calls k a0 t348 t349 t350 _ A4.out).mono ?_); rintro e w39 ⟨rfl, hb⟩; refine ⟨_, rfl, ?_⟩; have n0_ := Aside0.mk (below_step bq hb); clear HB; have HB := n0_; clear n0_; (try clear hb); (try clear hb2); (try clear hk); (try clear hi)) | ((with_reducible refine gate_dst (N := 6) rfl ?_); (try (refine gate_guard (by rfl) ?_; dsimp only)); refine box_event ?hg (N := 6) ?hd (cs := #[.int .i64 0, .int .i64 0]) (t := 58) ?hr ?_; (case hd => rfl); (case hg => rfl); (case hr => first | (go_simp; done) | (go_simp; rfl)); intro gb351 hg w40 hbox hb; have n0_ := Aside0.mk (below_step bq hb); have n1_ := Aside0.mk (hbox); have n2_ := Aside0.mk ((by rw [hg]; exact (below_size bq) : w.heap.size ≤ gb351)); have n3_ := Aside0.mk ((by rw [hg]; exact (below_size bq) : w.heap.size ≤ gb351)); clear HB; have HB := n0_; have BK351 := n1_; have GW351 := n2_; have GE351 := n3_; clear n0_ n1_ n2_ n3_; clear hb hbox hg; have hcz41_0 : w40.cell? ⟨gb351, 0, none⟩ = some (.int .i64 0) := (blk_cell BK351.out 0).trans rfl; have hcz41_1 : w40.cell? ⟨gb351, 1, none⟩ = some (.int .i64 0) := (blk_cell BK351.out 1).trans rfl; have hfz41_0 := blk_frozen BK351.out 0; have hfz41_1 := blk_frozen BK351.out 1) | (go_at_call 26; (with_reducible refine (latchkeyref05_Finish.calls k a0 t352 _ A13.out).mono ?_); rintro e w42 ⟨rfl, hb⟩; have n0_ := Aside0.mk (blk_below (g := gb351) (o := .cells #[.int .i64 t349, .int .i64 t350] 58 (0, 0)) (by (with_reducible repeat (first | refine blk_drewN ?_ _ | refine blk_drew ?_ | refine blk_alloc ?_ _)); refine blk_put (cs := #[.int .i64 t349, .int .i64 0]) ?_ 1 _ rfl; (with_reducible repeat (first | refine blk_drewN ?_ _ | refine blk_drew ?_ | refine blk_alloc ?_ _)); refine blk_put (cs := #[.int .i64 0, .int .i64 0]) ?_ 0 _ rfl; (with_reducible repeat (first | refine blk_drewN ?_ _ | refine blk_drew ?_ | refine blk_alloc ?_ _)); exact BK351.out) hb); have n1_ := Aside0.mk (below_step g9q hb); clear BK351; clear HB; have BK351 := n0_; have HB := n1_; clear n0_ n1_; (try clear hb); (try clear hb2); (try clear hk); (try clear hi)))
     go_ret
     exact ⟨erq, g9q⟩
def latchkeyref05_realPiece.j0 : Nat → ByteArray → Int → Bool → Option (Bool)
 | 0, _, _, _ => none
 | k + 1, x0, x3, x21 => if x21 = true then (some false) else ((latchkeyref05_rowDigits.f k x0 (wrap64 (x3 + 1))).bind fun t361 => (if t361 = (wrap64 (x3 + 1)) then (some false) else (if t361 = (x0.size : Int) then (some true) else (if 0 ≤ t361 then (if t361 < (x0.size : Int) then (if (bt x0 t361) = 101 then (if (wrap64 (t361 + 1)) < (x0.size : Int) then (if 0 ≤ (wrap64 (t361 + 1)) then (if (bt x0 (wrap64 (t361 + 1))) = 45 then (if (wrap64 ((wrap64 (t361 + 1)) + 1)) < (x0.size : Int) then ((latchkeyref05_rowDigits.f k x0 (wrap64 ((wrap64 (t361 + 1)) + 1))).bind fun t362 => (some (t362 == (x0.size : Int)))) else (some false)) else ((latchkeyref05_rowDigits.f k x0 (wrap64 (t361 + 1))).bind fun t363 => (some (t363 == (x0.size : Int))))) else (none)) else (some false)) else (some false)) else (none)) else (none)))))
def latchkeyref05_realPiece.f (k : Nat) (a0 : ByteArray) : Option (Bool) := (latchkeyref05_rowDigits.f k a0 0).bind fun t360 => (if t360 = 0 then (latchkeyref05_realPiece.j0 k a0 t360 true) else (if t360 ≥ (a0.size : Int) then (latchkeyref05_realPiece.j0 k a0 t360 true) else (if 0 ≤ t360 then (if t360 < (a0.size : Int) then (latchkeyref05_realPiece.j0 k a0 t360 ((bt a0 t360) != 46)) else (none)) else (none))))
set_option maxHeartbeats 8000000 in
set_option maxRecDepth 100000 in
theorem latchkeyref05_realPiece.calls (k : Nat) (a0 : ByteArray) (r : Bool) (w : World) (h : latchkeyref05_realPiece.f k a0 = some r) :
  Calls Tryd.prog 64 #[.string a0] w fun e w' => e = .returned (.bool r) ∧ Drawn0 w w' := by
 have H : ((latchkeyref05_rowDigits.f k a0 0).bind fun t360 => (if t360 = 0 then (latchkeyref05_realPiece.j0 k a0 t360 true) else (if t360 ≥ (a0.size : Int) then (latchkeyref05_realPiece.j0 k a0 t360 true) else (if 0 ≤ t360 then (if t360 < (a0.size : Int) then (latchkeyref05_realPiece.j0 k a0 t360 ((bt a0 t360) != 46)) else (none)) else (none))))) = some r := h
 clear h
 replace H := Option.bind_eq_some_iff.mp H
 obtain ⟨t360, A20, H⟩ := H
 replace H : (if t360 = 0 then (latchkeyref05_realPiece.j0 k a0 t360 true) else (if t360 ≥ (a0.size : Int) then (latchkeyref05_realPiece.j0 k a0 t360 true) else (if 0 ≤ t360 then (if t360 < (a0.size : Int) then (latchkeyref05_realPiece.j0 k a0 t360 ((bt a0 t360) != 46)) else (none)) else (none)))) = some r := H
 have A2 := Aside0.mk A20
 clear A20
 have HC3 := Aside0.mk H
 clear H
 go_enter Tryd.func64, Tryd.ntmps64
 go_upto_region 2 with (first | ((with_reducible refine gate_callee (f := 63) rfl ?_); refine goesL_ (some 7) rfl rfl Tryd.func63 (by kernel_rfl) rfl #[.string a0, .int .i64 0] rfl agq ?_; (with_reducible refine (latchkeyref05_rowDigits.calls k a0 0 t360 _ A2.out).mono ?_); rintro e w' ⟨rfl, ⟨nd, rfl⟩⟩; refine ⟨_, rfl, ?_⟩))
 (try simp only [Act.put, List.setIfInBounds_toArray, List.set_cons_zero, List.set_cons_succ])
 go_cut [21] (fun v21 wc => ∃ (kq : Nat) (x21_2 : Bool), v21 = .bool x21_2 ∧ Aside0 (latchkeyref05_realPiece.j0 kq a0 t360 x21_2 = some r) ∧ Aside0 (kq ≤ k) ∧ Drawn0 w wc)
 case first =>
  have H := HC3.out
  clear HC3
  by_cases c4 : t360 = 0
  ·
   rw [if_pos c4] at H
   have c4b0 : (t360 == 0) = true := beq_iff_eq.mpr c4
   have c4b1 : (t360 != 0) = false := bne_eq_false_iff_eq.mpr c4
   clear c4
   (first | rw [c4b0] | (simp only [i64_w, i32_w]; rw [c4b0]) | skip)
   have H' := Aside0.mk H
   clear H
   go_wp2
   go_meet
   case rel => exact ⟨_, (true), (by first | rfl | (simp; done) | (simp [*]; done)), H', ⟨by first | omega | exact Nat.le_refl _⟩, g1q⟩
  ·
   rw [if_neg c4] at H
   have c4b0 : (t360 == 0) = false := beq_eq_false_iff_ne.mpr c4
   have c4b1 : (t360 != 0) = true := bne_iff_ne.mpr c4
   (first | rw [c4b0] | (simp only [i64_w, i32_w]; rw [c4b0]) | skip)
   by_cases c5 : t360 ≥ (a0.size : Int)
   ·
    rw [if_pos c5] at H
    have c5b0 : decide ((a0.size : Int) ≤ t360) = true := decide_eq_true c5
    clear c5
    have H' := Aside0.mk H
    clear H
    go_wp2
    go_meet
    case rel => exact ⟨_, (true), (by first | rfl | (simp; done) | (simp [*]; done)), H', ⟨by first | omega | exact Nat.le_refl _⟩, g1q⟩
   ·
    rw [if_neg c5] at H
    have c5b0 : decide ((a0.size : Int) ≤ t360) = false := decide_eq_false c5
    clear c5
    by_cases c6 : 0 ≤ t360
    ·
     rw [if_pos c6] at H
     have c6b0 : decide (0 ≤ t360) = true := decide_eq_true c6
     clear c6
     by_cases c7 : t360 < (a0.size : Int)
     ·
      rw [if_pos c7] at H
      have c7b0 : decide (t360 < (a0.size : Int)) = true := decide_eq_true c7
      clear c7
      have H' := Aside0.mk H
      clear H
      have p8 : 0 ≤ (t360 : Int) := of_decide_eq_true azq
      have q8 : t360 < (a0.size : Int) := of_decide_eq_true azq
      have hx8 := bt_at a0 t360
      replace p8 := eq_true p8
      replace q8 := eq_true q8
      go_wp2
      go_meet
      case rel => exact ⟨_, (((bt a0 t360) != 46)), (by first | rfl | (simp; done) | (simp [*]; done)), H', ⟨by first | omega | exact Nat.le_refl _⟩, g1q⟩
     ·
      rw [if_neg c7] at H
      exact absurd H (by simp)
    ·
     rw [if_neg c6] at H
     exact absurd H (by simp)
 case rest =>
  clear HC3
  (try clear p2); (try clear c4); (try clear c4b0); (try clear c4b1); (try clear c5); (try clear c5b0); (try clear c6); (try clear c6b0); (try clear c7); (try clear c7b0); (try clear p8); (try clear q8); (try clear hx8); (try clear p8); (try clear q8)
  obtain ⟨kq, x21_2, rfl, HA, HJ2, ⟨mc2, rfl⟩⟩ := hcut
  cases kq with
  | zero => exact absurd HA.out (by simp [latchkeyref05_realPiece.j0])
  | succ kj2 =>
   have H := HA.out
   clear HA
   simp only [latchkeyref05_realPiece.j0] at H
   by_cases c9 : x21_2 = true
   ·
    subst c9
    have H1 : (some false) = some r := by rw [if_pos rfl] at H; exact H
    clear H
    have H := H1
    clear H1
    obtain rfl := Option.some.inj H
    go_wp2
    go_ret
    exact ⟨by first | rfl | (simp; done) | (simp [*]; done), g1q⟩
   ·
    replace c9 := Bool.eq_false_iff.mpr c9
    subst c9
    have H1 : ((latchkeyref05_rowDigits.f kj2 a0 (wrap64 (t360 + 1))).bind fun t361 => (if t361 = (wrap64 (t360 + 1)) then (some false) else (if t361 = (a0.size : Int) then (some true) else (if 0 ≤ t361 then (if t361 < (a0.size : Int) then (if (bt a0 t361) = 101 then (if (wrap64 (t361 + 1)) < (a0.size : Int) then (if 0 ≤ (wrap64 (t361 + 1)) then (if (bt a0 (wrap64 (t361 + 1))) = 45 then (if (wrap64 ((wrap64 (t361 + 1)) + 1)) < (a0.size : Int) then ((latchkeyref05_rowDigits.f kj2 a0 (wrap64 ((wrap64 (t361 + 1)) + 1))).bind fun t362 => (some (t362 == (a0.size : Int)))) else (some false)) else ((latchkeyref05_rowDigits.f kj2 a0 (wrap64 (t361 + 1))).bind fun t363 => (some (t363 == (a0.size : Int))))) else (none)) else (some false)) else (some false)) else (none)) else (none))))) = some r := by rw [if_neg (show ¬ (false = true) by decide)] at H; exact H
    clear H
    have H := H1
    clear H1
    replace H := Option.bind_eq_some_iff.mp H
    obtain ⟨t361, A100, H⟩ := H
    replace H : (if t361 = (wrap64 (t360 + 1)) then (some false) else (if t361 = (a0.size : Int) then (some true) else (if 0 ≤ t361 then (if t361 < (a0.size : Int) then (if (bt a0 t361) = 101 then (if (wrap64 (t361 + 1)) < (a0.size : Int) then (if 0 ≤ (wrap64 (t361 + 1)) then (if (bt a0 (wrap64 (t361 + 1))) = 45 then (if (wrap64 ((wrap64 (t361 + 1)) + 1)) < (a0.size : Int) then ((latchkeyref05_rowDigits.f kj2 a0 (wrap64 ((wrap64 (t361 + 1)) + 1))).bind fun t362 => (some (t362 == (a0.size : Int)))) else (some false)) else ((latchkeyref05_rowDigits.f kj2 a0 (wrap64 (t361 + 1))).bind fun t363 => (some (t363 == (a0.size : Int))))) else (none)) else (some false)) else (some false)) else (none)) else (none)))) = some r := H
    have A10 := Aside0.mk A100
    clear A100
    by_cases c11 : t361 = (wrap64 (t360 + 1))
    ·
     rw [if_pos c11] at H
     have c11b0 : (t361 == (wrap64 (t360 + 1))) = true := beq_iff_eq.mpr c11
     have c11b1 : (t361 != (wrap64 (t360 + 1))) = false := bne_eq_false_iff_eq.mpr c11
     clear c11
     obtain rfl := Option.some.inj H
     go_wp2_with (first | ((with_reducible refine gate_callee (f := 63) rfl ?_); refine goesL_ (some 25) rfl rfl Tryd.func63 (by kernel_rfl) rfl #[.string a0, .int .i64 (wrap64 (t360 + 1))] rfl agq ?_; (with_reducible refine (latchkeyref05_rowDigits.calls kj2 a0 (wrap64 (t360 + 1)) t361 _ A10.out).mono ?_); rintro e w' ⟨rfl, ⟨nd, rfl⟩⟩; refine ⟨_, rfl, ?_⟩))
     go_ret
     exact ⟨by first | rfl | (simp; done) | (simp [*]; done), g1q⟩
    ·
     rw [if_neg c11] at H
     have c11b0 : (t361 == (wrap64 (t360 + 1))) = false := beq_eq_false_iff_ne.mpr c11
     have c11b1 : (t361 != (wrap64 (t360 + 1))) = true := bne_iff_ne.mpr c11
     by_cases c12 : t361 = (a0.size : Int)
     ·
      rw [if_pos c12] at H
      have c12b0 : (t361 == (a0.size : Int)) = true := beq_iff_eq.mpr c12
      have c12b1 : (t361 != (a0.size : Int)) = false := bne_eq_false_iff_eq.mpr c12
      clear c12
      obtain rfl := Option.some.inj H
      go_wp2_with (first | ((with_reducible refine gate_callee (f := 63) rfl ?_); refine goesL_ (some 25) rfl rfl Tryd.func63 (by kernel_rfl) rfl #[.string a0, .int .i64 (wrap64 (t360 + 1))] rfl agq ?_; (with_reducible refine (latchkeyref05_rowDigits.calls kj2 a0 (wrap64 (t360 + 1)) t361 _ A10.out).mono ?_); rintro e w' ⟨rfl, ⟨nd, rfl⟩⟩; refine ⟨_, rfl, ?_⟩))
      go_ret
      exact ⟨by first | rfl | (simp; done) | (simp [*]; done), g1q⟩
     ·
      rw [if_neg c12] at H
      have c12b0 : (t361 == (a0.size : Int)) = false := beq_eq_false_iff_ne.mpr c12
      have c12b1 : (t361 != (a0.size : Int)) = true := bne_iff_ne.mpr c12
      by_cases c13 : 0 ≤ t361
      ·
       rw [if_pos c13] at H
       have c13b0 : decide (0 ≤ t361) = true := decide_eq_true c13
       clear c13
       by_cases c14 : t361 < (a0.size : Int)
       ·
        rw [if_pos c14] at H
        have c14b0 : decide (t361 < (a0.size : Int)) = true := decide_eq_true c14
        clear c14
        by_cases c16 : (bt a0 t361) = 101
        ·
         rw [if_pos c16] at H
         have c16b0 : ((bt a0 t361) == 101) = true := beq_iff_eq.mpr c16
         have c16b1 : ((bt a0 t361) != 101) = false := bne_eq_false_iff_eq.mpr c16
         clear c16
         by_cases c17 : (wrap64 (t361 + 1)) < (a0.size : Int)
         ·
          rw [if_pos c17] at H
          have c17b0 : decide ((wrap64 (t361 + 1)) < (a0.size : Int)) = true := decide_eq_true c17
          clear c17
          obtain ⟨ji18, hji18⟩ : ∃ j_ : Int, (wrap64 (t361 + 1)) = j_ := ⟨_, rfl⟩
          replace H : (if 0 ≤ (ji18) then (if (bt a0 (ji18)) = 45 then (if (wrap64 ((ji18) + 1)) < (a0.size : Int) then ((latchkeyref05_rowDigits.f kj2 a0 (wrap64 ((ji18) + 1))).bind fun t362 => (some (t362 == (a0.size : Int)))) else (some false)) else ((latchkeyref05_rowDigits.f kj2 a0 (ji18)).bind fun t363 => (some (t363 == (a0.size : Int))))) else (none)) = some r := by first | (rw [hji18] at H; exact H) | (simp only [hji18] at H ⊢; exact H)
          (try rw [hji18] at c17b0)
          (try rw [hji18] at A10)
          have hji18w : (IntKind.i64.wrap (t361 + 1)) = ji18 := (i64_w _).trans hji18
          by_cases c19 : 0 ≤ (ji18)
          ·
           rw [if_pos c19] at H
           have c19b0 : decide (0 ≤ (ji18)) = true := decide_eq_true c19
           clear c19
           by_cases c21 : (bt a0 (ji18)) = 45
           ·
            rw [if_pos c21] at H
            have c21b0 : ((bt a0 (ji18)) == 45) = true := beq_iff_eq.mpr c21
            have c21b1 : ((bt a0 (ji18)) != 45) = false := bne_eq_false_iff_eq.mpr c21
            clear c21
            by_cases c22 : (wrap64 ((ji18) + 1)) < (a0.size : Int)
            ·
             rw [if_pos c22] at H
             have c22b0 : decide ((wrap64 ((ji18) + 1)) < (a0.size : Int)) = true := decide_eq_true c22
             clear c22
             replace H := Option.bind_eq_some_iff.mp H
             obtain ⟨t362, A230, H⟩ := H
             replace H : (some (t362 == (a0.size : Int))) = some r := H
             have A23 := Aside0.mk A230
             clear A230
             obtain rfl := Option.some.inj H
             go_wp2_with (first | ((with_reducible refine gate_callee (f := 63) rfl ?_); refine goesL_ (some 25) rfl rfl Tryd.func63 (by kernel_rfl) rfl #[.string a0, .int .i64 (wrap64 (t360 + 1))] rfl agq ?_; (with_reducible refine (latchkeyref05_rowDigits.calls kj2 a0 (wrap64 (t360 + 1)) t361 _ A10.out).mono ?_); rintro e w' ⟨rfl, ⟨nd, rfl⟩⟩; refine ⟨_, rfl, ?_⟩; have p15 : 0 ≤ (t361 : Int) := of_decide_eq_true azq; have q15 : t361 < (a0.size : Int) := of_decide_eq_true azq; have hx15 := bt_at a0 t361; replace p15 := eq_true p15; replace q15 := eq_true q15; have p20 : 0 ≤ ((ji18) : Int) := of_decide_eq_true azq; have q20 : (ji18) < (a0.size : Int) := of_decide_eq_true azq; have hx20 := bt_at a0 (ji18); replace p20 := eq_true p20; replace q20 := eq_true q20) | (go_at_call 63; (with_reducible refine (latchkeyref05_rowDigits.calls kj2 a0 (wrap64 ((ji18) + 1)) t362 _ A23.out).mono ?_); rintro e w' ⟨rfl, ⟨nd, rfl⟩⟩))
             go_ret
             exact ⟨by first | rfl | (simp; done) | (simp only [← hji18] <;> (first | rfl | simp)) | (simp [*]; done), g1q⟩
            ·
             rw [if_neg c22] at H
             have c22b0 : decide ((wrap64 ((ji18) + 1)) < (a0.size : Int)) = false := decide_eq_false c22
             clear c22
             obtain rfl := Option.some.inj H
             go_wp2_with (first | ((with_reducible refine gate_callee (f := 63) rfl ?_); refine goesL_ (some 25) rfl rfl Tryd.func63 (by kernel_rfl) rfl #[.string a0, .int .i64 (wrap64 (t360 + 1))] rfl agq ?_; (with_reducible refine (latchkeyref05_rowDigits.calls kj2 a0 (wrap64 (t360 + 1)) t361 _ A10.out).mono ?_); rintro e w' ⟨rfl, ⟨nd, rfl⟩⟩; refine ⟨_, rfl, ?_⟩; have p15 : 0 ≤ (t361 : Int) := of_decide_eq_true azq; have q15 : t361 < (a0.size : Int) := of_decide_eq_true azq; have hx15 := bt_at a0 t361; replace p15 := eq_true p15; replace q15 := eq_true q15; have p20 : 0 ≤ ((ji18) : Int) := of_decide_eq_true azq; have q20 : (ji18) < (a0.size : Int) := of_decide_eq_true azq; have hx20 := bt_at a0 (ji18); replace p20 := eq_true p20; replace q20 := eq_true q20))
             go_ret
             exact ⟨by first | rfl | (simp; done) | (simp only [← hji18] <;> (first | rfl | simp)) | (simp [*]; done), g1q⟩
           ·
            rw [if_neg c21] at H
            have c21b0 : ((bt a0 (ji18)) == 45) = false := beq_eq_false_iff_ne.mpr c21
            have c21b1 : ((bt a0 (ji18)) != 45) = true := bne_iff_ne.mpr c21
            replace H := Option.bind_eq_some_iff.mp H
            obtain ⟨t363, A240, H⟩ := H
            replace H : (some (t363 == (a0.size : Int))) = some r := H
            have A24 := Aside0.mk A240
            clear A240
            obtain rfl := Option.some.inj H
            go_wp2_with (first | ((with_reducible refine gate_callee (f := 63) rfl ?_); refine goesL_ (some 25) rfl rfl Tryd.func63 (by kernel_rfl) rfl #[.string a0, .int .i64 (wrap64 (t360 + 1))] rfl agq ?_; (with_reducible refine (latchkeyref05_rowDigits.calls kj2 a0 (wrap64 (t360 + 1)) t361 _ A10.out).mono ?_); rintro e w' ⟨rfl, ⟨nd, rfl⟩⟩; refine ⟨_, rfl, ?_⟩; have p15 : 0 ≤ (t361 : Int) := of_decide_eq_true azq; have q15 : t361 < (a0.size : Int) := of_decide_eq_true azq; have hx15 := bt_at a0 t361; replace p15 := eq_true p15; replace q15 := eq_true q15; have p20 : 0 ≤ ((ji18) : Int) := of_decide_eq_true azq; have q20 : (ji18) < (a0.size : Int) := of_decide_eq_true azq; have hx20 := bt_at a0 (ji18); replace p20 := eq_true p20; replace q20 := eq_true q20) | (go_at_call 63; (with_reducible refine (latchkeyref05_rowDigits.calls kj2 a0 ji18 t363 _ A24.out).mono ?_); rintro e w' ⟨rfl, ⟨nd, rfl⟩⟩))
            go_ret
            exact ⟨by first | rfl | (simp; done) | (simp only [← hji18] <;> (first | rfl | simp)) | (simp [*]; done), g1q⟩
          ·
           rw [if_neg c19] at H
           exact absurd H (by simp)
         ·
          rw [if_neg c17] at H
          have c17b0 : decide ((wrap64 (t361 + 1)) < (a0.size : Int)) = false := decide_eq_false c17
          clear c17
          obtain rfl := Option.some.inj H
          go_wp2_with (first | ((with_reducible refine gate_callee (f := 63) rfl ?_); refine goesL_ (some 25) rfl rfl Tryd.func63 (by kernel_rfl) rfl #[.string a0, .int .i64 (wrap64 (t360 + 1))] rfl agq ?_; (with_reducible refine (latchkeyref05_rowDigits.calls kj2 a0 (wrap64 (t360 + 1)) t361 _ A10.out).mono ?_); rintro e w' ⟨rfl, ⟨nd, rfl⟩⟩; refine ⟨_, rfl, ?_⟩; have p15 : 0 ≤ (t361 : Int) := of_decide_eq_true azq; have q15 : t361 < (a0.size : Int) := of_decide_eq_true azq; have hx15 := bt_at a0 t361; replace p15 := eq_true p15; replace q15 := eq_true q15))
          go_ret
          exact ⟨by first | rfl | (simp; done) | (simp [*]; done), g1q⟩
        ·
         rw [if_neg c16] at H
         have c16b0 : ((bt a0 t361) == 101) = false := beq_eq_false_iff_ne.mpr c16
         have c16b1 : ((bt a0 t361) != 101) = true := bne_iff_ne.mpr c16
         obtain rfl := Option.some.inj H
         go_wp2_with (first | ((with_reducible refine gate_callee (f := 63) rfl ?_); refine goesL_ (some 25) rfl rfl Tryd.func63 (by kernel_rfl) rfl #[.string a0, .int .i64 (wrap64 (t360 + 1))] rfl agq ?_; (with_reducible refine (latchkeyref05_rowDigits.calls kj2 a0 (wrap64 (t360 + 1)) t361 _ A10.out).mono ?_); rintro e w' ⟨rfl, ⟨nd, rfl⟩⟩; refine ⟨_, rfl, ?_⟩; have p15 : 0 ≤ (t361 : Int) := of_decide_eq_true azq; have q15 : t361 < (a0.size : Int) := of_decide_eq_true azq; have hx15 := bt_at a0 t361; replace p15 := eq_true p15; replace q15 := eq_true q15))
         go_ret
         exact ⟨by first | rfl | (simp; done) | (simp [*]; done), g1q⟩
       ·
        rw [if_neg c14] at H
        exact absurd H (by simp)
      ·
       rw [if_neg c13] at H
       exact absurd H (by simp)
end Go.Proofs.YteedjhoffjkhmaaDoor.PT
