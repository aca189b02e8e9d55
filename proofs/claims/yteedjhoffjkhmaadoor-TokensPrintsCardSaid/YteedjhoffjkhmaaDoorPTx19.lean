import Derived.Test.YteedjhoffjkhmaaDoorPTx0
import Derived.Test.YteedjhoffjkhmaaDoorPTx11
import Derived.Test.YteedjhoffjkhmaaDoorPTx18
namespace Go.Proofs.YteedjhoffjkhmaaDoor.PT
open Go.RowKit Go.Proofs.YteedjhoffjkhmaaDoorW.PrintWords Go.Proofs.YteedjhoffjkhmaaDoorW.PrintLast Go.Proofs.YteedjhoffjkhmaaDoorW.PrintMore
attribute [local go_sem] max2_int min2_int max_two min_two max_three min_three max_four min_four
set_option linter.unusedVariables false
set_option linter.unusedSimpArgs false
def latchkeyref05_May.j0 : Nat → Bool → Int → Bool → Int → ByteArray → Int → Int → Option (Bool)
 | 0, _, _, _, _, _, _, _ => none
 | k + 1, x1, x6, x7, x365000, x365001, x365002, x365003 => if x7 = true then (if (x365001.size : Int) ≤ 32 then ((latchkeyref05_one.f k x365001 x365000).bind fun t365 => (some t365)) else (some false)) else (if x6 = 3 then ((latchkeyref05_rowDigits.f k x365001 0).bind fun t366 => (if t366 = (x365001.size : Int) then (some (x365001.toList != ([] : List UInt8))) else (some false))) else (if x6 = 4 then ((latchkeyref05_realPiece.f k x365001).bind fun t367 => (some t367)) else (if x6 = 5 then (some true) else (if x365000 = 7 then (if x365001.toList = ([] : List UInt8) then (some x1) else (some false)) else (some false)))))
def latchkeyref05_May.f (k : Nat) (a0_0 : Int) (a0_1 : ByteArray) (a0_2 : Int) (a0_3 : Int) (a1 : Bool) : Option (Bool) := if a0_0 = 1 then (latchkeyref05_May.j0 k a1 a0_0 (a0_0 == 1) a0_0 a0_1 a0_2 a0_3) else (if a0_0 = 2 then (latchkeyref05_May.j0 k a1 a0_0 (a0_0 == 2) a0_0 a0_1 a0_2 a0_3) else (latchkeyref05_May.j0 k a1 a0_0 (a0_0 == 6) a0_0 a0_1 a0_2 a0_3))
set_option maxHeartbeats 8000000 in
set_option maxRecDepth 100000 in
theorem latchkeyref05_May.calls (k : Nat) (a0_0 : Int) (a0_1 : ByteArray) (a0_2 : Int) (a0_3 : Int) (a1 : Bool) (r : Bool) (w : World) (h : latchkeyref05_May.f k a0_0 a0_1 a0_2 a0_3 a1 = some r) :
  Calls Tryd.prog 38 #[.agg #[.int .i64 a0_0, .string a0_1, .int .i64 a0_2, .int .i64 a0_3], .bool a1] w fun e w' => e = .returned (.bool r) ∧ Below w.heap.size w w' := by
 have hu37 := Tryd.underlying37
 have HB := Aside0.mk (Below.refl w.heap.size w)
 have H : (if a0_0 = 1 then (latchkeyref05_May.j0 k a1 a0_0 (a0_0 == 1) a0_0 a0_1 a0_2 a0_3) else (if a0_0 = 2 then (latchkeyref05_May.j0 k a1 a0_0 (a0_0 == 2) a0_0 a0_1 a0_2 a0_3) else (latchkeyref05_May.j0 k a1 a0_0 (a0_0 == 6) a0_0 a0_1 a0_2 a0_3))) = some r := h
 clear h
 have HC3 := Aside0.mk H
 clear H
 go_enter Tryd.func38, Tryd.ntmps38
 go_upto_if 7 with (first | ((with_reducible refine gate_dst (N := 2) rfl ?_); refine box_event ?hg (N := 2) ?hd (cs := #[.int .i64 a0_0, .string a0_1, .int .i64 a0_2, .int .i64 a0_3]) (t := 37) ?hr ?_; (case hd => rfl); (case hg => rfl); (case hr => first | (go_simp; done) | (go_simp; rfl)); intro gb364 hg w4 hbox hb; have n0_ := Aside0.mk (below_step bq hb); have n1_ := Aside0.mk (hbox); have n2_ := Aside0.mk ((by rw [hg]; exact (below_size bq) : w.heap.size ≤ gb364)); have n3_ := Aside0.mk ((by rw [hg]; exact (below_size bq) : w.heap.size ≤ gb364)); clear HB; have HB := n0_; have BK364 := n1_; have GW364 := n2_; have GE364 := n3_; clear n0_ n1_ n2_ n3_; clear hb hbox hg; have hcz5_0 : w4.cell? ⟨gb364, 0, none⟩ = some (.int .i64 a0_0) := (blk_cell BK364.out 0).trans rfl; have hcz5_1 : w4.cell? ⟨gb364, 1, none⟩ = some (.string a0_1) := (blk_cell BK364.out 1).trans rfl; have hcz5_2 : w4.cell? ⟨gb364, 2, none⟩ = some (.int .i64 a0_2) := (blk_cell BK364.out 2).trans rfl; have hcz5_3 : w4.cell? ⟨gb364, 3, none⟩ = some (.int .i64 a0_3) := (blk_cell BK364.out 3).trans rfl; have hfz5_0 := blk_frozen BK364.out 0; have hfz5_1 := blk_frozen BK364.out 1; have hfz5_2 := blk_frozen BK364.out 2; have hfz5_3 := blk_frozen BK364.out 3))
 repeat (go_quiet (first | ((with_reducible refine gate_dst (N := 2) rfl ?_); refine box_event ?hg (N := 2) ?hd (cs := #[.int .i64 a0_0, .string a0_1, .int .i64 a0_2, .int .i64 a0_3]) (t := 37) ?hr ?_; (case hd => rfl); (case hg => rfl); (case hr => first | (go_simp; done) | (go_simp; rfl)); intro gb364 hg w4 hbox hb; have n0_ := Aside0.mk (below_step bq hb); have n1_ := Aside0.mk (hbox); have n2_ := Aside0.mk ((by rw [hg]; exact (below_size bq) : w.heap.size ≤ gb364)); have n3_ := Aside0.mk ((by rw [hg]; exact (below_size bq) : w.heap.size ≤ gb364)); clear HB; have HB := n0_; have BK364 := n1_; have GW364 := n2_; have GE364 := n3_; clear n0_ n1_ n2_ n3_; clear hb hbox hg; have hcz5_0 : w4.cell? ⟨gb364, 0, none⟩ = some (.int .i64 a0_0) := (blk_cell BK364.out 0).trans rfl; have hcz5_1 : w4.cell? ⟨gb364, 1, none⟩ = some (.string a0_1) := (blk_cell BK364.out 1).trans rfl; have hcz5_2 : w4.cell? ⟨gb364, 2, none⟩ = some (.int .i64 a0_2) := (blk_cell BK364.out 2).trans rfl; have hcz5_3 : w4.cell? ⟨gb364, 3, none⟩ = some (.int .i64 a0_3) := (blk_cell BK364.out 3).trans rfl; have hfz5_0 := blk_frozen BK364.out 0; have hfz5_1 := blk_frozen BK364.out 1; have hfz5_2 := blk_frozen BK364.out 2; have hfz5_3 := blk_frozen BK364.out 3)); go_upto_if 7 with (first | ((with_reducible refine gate_dst (N := 2) rfl ?_); refine box_event ?hg (N := 2) ?hd (cs := #[.int .i64 a0_0, .string a0_1, .int .i64 a0_2, .int .i64 a0_3]) (t := 37) ?hr ?_; (case hd => rfl); (case hg => rfl); (case hr => first | (go_simp; done) | (go_simp; rfl)); intro gb364 hg w4 hbox hb; have n0_ := Aside0.mk (below_step bq hb); have n1_ := Aside0.mk (hbox); have n2_ := Aside0.mk ((by rw [hg]; exact (below_size bq) : w.heap.size ≤ gb364)); have n3_ := Aside0.mk ((by rw [hg]; exact (below_size bq) : w.heap.size ≤ gb364)); clear HB; have HB := n0_; have BK364 := n1_; have GW364 := n2_; have GE364 := n3_; clear n0_ n1_ n2_ n3_; clear hb hbox hg; have hcz5_0 : w4.cell? ⟨gb364, 0, none⟩ = some (.int .i64 a0_0) := (blk_cell BK364.out 0).trans rfl; have hcz5_1 : w4.cell? ⟨gb364, 1, none⟩ = some (.string a0_1) := (blk_cell BK364.out 1).trans rfl; have hcz5_2 : w4.cell? ⟨gb364, 2, none⟩ = some (.int .i64 a0_2) := (blk_cell BK364.out 2).trans rfl; have hcz5_3 : w4.cell? ⟨gb364, 3, none⟩ = some (.int .i64 a0_3) := (blk_cell BK364.out 3).trans rfl; have hfz5_0 := blk_frozen BK364.out 0; have hfz5_1 := blk_frozen BK364.out 1; have hfz5_2 := blk_frozen BK364.out 2; have hfz5_3 := blk_frozen BK364.out 3)))
 (try simp only [Act.put, List.setIfInBounds_toArray, List.set_cons_zero, List.set_cons_succ])
 go_cut [7] (fun v7 wc => ∃ (kq : Nat) (x7_2 : Bool), v7 = .bool x7_2 ∧ Aside0 (latchkeyref05_May.j0 kq a1 a0_0 x7_2 a0_0 a0_1 a0_2 a0_3 = some r) ∧ Aside0 (kq ≤ k) ∧ Aside0 (wc.heap[gb364]? = some (.cells #[.int .i64 a0_0, .string a0_1, .int .i64 a0_2, .int .i64 a0_3] 37 (0, 0))) ∧ Aside0 (Below w.heap.size w wc))
 case first =>
  have H := HC3.out
  clear HC3
  by_cases c6 : a0_0 = 1
  ·
   rw [if_pos c6] at H
   have c6b0 : (a0_0 == 1) = true := beq_iff_eq.mpr c6
   have c6b1 : (a0_0 != 1) = false := bne_eq_false_iff_eq.mpr c6
   clear c6
   (first | rw [c6b0] | (simp only [i64_w, i32_w]; rw [c6b0]) | skip)
   have H' := Aside0.mk H
   clear H
   go_wp2
   repeat (go_quiet (fail); try go_wp2)
   go_meet
   case rel => exact ⟨_, ((a0_0 == 1)), (by first | rfl | (simp; done) | (simp [*]; done)), H', ⟨by first | omega | exact Nat.le_refl _⟩, ⟨by (with_reducible repeat (first | refine blk_drewN ?_ _ | refine blk_drew ?_ | refine blk_alloc ?_ _)); exact BK364.out⟩, ⟨g10q⟩⟩
  ·
   rw [if_neg c6] at H
   have c6b0 : (a0_0 == 1) = false := beq_eq_false_iff_ne.mpr c6
   have c6b1 : (a0_0 != 1) = true := bne_iff_ne.mpr c6
   (first | rw [c6b0] | (simp only [i64_w, i32_w]; rw [c6b0]) | skip)
   by_cases c7 : a0_0 = 2
   ·
    rw [if_pos c7] at H
    have c7b0 : (a0_0 == 2) = true := beq_iff_eq.mpr c7
    have c7b1 : (a0_0 != 2) = false := bne_eq_false_iff_eq.mpr c7
    clear c7
    have H' := Aside0.mk H
    clear H
    go_wp2
    repeat (go_quiet (fail); try go_wp2)
    go_meet
    case rel => exact ⟨_, ((a0_0 == 2)), (by first | rfl | (simp; done) | (simp [*]; done)), H', ⟨by first | omega | exact Nat.le_refl _⟩, ⟨by (with_reducible repeat (first | refine blk_drewN ?_ _ | refine blk_drew ?_ | refine blk_alloc ?_ _)); exact BK364.out⟩, ⟨g10q⟩⟩
   ·
    rw [if_neg c7] at H
    have c7b0 : (a0_0 == 2) = false := beq_eq_false_iff_ne.mpr c7
    have c7b1 : (a0_0 != 2) = true := bne_iff_ne.mpr c7
    have H' := Aside0.mk H
    clear H
    go_wp2
    repeat (go_quiet (fail); try go_wp2)
    go_meet
    case rel => exact ⟨_, ((a0_0 == 6)), (by first | rfl | (simp; done) | (simp [*]; done)), H', ⟨by first | omega | exact Nat.le_refl _⟩, ⟨by (with_reducible repeat (first | refine blk_drewN ?_ _ | refine blk_drew ?_ | refine blk_alloc ?_ _)); exact BK364.out⟩, ⟨g10q⟩⟩
 case rest =>
  clear HC3
  (try clear p2); (try clear c3); (try clear c6); (try clear c6b0); (try clear c6b1); (try clear c7); (try clear c7b0); (try clear c7b1); (try clear hcz5_0); (try clear hcz5_1); (try clear hcz5_2); (try clear hcz5_3); (try clear hfz5_0); (try clear hfz5_1); (try clear hfz5_2); (try clear hfz5_3)
  obtain ⟨kq, x7_2, rfl, HA, HJ2, BK364, HB⟩ := hcut
  cases kq with
  | zero => exact absurd HA.out (by simp [latchkeyref05_May.j0])
  | succ kj2 =>
   have H := HA.out
   clear HA
   simp only [latchkeyref05_May.j0] at H
   by_cases c8 : x7_2 = true
   ·
    subst c8
    have H1 : (if (a0_1.size : Int) ≤ 32 then ((latchkeyref05_one.f kj2 a0_1 a0_0).bind fun t365 => (some t365)) else (some false)) = some r := by rw [if_pos rfl] at H; exact H
    clear H
    have H := H1
    clear H1
    by_cases c9 : (a0_1.size : Int) ≤ 32
    ·
     rw [if_pos c9] at H
     have c9b0 : decide ((a0_1.size : Int) ≤ 32) = true := decide_eq_true c9
     have c9b1 : decide (a0_1.size ≤ 32) = true := decide_eq_true (by omega)
     clear c9
     replace H := Option.bind_eq_some_iff.mp H
     obtain ⟨t365, A100, H⟩ := H
     replace H : (some t365) = some r := H
     have A10 := Aside0.mk A100
     clear A100
     obtain rfl := Option.some.inj H
     have hcz11_0 : wc.cell? ⟨gb364, 0, none⟩ = some (.int .i64 a0_0) := (blk_cell BK364.out 0).trans rfl
     have hcz11_1 : wc.cell? ⟨gb364, 1, none⟩ = some (.string a0_1) := (blk_cell BK364.out 1).trans rfl
     have hcz11_2 : wc.cell? ⟨gb364, 2, none⟩ = some (.int .i64 a0_2) := (blk_cell BK364.out 2).trans rfl
     have hcz11_3 : wc.cell? ⟨gb364, 3, none⟩ = some (.int .i64 a0_3) := (blk_cell BK364.out 3).trans rfl
     have hfz11_0 := blk_frozen BK364.out 0
     have hfz11_1 := blk_frozen BK364.out 1
     have hfz11_2 := blk_frozen BK364.out 2
     have hfz11_3 := blk_frozen BK364.out 3
     go_wp2_with (first | (go_at_call 62; (with_reducible refine (latchkeyref05_one.calls kj2 a0_1 a0_0 t365 _ A10.out).mono ?_); rintro e w12 ⟨rfl, hb⟩; have n0_ := Aside0.mk (blk_below (g := gb364) (o := .cells #[.int .i64 a0_0, .string a0_1, .int .i64 a0_2, .int .i64 a0_3] 37 (0, 0)) (bxq BK364.out) hb); have n1_ := Aside0.mk (below_step g10q hb); clear BK364; clear HB; have BK364 := n0_; have HB := n1_; clear n0_ n1_; (try clear hb); (try clear hb2); (try clear hk); (try clear hi)))
     repeat (go_quiet (first | (go_at_call 62; (with_reducible refine (latchkeyref05_one.calls kj2 a0_1 a0_0 t365 _ A10.out).mono ?_); rintro e w12 ⟨rfl, hb⟩; have n0_ := Aside0.mk (blk_below (g := gb364) (o := .cells #[.int .i64 a0_0, .string a0_1, .int .i64 a0_2, .int .i64 a0_3] 37 (0, 0)) (bxq BK364.out) hb); have n1_ := Aside0.mk (below_step g10q hb); clear BK364; clear HB; have BK364 := n0_; have HB := n1_; clear n0_ n1_; (try clear hb); (try clear hb2); (try clear hk); (try clear hi))); try go_wp2_with (first | (go_at_call 62; (with_reducible refine (latchkeyref05_one.calls kj2 a0_1 a0_0 t365 _ A10.out).mono ?_); rintro e w12 ⟨rfl, hb⟩; have n0_ := Aside0.mk (blk_below (g := gb364) (o := .cells #[.int .i64 a0_0, .string a0_1, .int .i64 a0_2, .int .i64 a0_3] 37 (0, 0)) (bxq BK364.out) hb); have n1_ := Aside0.mk (below_step g10q hb); clear BK364; clear HB; have BK364 := n0_; have HB := n1_; clear n0_ n1_; (try clear hb); (try clear hb2); (try clear hk); (try clear hi))))
     go_ret
     exact ⟨by first | rfl | (simp [errW_none, errW_some]; exact (show ∀ L_ : List UInt8, L_.isEmpty = !(L_ != []) from fun L_ => by cases L_ <;> rfl) _) | (simp [errW_none, errW_some] <;> rfl) | (simp [*, errW_none, errW_some] <;> rfl), g10q⟩
    ·
     rw [if_neg c9] at H
     have c9b0 : decide ((a0_1.size : Int) ≤ 32) = false := decide_eq_false c9
     have c9b1 : decide (a0_1.size ≤ 32) = false := decide_eq_false (by omega)
     clear c9
     obtain rfl := Option.some.inj H
     have hcz13_0 : wc.cell? ⟨gb364, 0, none⟩ = some (.int .i64 a0_0) := (blk_cell BK364.out 0).trans rfl
     have hcz13_1 : wc.cell? ⟨gb364, 1, none⟩ = some (.string a0_1) := (blk_cell BK364.out 1).trans rfl
     have hcz13_2 : wc.cell? ⟨gb364, 2, none⟩ = some (.int .i64 a0_2) := (blk_cell BK364.out 2).trans rfl
     have hcz13_3 : wc.cell? ⟨gb364, 3, none⟩ = some (.int .i64 a0_3) := (blk_cell BK364.out 3).trans rfl
     have hfz13_0 := blk_frozen BK364.out 0
     have hfz13_1 := blk_frozen BK364.out 1
     have hfz13_2 := blk_frozen BK364.out 2
     have hfz13_3 := blk_frozen BK364.out 3
     go_wp2
     repeat (go_quiet (fail); try go_wp2)
     go_ret
     exact ⟨by first | rfl | (simp [errW_none, errW_some]; exact (show ∀ L_ : List UInt8, L_.isEmpty = !(L_ != []) from fun L_ => by cases L_ <;> rfl) _) | (simp [errW_none, errW_some] <;> rfl) | (simp [*, errW_none, errW_some] <;> rfl), g10q⟩
   ·
    replace c8 := Bool.eq_false_iff.mpr c8
    subst c8
    have H1 : (if a0_0 = 3 then ((latchkeyref05_rowDigits.f kj2 a0_1 0).bind fun t366 => (if t366 = (a0_1.size : Int) then (some (a0_1.toList != ([] : List UInt8))) else (some false))) else (if a0_0 = 4 then ((latchkeyref05_realPiece.f kj2 a0_1).bind fun t367 => (some t367)) else (if a0_0 = 5 then (some true) else (if a0_0 = 7 then (if a0_1.toList = ([] : List UInt8) then (some a1) else (some false)) else (some false))))) = some r := by rw [if_neg (show ¬ (false = true) by decide)] at H; exact H
    clear H
    have H := H1
    clear H1
    by_cases c14 : a0_0 = 3
    ·
     rw [if_pos c14] at H
     have c14b0 : (a0_0 == 3) = true := beq_iff_eq.mpr c14
     have c14b1 : (a0_0 != 3) = false := bne_eq_false_iff_eq.mpr c14
     clear c14
     replace H := Option.bind_eq_some_iff.mp H
     obtain ⟨t366, A150, H⟩ := H
     replace H : (if t366 = (a0_1.size : Int) then (some (a0_1.toList != ([] : List UInt8))) else (some false)) = some r := H
     have A15 := Aside0.mk A150
     clear A150
     by_cases c16 : t366 = (a0_1.size : Int)
     ·
      rw [if_pos c16] at H
      have c16b0 : (t366 == (a0_1.size : Int)) = true := beq_iff_eq.mpr c16
      have c16b1 : (t366 != (a0_1.size : Int)) = false := bne_eq_false_iff_eq.mpr c16
      clear c16
      obtain rfl := Option.some.inj H
      have hcz17_0 : wc.cell? ⟨gb364, 0, none⟩ = some (.int .i64 a0_0) := (blk_cell BK364.out 0).trans rfl
      have hcz17_1 : wc.cell? ⟨gb364, 1, none⟩ = some (.string a0_1) := (blk_cell BK364.out 1).trans rfl
      have hcz17_2 : wc.cell? ⟨gb364, 2, none⟩ = some (.int .i64 a0_2) := (blk_cell BK364.out 2).trans rfl
      have hcz17_3 : wc.cell? ⟨gb364, 3, none⟩ = some (.int .i64 a0_3) := (blk_cell BK364.out 3).trans rfl
      have hfz17_0 := blk_frozen BK364.out 0
      have hfz17_1 := blk_frozen BK364.out 1
      have hfz17_2 := blk_frozen BK364.out 2
      have hfz17_3 := blk_frozen BK364.out 3
      go_wp2_with (first | (go_at_call 63; (with_reducible refine (latchkeyref05_rowDigits.calls kj2 a0_1 0 t366 _ A15.out).mono ?_); rintro e w' ⟨rfl, ⟨nd, rfl⟩⟩; (try first | exact ⟨rfl, _, World.drewN_drewN _ _ _⟩ | exact ⟨rfl, _, Eq.trans (World.drewN_drewN _ _ _) (congrArg (World.drewN _) (Nat.add_assoc _ _ _))⟩)))
      repeat (go_quiet (first | (go_at_call 63; (with_reducible refine (latchkeyref05_rowDigits.calls kj2 a0_1 0 t366 _ A15.out).mono ?_); rintro e w' ⟨rfl, ⟨nd, rfl⟩⟩; (try first | exact ⟨rfl, _, World.drewN_drewN _ _ _⟩ | exact ⟨rfl, _, Eq.trans (World.drewN_drewN _ _ _) (congrArg (World.drewN _) (Nat.add_assoc _ _ _))⟩))); try go_wp2_with (first | (go_at_call 63; (with_reducible refine (latchkeyref05_rowDigits.calls kj2 a0_1 0 t366 _ A15.out).mono ?_); rintro e w' ⟨rfl, ⟨nd, rfl⟩⟩; (try first | exact ⟨rfl, _, World.drewN_drewN _ _ _⟩ | exact ⟨rfl, _, Eq.trans (World.drewN_drewN _ _ _) (congrArg (World.drewN _) (Nat.add_assoc _ _ _))⟩))))
      go_ret
      exact ⟨by first | rfl | (simp [errW_none, errW_some]; exact (show ∀ L_ : List UInt8, L_.isEmpty = !(L_ != []) from fun L_ => by cases L_ <;> rfl) _) | (simp [errW_none, errW_some] <;> rfl) | (simp [*, errW_none, errW_some] <;> rfl), g10q⟩
     ·
      rw [if_neg c16] at H
      have c16b0 : (t366 == (a0_1.size : Int)) = false := beq_eq_false_iff_ne.mpr c16
      have c16b1 : (t366 != (a0_1.size : Int)) = true := bne_iff_ne.mpr c16
      obtain rfl := Option.some.inj H
      have hcz18_0 : wc.cell? ⟨gb364, 0, none⟩ = some (.int .i64 a0_0) := (blk_cell BK364.out 0).trans rfl
      have hcz18_1 : wc.cell? ⟨gb364, 1, none⟩ = some (.string a0_1) := (blk_cell BK364.out 1).trans rfl
      have hcz18_2 : wc.cell? ⟨gb364, 2, none⟩ = some (.int .i64 a0_2) := (blk_cell BK364.out 2).trans rfl
      have hcz18_3 : wc.cell? ⟨gb364, 3, none⟩ = some (.int .i64 a0_3) := (blk_cell BK364.out 3).trans rfl
      have hfz18_0 := blk_frozen BK364.out 0
      have hfz18_1 := blk_frozen BK364.out 1
      have hfz18_2 := blk_frozen BK364.out 2
      have hfz18_3 := blk_frozen BK364.out 3
      go_wp2_with (first | (go_at_call 63; (with_reducible refine (latchkeyref05_rowDigits.calls kj2 a0_1 0 t366 _ A15.out).mono ?_); rintro e w' ⟨rfl, ⟨nd, rfl⟩⟩; (try first | exact ⟨rfl, _, World.drewN_drewN _ _ _⟩ | exact ⟨rfl, _, Eq.trans (World.drewN_drewN _ _ _) (congrArg (World.drewN _) (Nat.add_assoc _ _ _))⟩)))
      repeat (go_quiet (first | (go_at_call 63; (with_reducible refine (latchkeyref05_rowDigits.calls kj2 a0_1 0 t366 _ A15.out).mono ?_); rintro e w' ⟨rfl, ⟨nd, rfl⟩⟩; (try first | exact ⟨rfl, _, World.drewN_drewN _ _ _⟩ | exact ⟨rfl, _, Eq.trans (World.drewN_drewN _ _ _) (congrArg (World.drewN _) (Nat.add_assoc _ _ _))⟩))); try go_wp2_with (first | (go_at_call 63; (with_reducible refine (latchkeyref05_rowDigits.calls kj2 a0_1 0 t366 _ A15.out).mono ?_); rintro e w' ⟨rfl, ⟨nd, rfl⟩⟩; (try first | exact ⟨rfl, _, World.drewN_drewN _ _ _⟩ | exact ⟨rfl, _, Eq.trans (World.drewN_drewN _ _ _) (congrArg (World.drewN _) (Nat.add_assoc _ _ _))⟩))))
      go_ret
      exact ⟨by first | rfl | (simp [errW_none, errW_some]; exact (show ∀ L_ : List UInt8, L_.isEmpty = !(L_ != []) from fun L_ => by cases L_ <;> rfl) _) | (simp [errW_none, errW_some] <;> rfl) | (simp [*, errW_none, errW_some] <;> rfl), g10q⟩
    ·
     rw [if_neg c14] at H
     have c14b0 : (a0_0 == 3) = false := beq_eq_false_iff_ne.mpr c14
     have c14b1 : (a0_0 != 3) = true := bne_iff_ne.mpr c14
     by_cases c19 : a0_0 = 4
     ·
      rw [if_pos c19] at H
      have c19b0 : (a0_0 == 4) = true := beq_iff_eq.mpr c19
      have c19b1 : (a0_0 != 4) = false := bne_eq_false_iff_eq.mpr c19
      clear c19
      replace H := Option.bind_eq_some_iff.mp H
      obtain ⟨t367, A200, H⟩ := H
      replace H : (some t367) = some r := H
      have A20 := Aside0.mk A200
      clear A200
      obtain rfl := Option.some.inj H
      have hcz21_0 : wc.cell? ⟨gb364, 0, none⟩ = some (.int .i64 a0_0) := (blk_cell BK364.out 0).trans rfl
      have hcz21_1 : wc.cell? ⟨gb364, 1, none⟩ = some (.string a0_1) := (blk_cell BK364.out 1).trans rfl
      have hcz21_2 : wc.cell? ⟨gb364, 2, none⟩ = some (.int .i64 a0_2) := (blk_cell BK364.out 2).trans rfl
      have hcz21_3 : wc.cell? ⟨gb364, 3, none⟩ = some (.int .i64 a0_3) := (blk_cell BK364.out 3).trans rfl
      have hfz21_0 := blk_frozen BK364.out 0
      have hfz21_1 := blk_frozen BK364.out 1
      have hfz21_2 := blk_frozen BK364.out 2
      have hfz21_3 := blk_frozen BK364.out 3
      go_wp2_with (first | (go_at_call 64; (with_reducible refine (latchkeyref05_realPiece.calls kj2 a0_1 t367 _ A20.out).mono ?_); rintro e w' ⟨rfl, ⟨nd, rfl⟩⟩; (try first | exact ⟨rfl, _, World.drewN_drewN _ _ _⟩ | exact ⟨rfl, _, Eq.trans (World.drewN_drewN _ _ _) (congrArg (World.drewN _) (Nat.add_assoc _ _ _))⟩)))
      repeat (go_quiet (first | (go_at_call 64; (with_reducible refine (latchkeyref05_realPiece.calls kj2 a0_1 t367 _ A20.out).mono ?_); rintro e w' ⟨rfl, ⟨nd, rfl⟩⟩; (try first | exact ⟨rfl, _, World.drewN_drewN _ _ _⟩ | exact ⟨rfl, _, Eq.trans (World.drewN_drewN _ _ _) (congrArg (World.drewN _) (Nat.add_assoc _ _ _))⟩))); try go_wp2_with (first | (go_at_call 64; (with_reducible refine (latchkeyref05_realPiece.calls kj2 a0_1 t367 _ A20.out).mono ?_); rintro e w' ⟨rfl, ⟨nd, rfl⟩⟩; (try first | exact ⟨rfl, _, World.drewN_drewN _ _ _⟩ | exact ⟨rfl, _, Eq.trans (World.drewN_drewN _ _ _) (congrArg (World.drewN _) (Nat.add_assoc _ _ _))⟩))))
      go_ret
      exact ⟨by first | rfl | (simp [errW_none, errW_some]; exact (show ∀ L_ : List UInt8, L_.isEmpty = !(L_ != []) from fun L_ => by cases L_ <;> rfl) _) | (simp [errW_none, errW_some] <;> rfl) | (simp [*, errW_none, errW_some] <;> rfl), g10q⟩
     ·
      rw [if_neg c19] at H
      have c19b0 : (a0_0 == 4) = false := beq_eq_false_iff_ne.mpr c19
      have c19b1 : (a0_0 != 4) = true := bne_iff_ne.mpr c19
      by_cases c22 : a0_0 = 5
      ·
       rw [if_pos c22] at H
       have c22b0 : (a0_0 == 5) = true := beq_iff_eq.mpr c22
       have c22b1 : (a0_0 != 5) = false := bne_eq_false_iff_eq.mpr c22
       clear c22
       obtain rfl := Option.some.inj H
       go_wp2
       repeat (go_quiet (fail); try go_wp2)
       go_ret
       exact ⟨by first | rfl | (simp [errW_none, errW_some]; exact (show ∀ L_ : List UInt8, L_.isEmpty = !(L_ != []) from fun L_ => by cases L_ <;> rfl) _) | (simp [errW_none, errW_some] <;> rfl) | (simp [*, errW_none, errW_some] <;> rfl), g10q⟩
      ·
       rw [if_neg c22] at H
       have c22b0 : (a0_0 == 5) = false := beq_eq_false_iff_ne.mpr c22
       have c22b1 : (a0_0 != 5) = true := bne_iff_ne.mpr c22
       by_cases c23 : a0_0 = 7
       ·
        rw [if_pos c23] at H
        have c23b0 : (a0_0 == 7) = true := beq_iff_eq.mpr c23
        have c23b1 : (a0_0 != 7) = false := bne_eq_false_iff_eq.mpr c23
        clear c23
        by_cases c24 : a0_1.toList = ([] : List UInt8)
        ·
         rw [if_pos c24] at H
         have c24b0 : (a0_1.toList == ([] : List UInt8)) = true := beq_iff_eq.mpr c24
         have c24b1 : (a0_1.toList != ([] : List UInt8)) = false := bne_eq_false_iff_eq.mpr c24
         clear c24
         obtain rfl := Option.some.inj H
         have hcz25_0 : wc.cell? ⟨gb364, 0, none⟩ = some (.int .i64 a0_0) := (blk_cell BK364.out 0).trans rfl
         have hcz25_1 : wc.cell? ⟨gb364, 1, none⟩ = some (.string a0_1) := (blk_cell BK364.out 1).trans rfl
         have hcz25_2 : wc.cell? ⟨gb364, 2, none⟩ = some (.int .i64 a0_2) := (blk_cell BK364.out 2).trans rfl
         have hcz25_3 : wc.cell? ⟨gb364, 3, none⟩ = some (.int .i64 a0_3) := (blk_cell BK364.out 3).trans rfl
         have hfz25_0 := blk_frozen BK364.out 0
         have hfz25_1 := blk_frozen BK364.out 1
         have hfz25_2 := blk_frozen BK364.out 2
         have hfz25_3 := blk_frozen BK364.out 3
         go_wp2
         repeat (go_quiet (fail); try go_wp2)
         go_ret
         exact ⟨by first | rfl | (simp [errW_none, errW_some]; exact (show ∀ L_ : List UInt8, L_.isEmpty = !(L_ != []) from fun L_ => by cases L_ <;> rfl) _) | (simp [errW_none, errW_some] <;> rfl) | (simp [*, errW_none, errW_some] <;> rfl), g10q⟩
        ·
         rw [if_neg c24] at H
         have c24b0 : (a0_1.toList == ([] : List UInt8)) = false := beq_eq_false_iff_ne.mpr c24
         have c24b1 : (a0_1.toList != ([] : List UInt8)) = true := bne_iff_ne.mpr c24
         obtain rfl := Option.some.inj H
         have hcz26_0 : wc.cell? ⟨gb364, 0, none⟩ = some (.int .i64 a0_0) := (blk_cell BK364.out 0).trans rfl
         have hcz26_1 : wc.cell? ⟨gb364, 1, none⟩ = some (.string a0_1) := (blk_cell BK364.out 1).trans rfl
         have hcz26_2 : wc.cell? ⟨gb364, 2, none⟩ = some (.int .i64 a0_2) := (blk_cell BK364.out 2).trans rfl
         have hcz26_3 : wc.cell? ⟨gb364, 3, none⟩ = some (.int .i64 a0_3) := (blk_cell BK364.out 3).trans rfl
         have hfz26_0 := blk_frozen BK364.out 0
         have hfz26_1 := blk_frozen BK364.out 1
         have hfz26_2 := blk_frozen BK364.out 2
         have hfz26_3 := blk_frozen BK364.out 3
         go_wp2
         repeat (go_quiet (fail); try go_wp2)
         go_ret
         exact ⟨by first | rfl | (simp [errW_none, errW_some]; exact (show ∀ L_ : List UInt8, L_.isEmpty = !(L_ != []) from fun L_ => by cases L_ <;> rfl) _) | (simp [errW_none, errW_some] <;> rfl) | (simp [*, errW_none, errW_some] <;> rfl), g10q⟩
       ·
        rw [if_neg c23] at H
        have c23b0 : (a0_0 == 7) = false := beq_eq_false_iff_ne.mpr c23
        have c23b1 : (a0_0 != 7) = true := bne_iff_ne.mpr c23
        obtain rfl := Option.some.inj H
        have hcz27_0 : wc.cell? ⟨gb364, 0, none⟩ = some (.int .i64 a0_0) := (blk_cell BK364.out 0).trans rfl
        have hcz27_1 : wc.cell? ⟨gb364, 1, none⟩ = some (.string a0_1) := (blk_cell BK364.out 1).trans rfl
        have hcz27_2 : wc.cell? ⟨gb364, 2, none⟩ = some (.int .i64 a0_2) := (blk_cell BK364.out 2).trans rfl
        have hcz27_3 : wc.cell? ⟨gb364, 3, none⟩ = some (.int .i64 a0_3) := (blk_cell BK364.out 3).trans rfl
        have hfz27_0 := blk_frozen BK364.out 0
        have hfz27_1 := blk_frozen BK364.out 1
        have hfz27_2 := blk_frozen BK364.out 2
        have hfz27_3 := blk_frozen BK364.out 3
        go_wp2
        repeat (go_quiet (fail); try go_wp2)
        go_ret
        exact ⟨by first | rfl | (simp [errW_none, errW_some]; exact (show ∀ L_ : List UInt8, L_.isEmpty = !(L_ != []) from fun L_ => by cases L_ <;> rfl) _) | (simp [errW_none, errW_some] <;> rfl) | (simp [*, errW_none, errW_some] <;> rfl), g10q⟩
mutual
def latchkeyref05_size.l0 : Nat → ByteArray → Int → Int → Option (Int)
 | 0, _, _, _ => none
 | k + 1, x0, x3, x4 => if x4 < (x0.size : Int) then (latchkeyref05_size.j1 k x0 x3 x4 (decide (x3 ≤ 65536))) else (latchkeyref05_size.j1 k x0 x3 x4 false)
def latchkeyref05_size.j1 : Nat → ByteArray → Int → Int → Bool → Option (Int)
 | 0, _, _, _, _ => none
 | k + 1, x0, x3, x4, x13 => if x13 = true then (if 0 ≤ x4 then (if x4 < (x0.size : Int) then (if (bt x0 x4) = 34 then (latchkeyref05_size.j2 k x0 x3 x4 (bt x0 x4) true) else (if (bt x0 x4) = 92 then (latchkeyref05_size.j2 k x0 x3 x4 (bt x0 x4) true) else (latchkeyref05_size.j2 k x0 x3 x4 (bt x0 x4) ((bt x0 x4) == 10)))) else (none)) else (none)) else (some x3)
def latchkeyref05_size.j2 : Nat → ByteArray → Int → Int → Int → Bool → Option (Int)
 | 0, _, _, _, _, _ => none
 | k + 1, x0, x3, x4, x5, x21 => if x21 = true then (latchkeyref05_size.l0 k x0 (wrap64 (x3 + 2)) (wrap64 (x4 + 1))) else (if x5 ≥ 32 then (if x5 ≤ 126 then (latchkeyref05_size.l0 k x0 (wrap64 (x3 + 1)) (wrap64 (x4 + 1))) else (latchkeyref05_size.l0 k x0 (wrap64 (x3 + 4)) (wrap64 (x4 + 1)))) else (latchkeyref05_size.l0 k x0 (wrap64 (x3 + 4)) (wrap64 (x4 + 1))))
end
def latchkeyref05_size.f (k : Nat) (a0 : ByteArray) : Option (Int) := latchkeyref05_size.l0 k a0 2 0
set_option maxHeartbeats 8000000 in
set_option maxRecDepth 100000 in
theorem latchkeyref05_size.calls (k : Nat) (a0 : ByteArray) (r : Int) (w : World) (h : latchkeyref05_size.f k a0 = some r) :
  Calls Tryd.prog 39 #[.string a0] w fun e w' => e = .returned (.int .i64 r) ∧ Drawn0 w w' := by
 have H : (latchkeyref05_size.l0 k a0 2 0) = some r := h
 clear h
 have H' := Aside0.mk H
 clear H
 go_enter Tryd.func39, Tryd.ntmps39
 go_wp2
 go_loopg [3, 4] k (fun kq v3 v4 w' => ∃ (x3_1 : Int) (x4_1 : Int), v3 = .int .i64 x3_1 ∧ v4 = .int .i64 x4_1 ∧ Aside0 (latchkeyref05_size.l0 kq a0 x3_1 x4_1 = some r) ∧ Aside0 (kq ≤ k) ∧ Drawn0 w w')
 case atStart => exact ⟨(2), (0), (by first | rfl | (simp; done) | (simp [*]; done)), (by first | rfl | (simp; done) | (simp [*]; done)), H', ⟨Nat.le_refl _⟩, g1q⟩
 case round =>
  clear H'
  obtain ⟨x3_1, x4_1, rfl, rfl, HA, HK1, ⟨m1, rfl⟩⟩ := hrel
  cases gk with
  | zero => exact absurd HA.out (by simp [latchkeyref05_size.l0])
  | succ k1 =>
   have H := HA.out
   clear HA
   simp only [latchkeyref05_size.l0] at H
   have HC2 := Aside0.mk H
   clear H
   go_upto_region 3 with (fail)
   go_cut [13] (fun v13 wc => ∃ (kq : Nat) (x13_1 : Bool), v13 = .bool x13_1 ∧ Aside0 (latchkeyref05_size.j1 kq a0 x3_1 x4_1 x13_1 = some r) ∧ Aside0 (kq ≤ k1) ∧ Drawn0 w wc)
   case first =>
    have H := HC2.out
    clear HC2
    by_cases c3 : x4_1 < (a0.size : Int)
    ·
     rw [if_pos c3] at H
     have c3b0 : decide (x4_1 < (a0.size : Int)) = true := decide_eq_true c3
     clear c3
     (first | rw [c3b0] | (simp only [i64_w, i32_w]; rw [c3b0]) | skip)
     have H' := Aside0.mk H
     clear H
     go_wp2
     go_meet
     case rel => exact ⟨_, (decide (x3_1 ≤ 65536)), (by first | rfl | (simp; done) | (simp [*]; done)), H', ⟨by have := HK1.out; first | omega | exact Nat.le_refl _⟩, g1q⟩
    ·
     rw [if_neg c3] at H
     have c3b0 : decide (x4_1 < (a0.size : Int)) = false := decide_eq_false c3
     clear c3
     (first | rw [c3b0] | (simp only [i64_w, i32_w]; rw [c3b0]) | skip)
     have H' := Aside0.mk H
     clear H
     go_wp2
     go_meet
     case rel => exact ⟨_, (false), (by first | rfl | (simp; done) | (simp [*]; done)), H', ⟨by have := HK1.out; first | omega | exact Nat.le_refl _⟩, g1q⟩
   case rest =>
    clear HC2
    (try clear p2); (try clear c3); (try clear c3b0)
    obtain ⟨kq, x13_1, rfl, HA, HJ1, ⟨mc1, rfl⟩⟩ := hcut
    cases kq with
    | zero => exact absurd HA.out (by simp [latchkeyref05_size.j1])
    | succ kj1 =>
     have H := HA.out
     clear HA
     simp only [latchkeyref05_size.j1] at H
     by_cases c4 : x13_1 = true
     ·
      subst c4
      have H1 : (if 0 ≤ x4_1 then (if x4_1 < (a0.size : Int) then (if (bt a0 x4_1) = 34 then (latchkeyref05_size.j2 kj1 a0 x3_1 x4_1 (bt a0 x4_1) true) else (if (bt a0 x4_1) = 92 then (latchkeyref05_size.j2 kj1 a0 x3_1 x4_1 (bt a0 x4_1) true) else (latchkeyref05_size.j2 kj1 a0 x3_1 x4_1 (bt a0 x4_1) ((bt a0 x4_1) == 10)))) else (none)) else (none)) = some r := by rw [if_pos rfl] at H; exact H
      clear H
      have H := H1
      clear H1
      by_cases c5 : 0 ≤ x4_1
      ·
       rw [if_pos c5] at H
       have c5b0 : decide (0 ≤ x4_1) = true := decide_eq_true c5
       clear c5
       by_cases c6 : x4_1 < (a0.size : Int)
       ·
        rw [if_pos c6] at H
        have c6b0 : decide (x4_1 < (a0.size : Int)) = true := decide_eq_true c6
        clear c6
        have HC8 := Aside0.mk H
        clear H
        have p7 : 0 ≤ (x4_1 : Int) := of_decide_eq_true azq
        have q7 : x4_1 < (a0.size : Int) := of_decide_eq_true azq
        have hx7 := bt_at a0 x4_1
        replace p7 := eq_true p7
        replace q7 := eq_true q7
        go_upto_region 7 with (fail)
        go_cut [21] (fun v21 wc => ∃ (kq : Nat) (x21_7 : Bool), v21 = .bool x21_7 ∧ Aside0 (latchkeyref05_size.j2 kq a0 x3_1 x4_1 (bt a0 x4_1) x21_7 = some r) ∧ Aside0 (kq ≤ kj1) ∧ Drawn0 w wc)
        case first =>
         have H := HC8.out
         clear HC8
         by_cases c9 : (bt a0 x4_1) = 34
         ·
          rw [if_pos c9] at H
          have c9b0 : ((bt a0 x4_1) == 34) = true := beq_iff_eq.mpr c9
          have c9b1 : ((bt a0 x4_1) != 34) = false := bne_eq_false_iff_eq.mpr c9
          clear c9
          (first | rw [c9b0] | (simp only [i64_w, i32_w]; rw [c9b0]) | skip)
          have H' := Aside0.mk H
          clear H
          go_wp2
          go_meet
          case rel => exact ⟨_, (true), (by first | rfl | (simp; done) | (simp [*]; done)), H', ⟨by have := HK1.out; have := HJ1.out; first | omega | exact Nat.le_refl _⟩, g1q⟩
         ·
          rw [if_neg c9] at H
          have c9b0 : ((bt a0 x4_1) == 34) = false := beq_eq_false_iff_ne.mpr c9
          have c9b1 : ((bt a0 x4_1) != 34) = true := bne_iff_ne.mpr c9
          (first | rw [c9b0] | (simp only [i64_w, i32_w]; rw [c9b0]) | skip)
          by_cases c10 : (bt a0 x4_1) = 92
          ·
           rw [if_pos c10] at H
           have c10b0 : ((bt a0 x4_1) == 92) = true := beq_iff_eq.mpr c10
           have c10b1 : ((bt a0 x4_1) != 92) = false := bne_eq_false_iff_eq.mpr c10
           clear c10
           have H' := Aside0.mk H
           clear H
           go_wp2
           go_meet
           case rel => exact ⟨_, (true), (by first | rfl | (simp; done) | (simp [*]; done)), H', ⟨by have := HK1.out; have := HJ1.out; first | omega | exact Nat.le_refl _⟩, g1q⟩
          ·
           rw [if_neg c10] at H
           have c10b0 : ((bt a0 x4_1) == 92) = false := beq_eq_false_iff_ne.mpr c10
           have c10b1 : ((bt a0 x4_1) != 92) = true := bne_iff_ne.mpr c10
           have H' := Aside0.mk H
           clear H
           go_wp2
           go_meet
           case rel => exact ⟨_, (((bt a0 x4_1) == 10)), (by first | rfl | (simp; done) | (simp [*]; done)), H', ⟨by have := HK1.out; have := HJ1.out; first | omega | exact Nat.le_refl _⟩, g1q⟩
        case rest =>
         clear HC8
         (try clear c1); (try clear p2); (try clear c3); (try clear c3b0); (try clear c4); (try clear c5); (try clear c5b0); (try clear c6); (try clear c6b0); (try clear p7); (try clear q7); (try clear hx7); (try clear c9); (try clear c9b0); (try clear c9b1); (try clear c10); (try clear c10b0); (try clear c10b1); (try clear p2); (try clear p7); (try clear q7)
         obtain ⟨kq, x21_7, rfl, HA, HJ7, ⟨mc7, rfl⟩⟩ := hcut
         cases kq with
         | zero => exact absurd HA.out (by simp [latchkeyref05_size.j2])
         | succ kj7 =>
          have H := HA.out
          clear HA
          simp only [latchkeyref05_size.j2] at H
          by_cases c11 : x21_7 = true
          ·
           subst c11
           have H1 : (latchkeyref05_size.l0 kj7 a0 (wrap64 (x3_1 + 2)) (wrap64 (x4_1 + 1))) = some r := by rw [if_pos rfl] at H; exact H
           clear H
           have H := H1
           clear H1
           have H' := Aside0.mk H
           clear H
           go_wp2
           go_roundg kj7
           case measure => have := HK1.out; have := HJ1.out; have := HJ7.out; omega
           case rel => exact ⟨(wrap64 (x3_1 + 2)), (wrap64 (x4_1 + 1)), (by first | rfl | (simp; done) | (simp [*]; done)), (by first | rfl | (simp; done) | (simp [*]; done)), H', ⟨by have := HK1.out; have := HJ1.out; have := HJ7.out; omega⟩, g1q⟩
          ·
           replace c11 := Bool.eq_false_iff.mpr c11
           subst c11
           have H1 : (if (bt a0 x4_1) ≥ 32 then (if (bt a0 x4_1) ≤ 126 then (latchkeyref05_size.l0 kj7 a0 (wrap64 (x3_1 + 1)) (wrap64 (x4_1 + 1))) else (latchkeyref05_size.l0 kj7 a0 (wrap64 (x3_1 + 4)) (wrap64 (x4_1 + 1)))) else (latchkeyref05_size.l0 kj7 a0 (wrap64 (x3_1 + 4)) (wrap64 (x4_1 + 1)))) = some r := by rw [if_neg (show ¬ (false = true) by decide)] at H; exact H
           clear H
           have H := H1
           clear H1
           by_cases c12 : (bt a0 x4_1) ≥ 32
           ·
            rw [if_pos c12] at H
            have c12b0 : decide (32 ≤ (bt a0 x4_1)) = true := decide_eq_true c12
            clear c12
            by_cases c13 : (bt a0 x4_1) ≤ 126
            ·
             rw [if_pos c13] at H
             have c13b0 : decide ((bt a0 x4_1) ≤ 126) = true := decide_eq_true c13
             clear c13
             have H' := Aside0.mk H
             clear H
             go_wp2
             go_roundg kj7
             case measure => have := HK1.out; have := HJ1.out; have := HJ7.out; omega
             case rel => exact ⟨(wrap64 (x3_1 + 1)), (wrap64 (x4_1 + 1)), (by first | rfl | (simp; done) | (simp [*]; done)), (by first | rfl | (simp; done) | (simp [*]; done)), H', ⟨by have := HK1.out; have := HJ1.out; have := HJ7.out; omega⟩, g1q⟩
            ·
             rw [if_neg c13] at H
             have c13b0 : decide ((bt a0 x4_1) ≤ 126) = false := decide_eq_false c13
             clear c13
             have H' := Aside0.mk H
             clear H
             go_wp2
             go_roundg kj7
             case measure => have := HK1.out; have := HJ1.out; have := HJ7.out; omega
             case rel => exact ⟨(wrap64 (x3_1 + 4)), (wrap64 (x4_1 + 1)), (by first | rfl | (simp; done) | (simp [*]; done)), (by first | rfl | (simp; done) | (simp [*]; done)), H', ⟨by have := HK1.out; have := HJ1.out; have := HJ7.out; omega⟩, g1q⟩
           ·
            rw [if_neg c12] at H
            have c12b0 : decide (32 ≤ (bt a0 x4_1)) = false := decide_eq_false c12
            clear c12
            have H' := Aside0.mk H
            clear H
            go_wp2
            go_roundg kj7
            case measure => have := HK1.out; have := HJ1.out; have := HJ7.out; omega
            case rel => exact ⟨(wrap64 (x3_1 + 4)), (wrap64 (x4_1 + 1)), (by first | rfl | (simp; done) | (simp [*]; done)), (by first | rfl | (simp; done) | (simp [*]; done)), H', ⟨by have := HK1.out; have := HJ1.out; have := HJ7.out; omega⟩, g1q⟩
       ·
        rw [if_neg c6] at H
        exact absurd H (by simp)
      ·
       rw [if_neg c5] at H
       exact absurd H (by simp)
     ·
      replace c4 := Bool.eq_false_iff.mpr c4
      subst c4
      have H1 : (some x3_1) = some r := by rw [if_neg (show ¬ (false = true) by decide)] at H; exact H
      clear H
      have H := H1
      clear H1
      obtain rfl := Option.some.inj H
      go_wp2
      go_ret
      exact ⟨by first | rfl | (simp; done) | (simp [*]; done), g1q⟩
end Go.Proofs.YteedjhoffjkhmaaDoor.PT
