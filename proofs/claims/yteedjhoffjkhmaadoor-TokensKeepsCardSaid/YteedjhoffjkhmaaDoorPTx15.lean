import Derived.Test.YteedjhoffjkhmaaDoorPTx0
import Derived.Test.YteedjhoffjkhmaaDoorPTx3
import Derived.Test.YteedjhoffjkhmaaDoorPTx4
import Derived.Test.YteedjhoffjkhmaaDoorPTx5
import Derived.Test.YteedjhoffjkhmaaDoorPTx14
namespace Go.Proofs.YteedjhoffjkhmaaDoor.PT
open Go.RowKit Go.Proofs.YteedjhoffjkhmaaDoorW.PrintWords Go.Proofs.YteedjhoffjkhmaaDoorW.PrintLast Go.Proofs.YteedjhoffjkhmaaDoorW.PrintMore
attribute [local go_sem] max2_int min2_int max_two min_two max_three min_three max_four min_four
set_option linter.unusedVariables false
set_option linter.unusedSimpArgs false
def tokens_may.j0 : Nat → Bool → ByteArray → Int → Bool → Int → ByteArray → Int → Int → Option (Bool)
 | 0, _, _, _, _, _, _, _, _ => none
 | k + 1, x1, x5, x12, x21, x220000, x220001, x220002, x220003 => if x21 = true then (if x5.toList = ([] : List UInt8) then (some false) else (if 0 < (x5.size : Int) then ((tokens_digit.f (wrap32 (bt x5 0))).bind fun t222 => (if t222 = true then ((tokens_number.f x5).bind fun bt223 => (if bt223.2.2 = true then (if bt223.1 = (x5.size : Int) then (some (bt223.2.1 == x220000)) else (some false)) else (some false))) else (some false))) else (none))) else (if x12 = 5 then (some true) else (if x12 = 6 then (if x5.toList = ([] : List UInt8) then (some false) else (if (x5.size : Int) < 3 then ((tokens_mark.f k x5).bind fun t226 => (some (t226 == (x5.size : Int)))) else (some false))) else (if x220000 = 7 then (if x5.toList = ([] : List UInt8) then (some x1) else (some false)) else (some false))))
def tokens_may.f (k : Nat) (a0_0 : Int) (a0_1 : ByteArray) (a0_2 : Int) (a0_3 : Int) (a1 : Bool) : Option (Bool) := if a0_0 = 1 then ((ident_Name.f k a0_1).bind fun t220 => (some t220)) else (if a0_0 = 2 then ((tokens_word.f a0_1).bind fun t221 => (some t221)) else (if a0_0 = 3 then (tokens_may.j0 k a1 a0_1 a0_0 (a0_0 == 3) a0_0 a0_1 a0_2 a0_3) else (tokens_may.j0 k a1 a0_1 a0_0 (a0_0 == 4) a0_0 a0_1 a0_2 a0_3)))
theorem tokens_may.mono_l : ∀ k, (∀ y0 y1 y2 y3 y4 y5 y6 y7, LeO (tokens_may.j0 k y0 y1 y2 y3 y4 y5 y6 y7) (tokens_may.j0 (k + 1) y0 y1 y2 y3 y4 y5 y6 y7))
 | 0 => fun _ _ _ _ _ _ _ _ r h => by simp [tokens_may.j0] at h
 | k + 1 => by
  have ih0 := tokens_may.mono_l k
  ·
   intro y0 y1 y2 y3 y4 y5 y6 y7
   unfold tokens_may.j0
   repeat' first
   | (with_reducible exact ih0 _ _ _ _ _ _ _ _)
   | (with_reducible exact ident_Name.mono _ _)
   | (with_reducible exact tokens_mark.mono _ _)
   | (with_reducible exact LeO.refl _)
   | (with_reducible exact LeO.none _)
   | (with_reducible refine LeO.ite ?_ ?_)
   | (with_reducible refine LeO.bind ?_ (fun _ => ?_))
   | exact ih0 _ _ _ _ _ _ _ _
   | exact ident_Name.mono _ _
   | exact tokens_mark.mono _ _
   | exact LeO.none _
   | refine LeO.ite ?_ ?_
   | refine LeO.bind ?_ (fun _ => ?_)
theorem tokens_may.mono : ∀ a0 a1 a2 a3 a4 k, LeO (tokens_may.f k a0 a1 a2 a3 a4) (tokens_may.f (k + 1) a0 a1 a2 a3 a4) := by
 intro a0 a1 a2 a3 a4 k
 have ih0 := tokens_may.mono_l k
 unfold tokens_may.f
 repeat' first
   | (with_reducible exact ih0 _ _ _ _ _ _ _ _)
   | (with_reducible exact ident_Name.mono _ _)
   | (with_reducible exact tokens_mark.mono _ _)
   | (with_reducible exact LeO.refl _)
   | (with_reducible exact LeO.none _)
   | (with_reducible refine LeO.ite ?_ ?_)
   | (with_reducible refine LeO.bind ?_ (fun _ => ?_))
   | exact ih0 _ _ _ _ _ _ _ _
   | exact ident_Name.mono _ _
   | exact tokens_mark.mono _ _
   | exact LeO.none _
   | refine LeO.ite ?_ ?_
   | refine LeO.bind ?_ (fun _ => ?_)
set_option maxHeartbeats 8000000 in
set_option maxRecDepth 100000 in
theorem tokens_may.calls (k : Nat) (a0_0 : Int) (a0_1 : ByteArray) (a0_2 : Int) (a0_3 : Int) (a1 : Bool) (r : Bool) (w : World) (h : tokens_may.f k a0_0 a0_1 a0_2 a0_3 a1 = some r) :
  Calls Tryd.prog 36 #[.agg #[.int .i64 a0_0, .string a0_1, .int .i64 a0_2, .int .i64 a0_3], .bool a1] w fun e w' => e = .returned (.bool r) ∧ Below w.heap.size w w' := by
 have hu37 := Tryd.underlying37
 have HB := Aside0.mk (Below.refl w.heap.size w)
 have H : (if a0_0 = 1 then ((ident_Name.f k a0_1).bind fun t220 => (some t220)) else (if a0_0 = 2 then ((tokens_word.f a0_1).bind fun t221 => (some t221)) else (if a0_0 = 3 then (tokens_may.j0 k a1 a0_1 a0_0 (a0_0 == 3) a0_0 a0_1 a0_2 a0_3) else (tokens_may.j0 k a1 a0_1 a0_0 (a0_0 == 4) a0_0 a0_1 a0_2 a0_3)))) = some r := h
 clear h
 by_cases c3 : a0_0 = 1
 ·
  rw [if_pos c3] at H
  have c3b0 : (a0_0 == 1) = true := beq_iff_eq.mpr c3
  have c3b1 : (a0_0 != 1) = false := bne_eq_false_iff_eq.mpr c3
  clear c3
  replace H := Option.bind_eq_some_iff.mp H
  obtain ⟨t220, A40, H⟩ := H
  replace H : (some t220) = some r := H
  have A4 := Aside0.mk A40
  clear A40
  obtain rfl := Option.some.inj H
  go_enter Tryd.func36, Tryd.ntmps36
  go_wp2_with (first | ((with_reducible refine gate_dst (N := 2) rfl ?_); (try (refine gate_guard (by rfl) ?_; dsimp only)); refine box_event ?hg (N := 2) ?hd (cs := #[.int .i64 a0_0, .string a0_1, .int .i64 a0_2, .int .i64 a0_3]) (t := 37) ?hr ?_; (case hd => rfl); (case hg => rfl); (case hr => first | (go_simp; done) | (go_simp; rfl)); intro gb219 hg w5 hbox hb; have n0_ := Aside0.mk (below_step bq hb); have n1_ := Aside0.mk (hbox); have n2_ := Aside0.mk ((by rw [hg]; exact (below_size bq) : w.heap.size ≤ gb219)); have n3_ := Aside0.mk ((by rw [hg]; exact (below_size bq) : w.heap.size ≤ gb219)); clear HB; have HB := n0_; have BK219 := n1_; have GW219 := n2_; have GE219 := n3_; clear n0_ n1_ n2_ n3_; clear hb hbox hg; have hcz6_0 : w5.cell? ⟨gb219, 0, none⟩ = some (.int .i64 a0_0) := (blk_cell BK219.out 0).trans rfl; have hcz6_1 : w5.cell? ⟨gb219, 1, none⟩ = some (.string a0_1) := (blk_cell BK219.out 1).trans rfl; have hcz6_2 : w5.cell? ⟨gb219, 2, none⟩ = some (.int .i64 a0_2) := (blk_cell BK219.out 2).trans rfl; have hcz6_3 : w5.cell? ⟨gb219, 3, none⟩ = some (.int .i64 a0_3) := (blk_cell BK219.out 3).trans rfl; have hfz6_0 := blk_frozen BK219.out 0; have hfz6_1 := blk_frozen BK219.out 1; have hfz6_2 := blk_frozen BK219.out 2; have hfz6_3 := blk_frozen BK219.out 3) | ((with_reducible refine gate_callee (f := 60) rfl ?_); refine goesL_ (some 16) rfl rfl Tryd.func60 (by kernel_rfl) rfl #[.string a0_1] rfl agq ?_; (with_reducible refine (ident_Name.calls k a0_1 t220 _ A4.out).mono ?_); rintro e w' ⟨rfl, ⟨nd, rfl⟩⟩; refine ⟨_, rfl, ?_⟩))
  go_ret
  exact ⟨by first | rfl | (simp [errW_none, errW_some]; exact (show ∀ L_ : List UInt8, L_.isEmpty = !(L_ != []) from fun L_ => by cases L_ <;> rfl) _) | (simp [errW_none, errW_some] <;> rfl) | (simp [*, errW_none, errW_some] <;> rfl), g4q⟩
 ·
  rw [if_neg c3] at H
  have c3b0 : (a0_0 == 1) = false := beq_eq_false_iff_ne.mpr c3
  have c3b1 : (a0_0 != 1) = true := bne_iff_ne.mpr c3
  by_cases c7 : a0_0 = 2
  ·
   rw [if_pos c7] at H
   have c7b0 : (a0_0 == 2) = true := beq_iff_eq.mpr c7
   have c7b1 : (a0_0 != 2) = false := bne_eq_false_iff_eq.mpr c7
   clear c7
   replace H := Option.bind_eq_some_iff.mp H
   obtain ⟨t221, A80, H⟩ := H
   replace H : (some t221) = some r := H
   have A8 := Aside0.mk A80
   clear A80
   obtain rfl := Option.some.inj H
   go_enter Tryd.func36, Tryd.ntmps36
   go_wp2_with (first | ((with_reducible refine gate_dst (N := 2) rfl ?_); (try (refine gate_guard (by rfl) ?_; dsimp only)); refine box_event ?hg (N := 2) ?hd (cs := #[.int .i64 a0_0, .string a0_1, .int .i64 a0_2, .int .i64 a0_3]) (t := 37) ?hr ?_; (case hd => rfl); (case hg => rfl); (case hr => first | (go_simp; done) | (go_simp; rfl)); intro gb219 hg w9 hbox hb; have n0_ := Aside0.mk (below_step bq hb); have n1_ := Aside0.mk (hbox); have n2_ := Aside0.mk ((by rw [hg]; exact (below_size bq) : w.heap.size ≤ gb219)); have n3_ := Aside0.mk ((by rw [hg]; exact (below_size bq) : w.heap.size ≤ gb219)); clear HB; have HB := n0_; have BK219 := n1_; have GW219 := n2_; have GE219 := n3_; clear n0_ n1_ n2_ n3_; clear hb hbox hg; have hcz10_0 : w9.cell? ⟨gb219, 0, none⟩ = some (.int .i64 a0_0) := (blk_cell BK219.out 0).trans rfl; have hcz10_1 : w9.cell? ⟨gb219, 1, none⟩ = some (.string a0_1) := (blk_cell BK219.out 1).trans rfl; have hcz10_2 : w9.cell? ⟨gb219, 2, none⟩ = some (.int .i64 a0_2) := (blk_cell BK219.out 2).trans rfl; have hcz10_3 : w9.cell? ⟨gb219, 3, none⟩ = some (.int .i64 a0_3) := (blk_cell BK219.out 3).trans rfl; have hfz10_0 := blk_frozen BK219.out 0; have hfz10_1 := blk_frozen BK219.out 1; have hfz10_2 := blk_frozen BK219.out 2; have hfz10_3 := blk_frozen BK219.out 3) | ((with_reducible refine gate_callee (f := 47) rfl ?_); refine goesL_ (some 20) rfl rfl Tryd.func47 (by kernel_rfl) rfl #[.string a0_1] rfl agq ?_; (with_reducible refine (tokens_word.calls a0_1 t221 _ A8.out).mono ?_); rintro e w' ⟨rfl, ⟨nd, rfl⟩⟩; refine ⟨_, rfl, ?_⟩))
   go_ret
   exact ⟨by first | rfl | (simp [errW_none, errW_some]; exact (show ∀ L_ : List UInt8, L_.isEmpty = !(L_ != []) from fun L_ => by cases L_ <;> rfl) _) | (simp [errW_none, errW_some] <;> rfl) | (simp [*, errW_none, errW_some] <;> rfl), g4q⟩
  ·
   rw [if_neg c7] at H
   have c7b0 : (a0_0 == 2) = false := beq_eq_false_iff_ne.mpr c7
   have c7b1 : (a0_0 != 2) = true := bne_iff_ne.mpr c7
   have HC11 := Aside0.mk H
   clear H
   go_enter Tryd.func36, Tryd.ntmps36
   go_upto_if 21 with (first | ((with_reducible refine gate_dst (N := 2) rfl ?_); (try (refine gate_guard (by rfl) ?_; dsimp only)); refine box_event ?hg (N := 2) ?hd (cs := #[.int .i64 a0_0, .string a0_1, .int .i64 a0_2, .int .i64 a0_3]) (t := 37) ?hr ?_; (case hd => rfl); (case hg => rfl); (case hr => first | (go_simp; done) | (go_simp; rfl)); intro gb219 hg w12 hbox hb; have n0_ := Aside0.mk (below_step bq hb); have n1_ := Aside0.mk (hbox); have n2_ := Aside0.mk ((by rw [hg]; exact (below_size bq) : w.heap.size ≤ gb219)); have n3_ := Aside0.mk ((by rw [hg]; exact (below_size bq) : w.heap.size ≤ gb219)); clear HB; have HB := n0_; have BK219 := n1_; have GW219 := n2_; have GE219 := n3_; clear n0_ n1_ n2_ n3_; clear hb hbox hg; have hcz13_0 : w12.cell? ⟨gb219, 0, none⟩ = some (.int .i64 a0_0) := (blk_cell BK219.out 0).trans rfl; have hcz13_1 : w12.cell? ⟨gb219, 1, none⟩ = some (.string a0_1) := (blk_cell BK219.out 1).trans rfl; have hcz13_2 : w12.cell? ⟨gb219, 2, none⟩ = some (.int .i64 a0_2) := (blk_cell BK219.out 2).trans rfl; have hcz13_3 : w12.cell? ⟨gb219, 3, none⟩ = some (.int .i64 a0_3) := (blk_cell BK219.out 3).trans rfl; have hfz13_0 := blk_frozen BK219.out 0; have hfz13_1 := blk_frozen BK219.out 1; have hfz13_2 := blk_frozen BK219.out 2; have hfz13_3 := blk_frozen BK219.out 3))
   (try simp only [Act.put, List.setIfInBounds_toArray, List.set_cons_zero, List.set_cons_succ])
   go_cut [21] (fun v21 wc => ∃ (kq : Nat) (x21_10 : Bool), v21 = .bool x21_10 ∧ Aside0 (tokens_may.j0 kq a1 a0_1 a0_0 x21_10 a0_0 a0_1 a0_2 a0_3 = some r) ∧ Aside0 (kq ≤ k) ∧ Aside0 (wc.heap[gb219]? = some (.cells #[.int .i64 a0_0, .string a0_1, .int .i64 a0_2, .int .i64 a0_3] 37 (0, 0))) ∧ Aside0 (Below w.heap.size w wc))
   case first =>
    have H := HC11.out
    clear HC11
    by_cases c14 : a0_0 = 3
    ·
     rw [if_pos c14] at H
     have c14b0 : (a0_0 == 3) = true := beq_iff_eq.mpr c14
     have c14b1 : (a0_0 != 3) = false := bne_eq_false_iff_eq.mpr c14
     clear c14
     (first | rw [c14b0] | (simp only [i64_w, i32_w]; rw [c14b0]) | skip)
     have H' := Aside0.mk H
     clear H
     go_wp2
     go_meet
     case rel => exact ⟨_, ((a0_0 == 3)), (by first | rfl | (simp; done) | (simp [*]; done)), H', ⟨by first | omega | exact Nat.le_refl _⟩, ⟨by (with_reducible repeat (first | refine blk_drewN ?_ _ | refine blk_drew ?_ | refine blk_alloc ?_ _)); exact BK219.out⟩, ⟨g4q⟩⟩
    ·
     rw [if_neg c14] at H
     have c14b0 : (a0_0 == 3) = false := beq_eq_false_iff_ne.mpr c14
     have c14b1 : (a0_0 != 3) = true := bne_iff_ne.mpr c14
     (first | rw [c14b0] | (simp only [i64_w, i32_w]; rw [c14b0]) | skip)
     have H' := Aside0.mk H
     clear H
     go_wp2
     go_meet
     case rel => exact ⟨_, ((a0_0 == 4)), (by first | rfl | (simp; done) | (simp [*]; done)), H', ⟨by first | omega | exact Nat.le_refl _⟩, ⟨by (with_reducible repeat (first | refine blk_drewN ?_ _ | refine blk_drew ?_ | refine blk_alloc ?_ _)); exact BK219.out⟩, ⟨g4q⟩⟩
   case rest =>
    clear HC11
    (try clear c1); (try clear p2); (try clear c3); (try clear c3b0); (try clear c3b1); (try clear c4); (try clear c6); (try clear c7); (try clear c7b0); (try clear c7b1); (try clear c14); (try clear c14b0); (try clear c14b1); (try clear hcz10_0); (try clear hcz10_1); (try clear hcz10_2); (try clear hcz10_3); (try clear hcz13_0); (try clear hcz13_1); (try clear hcz13_2); (try clear hcz13_3); (try clear hcz6_0); (try clear hcz6_1); (try clear hcz6_2); (try clear hcz6_3); (try clear hfz10_0); (try clear hfz10_1); (try clear hfz10_2); (try clear hfz10_3); (try clear hfz13_0); (try clear hfz13_1); (try clear hfz13_2); (try clear hfz13_3); (try clear hfz6_0); (try clear hfz6_1); (try clear hfz6_2); (try clear hfz6_3)
    obtain ⟨kq, x21_10, rfl, HA, HJ10, BK219, HB⟩ := hcut
    cases kq with
    | zero => exact absurd HA.out (by simp [tokens_may.j0])
    | succ kj10 =>
     have H := HA.out
     clear HA
     simp only [tokens_may.j0] at H
     by_cases c15 : x21_10 = true
     ·
      subst c15
      have H1 : (if a0_1.toList = ([] : List UInt8) then (some false) else (if 0 < (a0_1.size : Int) then ((tokens_digit.f (wrap32 (bt a0_1 0))).bind fun t222 => (if t222 = true then ((tokens_number.f a0_1).bind fun bt223 => (if bt223.2.2 = true then (if bt223.1 = (a0_1.size : Int) then (some (bt223.2.1 == a0_0)) else (some false)) else (some false))) else (some false))) else (none))) = some r := by rw [if_pos rfl] at H; exact H
      clear H
      have H := H1
      clear H1
      by_cases c16 : a0_1.toList = ([] : List UInt8)
      ·
       rw [if_pos c16] at H
       have c16b0 : (a0_1.toList == ([] : List UInt8)) = true := beq_iff_eq.mpr c16
       have c16b1 : (a0_1.toList != ([] : List UInt8)) = false := bne_eq_false_iff_eq.mpr c16
       clear c16
       obtain rfl := Option.some.inj H
       go_wp2
       go_ret
       exact ⟨by first | rfl | (simp [errW_none, errW_some]; exact (show ∀ L_ : List UInt8, L_.isEmpty = !(L_ != []) from fun L_ => by cases L_ <;> rfl) _) | (simp [errW_none, errW_some] <;> rfl) | (simp [*, errW_none, errW_some] <;> rfl), g4q⟩
      ·
       rw [if_neg c16] at H
       have c16b0 : (a0_1.toList == ([] : List UInt8)) = false := beq_eq_false_iff_ne.mpr c16
       have c16b1 : (a0_1.toList != ([] : List UInt8)) = true := bne_iff_ne.mpr c16
       by_cases c17 : 0 < (a0_1.size : Int)
       ·
        rw [if_pos c17] at H
        have c17b0 : decide (0 < (a0_1.size : Int)) = true := decide_eq_true c17
        have c17b1 : decide (0 < a0_1.size) = true := decide_eq_true (by omega)
        clear c17
        replace H := Option.bind_eq_some_iff.mp H
        obtain ⟨t222, A190, H⟩ := H
        replace H : (if t222 = true then ((tokens_number.f a0_1).bind fun bt223 => (if bt223.2.2 = true then (if bt223.1 = (a0_1.size : Int) then (some (bt223.2.1 == a0_0)) else (some false)) else (some false))) else (some false)) = some r := H
        have A19 := Aside0.mk A190
        clear A190
        by_cases c20 : t222 = true
        ·
         subst c20
         have H1 : ((tokens_number.f a0_1).bind fun bt223 => (if bt223.2.2 = true then (if bt223.1 = (a0_1.size : Int) then (some (bt223.2.1 == a0_0)) else (some false)) else (some false))) = some r := by rw [if_pos rfl] at H; exact H
         clear H
         have H := H1
         clear H1
         replace H := Option.bind_eq_some_iff.mp H
         obtain ⟨⟨t223, t224, t225⟩, A210, H⟩ := H
         replace H : (if t225 = true then (if t223 = (a0_1.size : Int) then (some (t224 == a0_0)) else (some false)) else (some false)) = some r := H
         have A21 := Aside0.mk A210
         clear A210
         by_cases c22 : t225 = true
         ·
          subst c22
          have H1 : (if t223 = (a0_1.size : Int) then (some (t224 == a0_0)) else (some false)) = some r := by rw [if_pos rfl] at H; exact H
          clear H
          have H := H1
          clear H1
          by_cases c23 : t223 = (a0_1.size : Int)
          ·
           rw [if_pos c23] at H
           have c23b0 : (t223 == (a0_1.size : Int)) = true := beq_iff_eq.mpr c23
           have c23b1 : (t223 != (a0_1.size : Int)) = false := bne_eq_false_iff_eq.mpr c23
           clear c23
           obtain rfl := Option.some.inj H
           have p18 : 0 ≤ (0 : Int) := (by omega)
           have q18 : 0 < a0_1.size := (by have : (0 : Int) < (a0_1.size : Int) := of_decide_eq_true azq; omega)
           have hx18 : ∀ h : 0 < a0_1.size, ((a0_1[0]'h).toNat : Int) = bt a0_1 0 := bt_at a0_1 0
           clear p18
           have qi18 : (0 < (a0_1.size : Int)) = True := eq_true (of_decide_eq_true azq)
           replace q18 := eq_true q18
           go_wp2_with (first | (go_at_call 61; (with_reducible refine (tokens_digit.calls (wrap32 (bt a0_1 0)) true _ A19.out).mono ?_); rintro e w' ⟨rfl, ⟨nd, rfl⟩⟩) | ((with_reducible refine gate_callee (f := 48) rfl ?_); refine goesL_ (some 35) rfl rfl Tryd.func48 (by kernel_rfl) rfl #[.string a0_1] rfl agq ?_; (with_reducible refine (tokens_number.calls a0_1 t223 t224 true _ A21.out).mono ?_); rintro e w24 ⟨rfl, hb⟩; refine ⟨_, rfl, ?_⟩; have n0_ := Aside0.mk (blk_below (g := gb219) (o := .cells #[.int .i64 a0_0, .string a0_1, .int .i64 a0_2, .int .i64 a0_3] 37 (0, 0)) (bxq BK219.out) hb); have n1_ := Aside0.mk (below_step g4q hb); clear BK219; clear HB; have BK219 := n0_; have HB := n1_; clear n0_ n1_; (try clear hb); (try clear hb2); (try clear hk); (try clear hi); have hcz25_0 : w24.cell? ⟨gb219, 0, none⟩ = some (.int .i64 a0_0) := (blk_cell BK219.out 0).trans rfl; have hcz25_1 : w24.cell? ⟨gb219, 1, none⟩ = some (.string a0_1) := (blk_cell BK219.out 1).trans rfl; have hcz25_2 : w24.cell? ⟨gb219, 2, none⟩ = some (.int .i64 a0_2) := (blk_cell BK219.out 2).trans rfl; have hcz25_3 : w24.cell? ⟨gb219, 3, none⟩ = some (.int .i64 a0_3) := (blk_cell BK219.out 3).trans rfl; have hfz25_0 := blk_frozen BK219.out 0; have hfz25_1 := blk_frozen BK219.out 1; have hfz25_2 := blk_frozen BK219.out 2; have hfz25_3 := blk_frozen BK219.out 3))
           go_ret
           exact ⟨by first | rfl | (simp [errW_none, errW_some]; exact (show ∀ L_ : List UInt8, L_.isEmpty = !(L_ != []) from fun L_ => by cases L_ <;> rfl) _) | (simp [errW_none, errW_some] <;> rfl) | (simp [*, errW_none, errW_some] <;> rfl), g4q⟩
          ·
           rw [if_neg c23] at H
           have c23b0 : (t223 == (a0_1.size : Int)) = false := beq_eq_false_iff_ne.mpr c23
           have c23b1 : (t223 != (a0_1.size : Int)) = true := bne_iff_ne.mpr c23
           obtain rfl := Option.some.inj H
           have p18 : 0 ≤ (0 : Int) := (by omega)
           have q18 : 0 < a0_1.size := (by have : (0 : Int) < (a0_1.size : Int) := of_decide_eq_true azq; omega)
           have hx18 : ∀ h : 0 < a0_1.size, ((a0_1[0]'h).toNat : Int) = bt a0_1 0 := bt_at a0_1 0
           clear p18
           have qi18 : (0 < (a0_1.size : Int)) = True := eq_true (of_decide_eq_true azq)
           replace q18 := eq_true q18
           go_wp2_with (first | (go_at_call 61; (with_reducible refine (tokens_digit.calls (wrap32 (bt a0_1 0)) true _ A19.out).mono ?_); rintro e w' ⟨rfl, ⟨nd, rfl⟩⟩) | ((with_reducible refine gate_callee (f := 48) rfl ?_); refine goesL_ (some 35) rfl rfl Tryd.func48 (by kernel_rfl) rfl #[.string a0_1] rfl agq ?_; (with_reducible refine (tokens_number.calls a0_1 t223 t224 true _ A21.out).mono ?_); rintro e w26 ⟨rfl, hb⟩; refine ⟨_, rfl, ?_⟩; have n0_ := Aside0.mk (blk_below (g := gb219) (o := .cells #[.int .i64 a0_0, .string a0_1, .int .i64 a0_2, .int .i64 a0_3] 37 (0, 0)) (bxq BK219.out) hb); have n1_ := Aside0.mk (below_step g4q hb); clear BK219; clear HB; have BK219 := n0_; have HB := n1_; clear n0_ n1_; (try clear hb); (try clear hb2); (try clear hk); (try clear hi)))
           go_ret
           exact ⟨by first | rfl | (simp [errW_none, errW_some]; exact (show ∀ L_ : List UInt8, L_.isEmpty = !(L_ != []) from fun L_ => by cases L_ <;> rfl) _) | (simp [errW_none, errW_some] <;> rfl) | (simp [*, errW_none, errW_some] <;> rfl), g4q⟩
         ·
          replace c22 := Bool.eq_false_iff.mpr c22
          subst c22
          have H1 : (some false) = some r := by rw [if_neg (show ¬ (false = true) by decide)] at H; exact H
          clear H
          have H := H1
          clear H1
          obtain rfl := Option.some.inj H
          have p18 : 0 ≤ (0 : Int) := (by omega)
          have q18 : 0 < a0_1.size := (by have : (0 : Int) < (a0_1.size : Int) := of_decide_eq_true azq; omega)
          have hx18 : ∀ h : 0 < a0_1.size, ((a0_1[0]'h).toNat : Int) = bt a0_1 0 := bt_at a0_1 0
          clear p18
          have qi18 : (0 < (a0_1.size : Int)) = True := eq_true (of_decide_eq_true azq)
          replace q18 := eq_true q18
          go_wp2_with (first | (go_at_call 61; (with_reducible refine (tokens_digit.calls (wrap32 (bt a0_1 0)) true _ A19.out).mono ?_); rintro e w' ⟨rfl, ⟨nd, rfl⟩⟩) | ((with_reducible refine gate_callee (f := 48) rfl ?_); refine goesL_ (some 35) rfl rfl Tryd.func48 (by kernel_rfl) rfl #[.string a0_1] rfl agq ?_; (with_reducible refine (tokens_number.calls a0_1 t223 t224 false _ A21.out).mono ?_); rintro e w27 ⟨rfl, hb⟩; refine ⟨_, rfl, ?_⟩; have n0_ := Aside0.mk (blk_below (g := gb219) (o := .cells #[.int .i64 a0_0, .string a0_1, .int .i64 a0_2, .int .i64 a0_3] 37 (0, 0)) (bxq BK219.out) hb); have n1_ := Aside0.mk (below_step g4q hb); clear BK219; clear HB; have BK219 := n0_; have HB := n1_; clear n0_ n1_; (try clear hb); (try clear hb2); (try clear hk); (try clear hi)))
          go_ret
          exact ⟨by first | rfl | (simp [errW_none, errW_some]; exact (show ∀ L_ : List UInt8, L_.isEmpty = !(L_ != []) from fun L_ => by cases L_ <;> rfl) _) | (simp [errW_none, errW_some] <;> rfl) | (simp [*, errW_none, errW_some] <;> rfl), g4q⟩
        ·
         replace c20 := Bool.eq_false_iff.mpr c20
         subst c20
         have H1 : (some false) = some r := by rw [if_neg (show ¬ (false = true) by decide)] at H; exact H
         clear H
         have H := H1
         clear H1
         obtain rfl := Option.some.inj H
         have p18 : 0 ≤ (0 : Int) := (by omega)
         have q18 : 0 < a0_1.size := (by have : (0 : Int) < (a0_1.size : Int) := of_decide_eq_true azq; omega)
         have hx18 : ∀ h : 0 < a0_1.size, ((a0_1[0]'h).toNat : Int) = bt a0_1 0 := bt_at a0_1 0
         clear p18
         have qi18 : (0 < (a0_1.size : Int)) = True := eq_true (of_decide_eq_true azq)
         replace q18 := eq_true q18
         go_wp2_with (first | (go_at_call 61; (with_reducible refine (tokens_digit.calls (wrap32 (bt a0_1 0)) false _ A19.out).mono ?_); rintro e w' ⟨rfl, ⟨nd, rfl⟩⟩))
         go_ret
         exact ⟨by first | rfl | (simp [errW_none, errW_some]; exact (show ∀ L_ : List UInt8, L_.isEmpty = !(L_ != []) from fun L_ => by cases L_ <;> rfl) _) | (simp [errW_none, errW_some] <;> rfl) | (simp [*, errW_none, errW_some] <;> rfl), g4q⟩
       ·
        rw [if_neg c17] at H
        exact absurd H (by simp)
     ·
      replace c15 := Bool.eq_false_iff.mpr c15
      subst c15
      have H1 : (if a0_0 = 5 then (some true) else (if a0_0 = 6 then (if a0_1.toList = ([] : List UInt8) then (some false) else (if (a0_1.size : Int) < 3 then ((tokens_mark.f kj10 a0_1).bind fun t226 => (some (t226 == (a0_1.size : Int)))) else (some false))) else (if a0_0 = 7 then (if a0_1.toList = ([] : List UInt8) then (some a1) else (some false)) else (some false)))) = some r := by rw [if_neg (show ¬ (false = true) by decide)] at H; exact H
      clear H
      have H := H1
      clear H1
      by_cases c28 : a0_0 = 5
      ·
       rw [if_pos c28] at H
       have c28b0 : (a0_0 == 5) = true := beq_iff_eq.mpr c28
       have c28b1 : (a0_0 != 5) = false := bne_eq_false_iff_eq.mpr c28
       clear c28
       obtain rfl := Option.some.inj H
       go_wp2
       go_ret
       exact ⟨by first | rfl | (simp [errW_none, errW_some]; exact (show ∀ L_ : List UInt8, L_.isEmpty = !(L_ != []) from fun L_ => by cases L_ <;> rfl) _) | (simp [errW_none, errW_some] <;> rfl) | (simp [*, errW_none, errW_some] <;> rfl), g4q⟩
      ·
       rw [if_neg c28] at H
       have c28b0 : (a0_0 == 5) = false := beq_eq_false_iff_ne.mpr c28
       have c28b1 : (a0_0 != 5) = true := bne_iff_ne.mpr c28
       by_cases c29 : a0_0 = 6
       ·
        rw [if_pos c29] at H
        have c29b0 : (a0_0 == 6) = true := beq_iff_eq.mpr c29
        have c29b1 : (a0_0 != 6) = false := bne_eq_false_iff_eq.mpr c29
        clear c29
        by_cases c30 : a0_1.toList = ([] : List UInt8)
        ·
         rw [if_pos c30] at H
         have c30b0 : (a0_1.toList == ([] : List UInt8)) = true := beq_iff_eq.mpr c30
         have c30b1 : (a0_1.toList != ([] : List UInt8)) = false := bne_eq_false_iff_eq.mpr c30
         clear c30
         obtain rfl := Option.some.inj H
         go_wp2
         go_ret
         exact ⟨by first | rfl | (simp [errW_none, errW_some]; exact (show ∀ L_ : List UInt8, L_.isEmpty = !(L_ != []) from fun L_ => by cases L_ <;> rfl) _) | (simp [errW_none, errW_some] <;> rfl) | (simp [*, errW_none, errW_some] <;> rfl), g4q⟩
        ·
         rw [if_neg c30] at H
         have c30b0 : (a0_1.toList == ([] : List UInt8)) = false := beq_eq_false_iff_ne.mpr c30
         have c30b1 : (a0_1.toList != ([] : List UInt8)) = true := bne_iff_ne.mpr c30
         by_cases c31 : (a0_1.size : Int) < 3
         ·
          rw [if_pos c31] at H
          have c31b0 : decide ((a0_1.size : Int) < 3) = true := decide_eq_true c31
          have c31b1 : decide (a0_1.size < 3) = true := decide_eq_true (by omega)
          clear c31
          replace H := Option.bind_eq_some_iff.mp H
          obtain ⟨t226, A320, H⟩ := H
          replace H : (some (t226 == (a0_1.size : Int))) = some r := H
          have A32 := Aside0.mk A320
          clear A320
          obtain rfl := Option.some.inj H
          go_wp2_with (first | (go_at_call 50; (with_reducible refine (tokens_mark.calls kj10 a0_1 t226 _ A32.out).mono ?_); rintro e w' ⟨rfl, ⟨nd, rfl⟩⟩))
          go_ret
          exact ⟨by first | rfl | (simp [errW_none, errW_some]; exact (show ∀ L_ : List UInt8, L_.isEmpty = !(L_ != []) from fun L_ => by cases L_ <;> rfl) _) | (simp [errW_none, errW_some] <;> rfl) | (simp [*, errW_none, errW_some] <;> rfl), g4q⟩
         ·
          rw [if_neg c31] at H
          have c31b0 : decide ((a0_1.size : Int) < 3) = false := decide_eq_false c31
          have c31b1 : decide (a0_1.size < 3) = false := decide_eq_false (by omega)
          clear c31
          obtain rfl := Option.some.inj H
          go_wp2
          go_ret
          exact ⟨by first | rfl | (simp [errW_none, errW_some]; exact (show ∀ L_ : List UInt8, L_.isEmpty = !(L_ != []) from fun L_ => by cases L_ <;> rfl) _) | (simp [errW_none, errW_some] <;> rfl) | (simp [*, errW_none, errW_some] <;> rfl), g4q⟩
       ·
        rw [if_neg c29] at H
        have c29b0 : (a0_0 == 6) = false := beq_eq_false_iff_ne.mpr c29
        have c29b1 : (a0_0 != 6) = true := bne_iff_ne.mpr c29
        by_cases c33 : a0_0 = 7
        ·
         rw [if_pos c33] at H
         have c33b0 : (a0_0 == 7) = true := beq_iff_eq.mpr c33
         have c33b1 : (a0_0 != 7) = false := bne_eq_false_iff_eq.mpr c33
         clear c33
         by_cases c34 : a0_1.toList = ([] : List UInt8)
         ·
          rw [if_pos c34] at H
          have c34b0 : (a0_1.toList == ([] : List UInt8)) = true := beq_iff_eq.mpr c34
          have c34b1 : (a0_1.toList != ([] : List UInt8)) = false := bne_eq_false_iff_eq.mpr c34
          clear c34
          obtain rfl := Option.some.inj H
          have hcz35_0 : wc.cell? ⟨gb219, 0, none⟩ = some (.int .i64 a0_0) := (blk_cell BK219.out 0).trans rfl
          have hcz35_1 : wc.cell? ⟨gb219, 1, none⟩ = some (.string a0_1) := (blk_cell BK219.out 1).trans rfl
          have hcz35_2 : wc.cell? ⟨gb219, 2, none⟩ = some (.int .i64 a0_2) := (blk_cell BK219.out 2).trans rfl
          have hcz35_3 : wc.cell? ⟨gb219, 3, none⟩ = some (.int .i64 a0_3) := (blk_cell BK219.out 3).trans rfl
          have hfz35_0 := blk_frozen BK219.out 0
          have hfz35_1 := blk_frozen BK219.out 1
          have hfz35_2 := blk_frozen BK219.out 2
          have hfz35_3 := blk_frozen BK219.out 3
          go_wp2
          go_ret
          exact ⟨by first | rfl | (simp [errW_none, errW_some]; exact (show ∀ L_ : List UInt8, L_.isEmpty = !(L_ != []) from fun L_ => by cases L_ <;> rfl) _) | (simp [errW_none, errW_some] <;> rfl) | (simp [*, errW_none, errW_some] <;> rfl), g4q⟩
         ·
          rw [if_neg c34] at H
          have c34b0 : (a0_1.toList == ([] : List UInt8)) = false := beq_eq_false_iff_ne.mpr c34
          have c34b1 : (a0_1.toList != ([] : List UInt8)) = true := bne_iff_ne.mpr c34
          obtain rfl := Option.some.inj H
          have hcz36_0 : wc.cell? ⟨gb219, 0, none⟩ = some (.int .i64 a0_0) := (blk_cell BK219.out 0).trans rfl
          have hcz36_1 : wc.cell? ⟨gb219, 1, none⟩ = some (.string a0_1) := (blk_cell BK219.out 1).trans rfl
          have hcz36_2 : wc.cell? ⟨gb219, 2, none⟩ = some (.int .i64 a0_2) := (blk_cell BK219.out 2).trans rfl
          have hcz36_3 : wc.cell? ⟨gb219, 3, none⟩ = some (.int .i64 a0_3) := (blk_cell BK219.out 3).trans rfl
          have hfz36_0 := blk_frozen BK219.out 0
          have hfz36_1 := blk_frozen BK219.out 1
          have hfz36_2 := blk_frozen BK219.out 2
          have hfz36_3 := blk_frozen BK219.out 3
          go_wp2
          go_ret
          exact ⟨by first | rfl | (simp [errW_none, errW_some]; exact (show ∀ L_ : List UInt8, L_.isEmpty = !(L_ != []) from fun L_ => by cases L_ <;> rfl) _) | (simp [errW_none, errW_some] <;> rfl) | (simp [*, errW_none, errW_some] <;> rfl), g4q⟩
        ·
         rw [if_neg c33] at H
         have c33b0 : (a0_0 == 7) = false := beq_eq_false_iff_ne.mpr c33
         have c33b1 : (a0_0 != 7) = true := bne_iff_ne.mpr c33
         obtain rfl := Option.some.inj H
         have hcz37_0 : wc.cell? ⟨gb219, 0, none⟩ = some (.int .i64 a0_0) := (blk_cell BK219.out 0).trans rfl
         have hcz37_1 : wc.cell? ⟨gb219, 1, none⟩ = some (.string a0_1) := (blk_cell BK219.out 1).trans rfl
         have hcz37_2 : wc.cell? ⟨gb219, 2, none⟩ = some (.int .i64 a0_2) := (blk_cell BK219.out 2).trans rfl
         have hcz37_3 : wc.cell? ⟨gb219, 3, none⟩ = some (.int .i64 a0_3) := (blk_cell BK219.out 3).trans rfl
         have hfz37_0 := blk_frozen BK219.out 0
         have hfz37_1 := blk_frozen BK219.out 1
         have hfz37_2 := blk_frozen BK219.out 2
         have hfz37_3 := blk_frozen BK219.out 3
         go_wp2
         go_ret
         exact ⟨by first | rfl | (simp [errW_none, errW_some]; exact (show ∀ L_ : List UInt8, L_.isEmpty = !(L_ != []) from fun L_ => by cases L_ <;> rfl) _) | (simp [errW_none, errW_some] <;> rfl) | (simp [*, errW_none, errW_some] <;> rfl), g4q⟩
end Go.Proofs.YteedjhoffjkhmaaDoor.PT
