import Derived.Test.YteedjhoffjkhmaaDoorPTx0
import Derived.Test.YteedjhoffjkhmaaDoorPTx1
import Derived.Test.YteedjhoffjkhmaaDoorPTx3
import Derived.Test.YteedjhoffjkhmaaDoorPTx6
import Derived.Test.YteedjhoffjkhmaaDoorPTx10
import Derived.Test.YteedjhoffjkhmaaDoorPTx17
namespace Go.Proofs.YteedjhoffjkhmaaDoor.PT
open Go.RowKit Go.Proofs.YteedjhoffjkhmaaDoorW.PrintWords Go.Proofs.YteedjhoffjkhmaaDoorW.PrintLast Go.Proofs.YteedjhoffjkhmaaDoorW.PrintMore
attribute [local go_sem] max2_int min2_int max_two min_two max_three min_three max_four min_four
set_option linter.unusedVariables false
set_option linter.unusedSimpArgs false
attribute [local go_sem high] eqA25
mutual
def latchkeylaw05_TokensBegins.l0 : Nat → ByteArray → ByteArray → List (S37) → Int → Int → Int → Int → Int → Int → Option (Bool)
  | 0, _, _, _, _, _, _, _, _, _ => none
  | k + 1, x0, x1, x5, x7, x8, x9, x579000, x579001, x579002 => if x7 < (x0.size : Int) then (if x8 < x579001 then (latchkeylaw05_TokensBegins.j1 k x0 x1 x5 x7 x8 x9 true x579000 x579001 x579002) else (if x8 = x579001 then (latchkeylaw05_TokensBegins.j1 k x0 x1 x5 x7 x8 x9 (decide (x9 < x579002)) x579000 x579001 x579002) else (latchkeylaw05_TokensBegins.j1 k x0 x1 x5 x7 x8 x9 false x579000 x579001 x579002))) else (latchkeylaw05_TokensBegins.j1 k x0 x1 x5 x7 x8 x9 false x579000 x579001 x579002)
def latchkeylaw05_TokensBegins.j1 : Nat → ByteArray → ByteArray → List (S37) → Int → Int → Int → Bool → Int → Int → Int → Option (Bool)
  | 0, _, _, _, _, _, _, _, _, _, _ => none
  | k + 1, x0, x1, x5, x7, x8, x9, x63, x579000, x579001, x579002 => if x63 = true then (if 0 ≤ x7 then (if x7 < (x0.size : Int) then (if (bt x0 x7) = 10 then (latchkeylaw05_TokensBegins.l0 k x0 x1 x5 (wrap64 (x7 + 1)) (wrap64 (x8 + 1)) 1 x579000 x579001 x579002) else (latchkeylaw05_TokensBegins.l0 k x0 x1 x5 (wrap64 (x7 + 1)) x8 (wrap64 (x9 + 1)) x579000 x579001 x579002)) else (none)) else (none)) else (if x579000 = 50 then (if x8 = x579001 then (if x9 = x579002 then (latchkeylaw05_TokensBegins.j2 k x0 x1 x7 ((x5.length : Int) != 0) x579000 x579001 x579002) else (latchkeylaw05_TokensBegins.j2 k x0 x1 x7 true x579000 x579001 x579002)) else (latchkeylaw05_TokensBegins.j2 k x0 x1 x7 true x579000 x579001 x579002)) else (latchkeylaw05_TokensBegins.j2 k x0 x1 x7 true x579000 x579001 x579002))
def latchkeylaw05_TokensBegins.j2 : Nat → ByteArray → ByteArray → Int → Bool → Int → Int → Int → Option (Bool)
  | 0, _, _, _, _, _, _, _ => none
  | k + 1, x0, x1, x7, x93, x579000, x579001, x579002 => if x93 = true then (some false) else (if 0 ≤ x7 then (if x7 ≤ (x0.size : Int) then ((latchkeyref05_Finish.f k (x0.extract 0 (x7 : Int).toNat)).bind fun t579 => (if (x0.extract 0 (x7 : Int).toNat).size + t579.size ≤ 9223372036854775807 then ((tokens_Scan.f k ((x0.extract 0 (x7 : Int).toNat) ++ t579)).bind fun bt580 => (if (((x0.extract 0 (x7 : Int).toNat) ++ t579).size : Int) ≤ 65536 then (if (!(bt580.2.1 == 0) || (!(bt580.2.2.1 == 0) || (!(bt580.2.2.2 == 0)))) = true then (latchkeylaw05_TokensBegins.j3 k x0 x1 x7 true x579000 x579001 x579002) else (latchkeylaw05_TokensBegins.j3 k x0 x1 x7 ((bt580.1.length : Int) == 0) x579000 x579001 x579002)) else (latchkeylaw05_TokensBegins.j3 k x0 x1 x7 false x579000 x579001 x579002))) else (none))) else (none)) else (none))
def latchkeylaw05_TokensBegins.j3 : Nat → ByteArray → ByteArray → Int → Bool → Int → Int → Int → Option (Bool)
  | 0, _, _, _, _, _, _, _ => none
  | k + 1, x0, x1, x7, x119, x579000, x579001, x579002 => if x119 = true then (some false) else (if x7 = (x0.size : Int) then (some true) else (if (wrap64 ((wrap64 (x7 + 1)) + (x1.size : Int))) > 65536 then (some true) else (if 0 ≤ (wrap64 (x7 + 1)) then (if (wrap64 (x7 + 1)) ≤ (x0.size : Int) then (if (x0.extract 0 ((wrap64 (x7 + 1)) : Int).toNat).size + x1.size ≤ 9223372036854775807 then ((tokens_Scan.f k ((x0.extract 0 ((wrap64 (x7 + 1)) : Int).toNat) ++ x1)).bind fun bt587 => (if (bt587.1.length : Int) = 0 then (some (bt587.2.1 == x579000 && (bt587.2.2.1 == x579001 && (bt587.2.2.2 == x579002)))) else (some false))) else (none)) else (none)) else (none))))
end
def latchkeylaw05_TokensBegins.f (k : Nat) (a0 : ByteArray) (a1 : ByteArray) : Option (Bool) := (latchkeylaw05_awake.f k).bind fun t571 => (if t571 = true then ((tokens_Scan.f k a0).bind fun bt572 => (if bt572.2.1 = 0 then (if (bt572.1.length : Int) > 0 then (some (bt572.2.1 == 0 && (bt572.2.2.1 == 0 && (bt572.2.2.2 == 0)))) else (some false)) else (if (a0.size : Int) > 65536 then (if (bt572.2.1 == 3 && (bt572.2.2.1 == 0 && (bt572.2.2.2 == 0))) = true then (some ((bt572.1.length : Int) == 0)) else (some false)) else (latchkeylaw05_TokensBegins.l0 k a0 a1 bt572.1 0 1 1 bt572.2.1 bt572.2.2.1 bt572.2.2.2)))) else (some false))
def latchkeylaw05_TokensBegins.T18 : Bool × List (List Nat × List Nat) := (true, [([], []), ([], []), ([0, 1], [0, 1]), ([], []), ([], []), ([3, 4], [3, 4]), ([5], [5]), ([2, 6], [2, 6]), ([7, 6, 0, 1, 2, 3, 4, 5, 6, 7], [7])])
def latchkeylaw05_TokensBegins.B18 : List Nat := [0, 0, 3, 0, 0, 24, 56, 127, 255]
theorem latchkeylaw05_TokensBegins.tab18 : rtab .any (opsOf Tryd.f8 18) = latchkeylaw05_TokensBegins.T18 := by kernel_rfl
theorem latchkeylaw05_TokensBegins.bits18 : waitsOk latchkeylaw05_TokensBegins.T18.2 latchkeylaw05_TokensBegins.B18 = true := by kernel_rfl
set_option maxHeartbeats 8000000 in
set_option maxRecDepth 100000 in
theorem latchkeylaw05_TokensBegins.calls (k : Nat) (a0 : ByteArray) (a1 : ByteArray) (r : Bool) (w : World) (h : latchkeylaw05_TokensBegins.f k a0 a1 = some r) (hT : VT w) :
    Calls Tryd.prog 8 #[.string a0, .string a1] w fun e w' => e = .returned (.bool r) ∧ Below w.heap.size w w' := by
  have hu25 := Tryd.underlying25
  have HB := Aside0.mk (Below.refl w.heap.size w)
  have H : ((latchkeylaw05_awake.f k).bind fun t571 => (if t571 = true then ((tokens_Scan.f k a0).bind fun bt572 => (if bt572.2.1 = 0 then (if (bt572.1.length : Int) > 0 then (some (bt572.2.1 == 0 && (bt572.2.2.1 == 0 && (bt572.2.2.2 == 0)))) else (some false)) else (if (a0.size : Int) > 65536 then (if (bt572.2.1 == 3 && (bt572.2.2.1 == 0 && (bt572.2.2.2 == 0))) = true then (some ((bt572.1.length : Int) == 0)) else (some false)) else (latchkeylaw05_TokensBegins.l0 k a0 a1 bt572.1 0 1 1 bt572.2.1 bt572.2.2.1 bt572.2.2.2)))) else (some false))) = some r := h
  clear h
  replace H := Option.bind_eq_some_iff.mp H
  obtain ⟨t571, A30, H⟩ := H
  replace H : (if t571 = true then ((tokens_Scan.f k a0).bind fun bt572 => (if bt572.2.1 = 0 then (if (bt572.1.length : Int) > 0 then (some (bt572.2.1 == 0 && (bt572.2.2.1 == 0 && (bt572.2.2.2 == 0)))) else (some false)) else (if (a0.size : Int) > 65536 then (if (bt572.2.1 == 3 && (bt572.2.2.1 == 0 && (bt572.2.2.2 == 0))) = true then (some ((bt572.1.length : Int) == 0)) else (some false)) else (latchkeylaw05_TokensBegins.l0 k a0 a1 bt572.1 0 1 1 bt572.2.1 bt572.2.2.1 bt572.2.2.2)))) else (some false)) = some r := H
  have A3 := Aside0.mk A30
  clear A30
  by_cases c4 : t571 = true
  · subst c4
    have H1 : ((tokens_Scan.f k a0).bind fun bt572 => (if bt572.2.1 = 0 then (if (bt572.1.length : Int) > 0 then (some (bt572.2.1 == 0 && (bt572.2.2.1 == 0 && (bt572.2.2.2 == 0)))) else (some false)) else (if (a0.size : Int) > 65536 then (if (bt572.2.1 == 3 && (bt572.2.2.1 == 0 && (bt572.2.2.2 == 0))) = true then (some ((bt572.1.length : Int) == 0)) else (some false)) else (latchkeylaw05_TokensBegins.l0 k a0 a1 bt572.1 0 1 1 bt572.2.1 bt572.2.2.1 bt572.2.2.2)))) = some r := by rw [if_pos rfl] at H; exact H
    clear H
    have H := H1
    clear H1
    replace H := Option.bind_eq_some_iff.mp H
    obtain ⟨⟨t572, t575, t576, t577⟩, A50, H⟩ := H
    replace H : (if t575 = 0 then (if (t572.length : Int) > 0 then (some (t575 == 0 && (t576 == 0 && (t577 == 0)))) else (some false)) else (if (a0.size : Int) > 65536 then (if (t575 == 3 && (t576 == 0 && (t577 == 0))) = true then (some ((t572.length : Int) == 0)) else (some false)) else (latchkeylaw05_TokensBegins.l0 k a0 a1 t572 0 1 1 t575 t576 t577))) = some r := H
    have A5 := Aside0.mk A50
    clear A50
    by_cases c6 : t575 = 0
    · rw [if_pos c6] at H
      have c6b0 : (t575 == 0) = true := beq_iff_eq.mpr c6
      have c6b1 : (t575 != 0) = false := bne_eq_false_iff_eq.mpr c6
      clear c6
      by_cases c7 : (t572.length : Int) > 0
      · rw [if_pos c7] at H
        have c7b0 : decide (0 < (t572.length : Int)) = true := decide_eq_true c7
        have c7b1 : decide (0 < t572.length) = true := decide_eq_true (by omega)
        clear c7
        obtain rfl := Option.some.inj H
        go_enter Tryd.func8, Tryd.ntmps8
        go_wp2_with (first | ((with_reducible refine gate_callee (f := 13) rfl ?_); refine goesL_ (some 13) rfl rfl Tryd.func13 (by kernel_rfl) rfl #[] rfl (by (try simp only [List.map_toArray, List.map_cons, List.map_nil]); first | done | rfl | (simp only [List.length_drop, List.length_take]; rfl)) ?_; (with_reducible refine (latchkeylaw05_awake.calls k  true _ A3.out (by first | exact hT | exact hT.on (by assumption) | exact hT.on (by first | exact HB.out | exact Below.refl _ _ | (repeat (first | (with_reducible first | exact HB.out | apply below_alloc | apply pw_below_drewN | apply below_drew1 | refine below_set ?_ (Aside0.out (by assumption))) | exact HB.out))))).mono ?_); rintro e w8 ⟨rfl, hb⟩; refine ⟨_, rfl, ?_⟩; have n0_ := Aside0.mk (below_step (by repeat (first | (with_reducible first | exact HB.out | apply below_alloc | apply pw_below_drewN | apply below_drew1) | exact HB.out)) hb); clear HB; have HB := n0_; clear n0_; (try clear hb); (try clear hb2); (try clear hk); (try clear hi)) | ((with_reducible refine gate_callee (f := 10) rfl ?_); refine goesL_ (some 17) rfl rfl Tryd.func10 (by kernel_rfl) rfl #[.string a0] rfl (by (try simp only [List.map_toArray, List.map_cons, List.map_nil]); first | done | rfl | (simp only [List.length_drop, List.length_take]; rfl)) ?_; (with_reducible refine (tokens_Scan.calls k a0 t572 t575 t576 t577 _ A5.out (by first | exact hT | exact hT.on (by assumption) | exact hT.on (by first | exact HB.out | exact Below.refl _ _ | (repeat (first | (with_reducible first | exact HB.out | apply below_alloc | apply pw_below_drewN | apply below_drew1 | refine below_set ?_ (Aside0.out (by assumption))) | exact HB.out))))).mono ?_); rintro e w9 ⟨v573, rfl, ho0, hb⟩; refine ⟨_, rfl, ?_⟩; have n0_ := Aside0.mk (Kd.R_lower ho0 (below_size (by repeat (first | (with_reducible first | exact HB.out | apply below_alloc | apply pw_below_drewN | apply below_drew1) | exact HB.out)))); have n1_ := Aside0.mk (below_step (by repeat (first | (with_reducible first | exact HB.out | apply below_alloc | apply pw_below_drewN | apply below_drew1) | exact HB.out)) hb); clear HB; have HO574 := n0_; have HB := n1_; clear n0_ n1_; (try clear hb); (try clear hb2); (try clear hk); (try clear hi); (try clear ho0)) | ((with_reducible refine gate_dst (N := 6) rfl ?_); (try (refine gate_guard (by rfl) ?_; dsimp only)); refine box_event ?hg (N := 6) ?hd (cs := #[.int .i64 0, .int .i64 0, .int .i64 0]) (t := 25) ?hr ?_; (case hd => rfl); (case hg => rfl); (case hr => first | (go_simp; done) | (go_simp; rfl)); intro gb578 hg w10 hbox hb; have n0_ := Aside0.mk (Kd.R_below (by (with_reducible repeat (first | apply Kd.R_alloc | apply Kd.R_drewN | apply Kd.R_drew)); exact HO574.out) hb); have n1_ := Aside0.mk (below_step (by repeat (first | (with_reducible first | exact HB.out | apply below_alloc | apply pw_below_drewN | apply below_drew1) | exact HB.out)) hb); have n2_ := Aside0.mk (hbox); have n3_ := Aside0.mk ((by rw [hg]; exact (below_size (by repeat (first | (with_reducible first | exact HB.out | apply below_alloc | apply pw_below_drewN | apply below_drew1) | exact HB.out))) : w.heap.size ≤ gb578)); have n4_ := Aside0.mk ((by rw [hg]; exact (below_size (by repeat (first | (with_reducible first | exact HB.out | apply below_alloc | apply pw_below_drewN | apply below_drew1) | exact HB.out))) : w.heap.size ≤ gb578)); clear HO574; clear HB; have HO574 := n0_; have HB := n1_; have BK578 := n2_; have GW578 := n3_; have GE578 := n4_; clear n0_ n1_ n2_ n3_ n4_; clear hb hbox hg; have hcz11_0 : w10.cell? ⟨gb578, 0, none⟩ = some (.int .i64 0) := (blk_cell BK578.out 0).trans rfl; have hcz11_1 : w10.cell? ⟨gb578, 1, none⟩ = some (.int .i64 0) := (blk_cell BK578.out 1).trans rfl; have hcz11_2 : w10.cell? ⟨gb578, 2, none⟩ = some (.int .i64 0) := (blk_cell BK578.out 2).trans rfl; have hfz11_0 := blk_frozen BK578.out 0; have hfz11_1 := blk_frozen BK578.out 1; have hfz11_2 := blk_frozen BK578.out 2; obtain ⟨Ao12, co12, eo12⟩ := Kd.R_slice HO574.out; subst eo12))
        go_ret
        exact ⟨by first | rfl | (simp [errW_none, errW_some] <;> rfl) | (simp [*, errW_none, errW_some] <;> rfl), by repeat (first | (with_reducible first | exact HB.out | apply below_alloc | apply pw_below_drewN | apply below_drew1 | refine below_set ?_ GE578.out) | exact HB.out)⟩
      · rw [if_neg c7] at H
        have c7b0 : decide (0 < (t572.length : Int)) = false := decide_eq_false c7
        have c7b1 : decide (0 < t572.length) = false := decide_eq_false (by omega)
        clear c7
        obtain rfl := Option.some.inj H
        go_enter Tryd.func8, Tryd.ntmps8
        go_wp2_with (first | ((with_reducible refine gate_callee (f := 13) rfl ?_); refine goesL_ (some 13) rfl rfl Tryd.func13 (by kernel_rfl) rfl #[] rfl (by (try simp only [List.map_toArray, List.map_cons, List.map_nil]); first | done | rfl | (simp only [List.length_drop, List.length_take]; rfl)) ?_; (with_reducible refine (latchkeylaw05_awake.calls k  true _ A3.out (by first | exact hT | exact hT.on (by assumption) | exact hT.on (by first | exact HB.out | exact Below.refl _ _ | (repeat (first | (with_reducible first | exact HB.out | apply below_alloc | apply pw_below_drewN | apply below_drew1 | refine below_set ?_ (Aside0.out (by assumption))) | exact HB.out))))).mono ?_); rintro e w13 ⟨rfl, hb⟩; refine ⟨_, rfl, ?_⟩; have n0_ := Aside0.mk (below_step (by repeat (first | (with_reducible first | exact HB.out | apply below_alloc | apply pw_below_drewN | apply below_drew1) | exact HB.out)) hb); clear HB; have HB := n0_; clear n0_; (try clear hb); (try clear hb2); (try clear hk); (try clear hi)) | ((with_reducible refine gate_callee (f := 10) rfl ?_); refine goesL_ (some 17) rfl rfl Tryd.func10 (by kernel_rfl) rfl #[.string a0] rfl (by (try simp only [List.map_toArray, List.map_cons, List.map_nil]); first | done | rfl | (simp only [List.length_drop, List.length_take]; rfl)) ?_; (with_reducible refine (tokens_Scan.calls k a0 t572 t575 t576 t577 _ A5.out (by first | exact hT | exact hT.on (by assumption) | exact hT.on (by first | exact HB.out | exact Below.refl _ _ | (repeat (first | (with_reducible first | exact HB.out | apply below_alloc | apply pw_below_drewN | apply below_drew1 | refine below_set ?_ (Aside0.out (by assumption))) | exact HB.out))))).mono ?_); rintro e w14 ⟨v573, rfl, ho0, hb⟩; refine ⟨_, rfl, ?_⟩; have n0_ := Aside0.mk (Kd.R_lower ho0 (below_size (by repeat (first | (with_reducible first | exact HB.out | apply below_alloc | apply pw_below_drewN | apply below_drew1) | exact HB.out)))); have n1_ := Aside0.mk (below_step (by repeat (first | (with_reducible first | exact HB.out | apply below_alloc | apply pw_below_drewN | apply below_drew1) | exact HB.out)) hb); clear HB; have HO574 := n0_; have HB := n1_; clear n0_ n1_; (try clear hb); (try clear hb2); (try clear hk); (try clear hi); (try clear ho0)) | ((with_reducible refine gate_dst (N := 6) rfl ?_); (try (refine gate_guard (by rfl) ?_; dsimp only)); refine box_event ?hg (N := 6) ?hd (cs := #[.int .i64 0, .int .i64 0, .int .i64 0]) (t := 25) ?hr ?_; (case hd => rfl); (case hg => rfl); (case hr => first | (go_simp; done) | (go_simp; rfl)); intro gb578 hg w15 hbox hb; have n0_ := Aside0.mk (Kd.R_below (by (with_reducible repeat (first | apply Kd.R_alloc | apply Kd.R_drewN | apply Kd.R_drew)); exact HO574.out) hb); have n1_ := Aside0.mk (below_step (by repeat (first | (with_reducible first | exact HB.out | apply below_alloc | apply pw_below_drewN | apply below_drew1) | exact HB.out)) hb); have n2_ := Aside0.mk (hbox); have n3_ := Aside0.mk ((by rw [hg]; exact (below_size (by repeat (first | (with_reducible first | exact HB.out | apply below_alloc | apply pw_below_drewN | apply below_drew1) | exact HB.out))) : w.heap.size ≤ gb578)); have n4_ := Aside0.mk ((by rw [hg]; exact (below_size (by repeat (first | (with_reducible first | exact HB.out | apply below_alloc | apply pw_below_drewN | apply below_drew1) | exact HB.out))) : w.heap.size ≤ gb578)); clear HO574; clear HB; have HO574 := n0_; have HB := n1_; have BK578 := n2_; have GW578 := n3_; have GE578 := n4_; clear n0_ n1_ n2_ n3_ n4_; clear hb hbox hg; have hcz16_0 : w15.cell? ⟨gb578, 0, none⟩ = some (.int .i64 0) := (blk_cell BK578.out 0).trans rfl; have hcz16_1 : w15.cell? ⟨gb578, 1, none⟩ = some (.int .i64 0) := (blk_cell BK578.out 1).trans rfl; have hcz16_2 : w15.cell? ⟨gb578, 2, none⟩ = some (.int .i64 0) := (blk_cell BK578.out 2).trans rfl; have hfz16_0 := blk_frozen BK578.out 0; have hfz16_1 := blk_frozen BK578.out 1; have hfz16_2 := blk_frozen BK578.out 2; obtain ⟨Ao17, co17, eo17⟩ := Kd.R_slice HO574.out; subst eo17))
        go_ret
        exact ⟨by first | rfl | (simp [errW_none, errW_some] <;> rfl) | (simp [*, errW_none, errW_some] <;> rfl), by repeat (first | (with_reducible first | exact HB.out | apply below_alloc | apply pw_below_drewN | apply below_drew1 | refine below_set ?_ GE578.out) | exact HB.out)⟩
    · rw [if_neg c6] at H
      have c6b0 : (t575 == 0) = false := beq_eq_false_iff_ne.mpr c6
      have c6b1 : (t575 != 0) = true := bne_iff_ne.mpr c6
      by_cases c18 : (a0.size : Int) > 65536
      · rw [if_pos c18] at H
        have c18b0 : decide (65536 < (a0.size : Int)) = true := decide_eq_true c18
        have c18b1 : decide (65536 < a0.size) = true := decide_eq_true (by omega)
        clear c18
        by_cases c19 : (t575 == 3 && (t576 == 0 && (t577 == 0))) = true
        · rw [if_pos c19] at H
          have c19b0 : (t575 == 3 && (t576 == 0 && (t577 == 0))) = true := c19
          (try (have c19b1 : decide (t575 = 3 && (t576 == 0 && (t577 == 0))) = true := by simpa using c19))
          (try (have c19b2 : (t575 == 3 && (t576 == 0 && (t577 == 0))) = true := by simpa using c19))
          clear c19
          obtain rfl := Option.some.inj H
          go_enter Tryd.func8, Tryd.ntmps8
          go_wp2_with (first | ((with_reducible refine gate_callee (f := 13) rfl ?_); refine goesL_ (some 13) rfl rfl Tryd.func13 (by kernel_rfl) rfl #[] rfl (by (try simp only [List.map_toArray, List.map_cons, List.map_nil]); first | done | rfl | (simp only [List.length_drop, List.length_take]; rfl)) ?_; (with_reducible refine (latchkeylaw05_awake.calls k  true _ A3.out (by first | exact hT | exact hT.on (by assumption) | exact hT.on (by first | exact HB.out | exact Below.refl _ _ | (repeat (first | (with_reducible first | exact HB.out | apply below_alloc | apply pw_below_drewN | apply below_drew1 | refine below_set ?_ (Aside0.out (by assumption))) | exact HB.out))))).mono ?_); rintro e w20 ⟨rfl, hb⟩; refine ⟨_, rfl, ?_⟩; have n0_ := Aside0.mk (below_step (by repeat (first | (with_reducible first | exact HB.out | apply below_alloc | apply pw_below_drewN | apply below_drew1) | exact HB.out)) hb); clear HB; have HB := n0_; clear n0_; (try clear hb); (try clear hb2); (try clear hk); (try clear hi)) | ((with_reducible refine gate_callee (f := 10) rfl ?_); refine goesL_ (some 17) rfl rfl Tryd.func10 (by kernel_rfl) rfl #[.string a0] rfl (by (try simp only [List.map_toArray, List.map_cons, List.map_nil]); first | done | rfl | (simp only [List.length_drop, List.length_take]; rfl)) ?_; (with_reducible refine (tokens_Scan.calls k a0 t572 t575 t576 t577 _ A5.out (by first | exact hT | exact hT.on (by assumption) | exact hT.on (by first | exact HB.out | exact Below.refl _ _ | (repeat (first | (with_reducible first | exact HB.out | apply below_alloc | apply pw_below_drewN | apply below_drew1 | refine below_set ?_ (Aside0.out (by assumption))) | exact HB.out))))).mono ?_); rintro e w21 ⟨v573, rfl, ho0, hb⟩; refine ⟨_, rfl, ?_⟩; have n0_ := Aside0.mk (Kd.R_lower ho0 (below_size (by repeat (first | (with_reducible first | exact HB.out | apply below_alloc | apply pw_below_drewN | apply below_drew1) | exact HB.out)))); have n1_ := Aside0.mk (below_step (by repeat (first | (with_reducible first | exact HB.out | apply below_alloc | apply pw_below_drewN | apply below_drew1) | exact HB.out)) hb); clear HB; have HO574 := n0_; have HB := n1_; clear n0_ n1_; (try clear hb); (try clear hb2); (try clear hk); (try clear hi); (try clear ho0)) | ((with_reducible refine gate_dst (N := 6) rfl ?_); (try (refine gate_guard (by rfl) ?_; dsimp only)); refine box_event ?hg (N := 6) ?hd (cs := #[.int .i64 0, .int .i64 0, .int .i64 0]) (t := 25) ?hr ?_; (case hd => rfl); (case hg => rfl); (case hr => first | (go_simp; done) | (go_simp; rfl)); intro gb578 hg w22 hbox hb; have n0_ := Aside0.mk (Kd.R_below (by (with_reducible repeat (first | apply Kd.R_alloc | apply Kd.R_drewN | apply Kd.R_drew)); exact HO574.out) hb); have n1_ := Aside0.mk (below_step (by repeat (first | (with_reducible first | exact HB.out | apply below_alloc | apply pw_below_drewN | apply below_drew1) | exact HB.out)) hb); have n2_ := Aside0.mk (hbox); have n3_ := Aside0.mk ((by rw [hg]; exact (below_size (by repeat (first | (with_reducible first | exact HB.out | apply below_alloc | apply pw_below_drewN | apply below_drew1) | exact HB.out))) : w.heap.size ≤ gb578)); have n4_ := Aside0.mk ((by rw [hg]; exact (below_size (by repeat (first | (with_reducible first | exact HB.out | apply below_alloc | apply pw_below_drewN | apply below_drew1) | exact HB.out))) : w.heap.size ≤ gb578)); clear HO574; clear HB; have HO574 := n0_; have HB := n1_; have BK578 := n2_; have GW578 := n3_; have GE578 := n4_; clear n0_ n1_ n2_ n3_ n4_; clear hb hbox hg; have hcz23_0 : w22.cell? ⟨gb578, 0, none⟩ = some (.int .i64 0) := (blk_cell BK578.out 0).trans rfl; have hcz23_1 : w22.cell? ⟨gb578, 1, none⟩ = some (.int .i64 0) := (blk_cell BK578.out 1).trans rfl; have hcz23_2 : w22.cell? ⟨gb578, 2, none⟩ = some (.int .i64 0) := (blk_cell BK578.out 2).trans rfl; have hfz23_0 := blk_frozen BK578.out 0; have hfz23_1 := blk_frozen BK578.out 1; have hfz23_2 := blk_frozen BK578.out 2; obtain ⟨Ao24, co24, eo24⟩ := Kd.R_slice HO574.out; subst eo24))
          go_ret
          exact ⟨by first | rfl | (simp [errW_none, errW_some] <;> rfl) | (simp [*, errW_none, errW_some] <;> rfl), by repeat (first | (with_reducible first | exact HB.out | apply below_alloc | apply pw_below_drewN | apply below_drew1 | refine below_set ?_ GE578.out) | exact HB.out)⟩
        · rw [if_neg c19] at H
          have c19b0 : (t575 == 3 && (t576 == 0 && (t577 == 0))) = false := by simpa using c19
          (try (have c19b1 : decide (t575 = 3 && (t576 == 0 && (t577 == 0))) = false := by simpa using c19))
          (try (have c19b2 : (t575 == 3 && (t576 == 0 && (t577 == 0))) = false := by simpa using c19))
          (try (have c19b3 : ¬ (t575 = 3 && (t576 == 0 && (t577 == 0))) := by simpa using c19))
          clear c19
          obtain rfl := Option.some.inj H
          go_enter Tryd.func8, Tryd.ntmps8
          go_wp2_with (first | ((with_reducible refine gate_callee (f := 13) rfl ?_); refine goesL_ (some 13) rfl rfl Tryd.func13 (by kernel_rfl) rfl #[] rfl (by (try simp only [List.map_toArray, List.map_cons, List.map_nil]); first | done | rfl | (simp only [List.length_drop, List.length_take]; rfl)) ?_; (with_reducible refine (latchkeylaw05_awake.calls k  true _ A3.out (by first | exact hT | exact hT.on (by assumption) | exact hT.on (by first | exact HB.out | exact Below.refl _ _ | (repeat (first | (with_reducible first | exact HB.out | apply below_alloc | apply pw_below_drewN | apply below_drew1 | refine below_set ?_ (Aside0.out (by assumption))) | exact HB.out))))).mono ?_); rintro e w25 ⟨rfl, hb⟩; refine ⟨_, rfl, ?_⟩; have n0_ := Aside0.mk (below_step (by repeat (first | (with_reducible first | exact HB.out | apply below_alloc | apply pw_below_drewN | apply below_drew1) | exact HB.out)) hb); clear HB; have HB := n0_; clear n0_; (try clear hb); (try clear hb2); (try clear hk); (try clear hi)) | ((with_reducible refine gate_callee (f := 10) rfl ?_); refine goesL_ (some 17) rfl rfl Tryd.func10 (by kernel_rfl) rfl #[.string a0] rfl (by (try simp only [List.map_toArray, List.map_cons, List.map_nil]); first | done | rfl | (simp only [List.length_drop, List.length_take]; rfl)) ?_; (with_reducible refine (tokens_Scan.calls k a0 t572 t575 t576 t577 _ A5.out (by first | exact hT | exact hT.on (by assumption) | exact hT.on (by first | exact HB.out | exact Below.refl _ _ | (repeat (first | (with_reducible first | exact HB.out | apply below_alloc | apply pw_below_drewN | apply below_drew1 | refine below_set ?_ (Aside0.out (by assumption))) | exact HB.out))))).mono ?_); rintro e w26 ⟨v573, rfl, ho0, hb⟩; refine ⟨_, rfl, ?_⟩; have n0_ := Aside0.mk (Kd.R_lower ho0 (below_size (by repeat (first | (with_reducible first | exact HB.out | apply below_alloc | apply pw_below_drewN | apply below_drew1) | exact HB.out)))); have n1_ := Aside0.mk (below_step (by repeat (first | (with_reducible first | exact HB.out | apply below_alloc | apply pw_below_drewN | apply below_drew1) | exact HB.out)) hb); clear HB; have HO574 := n0_; have HB := n1_; clear n0_ n1_; (try clear hb); (try clear hb2); (try clear hk); (try clear hi); (try clear ho0)) | ((with_reducible refine gate_dst (N := 6) rfl ?_); (try (refine gate_guard (by rfl) ?_; dsimp only)); refine box_event ?hg (N := 6) ?hd (cs := #[.int .i64 0, .int .i64 0, .int .i64 0]) (t := 25) ?hr ?_; (case hd => rfl); (case hg => rfl); (case hr => first | (go_simp; done) | (go_simp; rfl)); intro gb578 hg w27 hbox hb; have n0_ := Aside0.mk (Kd.R_below (by (with_reducible repeat (first | apply Kd.R_alloc | apply Kd.R_drewN | apply Kd.R_drew)); exact HO574.out) hb); have n1_ := Aside0.mk (below_step (by repeat (first | (with_reducible first | exact HB.out | apply below_alloc | apply pw_below_drewN | apply below_drew1) | exact HB.out)) hb); have n2_ := Aside0.mk (hbox); have n3_ := Aside0.mk ((by rw [hg]; exact (below_size (by repeat (first | (with_reducible first | exact HB.out | apply below_alloc | apply pw_below_drewN | apply below_drew1) | exact HB.out))) : w.heap.size ≤ gb578)); have n4_ := Aside0.mk ((by rw [hg]; exact (below_size (by repeat (first | (with_reducible first | exact HB.out | apply below_alloc | apply pw_below_drewN | apply below_drew1) | exact HB.out))) : w.heap.size ≤ gb578)); clear HO574; clear HB; have HO574 := n0_; have HB := n1_; have BK578 := n2_; have GW578 := n3_; have GE578 := n4_; clear n0_ n1_ n2_ n3_ n4_; clear hb hbox hg; have hcz28_0 : w27.cell? ⟨gb578, 0, none⟩ = some (.int .i64 0) := (blk_cell BK578.out 0).trans rfl; have hcz28_1 : w27.cell? ⟨gb578, 1, none⟩ = some (.int .i64 0) := (blk_cell BK578.out 1).trans rfl; have hcz28_2 : w27.cell? ⟨gb578, 2, none⟩ = some (.int .i64 0) := (blk_cell BK578.out 2).trans rfl; have hfz28_0 := blk_frozen BK578.out 0; have hfz28_1 := blk_frozen BK578.out 1; have hfz28_2 := blk_frozen BK578.out 2))
          go_ret
          exact ⟨by first | rfl | (simp [errW_none, errW_some] <;> rfl) | (simp [*, errW_none, errW_some] <;> rfl), by repeat (first | (with_reducible first | exact HB.out | apply below_alloc | apply pw_below_drewN | apply below_drew1 | refine below_set ?_ GE578.out) | exact HB.out)⟩
      · rw [if_neg c18] at H
        have c18b0 : decide (65536 < (a0.size : Int)) = false := decide_eq_false c18
        have c18b1 : decide (65536 < a0.size) = false := decide_eq_false (by omega)
        clear c18
        have H' := Aside0.mk H
        clear H
        go_enter Tryd.func8, Tryd.ntmps8
        go_wp2_with (first | ((with_reducible refine gate_callee (f := 13) rfl ?_); refine goesL_ (some 13) rfl rfl Tryd.func13 (by kernel_rfl) rfl #[] rfl (by (try simp only [List.map_toArray, List.map_cons, List.map_nil]); first | done | rfl | (simp only [List.length_drop, List.length_take]; rfl)) ?_; (with_reducible refine (latchkeylaw05_awake.calls k  true _ A3.out (by first | exact hT | exact hT.on (by assumption) | exact hT.on (by first | exact HB.out | exact Below.refl _ _ | (repeat (first | (with_reducible first | exact HB.out | apply below_alloc | apply pw_below_drewN | apply below_drew1 | refine below_set ?_ (Aside0.out (by assumption))) | exact HB.out))))).mono ?_); rintro e w29 ⟨rfl, hb⟩; refine ⟨_, rfl, ?_⟩; have n0_ := Aside0.mk (below_step (by repeat (first | (with_reducible first | exact HB.out | apply below_alloc | apply pw_below_drewN | apply below_drew1) | exact HB.out)) hb); clear HB; have HB := n0_; clear n0_; (try clear hb); (try clear hb2); (try clear hk); (try clear hi)) | ((with_reducible refine gate_callee (f := 10) rfl ?_); refine goesL_ (some 17) rfl rfl Tryd.func10 (by kernel_rfl) rfl #[.string a0] rfl (by (try simp only [List.map_toArray, List.map_cons, List.map_nil]); first | done | rfl | (simp only [List.length_drop, List.length_take]; rfl)) ?_; (with_reducible refine (tokens_Scan.calls k a0 t572 t575 t576 t577 _ A5.out (by first | exact hT | exact hT.on (by assumption) | exact hT.on (by first | exact HB.out | exact Below.refl _ _ | (repeat (first | (with_reducible first | exact HB.out | apply below_alloc | apply pw_below_drewN | apply below_drew1 | refine below_set ?_ (Aside0.out (by assumption))) | exact HB.out))))).mono ?_); rintro e w30 ⟨v573, rfl, ho0, hb⟩; refine ⟨_, rfl, ?_⟩; have n0_ := Aside0.mk (Kd.R_lower ho0 (below_size (by repeat (first | (with_reducible first | exact HB.out | apply below_alloc | apply pw_below_drewN | apply below_drew1) | exact HB.out)))); have n1_ := Aside0.mk (below_step (by repeat (first | (with_reducible first | exact HB.out | apply below_alloc | apply pw_below_drewN | apply below_drew1) | exact HB.out)) hb); clear HB; have HO574 := n0_; have HB := n1_; clear n0_ n1_; (try clear hb); (try clear hb2); (try clear hk); (try clear hi); (try clear ho0)) | ((with_reducible refine gate_dst (N := 6) rfl ?_); (try (refine gate_guard (by rfl) ?_; dsimp only)); refine box_event ?hg (N := 6) ?hd (cs := #[.int .i64 0, .int .i64 0, .int .i64 0]) (t := 25) ?hr ?_; (case hd => rfl); (case hg => rfl); (case hr => first | (go_simp; done) | (go_simp; rfl)); intro gb578 hg w31 hbox hb; have n0_ := Aside0.mk (Kd.R_below (by (with_reducible repeat (first | apply Kd.R_alloc | apply Kd.R_drewN | apply Kd.R_drew)); exact HO574.out) hb); have n1_ := Aside0.mk (below_step (by repeat (first | (with_reducible first | exact HB.out | apply below_alloc | apply pw_below_drewN | apply below_drew1) | exact HB.out)) hb); have n2_ := Aside0.mk (hbox); have n3_ := Aside0.mk ((by rw [hg]; exact (below_size (by repeat (first | (with_reducible first | exact HB.out | apply below_alloc | apply pw_below_drewN | apply below_drew1) | exact HB.out))) : w.heap.size ≤ gb578)); have n4_ := Aside0.mk ((by rw [hg]; exact (below_size (by repeat (first | (with_reducible first | exact HB.out | apply below_alloc | apply pw_below_drewN | apply below_drew1) | exact HB.out))) : w.heap.size ≤ gb578)); clear HO574; clear HB; have HO574 := n0_; have HB := n1_; have BK578 := n2_; have GW578 := n3_; have GE578 := n4_; clear n0_ n1_ n2_ n3_ n4_; clear hb hbox hg; have hcz32_0 : w31.cell? ⟨gb578, 0, none⟩ = some (.int .i64 0) := (blk_cell BK578.out 0).trans rfl; have hcz32_1 : w31.cell? ⟨gb578, 1, none⟩ = some (.int .i64 0) := (blk_cell BK578.out 1).trans rfl; have hcz32_2 : w31.cell? ⟨gb578, 2, none⟩ = some (.int .i64 0) := (blk_cell BK578.out 2).trans rfl; have hfz32_0 := blk_frozen BK578.out 0; have hfz32_1 := blk_frozen BK578.out 1; have hfz32_2 := blk_frozen BK578.out 2))
        go_loopg [7, 8, 9] k (fun kq v7 v8 v9 w' => ∃ (x7_1 : Int) (x8_1 : Int) (x9_1 : Int), v7 = .int .i64 x7_1 ∧ v8 = .int .i64 x8_1 ∧ v9 = .int .i64 x9_1 ∧ Aside0 (latchkeylaw05_TokensBegins.l0 kq a0 a1 t572 x7_1 x8_1 x9_1 t575 t576 t577 = some r) ∧ Aside0 (kq ≤ k) ∧ Aside0 (Kd.R k37 37 w' w.heap.size (fun _ => True) v573 t572) ∧ Aside0 (w'.heap[gb578]? = some (.cells #[.int .i64 t575, .int .i64 t576, .int .i64 t577] 25 (0, 0))) ∧ Aside0 (Below w.heap.size w w'))
        case atStart => exact ⟨(0), (1), (1), (by first | rfl | (simp; done) | (simp [*]; done)), (by first | rfl | (simp; done) | (simp [*]; done)), (by first | rfl | (simp; done) | (simp [*]; done)), H', ⟨Nat.le_refl _⟩, ⟨by (with_reducible repeat (first | apply Kd.R_alloc | apply Kd.R_drewN | apply Kd.R_drew)); exact Kd.R_mono (Kd.R_far (p := ⟨gb578, 2, none⟩) (Kd.R_far (p := ⟨gb578, 1, none⟩) (Kd.R_far (p := ⟨gb578, 0, none⟩) (Kd.R_types HO574.out BK578.out (by decide)) (fun _ hk => hk.2) (.int .i64 t575)) (fun _ hk => hk.2) (.int .i64 t576)) (fun _ hk => hk.2) (.int .i64 t577)) (fun _ hk => trivial)⟩, ⟨by (with_reducible repeat (first | refine blk_drewN ?_ _ | refine blk_drew ?_ | refine blk_alloc ?_ _)); refine blk_put (cs := #[.int .i64 t575, .int .i64 t576, .int .i64 0]) ?_ 2 _ rfl; (with_reducible repeat (first | refine blk_drewN ?_ _ | refine blk_drew ?_ | refine blk_alloc ?_ _)); refine blk_put (cs := #[.int .i64 t575, .int .i64 0, .int .i64 0]) ?_ 1 _ rfl; (with_reducible repeat (first | refine blk_drewN ?_ _ | refine blk_drew ?_ | refine blk_alloc ?_ _)); refine blk_put (cs := #[.int .i64 0, .int .i64 0, .int .i64 0]) ?_ 0 _ rfl; (with_reducible repeat (first | refine blk_drewN ?_ _ | refine blk_drew ?_ | refine blk_alloc ?_ _)); exact BK578.out⟩, ⟨by repeat (first | (with_reducible first | exact HB.out | apply below_alloc | apply pw_below_drewN | apply below_drew1 | refine below_set ?_ GE578.out) | exact HB.out)⟩⟩
        case round =>
          clear H'
          try clear c1
          try clear p2
          try clear c4
          try clear c6
          try clear c6b0
          try clear c6b1
          try clear c7
          try clear c7b0
          try clear c7b1
          try clear c8
          try clear c10
          try clear c13
          try clear c18
          try clear c18b0
          try clear c18b1
          try clear c19
          try clear c19b0
          try clear c19b1
          try clear c19b2
          try clear hcz11_0
          try clear hcz11_1
          try clear hcz11_2
          try clear hcz16_0
          try clear hcz16_1
          try clear hcz16_2
          try clear hcz23_0
          try clear hcz23_1
          try clear hcz23_2
          try clear hcz28_0
          try clear hcz28_1
          try clear hcz28_2
          try clear hcz32_0
          try clear hcz32_1
          try clear hcz32_2
          try clear hfz11_0
          try clear hfz11_1
          try clear hfz11_2
          try clear hfz16_0
          try clear hfz16_1
          try clear hfz16_2
          try clear hfz23_0
          try clear hfz23_1
          try clear hfz23_2
          try clear hfz28_0
          try clear hfz28_1
          try clear hfz28_2
          try clear hfz32_0
          try clear hfz32_1
          try clear hfz32_2
          obtain ⟨x7_1, x8_1, x9_1, rfl, rfl, rfl, HA, HK1, HO_5, BK578, HB⟩ := hrel
          cases gk with
          | zero => exact absurd HA.out (by simp [latchkeylaw05_TokensBegins.l0])
          | succ k1 =>
            have H := HA.out
            clear HA
            simp only [latchkeylaw05_TokensBegins.l0] at H
            have HC33 := Aside0.mk H
            clear H
            go_upto_region 10 with (fail)
            go_cut [63] (fun v63 wc => ∃ (kq : Nat) (x63_32 : Bool), v63 = .bool x63_32 ∧ Aside0 (latchkeylaw05_TokensBegins.j1 kq a0 a1 t572 x7_1 x8_1 x9_1 x63_32 t575 t576 t577 = some r) ∧ Aside0 (kq ≤ k1) ∧ Aside0 (Kd.R k37 37 wc w.heap.size (fun _ => True) v573 t572) ∧ Aside0 (wc.heap[gb578]? = some (.cells #[.int .i64 t575, .int .i64 t576, .int .i64 t577] 25 (0, 0))) ∧ Aside0 (Below w.heap.size w wc))
            case first =>
              have H := HC33.out
              clear HC33
              by_cases c34 : x7_1 < (a0.size : Int)
              · rw [if_pos c34] at H
                have c34b0 : decide (x7_1 < (a0.size : Int)) = true := decide_eq_true c34
                clear c34
                (first | rw [c34b0] | (simp only [i64_w, i32_w]; rw [c34b0]) | skip)
                by_cases c35 : x8_1 < t576
                · rw [if_pos c35] at H
                  have c35b0 : decide (x8_1 < t576) = true := decide_eq_true c35
                  clear c35
                  have H' := Aside0.mk H
                  clear H
                  have hcz36_0 : wr.cell? ⟨gb578, 0, none⟩ = some (.int .i64 t575) := (blk_cell BK578.out 0).trans rfl
                  have hcz36_1 : wr.cell? ⟨gb578, 1, none⟩ = some (.int .i64 t576) := (blk_cell BK578.out 1).trans rfl
                  have hcz36_2 : wr.cell? ⟨gb578, 2, none⟩ = some (.int .i64 t577) := (blk_cell BK578.out 2).trans rfl
                  have hfz36_0 := blk_frozen BK578.out 0
                  have hfz36_1 := blk_frozen BK578.out 1
                  have hfz36_2 := blk_frozen BK578.out 2
                  go_wp2
                  go_meet
                  case rel => exact ⟨_, (true), (by first | rfl | (simp; done) | (simp [*]; done)), H', ⟨by have := HK1.out; first | omega | exact Nat.le_refl _⟩, ⟨by (with_reducible repeat (first | apply Kd.R_alloc | apply Kd.R_drewN | apply Kd.R_drew)); exact HO_5.out⟩, ⟨by (with_reducible repeat (first | refine blk_drewN ?_ _ | refine blk_drew ?_ | refine blk_alloc ?_ _)); exact BK578.out⟩, ⟨by repeat (first | (with_reducible first | exact HB.out | apply below_alloc | apply pw_below_drewN | apply below_drew1 | refine below_set ?_ GE578.out) | exact HB.out)⟩⟩
                · rw [if_neg c35] at H
                  have c35b0 : decide (x8_1 < t576) = false := decide_eq_false c35
                  clear c35
                  by_cases c37 : x8_1 = t576
                  · rw [if_pos c37] at H
                    have c37b0 : (x8_1 == t576) = true := beq_iff_eq.mpr c37
                    have c37b1 : (x8_1 != t576) = false := bne_eq_false_iff_eq.mpr c37
                    clear c37
                    have H' := Aside0.mk H
                    clear H
                    have hcz38_0 : wr.cell? ⟨gb578, 0, none⟩ = some (.int .i64 t575) := (blk_cell BK578.out 0).trans rfl
                    have hcz38_1 : wr.cell? ⟨gb578, 1, none⟩ = some (.int .i64 t576) := (blk_cell BK578.out 1).trans rfl
                    have hcz38_2 : wr.cell? ⟨gb578, 2, none⟩ = some (.int .i64 t577) := (blk_cell BK578.out 2).trans rfl
                    have hfz38_0 := blk_frozen BK578.out 0
                    have hfz38_1 := blk_frozen BK578.out 1
                    have hfz38_2 := blk_frozen BK578.out 2
                    go_wp2
                    go_meet
                    case rel => exact ⟨_, (decide (x9_1 < t577)), (by first | rfl | (simp; done) | (simp [*]; done)), H', ⟨by have := HK1.out; first | omega | exact Nat.le_refl _⟩, ⟨by (with_reducible repeat (first | apply Kd.R_alloc | apply Kd.R_drewN | apply Kd.R_drew)); exact HO_5.out⟩, ⟨by (with_reducible repeat (first | refine blk_drewN ?_ _ | refine blk_drew ?_ | refine blk_alloc ?_ _)); exact BK578.out⟩, ⟨by repeat (first | (with_reducible first | exact HB.out | apply below_alloc | apply pw_below_drewN | apply below_drew1 | refine below_set ?_ GE578.out) | exact HB.out)⟩⟩
                  · rw [if_neg c37] at H
                    have c37b0 : (x8_1 == t576) = false := beq_eq_false_iff_ne.mpr c37
                    have c37b1 : (x8_1 != t576) = true := bne_iff_ne.mpr c37
                    have H' := Aside0.mk H
                    clear H
                    have hcz39_0 : wr.cell? ⟨gb578, 0, none⟩ = some (.int .i64 t575) := (blk_cell BK578.out 0).trans rfl
                    have hcz39_1 : wr.cell? ⟨gb578, 1, none⟩ = some (.int .i64 t576) := (blk_cell BK578.out 1).trans rfl
                    have hcz39_2 : wr.cell? ⟨gb578, 2, none⟩ = some (.int .i64 t577) := (blk_cell BK578.out 2).trans rfl
                    have hfz39_0 := blk_frozen BK578.out 0
                    have hfz39_1 := blk_frozen BK578.out 1
                    have hfz39_2 := blk_frozen BK578.out 2
                    go_wp2
                    go_meet
                    case rel => exact ⟨_, (false), (by first | rfl | (simp; done) | (simp [*]; done)), H', ⟨by have := HK1.out; first | omega | exact Nat.le_refl _⟩, ⟨by (with_reducible repeat (first | apply Kd.R_alloc | apply Kd.R_drewN | apply Kd.R_drew)); exact HO_5.out⟩, ⟨by (with_reducible repeat (first | refine blk_drewN ?_ _ | refine blk_drew ?_ | refine blk_alloc ?_ _)); exact BK578.out⟩, ⟨by repeat (first | (with_reducible first | exact HB.out | apply below_alloc | apply pw_below_drewN | apply below_drew1 | refine below_set ?_ GE578.out) | exact HB.out)⟩⟩
              · rw [if_neg c34] at H
                have c34b0 : decide (x7_1 < (a0.size : Int)) = false := decide_eq_false c34
                clear c34
                (first | rw [c34b0] | (simp only [i64_w, i32_w]; rw [c34b0]) | skip)
                have H' := Aside0.mk H
                clear H
                go_wp2
                go_meet
                case rel => exact ⟨_, (false), (by first | rfl | (simp; done) | (simp [*]; done)), H', ⟨by have := HK1.out; first | omega | exact Nat.le_refl _⟩, ⟨by (with_reducible repeat (first | apply Kd.R_alloc | apply Kd.R_drewN | apply Kd.R_drew)); exact HO_5.out⟩, ⟨by (with_reducible repeat (first | refine blk_drewN ?_ _ | refine blk_drew ?_ | refine blk_alloc ?_ _)); exact BK578.out⟩, ⟨by repeat (first | (with_reducible first | exact HB.out | apply below_alloc | apply pw_below_drewN | apply below_drew1 | refine below_set ?_ GE578.out) | exact HB.out)⟩⟩
            case rest =>
              clear HC33
              try clear c1
              try clear p2
              try clear c3
              try clear c4
              try clear c6
              try clear c6b0
              try clear c6b1
              try clear c7
              try clear c7b0
              try clear c7b1
              try clear c8
              try clear c10
              try clear c13
              try clear c18
              try clear c18b0
              try clear c18b1
              try clear c19
              try clear c19b0
              try clear c19b1
              try clear c19b2
              try clear c34
              try clear c34b0
              try clear c35
              try clear c35b0
              try clear c37
              try clear c37b0
              try clear c37b1
              try clear hcz11_0
              try clear hcz11_1
              try clear hcz11_2
              try clear hcz16_0
              try clear hcz16_1
              try clear hcz16_2
              try clear hcz23_0
              try clear hcz23_1
              try clear hcz23_2
              try clear hcz28_0
              try clear hcz28_1
              try clear hcz28_2
              try clear hcz32_0
              try clear hcz32_1
              try clear hcz32_2
              try clear hcz36_0
              try clear hcz36_1
              try clear hcz36_2
              try clear hcz38_0
              try clear hcz38_1
              try clear hcz38_2
              try clear hcz39_0
              try clear hcz39_1
              try clear hcz39_2
              try clear hfz11_0
              try clear hfz11_1
              try clear hfz11_2
              try clear hfz16_0
              try clear hfz16_1
              try clear hfz16_2
              try clear hfz23_0
              try clear hfz23_1
              try clear hfz23_2
              try clear hfz28_0
              try clear hfz28_1
              try clear hfz28_2
              try clear hfz32_0
              try clear hfz32_1
              try clear hfz32_2
              try clear hfz36_0
              try clear hfz36_1
              try clear hfz36_2
              try clear hfz38_0
              try clear hfz38_1
              try clear hfz38_2
              try clear hfz39_0
              try clear hfz39_1
              try clear hfz39_2
              try clear p2
              obtain ⟨kq, x63_32, rfl, HA, HJ32, HO_5, BK578, HB⟩ := hcut
              cases kq with
              | zero => exact absurd HA.out (by simp [latchkeylaw05_TokensBegins.j1])
              | succ kj32 =>
                have H := HA.out
                clear HA
                simp only [latchkeylaw05_TokensBegins.j1] at H
                by_cases c40 : x63_32 = true
                · subst c40
                  have H1 : (if 0 ≤ x7_1 then (if x7_1 < (a0.size : Int) then (if (bt a0 x7_1) = 10 then (latchkeylaw05_TokensBegins.l0 kj32 a0 a1 t572 (wrap64 (x7_1 + 1)) (wrap64 (x8_1 + 1)) 1 t575 t576 t577) else (latchkeylaw05_TokensBegins.l0 kj32 a0 a1 t572 (wrap64 (x7_1 + 1)) x8_1 (wrap64 (x9_1 + 1)) t575 t576 t577)) else (none)) else (none)) = some r := by rw [if_pos rfl] at H; exact H
                  clear H
                  have H := H1
                  clear H1
                  by_cases c41 : 0 ≤ x7_1
                  · rw [if_pos c41] at H
                    have c41b0 : decide (0 ≤ x7_1) = true := decide_eq_true c41
                    clear c41
                    by_cases c42 : x7_1 < (a0.size : Int)
                    · rw [if_pos c42] at H
                      have c42b0 : decide (x7_1 < (a0.size : Int)) = true := decide_eq_true c42
                      clear c42
                      by_cases c44 : (bt a0 x7_1) = 10
                      · rw [if_pos c44] at H
                        have c44b0 : ((bt a0 x7_1) == 10) = true := beq_iff_eq.mpr c44
                        have c44b1 : ((bt a0 x7_1) != 10) = false := bne_eq_false_iff_eq.mpr c44
                        clear c44
                        have H' := Aside0.mk H
                        clear H
                        have p43 : 0 ≤ (x7_1 : Int) := of_decide_eq_true (by first | (with_reducible assumption) | assumption)
                        have q43 : x7_1 < (a0.size : Int) := of_decide_eq_true (by first | (with_reducible assumption) | assumption)
                        have hx43 := bt_at a0 x7_1
                        replace p43 := eq_true p43
                        replace q43 := eq_true q43
                        go_wp2
                        go_roundg kj32
                        case measure => have := HK1.out; have := HJ32.out; omega
                        case rel => exact ⟨(wrap64 (x7_1 + 1)), (wrap64 (x8_1 + 1)), (1), (by first | rfl | (simp; done) | (simp [*]; done)), (by first | rfl | (simp; done) | (simp [*]; done)), (by first | rfl | (simp; done) | (simp [*]; done)), H', ⟨by have := HK1.out; have := HJ32.out; omega⟩, ⟨by (with_reducible repeat (first | apply Kd.R_alloc | apply Kd.R_drewN | apply Kd.R_drew)); exact HO_5.out⟩, ⟨by (with_reducible repeat (first | refine blk_drewN ?_ _ | refine blk_drew ?_ | refine blk_alloc ?_ _)); exact BK578.out⟩, ⟨by repeat (first | (with_reducible first | exact HB.out | apply below_alloc | apply pw_below_drewN | apply below_drew1 | refine below_set ?_ GE578.out) | exact HB.out)⟩⟩
                      · rw [if_neg c44] at H
                        have c44b0 : ((bt a0 x7_1) == 10) = false := beq_eq_false_iff_ne.mpr c44
                        have c44b1 : ((bt a0 x7_1) != 10) = true := bne_iff_ne.mpr c44
                        have H' := Aside0.mk H
                        clear H
                        have p43 : 0 ≤ (x7_1 : Int) := of_decide_eq_true (by first | (with_reducible assumption) | assumption)
                        have q43 : x7_1 < (a0.size : Int) := of_decide_eq_true (by first | (with_reducible assumption) | assumption)
                        have hx43 := bt_at a0 x7_1
                        replace p43 := eq_true p43
                        replace q43 := eq_true q43
                        go_wp2
                        go_roundg kj32
                        case measure => have := HK1.out; have := HJ32.out; omega
                        case rel => exact ⟨(wrap64 (x7_1 + 1)), (x8_1), (wrap64 (x9_1 + 1)), (by first | rfl | (simp; done) | (simp [*]; done)), (by first | rfl | (simp; done) | (simp [*]; done)), (by first | rfl | (simp; done) | (simp [*]; done)), H', ⟨by have := HK1.out; have := HJ32.out; omega⟩, ⟨by (with_reducible repeat (first | apply Kd.R_alloc | apply Kd.R_drewN | apply Kd.R_drew)); exact HO_5.out⟩, ⟨by (with_reducible repeat (first | refine blk_drewN ?_ _ | refine blk_drew ?_ | refine blk_alloc ?_ _)); exact BK578.out⟩, ⟨by repeat (first | (with_reducible first | exact HB.out | apply below_alloc | apply pw_below_drewN | apply below_drew1 | refine below_set ?_ GE578.out) | exact HB.out)⟩⟩
                    · rw [if_neg c42] at H
                      exact absurd H (by simp)
                  · rw [if_neg c41] at H
                    exact absurd H (by simp)
                · replace c40 := Bool.eq_false_iff.mpr c40
                  subst c40
                  have H1 : (if t575 = 50 then (if x8_1 = t576 then (if x9_1 = t577 then (latchkeylaw05_TokensBegins.j2 kj32 a0 a1 x7_1 ((t572.length : Int) != 0) t575 t576 t577) else (latchkeylaw05_TokensBegins.j2 kj32 a0 a1 x7_1 true t575 t576 t577)) else (latchkeylaw05_TokensBegins.j2 kj32 a0 a1 x7_1 true t575 t576 t577)) else (latchkeylaw05_TokensBegins.j2 kj32 a0 a1 x7_1 true t575 t576 t577)) = some r := by rw [if_neg (show ¬ (false = true) by decide)] at H; exact H
                  clear H
                  have H := H1
                  clear H1
                  have HC45 := Aside0.mk H
                  clear H
                  go_upto_region 16 with (fail)
                  go_cut [93] (fun v93 wc => ∃ (kq : Nat) (x93_44 : Bool), v93 = .bool x93_44 ∧ Aside0 (latchkeylaw05_TokensBegins.j2 kq a0 a1 x7_1 x93_44 t575 t576 t577 = some r) ∧ Aside0 (kq ≤ kj32) ∧ Aside0 (wc.heap[gb578]? = some (.cells #[.int .i64 t575, .int .i64 t576, .int .i64 t577] 25 (0, 0))) ∧ Aside0 (Below w.heap.size w wc))
                  case first =>
                    have H := HC45.out
                    clear HC45
                    by_cases c46 : t575 = 50
                    · rw [if_pos c46] at H
                      have c46b0 : (t575 == 50) = true := beq_iff_eq.mpr c46
                      have c46b1 : (t575 != 50) = false := bne_eq_false_iff_eq.mpr c46
                      clear c46
                      (first | rw [c46b0] | (simp only [i64_w, i32_w]; rw [c46b0]) | skip)
                      by_cases c47 : x8_1 = t576
                      · rw [if_pos c47] at H
                        have c47b0 : (x8_1 == t576) = true := beq_iff_eq.mpr c47
                        have c47b1 : (x8_1 != t576) = false := bne_eq_false_iff_eq.mpr c47
                        clear c47
                        by_cases c48 : x9_1 = t577
                        · rw [if_pos c48] at H
                          have c48b0 : (x9_1 == t577) = true := beq_iff_eq.mpr c48
                          have c48b1 : (x9_1 != t577) = false := bne_eq_false_iff_eq.mpr c48
                          clear c48
                          have H' := Aside0.mk H
                          clear H
                          have hcz49_0 : wc.cell? ⟨gb578, 0, none⟩ = some (.int .i64 t575) := (blk_cell BK578.out 0).trans rfl
                          have hcz49_1 : wc.cell? ⟨gb578, 1, none⟩ = some (.int .i64 t576) := (blk_cell BK578.out 1).trans rfl
                          have hcz49_2 : wc.cell? ⟨gb578, 2, none⟩ = some (.int .i64 t577) := (blk_cell BK578.out 2).trans rfl
                          have hfz49_0 := blk_frozen BK578.out 0
                          have hfz49_1 := blk_frozen BK578.out 1
                          have hfz49_2 := blk_frozen BK578.out 2
                          obtain ⟨Ao50, co50, eo50⟩ := Kd.R_slice HO_5.out
                          subst eo50
                          go_wp2
                          go_meet
                          case rel => exact ⟨_, (((t572.length : Int) != 0)), (by first | rfl | (simp; done) | (simp [*]; done)), H', ⟨by have := HK1.out; have := HJ32.out; first | omega | exact Nat.le_refl _⟩, ⟨by (with_reducible repeat (first | refine blk_drewN ?_ _ | refine blk_drew ?_ | refine blk_alloc ?_ _)); exact BK578.out⟩, ⟨by repeat (first | (with_reducible first | exact HB.out | apply below_alloc | apply pw_below_drewN | apply below_drew1 | refine below_set ?_ GE578.out) | exact HB.out)⟩⟩
                        · rw [if_neg c48] at H
                          have c48b0 : (x9_1 == t577) = false := beq_eq_false_iff_ne.mpr c48
                          have c48b1 : (x9_1 != t577) = true := bne_iff_ne.mpr c48
                          have H' := Aside0.mk H
                          clear H
                          have hcz51_0 : wc.cell? ⟨gb578, 0, none⟩ = some (.int .i64 t575) := (blk_cell BK578.out 0).trans rfl
                          have hcz51_1 : wc.cell? ⟨gb578, 1, none⟩ = some (.int .i64 t576) := (blk_cell BK578.out 1).trans rfl
                          have hcz51_2 : wc.cell? ⟨gb578, 2, none⟩ = some (.int .i64 t577) := (blk_cell BK578.out 2).trans rfl
                          have hfz51_0 := blk_frozen BK578.out 0
                          have hfz51_1 := blk_frozen BK578.out 1
                          have hfz51_2 := blk_frozen BK578.out 2
                          go_wp2
                          go_meet
                          case rel => exact ⟨_, (true), (by first | rfl | (simp; done) | (simp [*]; done)), H', ⟨by have := HK1.out; have := HJ32.out; first | omega | exact Nat.le_refl _⟩, ⟨by (with_reducible repeat (first | refine blk_drewN ?_ _ | refine blk_drew ?_ | refine blk_alloc ?_ _)); exact BK578.out⟩, ⟨by repeat (first | (with_reducible first | exact HB.out | apply below_alloc | apply pw_below_drewN | apply below_drew1 | refine below_set ?_ GE578.out) | exact HB.out)⟩⟩
                      · rw [if_neg c47] at H
                        have c47b0 : (x8_1 == t576) = false := beq_eq_false_iff_ne.mpr c47
                        have c47b1 : (x8_1 != t576) = true := bne_iff_ne.mpr c47
                        have H' := Aside0.mk H
                        clear H
                        have hcz52_0 : wc.cell? ⟨gb578, 0, none⟩ = some (.int .i64 t575) := (blk_cell BK578.out 0).trans rfl
                        have hcz52_1 : wc.cell? ⟨gb578, 1, none⟩ = some (.int .i64 t576) := (blk_cell BK578.out 1).trans rfl
                        have hcz52_2 : wc.cell? ⟨gb578, 2, none⟩ = some (.int .i64 t577) := (blk_cell BK578.out 2).trans rfl
                        have hfz52_0 := blk_frozen BK578.out 0
                        have hfz52_1 := blk_frozen BK578.out 1
                        have hfz52_2 := blk_frozen BK578.out 2
                        go_wp2
                        go_meet
                        case rel => exact ⟨_, (true), (by first | rfl | (simp; done) | (simp [*]; done)), H', ⟨by have := HK1.out; have := HJ32.out; first | omega | exact Nat.le_refl _⟩, ⟨by (with_reducible repeat (first | refine blk_drewN ?_ _ | refine blk_drew ?_ | refine blk_alloc ?_ _)); exact BK578.out⟩, ⟨by repeat (first | (with_reducible first | exact HB.out | apply below_alloc | apply pw_below_drewN | apply below_drew1 | refine below_set ?_ GE578.out) | exact HB.out)⟩⟩
                    · rw [if_neg c46] at H
                      have c46b0 : (t575 == 50) = false := beq_eq_false_iff_ne.mpr c46
                      have c46b1 : (t575 != 50) = true := bne_iff_ne.mpr c46
                      (first | rw [c46b0] | (simp only [i64_w, i32_w]; rw [c46b0]) | skip)
                      have H' := Aside0.mk H
                      clear H
                      have hcz53_0 : wc.cell? ⟨gb578, 0, none⟩ = some (.int .i64 t575) := (blk_cell BK578.out 0).trans rfl
                      have hcz53_1 : wc.cell? ⟨gb578, 1, none⟩ = some (.int .i64 t576) := (blk_cell BK578.out 1).trans rfl
                      have hcz53_2 : wc.cell? ⟨gb578, 2, none⟩ = some (.int .i64 t577) := (blk_cell BK578.out 2).trans rfl
                      have hfz53_0 := blk_frozen BK578.out 0
                      have hfz53_1 := blk_frozen BK578.out 1
                      have hfz53_2 := blk_frozen BK578.out 2
                      go_wp2
                      go_meet
                      case rel => exact ⟨_, (true), (by first | rfl | (simp; done) | (simp [*]; done)), H', ⟨by have := HK1.out; have := HJ32.out; first | omega | exact Nat.le_refl _⟩, ⟨by (with_reducible repeat (first | refine blk_drewN ?_ _ | refine blk_drew ?_ | refine blk_alloc ?_ _)); exact BK578.out⟩, ⟨by repeat (first | (with_reducible first | exact HB.out | apply below_alloc | apply pw_below_drewN | apply below_drew1 | refine below_set ?_ GE578.out) | exact HB.out)⟩⟩
                  case rest =>
                    clear HC45
                    try clear c1
                    try clear p2
                    try clear c3
                    try clear c4
                    try clear p4
                    try clear q4
                    try clear hx4
                    try clear c6
                    try clear c6b0
                    try clear c6b1
                    try clear p6
                    try clear c7
                    try clear c7b0
                    try clear c7b1
                    try clear c8
                    try clear c10
                    try clear c13
                    try clear c18
                    try clear c18b0
                    try clear c18b1
                    try clear c19
                    try clear c19b0
                    try clear c19b1
                    try clear c19b2
                    try clear c34
                    try clear c34b0
                    try clear c35
                    try clear c35b0
                    try clear c37
                    try clear c37b0
                    try clear c37b1
                    try clear c40
                    try clear c41
                    try clear c41b0
                    try clear c42
                    try clear c42b0
                    try clear p43
                    try clear q43
                    try clear hx43
                    try clear c44
                    try clear c44b0
                    try clear c44b1
                    try clear c46
                    try clear c46b0
                    try clear c46b1
                    try clear c47
                    try clear c47b0
                    try clear c47b1
                    try clear c48
                    try clear c48b0
                    try clear c48b1
                    try clear hcz11_0
                    try clear hcz11_1
                    try clear hcz11_2
                    try clear hcz16_0
                    try clear hcz16_1
                    try clear hcz16_2
                    try clear hcz23_0
                    try clear hcz23_1
                    try clear hcz23_2
                    try clear hcz28_0
                    try clear hcz28_1
                    try clear hcz28_2
                    try clear hcz32_0
                    try clear hcz32_1
                    try clear hcz32_2
                    try clear hcz36_0
                    try clear hcz36_1
                    try clear hcz36_2
                    try clear hcz38_0
                    try clear hcz38_1
                    try clear hcz38_2
                    try clear hcz39_0
                    try clear hcz39_1
                    try clear hcz39_2
                    try clear hcz49_0
                    try clear hcz49_1
                    try clear hcz49_2
                    try clear hcz51_0
                    try clear hcz51_1
                    try clear hcz51_2
                    try clear hcz52_0
                    try clear hcz52_1
                    try clear hcz52_2
                    try clear hcz53_0
                    try clear hcz53_1
                    try clear hcz53_2
                    try clear hfz11_0
                    try clear hfz11_1
                    try clear hfz11_2
                    try clear hfz16_0
                    try clear hfz16_1
                    try clear hfz16_2
                    try clear hfz23_0
                    try clear hfz23_1
                    try clear hfz23_2
                    try clear hfz28_0
                    try clear hfz28_1
                    try clear hfz28_2
                    try clear hfz32_0
                    try clear hfz32_1
                    try clear hfz32_2
                    try clear hfz36_0
                    try clear hfz36_1
                    try clear hfz36_2
                    try clear hfz38_0
                    try clear hfz38_1
                    try clear hfz38_2
                    try clear hfz39_0
                    try clear hfz39_1
                    try clear hfz39_2
                    try clear hfz49_0
                    try clear hfz49_1
                    try clear hfz49_2
                    try clear hfz51_0
                    try clear hfz51_1
                    try clear hfz51_2
                    try clear hfz52_0
                    try clear hfz52_1
                    try clear hfz52_2
                    try clear hfz53_0
                    try clear hfz53_1
                    try clear hfz53_2
                    try clear p2
                    try clear p43
                    try clear q43
                    obtain ⟨kq, x93_44, rfl, HA, HJ44, BK578, HB⟩ := hcut
                    cases kq with
                    | zero => exact absurd HA.out (by simp [latchkeylaw05_TokensBegins.j2])
                    | succ kj44 =>
                      have H := HA.out
                      clear HA
                      simp only [latchkeylaw05_TokensBegins.j2] at H
                      by_cases c54 : x93_44 = true
                      · subst c54
                        have H1 : (some false) = some r := by rw [if_pos rfl] at H; exact H
                        clear H
                        have H := H1
                        clear H1
                        obtain rfl := Option.some.inj H
                        go_wp2
                        go_ret
                        exact ⟨by first | rfl | (simp [errW_none, errW_some] <;> rfl) | (simp [*, errW_none, errW_some] <;> rfl), by repeat (first | (with_reducible first | exact HB.out | apply below_alloc | apply pw_below_drewN | apply below_drew1 | refine below_set ?_ GE578.out) | exact HB.out)⟩
                      · replace c54 := Bool.eq_false_iff.mpr c54
                        subst c54
                        have H1 : (if 0 ≤ x7_1 then (if x7_1 ≤ (a0.size : Int) then ((latchkeyref05_Finish.f kj44 (a0.extract 0 (x7_1 : Int).toNat)).bind fun t579 => (if (a0.extract 0 (x7_1 : Int).toNat).size + t579.size ≤ 9223372036854775807 then ((tokens_Scan.f kj44 ((a0.extract 0 (x7_1 : Int).toNat) ++ t579)).bind fun bt580 => (if (((a0.extract 0 (x7_1 : Int).toNat) ++ t579).size : Int) ≤ 65536 then (if (!(bt580.2.1 == 0) || (!(bt580.2.2.1 == 0) || (!(bt580.2.2.2 == 0)))) = true then (latchkeylaw05_TokensBegins.j3 kj44 a0 a1 x7_1 true t575 t576 t577) else (latchkeylaw05_TokensBegins.j3 kj44 a0 a1 x7_1 ((bt580.1.length : Int) == 0) t575 t576 t577)) else (latchkeylaw05_TokensBegins.j3 kj44 a0 a1 x7_1 false t575 t576 t577))) else (none))) else (none)) else (none)) = some r := by rw [if_neg (show ¬ (false = true) by decide)] at H; exact H
                        clear H
                        have H := H1
                        clear H1
                        by_cases c55 : 0 ≤ x7_1
                        · rw [if_pos c55] at H
                          have c55b0 := eq_true c55
                          have c55b1 : decide (0 ≤ x7_1) = true := decide_eq_true c55
                          clear c55
                          by_cases c56 : x7_1 ≤ (a0.size : Int)
                          · rw [if_pos c56] at H
                            have c56b0 := eq_true c56
                            have c56b1 : decide (x7_1 ≤ (a0.size : Int)) = true := decide_eq_true c56
                            clear c56
                            have c57b0 := eq_true (of_decide_eq_true (by first | (with_reducible assumption) | assumption) : 0 ≤ x7_1)
                            have c58b0 := eq_true (of_decide_eq_true (by first | (with_reducible assumption) | assumption) : x7_1 ≤ (a0.size : Int))
                            replace H := Option.bind_eq_some_iff.mp H
                            obtain ⟨t579, A590, H⟩ := H
                            replace H : (if (a0.extract 0 (x7_1 : Int).toNat).size + t579.size ≤ 9223372036854775807 then ((tokens_Scan.f kj44 ((a0.extract 0 (x7_1 : Int).toNat) ++ t579)).bind fun bt580 => (if (((a0.extract 0 (x7_1 : Int).toNat) ++ t579).size : Int) ≤ 65536 then (if (!(bt580.2.1 == 0) || (!(bt580.2.2.1 == 0) || (!(bt580.2.2.2 == 0)))) = true then (latchkeylaw05_TokensBegins.j3 kj44 a0 a1 x7_1 true t575 t576 t577) else (latchkeylaw05_TokensBegins.j3 kj44 a0 a1 x7_1 ((bt580.1.length : Int) == 0) t575 t576 t577)) else (latchkeylaw05_TokensBegins.j3 kj44 a0 a1 x7_1 false t575 t576 t577))) else (none)) = some r := H
                            have A59 := Aside0.mk A590
                            clear A590
                            by_cases c60 : (a0.extract 0 (x7_1 : Int).toNat).size + t579.size ≤ 9223372036854775807
                            · rw [if_pos c60] at H
                              have c60b0 := eq_true c60
                              have c60b1 : decide ((a0.extract 0 (x7_1 : Int).toNat).size + t579.size ≤ 9223372036854775807) = true := decide_eq_true c60
                              try have c60b2 : (9223372036854775807 < (a0.extract 0 (x7_1 : Int).toNat).size + t579.size) = False := eq_false (Nat.not_lt.2 c60)
                              have c60b3 : (9223372036854775807 < (x7_1 : Int).toNat + t579.size) = False := eq_false (by have hx_ : x7_1 ≤ (a0.size : Int) := of_eq_true (by first | assumption | simp_all); rw [ByteArray.size_extract] at c60; omega)
                              obtain ⟨W9, hW9⟩ : ∃ y_ : ByteArray, y_ = (a0.extract 0 (x7_1 : Int).toNat) ++ t579 := ⟨_, rfl⟩
                              rw [← hW9] at H
                              have NW9 := Aside0.mk hW9
                              clear hW9
                              replace H := Option.bind_eq_some_iff.mp H
                              obtain ⟨⟨t580, t583, t584, t585⟩, A610, H⟩ := H
                              replace H : (if (W9.size : Int) ≤ 65536 then (if (!(t583 == 0) || (!(t584 == 0) || (!(t585 == 0)))) = true then (latchkeylaw05_TokensBegins.j3 kj44 a0 a1 x7_1 true t575 t576 t577) else (latchkeylaw05_TokensBegins.j3 kj44 a0 a1 x7_1 ((t580.length : Int) == 0) t575 t576 t577)) else (latchkeylaw05_TokensBegins.j3 kj44 a0 a1 x7_1 false t575 t576 t577)) = some r := H
                              have A61 := Aside0.mk A610
                              clear A610
                              have HC62 := Aside0.mk H
                              clear H
                              try go_wp2
                              have n0_ := Aside0.mk (blk_drew BK578.out)
                              have n1_ := Aside0.mk (below_drew1 HB.out)
                              clear BK578
                              clear HB
                              have BK578 := n0_
                              have HB := n1_
                              clear n0_ n1_
                              refine start_ (n := 9) (S := fun w' => True) (ds := []) #[false, false, false, false, false, false, false, false, false] (by kernel_rfl) rfl rfl trivial (fun hHeld => ?_); refine with_tabW latchkeylaw05_TokensBegins.tab18 latchkeylaw05_TokensBegins.bits18 (fun HT_ HW_ => ?_)
                              generalize wc.drew = w63 at BK578 HB hHeld ⊢
                              refine pure_ (i := 0) (N := some 94) (v := ?_) (a' := ?_) #[true, false, false, false, false, false, false, false, false] rfl rfl (any_of HT_.out (by kernel_rfl)) (fun _ _ _ h => h) (Or.inl ⟨by rfl, ?_⟩) ?_ ?_
                              rotate_left
                              · intro w'
                                go_simp
                                with_reducible rfl
                              rotate_left
                              · simp only [Act.put, List.setIfInBounds_toArray, List.set_cons_zero, List.set_cons_succ, i64_w, i32_w]
                                rfl
                              refine pure_ (i := 1) (N := some 95) (v := ?_) (a' := ?_) #[true, true, false, false, false, false, false, false, false] rfl rfl (any_of HT_.out (by kernel_rfl)) (fun _ _ _ h => h) (Or.inl ⟨by rfl, ?_⟩) ?_ ?_
                              rotate_left
                              · intro w'
                                go_simp
                                with_reducible rfl
                              rotate_left
                              · simp only [Act.put, List.setIfInBounds_toArray, List.set_cons_zero, List.set_cons_succ, i64_w, i32_w]
                                rfl
                              refine pure_ (i := 2) (N := some 96) (v := ?_) (a' := ?_) #[true, true, true, false, false, false, false, false, false] rfl rfl (any_of HT_.out (by kernel_rfl)) (fun _ _ _ h => h) (Or.inl ⟨by rfl, ?_⟩) ?_ ?_
                              rotate_left
                              · intro w'
                                go_simp
                                with_reducible rfl
                              rotate_left
                              · simp only [Act.put, List.setIfInBounds_toArray, List.set_cons_zero, List.set_cons_succ, i64_w, i32_w]
                                rfl
                              refine pure_ (i := 3) (N := some 97) (v := ?_) (a' := ?_) #[true, true, true, true, false, false, false, false, false] rfl rfl (any_of HT_.out (by kernel_rfl)) (fun _ _ _ h => h) (Or.inl ⟨by rfl, ?_⟩) ?_ ?_
                              rotate_left
                              · intro w'
                                go_simp
                                with_reducible rfl
                              rotate_left
                              · simp only [Act.put, List.setIfInBounds_toArray, List.set_cons_zero, List.set_cons_succ, i64_w, i32_w]
                                rfl
                              refine pure_ (i := 4) (N := some 98) (v := ?_) (a' := ?_) #[true, true, true, true, true, false, false, false, false] rfl rfl (any_of HT_.out (by kernel_rfl)) (fun _ _ _ h => h) (Or.inl ⟨by rfl, ?_⟩) ?_ ?_
                              rotate_left
                              · intro w'
                                go_simp
                                with_reducible rfl
                              rotate_left
                              · simp only [Act.put, List.setIfInBounds_toArray, List.set_cons_zero, List.set_cons_succ, i64_w, i32_w]
                                rfl
                              refine pure_ (i := 5) (N := some 99) (v := ?_) (a' := ?_) #[true, true, true, true, true, true, false, false, false] rfl rfl (any_of HT_.out (by kernel_rfl)) (fun _ _ _ h => h) (Or.inl ⟨by rfl, ?_⟩) ?_ ?_
                              rotate_left
                              · intro w'
                                go_simp
                                with_reducible rfl
                              rotate_left
                              · simp only [Act.put, List.setIfInBounds_toArray, List.set_cons_zero, List.set_cons_succ, i64_w, i32_w]
                                rfl
                              refine one_ (i := 6) (N := some 100) #[true, true, true, true, true, true, true, false, false] rfl rfl (one_of HT_.out (by kernel_rfl)) (by decide) (fun K hK => ?_)
                              refine goes_ Tryd.func26 (by kernel_rfl) rfl #[.string (a0.extract 0 (x7_1 : Int).toNat)] (by rfl) rfl rfl (by (try simp only [List.map_toArray, List.map_cons, List.map_nil]); first | done | rfl | (simp only [List.length_drop, List.length_take]; rfl)) ?_
                              with_reducible refine (latchkeyref05_Finish.calls kj44 (a0.extract 0 (x7_1 : Int).toNat) t579 _ A59.out).mono ?_
                              rintro e w64 ⟨rfl, hb⟩
                              refine ⟨_, rfl, ?_⟩
                              have n0_ := Aside0.mk (blk_below (g := gb578) (o := .cells #[.int .i64 t575, .int .i64 t576, .int .i64 t577] 25 (0, 0)) (by (with_reducible repeat (first | refine blk_drewN ?_ _ | refine blk_drew ?_ | refine blk_alloc ?_ _)); exact BK578.out) hb)
                              have n1_ := Aside0.mk (below_step (by repeat (first | (with_reducible first | exact HB.out | apply below_alloc | apply pw_below_drewN | apply below_drew1 | refine below_set ?_ GE578.out) | exact HB.out)) hb)
                              clear BK578
                              clear HB
                              have BK578 := n0_
                              have HB := n1_
                              clear n0_ n1_
                              (try clear hb)
                              (try clear hb2)
                              (try clear hk)
                              (try clear hi)
                              refine hK.out _ _ trivial (fun hHeld => ?_)
                              clear hK K
                              refine norm_ (a' := ?_) ?_ ?_
                              rotate_left
                              · show Act.put _ (some 100) _ = _
                                simp only [Act.put, List.setIfInBounds_toArray, List.set_cons_zero, List.set_cons_succ, i64_w, i32_w]
                                rfl
                              refine pure_ (i := 7) (N := some 101) (v := ?_) (a' := ?_) #[true, true, true, true, true, true, true, true, false] rfl rfl (any_of HT_.out (by kernel_rfl)) (fun _ _ _ h => h) (Or.inl ⟨by rfl, ?_⟩) ?_ ?_
                              rotate_left
                              · intro w'
                                go_simp
                                with_reducible rfl
                              rotate_left
                              · simp only [Act.put, List.setIfInBounds_toArray, List.set_cons_zero, List.set_cons_succ, i64_w, i32_w]
                                rfl
                              refine pure_ (i := 8) (N := some 10) (v := ?_) (a' := ?_) #[true, true, true, true, true, true, true, true, true] rfl rfl (any_of HT_.out (by kernel_rfl)) (fun _ _ _ h => h) (Or.inl ⟨by rfl, ?_⟩) ?_ ?_
                              rotate_left
                              · intro w'
                                go_simp
                                with_reducible rfl
                              rotate_left
                              · simp only [Act.put, List.setIfInBounds_toArray, List.set_cons_zero, List.set_cons_succ, i64_w, i32_w]
                                rfl
                              rw [← NW9.out]
                              refine done_ (done_of HT_.out (by kernel_rfl)) ?_
                              go_upto_region 20 with (first | ((with_reducible refine gate_callee (f := 10) rfl ?_); refine goesL_ (some 104) rfl rfl Tryd.func10 (by kernel_rfl) rfl #[.string W9] rfl (by (try simp only [List.map_toArray, List.map_cons, List.map_nil]); first | done | rfl | (simp only [List.length_drop, List.length_take]; rfl)) ?_; (with_reducible refine (tokens_Scan.calls kj44 W9 t580 t583 t584 t585 _ A61.out (by first | exact hT | exact hT.on (by assumption) | exact hT.on (by first | exact HB.out | exact Below.refl _ _ | (repeat (first | (with_reducible first | exact HB.out | apply below_alloc | apply pw_below_drewN | apply below_drew1 | refine below_set ?_ (Aside0.out (by assumption))) | exact HB.out))))).mono ?_); rintro e w65 ⟨v581, rfl, ho0, hb⟩; refine ⟨_, rfl, ?_⟩; have n0_ := Aside0.mk (Kd.R_lower ho0 (below_size (by repeat (first | (with_reducible first | exact HB.out | apply below_alloc | apply pw_below_drewN | apply below_drew1 | refine below_set ?_ GE578.out) | exact HB.out)))); have n1_ := Aside0.mk (blk_below (g := gb578) (o := .cells #[.int .i64 t575, .int .i64 t576, .int .i64 t577] 25 (0, 0)) (by (with_reducible repeat (first | refine blk_drewN ?_ _ | refine blk_drew ?_ | refine blk_alloc ?_ _)); exact BK578.out) hb); have n2_ := Aside0.mk (below_step (by repeat (first | (with_reducible first | exact HB.out | apply below_alloc | apply pw_below_drewN | apply below_drew1 | refine below_set ?_ GE578.out) | exact HB.out)) hb); clear BK578; clear HB; have HO582 := n0_; have BK578 := n1_; have HB := n2_; clear n0_ n1_ n2_; (try clear hb); (try clear hb2); (try clear hk); (try clear hi); (try clear ho0)) | ((with_reducible refine gate_dst (N := 12) rfl ?_); (try (refine gate_guard (by rfl) ?_; dsimp only)); refine box_event ?hg (N := 12) ?hd (cs := #[.int .i64 0, .int .i64 0, .int .i64 0]) (t := 25) ?hr ?_; (case hd => rfl); (case hg => rfl); (case hr => first | (go_simp; done) | (go_simp; rfl)); intro gb586 hg w66 hbox hb; have n0_ := Aside0.mk (Kd.R_below (by (with_reducible repeat (first | apply Kd.R_alloc | apply Kd.R_drewN | apply Kd.R_drew)); exact HO582.out) hb); have n1_ := Aside0.mk (blk_below (g := gb578) (o := .cells #[.int .i64 t575, .int .i64 t576, .int .i64 t577] 25 (0, 0)) (by (with_reducible repeat (first | refine blk_drewN ?_ _ | refine blk_drew ?_ | refine blk_alloc ?_ _)); exact BK578.out) hb); have n2_ := Aside0.mk (below_step (by repeat (first | (with_reducible first | exact HB.out | apply below_alloc | apply pw_below_drewN | apply below_drew1 | refine below_set ?_ GE578.out) | exact HB.out)) hb); have n3_ := Aside0.mk (hbox); have n4_ := Aside0.mk ((by rw [hg]; exact (below_size (by repeat (first | (with_reducible first | exact HB.out | apply below_alloc | apply pw_below_drewN | apply below_drew1 | refine below_set ?_ GE578.out) | exact HB.out))) : w.heap.size ≤ gb586)); have n5_ := Aside0.mk ((by rw [hg]; exact (below_size (by repeat (first | (with_reducible first | exact HB.out | apply below_alloc | apply pw_below_drewN | apply below_drew1 | refine below_set ?_ GE578.out) | exact HB.out))) : w.heap.size ≤ gb586)); have n6_ := Aside0.mk ((by rw [hg]; exact Nat.ne_of_lt (blk_lt (g := gb578) (o := .cells #[.int .i64 t575, .int .i64 t576, .int .i64 t577] 25 (0, 0)) (by (with_reducible repeat (first | refine blk_drewN ?_ _ | refine blk_drew ?_ | refine blk_alloc ?_ _)); exact BK578.out)) : gb578 ≠ gb586)); have n7_ := Aside0.mk ((by rw [hg]; exact Nat.ne_of_gt (blk_lt (g := gb578) (o := .cells #[.int .i64 t575, .int .i64 t576, .int .i64 t577] 25 (0, 0)) (by (with_reducible repeat (first | refine blk_drewN ?_ _ | refine blk_drew ?_ | refine blk_alloc ?_ _)); exact BK578.out)) : gb586 ≠ gb578)); clear HO582; clear BK578; clear HB; have HO582 := n0_; have BK578 := n1_; have HB := n2_; have BK586 := n3_; have GW586 := n4_; have GE586 := n5_; have NB578_586 := n6_; have NB586_578 := n7_; clear n0_ n1_ n2_ n3_ n4_ n5_ n6_ n7_; clear hb hbox hg; have hnb67 := NB586_578.out; have hnc67 := NB578_586.out; have hcz68_0 : w66.cell? ⟨gb586, 0, none⟩ = some (.int .i64 0) := (blk_cell BK586.out 0).trans rfl; have hcz68_1 : w66.cell? ⟨gb586, 1, none⟩ = some (.int .i64 0) := (blk_cell BK586.out 1).trans rfl; have hcz68_2 : w66.cell? ⟨gb586, 2, none⟩ = some (.int .i64 0) := (blk_cell BK586.out 2).trans rfl; have hfz68_0 := blk_frozen BK586.out 0; have hfz68_1 := blk_frozen BK586.out 1; have hfz68_2 := blk_frozen BK586.out 2))
                              (try simp only [Act.put, List.setIfInBounds_toArray, List.set_cons_zero, List.set_cons_succ])
                              go_cut [119] (fun v119 wc => ∃ (kq : Nat) (x119_61 : Bool), v119 = .bool x119_61 ∧ Aside0 (latchkeylaw05_TokensBegins.j3 kq a0 a1 x7_1 x119_61 t575 t576 t577 = some r) ∧ Aside0 (kq ≤ kj44) ∧ Aside0 (wc.heap[gb578]? = some (.cells #[.int .i64 t575, .int .i64 t576, .int .i64 t577] 25 (0, 0))) ∧ Aside0 (wc.heap[gb586]? = some (.cells #[.int .i64 t583, .int .i64 t584, .int .i64 t585] 25 (0, 0))) ∧ Aside0 (Below w.heap.size w wc))
                              case first =>
                                have H := HC62.out
                                clear HC62
                                by_cases c69 : (W9.size : Int) ≤ 65536
                                · rw [if_pos c69] at H
                                  have c69b0 : decide ((W9.size : Int) ≤ 65536) = true := decide_eq_true c69
                                  have c69b1 : decide (W9.size ≤ 65536) = true := decide_eq_true (by omega)
                                  clear c69
                                  (first | rw [c69b0] | (simp only [i64_w, i32_w]; rw [c69b0]) | skip)
                                  by_cases c70 : (!(t583 == 0) || (!(t584 == 0) || (!(t585 == 0)))) = true
                                  · rw [if_pos c70] at H
                                    have c70b0 : (!(t583 == 0) || (!(t584 == 0) || (!(t585 == 0)))) = true := c70
                                    clear c70
                                    have H' := Aside0.mk H
                                    clear H
                                    have hnb71 := NB586_578.out
                                    have hnc71 := NB578_586.out
                                    have hcz72_0 : w66.cell? ⟨gb586, 0, none⟩ = some (.int .i64 0) := (blk_cell BK586.out 0).trans rfl
                                    have hcz72_1 : w66.cell? ⟨gb586, 1, none⟩ = some (.int .i64 0) := (blk_cell BK586.out 1).trans rfl
                                    have hcz72_2 : w66.cell? ⟨gb586, 2, none⟩ = some (.int .i64 0) := (blk_cell BK586.out 2).trans rfl
                                    have hfz72_0 := blk_frozen BK586.out 0
                                    have hfz72_1 := blk_frozen BK586.out 1
                                    have hfz72_2 := blk_frozen BK586.out 2
                                    go_wp2
                                    go_meet
                                    case rel => exact ⟨_, (true), (by first | rfl | (simp; done) | (simp [*]; done)), H', ⟨by have := HK1.out; have := HJ32.out; have := HJ44.out; first | omega | exact Nat.le_refl _⟩, ⟨by (with_reducible repeat (first | refine blk_drewN ?_ _ | refine blk_drew ?_ | refine blk_alloc ?_ _)); refine blk_far ?_ NB578_586.out _; (with_reducible repeat (first | refine blk_drewN ?_ _ | refine blk_drew ?_ | refine blk_alloc ?_ _)); refine blk_far ?_ NB578_586.out _; (with_reducible repeat (first | refine blk_drewN ?_ _ | refine blk_drew ?_ | refine blk_alloc ?_ _)); refine blk_far ?_ NB578_586.out _; (with_reducible repeat (first | refine blk_drewN ?_ _ | refine blk_drew ?_ | refine blk_alloc ?_ _)); exact BK578.out⟩, ⟨by (with_reducible repeat (first | refine blk_drewN ?_ _ | refine blk_drew ?_ | refine blk_alloc ?_ _)); refine blk_put (cs := #[.int .i64 t583, .int .i64 t584, .int .i64 0]) ?_ 2 _ rfl; (with_reducible repeat (first | refine blk_drewN ?_ _ | refine blk_drew ?_ | refine blk_alloc ?_ _)); refine blk_put (cs := #[.int .i64 t583, .int .i64 0, .int .i64 0]) ?_ 1 _ rfl; (with_reducible repeat (first | refine blk_drewN ?_ _ | refine blk_drew ?_ | refine blk_alloc ?_ _)); refine blk_put (cs := #[.int .i64 0, .int .i64 0, .int .i64 0]) ?_ 0 _ rfl; (with_reducible repeat (first | refine blk_drewN ?_ _ | refine blk_drew ?_ | refine blk_alloc ?_ _)); exact BK586.out⟩, ⟨by repeat (first | (with_reducible first | exact HB.out | apply below_alloc | apply pw_below_drewN | apply below_drew1 | refine below_set ?_ GE578.out | refine below_set ?_ GE586.out) | exact HB.out)⟩⟩
                                  · rw [if_neg c70] at H
                                    have c70b0 : (!(t583 == 0) || (!(t584 == 0) || (!(t585 == 0)))) = false := by simpa using c70
                                    clear c70
                                    have H' := Aside0.mk H
                                    clear H
                                    have hnb73 := NB586_578.out
                                    have hnc73 := NB578_586.out
                                    have hcz74_0 : w66.cell? ⟨gb586, 0, none⟩ = some (.int .i64 0) := (blk_cell BK586.out 0).trans rfl
                                    have hcz74_1 : w66.cell? ⟨gb586, 1, none⟩ = some (.int .i64 0) := (blk_cell BK586.out 1).trans rfl
                                    have hcz74_2 : w66.cell? ⟨gb586, 2, none⟩ = some (.int .i64 0) := (blk_cell BK586.out 2).trans rfl
                                    have hfz74_0 := blk_frozen BK586.out 0
                                    have hfz74_1 := blk_frozen BK586.out 1
                                    have hfz74_2 := blk_frozen BK586.out 2
                                    obtain ⟨Ao75, co75, eo75⟩ := Kd.R_slice HO582.out
                                    subst eo75
                                    go_wp2
                                    go_meet
                                    case rel => exact ⟨_, (((t580.length : Int) == 0)), (by first | rfl | (simp; done) | (simp [*]; done)), H', ⟨by have := HK1.out; have := HJ32.out; have := HJ44.out; first | omega | exact Nat.le_refl _⟩, ⟨by (with_reducible repeat (first | refine blk_drewN ?_ _ | refine blk_drew ?_ | refine blk_alloc ?_ _)); refine blk_far ?_ NB578_586.out _; (with_reducible repeat (first | refine blk_drewN ?_ _ | refine blk_drew ?_ | refine blk_alloc ?_ _)); refine blk_far ?_ NB578_586.out _; (with_reducible repeat (first | refine blk_drewN ?_ _ | refine blk_drew ?_ | refine blk_alloc ?_ _)); refine blk_far ?_ NB578_586.out _; (with_reducible repeat (first | refine blk_drewN ?_ _ | refine blk_drew ?_ | refine blk_alloc ?_ _)); exact BK578.out⟩, ⟨by (with_reducible repeat (first | refine blk_drewN ?_ _ | refine blk_drew ?_ | refine blk_alloc ?_ _)); refine blk_put (cs := #[.int .i64 t583, .int .i64 t584, .int .i64 0]) ?_ 2 _ rfl; (with_reducible repeat (first | refine blk_drewN ?_ _ | refine blk_drew ?_ | refine blk_alloc ?_ _)); refine blk_put (cs := #[.int .i64 t583, .int .i64 0, .int .i64 0]) ?_ 1 _ rfl; (with_reducible repeat (first | refine blk_drewN ?_ _ | refine blk_drew ?_ | refine blk_alloc ?_ _)); refine blk_put (cs := #[.int .i64 0, .int .i64 0, .int .i64 0]) ?_ 0 _ rfl; (with_reducible repeat (first | refine blk_drewN ?_ _ | refine blk_drew ?_ | refine blk_alloc ?_ _)); exact BK586.out⟩, ⟨by repeat (first | (with_reducible first | exact HB.out | apply below_alloc | apply pw_below_drewN | apply below_drew1 | refine below_set ?_ GE578.out | refine below_set ?_ GE586.out) | exact HB.out)⟩⟩
                                · rw [if_neg c69] at H
                                  have c69b0 : decide ((W9.size : Int) ≤ 65536) = false := decide_eq_false c69
                                  have c69b1 : decide (W9.size ≤ 65536) = false := decide_eq_false (by omega)
                                  clear c69
                                  (first | rw [c69b0] | (simp only [i64_w, i32_w]; rw [c69b0]) | skip)
                                  have H' := Aside0.mk H
                                  clear H
                                  go_wp2
                                  go_meet
                                  case rel => exact ⟨_, (false), (by first | rfl | (simp; done) | (simp [*]; done)), H', ⟨by have := HK1.out; have := HJ32.out; have := HJ44.out; first | omega | exact Nat.le_refl _⟩, ⟨by (with_reducible repeat (first | refine blk_drewN ?_ _ | refine blk_drew ?_ | refine blk_alloc ?_ _)); refine blk_far ?_ NB578_586.out _; (with_reducible repeat (first | refine blk_drewN ?_ _ | refine blk_drew ?_ | refine blk_alloc ?_ _)); refine blk_far ?_ NB578_586.out _; (with_reducible repeat (first | refine blk_drewN ?_ _ | refine blk_drew ?_ | refine blk_alloc ?_ _)); refine blk_far ?_ NB578_586.out _; (with_reducible repeat (first | refine blk_drewN ?_ _ | refine blk_drew ?_ | refine blk_alloc ?_ _)); exact BK578.out⟩, ⟨by (with_reducible repeat (first | refine blk_drewN ?_ _ | refine blk_drew ?_ | refine blk_alloc ?_ _)); refine blk_put (cs := #[.int .i64 t583, .int .i64 t584, .int .i64 0]) ?_ 2 _ rfl; (with_reducible repeat (first | refine blk_drewN ?_ _ | refine blk_drew ?_ | refine blk_alloc ?_ _)); refine blk_put (cs := #[.int .i64 t583, .int .i64 0, .int .i64 0]) ?_ 1 _ rfl; (with_reducible repeat (first | refine blk_drewN ?_ _ | refine blk_drew ?_ | refine blk_alloc ?_ _)); refine blk_put (cs := #[.int .i64 0, .int .i64 0, .int .i64 0]) ?_ 0 _ rfl; (with_reducible repeat (first | refine blk_drewN ?_ _ | refine blk_drew ?_ | refine blk_alloc ?_ _)); exact BK586.out⟩, ⟨by repeat (first | (with_reducible first | exact HB.out | apply below_alloc | apply pw_below_drewN | apply below_drew1 | refine below_set ?_ GE578.out | refine below_set ?_ GE586.out) | exact HB.out)⟩⟩
                              case rest =>
                                clear HC62
                                try clear c1
                                try clear c2
                                try clear p2
                                try clear c3
                                try clear c4
                                try clear p4
                                try clear q4
                                try clear hx4
                                try clear c5
                                try clear c6
                                try clear c6b0
                                try clear c6b1
                                try clear p6
                                try clear c7
                                try clear c7b0
                                try clear c7b1
                                try clear c8
                                try clear c10
                                try clear c13
                                try clear c18
                                try clear c18b0
                                try clear c18b1
                                try clear c19
                                try clear c19b0
                                try clear c19b1
                                try clear c19b2
                                try clear c26
                                try clear c34
                                try clear c34b0
                                try clear c35
                                try clear c35b0
                                try clear c37
                                try clear c37b0
                                try clear c37b1
                                try clear c40
                                try clear c41
                                try clear c41b0
                                try clear c42
                                try clear c42b0
                                try clear p43
                                try clear q43
                                try clear hx43
                                try clear c44
                                try clear c44b0
                                try clear c44b1
                                try clear c46
                                try clear c46b0
                                try clear c46b1
                                try clear c47
                                try clear c47b0
                                try clear c47b1
                                try clear c48
                                try clear c48b0
                                try clear c48b1
                                try clear c54
                                try clear c55
                                try clear c55b0
                                try clear c55b1
                                try clear c56
                                try clear c56b0
                                try clear c56b1
                                try clear c57
                                try clear c57b0
                                try clear c58
                                try clear c58b0
                                try clear c60
                                try clear c60b0
                                try clear c60b1
                                try clear c60b2
                                try clear p64
                                try clear c67
                                try clear c69
                                try clear c69b0
                                try clear c69b1
                                try clear c70
                                try clear c70b0
                                try clear c71
                                try clear c73
                                try clear hcz11_0
                                try clear hcz11_1
                                try clear hcz11_2
                                try clear hcz16_0
                                try clear hcz16_1
                                try clear hcz16_2
                                try clear hcz23_0
                                try clear hcz23_1
                                try clear hcz23_2
                                try clear hcz28_0
                                try clear hcz28_1
                                try clear hcz28_2
                                try clear hcz32_0
                                try clear hcz32_1
                                try clear hcz32_2
                                try clear hcz36_0
                                try clear hcz36_1
                                try clear hcz36_2
                                try clear hcz38_0
                                try clear hcz38_1
                                try clear hcz38_2
                                try clear hcz39_0
                                try clear hcz39_1
                                try clear hcz39_2
                                try clear hcz49_0
                                try clear hcz49_1
                                try clear hcz49_2
                                try clear hcz51_0
                                try clear hcz51_1
                                try clear hcz51_2
                                try clear hcz52_0
                                try clear hcz52_1
                                try clear hcz52_2
                                try clear hcz53_0
                                try clear hcz53_1
                                try clear hcz53_2
                                try clear hcz68_0
                                try clear hcz68_1
                                try clear hcz68_2
                                try clear hcz72_0
                                try clear hcz72_1
                                try clear hcz72_2
                                try clear hcz74_0
                                try clear hcz74_1
                                try clear hcz74_2
                                try clear hfz11_0
                                try clear hfz11_1
                                try clear hfz11_2
                                try clear hfz16_0
                                try clear hfz16_1
                                try clear hfz16_2
                                try clear hfz23_0
                                try clear hfz23_1
                                try clear hfz23_2
                                try clear hfz28_0
                                try clear hfz28_1
                                try clear hfz28_2
                                try clear hfz32_0
                                try clear hfz32_1
                                try clear hfz32_2
                                try clear hfz36_0
                                try clear hfz36_1
                                try clear hfz36_2
                                try clear hfz38_0
                                try clear hfz38_1
                                try clear hfz38_2
                                try clear hfz39_0
                                try clear hfz39_1
                                try clear hfz39_2
                                try clear hfz49_0
                                try clear hfz49_1
                                try clear hfz49_2
                                try clear hfz51_0
                                try clear hfz51_1
                                try clear hfz51_2
                                try clear hfz52_0
                                try clear hfz52_1
                                try clear hfz52_2
                                try clear hfz53_0
                                try clear hfz53_1
                                try clear hfz53_2
                                try clear hfz68_0
                                try clear hfz68_1
                                try clear hfz68_2
                                try clear hfz72_0
                                try clear hfz72_1
                                try clear hfz72_2
                                try clear hfz74_0
                                try clear hfz74_1
                                try clear hfz74_2
                                try clear p2
                                try clear p4
                                try clear p43
                                try clear p6
                                try clear q4
                                try clear q43
                                obtain ⟨kq, x119_61, rfl, HA, HJ61, BK578, BK586, HB⟩ := hcut
                                cases kq with
                                | zero => exact absurd HA.out (by simp [latchkeylaw05_TokensBegins.j3])
                                | succ kj61 =>
                                  have H := HA.out
                                  clear HA
                                  simp only [latchkeylaw05_TokensBegins.j3] at H
                                  by_cases c76 : x119_61 = true
                                  · subst c76
                                    have H1 : (some false) = some r := by rw [if_pos rfl] at H; exact H
                                    clear H
                                    have H := H1
                                    clear H1
                                    obtain rfl := Option.some.inj H
                                    go_wp2
                                    go_ret
                                    exact ⟨by first | rfl | (simp [errW_none, errW_some] <;> rfl) | (simp [*, errW_none, errW_some] <;> rfl), by repeat (first | (with_reducible first | exact HB.out | apply below_alloc | apply pw_below_drewN | apply below_drew1 | refine below_set ?_ GE578.out | refine below_set ?_ GE586.out) | exact HB.out)⟩
                                  · replace c76 := Bool.eq_false_iff.mpr c76
                                    subst c76
                                    have H1 : (if x7_1 = (a0.size : Int) then (some true) else (if (wrap64 ((wrap64 (x7_1 + 1)) + (a1.size : Int))) > 65536 then (some true) else (if 0 ≤ (wrap64 (x7_1 + 1)) then (if (wrap64 (x7_1 + 1)) ≤ (a0.size : Int) then (if (a0.extract 0 ((wrap64 (x7_1 + 1)) : Int).toNat).size + a1.size ≤ 9223372036854775807 then ((tokens_Scan.f kj61 ((a0.extract 0 ((wrap64 (x7_1 + 1)) : Int).toNat) ++ a1)).bind fun bt587 => (if (bt587.1.length : Int) = 0 then (some (bt587.2.1 == t575 && (bt587.2.2.1 == t576 && (bt587.2.2.2 == t577)))) else (some false))) else (none)) else (none)) else (none)))) = some r := by rw [if_neg (show ¬ (false = true) by decide)] at H; exact H
                                    clear H
                                    have H := H1
                                    clear H1
                                    by_cases c77 : x7_1 = (a0.size : Int)
                                    · rw [if_pos c77] at H
                                      have c77b0 : (x7_1 == (a0.size : Int)) = true := beq_iff_eq.mpr c77
                                      have c77b1 : (x7_1 != (a0.size : Int)) = false := bne_eq_false_iff_eq.mpr c77
                                      clear c77
                                      obtain rfl := Option.some.inj H
                                      go_wp2
                                      go_ret
                                      exact ⟨by first | rfl | (simp [errW_none, errW_some] <;> rfl) | (simp [*, errW_none, errW_some] <;> rfl), by repeat (first | (with_reducible first | exact HB.out | apply below_alloc | apply pw_below_drewN | apply below_drew1 | refine below_set ?_ GE578.out | refine below_set ?_ GE586.out) | exact HB.out)⟩
                                    · rw [if_neg c77] at H
                                      have c77b0 : (x7_1 == (a0.size : Int)) = false := beq_eq_false_iff_ne.mpr c77
                                      have c77b1 : (x7_1 != (a0.size : Int)) = true := bne_iff_ne.mpr c77
                                      by_cases c78 : (wrap64 ((wrap64 (x7_1 + 1)) + (a1.size : Int))) > 65536
                                      · rw [if_pos c78] at H
                                        have c78b0 : decide (65536 < (wrap64 ((wrap64 (x7_1 + 1)) + (a1.size : Int)))) = true := decide_eq_true c78
                                        clear c78
                                        obtain rfl := Option.some.inj H
                                        go_wp2
                                        go_ret
                                        exact ⟨by first | rfl | (simp [errW_none, errW_some] <;> rfl) | (simp [*, errW_none, errW_some] <;> rfl), by repeat (first | (with_reducible first | exact HB.out | apply below_alloc | apply pw_below_drewN | apply below_drew1 | refine below_set ?_ GE578.out | refine below_set ?_ GE586.out) | exact HB.out)⟩
                                      · rw [if_neg c78] at H
                                        have c78b0 : decide (65536 < (wrap64 ((wrap64 (x7_1 + 1)) + (a1.size : Int)))) = false := decide_eq_false c78
                                        clear c78
                                        obtain ⟨ji79, hji79⟩ : ∃ j_ : Int, (wrap64 (x7_1 + 1)) = j_ := ⟨_, rfl⟩
                                        replace H : (if 0 ≤ (ji79) then (if (ji79) ≤ (a0.size : Int) then (if (a0.extract 0 ((ji79) : Int).toNat).size + a1.size ≤ 9223372036854775807 then ((tokens_Scan.f kj61 ((a0.extract 0 ((ji79) : Int).toNat) ++ a1)).bind fun bt587 => (if (bt587.1.length : Int) = 0 then (some (bt587.2.1 == t575 && (bt587.2.2.1 == t576 && (bt587.2.2.2 == t577)))) else (some false))) else (none)) else (none)) else (none)) = some r := by first | (rw [hji79] at H; exact H) | (simp only [hji79] at H ⊢; exact H)
                                        (try rw [hji79] at c78b0)
                                        have hji79w : (IntKind.i64.wrap (x7_1 + 1)) = ji79 := (i64_w _).trans hji79
                                        by_cases c80 : 0 ≤ (ji79)
                                        · rw [if_pos c80] at H
                                          have c80b0 := eq_true c80
                                          have c80b1 : decide (0 ≤ (ji79)) = true := decide_eq_true c80
                                          clear c80
                                          by_cases c81 : (ji79) ≤ (a0.size : Int)
                                          · rw [if_pos c81] at H
                                            have c81b0 := eq_true c81
                                            have c81b1 : decide ((ji79) ≤ (a0.size : Int)) = true := decide_eq_true c81
                                            clear c81
                                            by_cases c82 : (a0.extract 0 ((ji79) : Int).toNat).size + a1.size ≤ 9223372036854775807
                                            · rw [if_pos c82] at H
                                              have c82b0 := eq_true c82
                                              have c82b1 : decide ((a0.extract 0 ((ji79) : Int).toNat).size + a1.size ≤ 9223372036854775807) = true := decide_eq_true c82
                                              try have c82b2 : (9223372036854775807 < (a0.extract 0 ((ji79) : Int).toNat).size + a1.size) = False := eq_false (Nat.not_lt.2 c82)
                                              have c82b3 : (9223372036854775807 < ((ji79) : Int).toNat + a1.size) = False := eq_false (by have hx_ : ji79 ≤ (a0.size : Int) := of_eq_true (by first | assumption | simp_all); rw [ByteArray.size_extract] at c82; omega)
                                              replace H := Option.bind_eq_some_iff.mp H
                                              obtain ⟨⟨t587, t590, t591, t592⟩, A830, H⟩ := H
                                              replace H : (if (t587.length : Int) = 0 then (some (t590 == t575 && (t591 == t576 && (t592 == t577)))) else (some false)) = some r := H
                                              have A83 := Aside0.mk A830
                                              clear A830
                                              by_cases c84 : (t587.length : Int) = 0
                                              · rw [if_pos c84] at H
                                                have c84b0 : ((t587.length : Int) == 0) = true := beq_iff_eq.mpr c84
                                                have c84b1 : ((t587.length : Int) != 0) = false := bne_eq_false_iff_eq.mpr c84
                                                clear c84
                                                obtain rfl := Option.some.inj H
                                                go_wp2_with (first | ((with_reducible refine gate_callee (f := 10) rfl ?_); refine goesL_ (some 139) rfl rfl Tryd.func10 (by kernel_rfl) rfl #[.string ((a0.extract 0 ((ji79) : Int).toNat) ++ a1)] rfl (by (try simp only [List.map_toArray, List.map_cons, List.map_nil]); first | done | (simp only [hji79]; rfl) | rfl | (simp only [List.length_drop, List.length_take]; rfl)) ?_; (with_reducible refine (tokens_Scan.calls kj61 ((a0.extract 0 ((ji79) : Int).toNat) ++ a1) t587 t590 t591 t592 _ A83.out (by first | exact hT | exact hT.on (by assumption) | exact hT.on (by first | exact HB.out | exact Below.refl _ _ | (repeat (first | (with_reducible first | exact HB.out | apply below_alloc | apply pw_below_drewN | apply below_drew1 | refine below_set ?_ (Aside0.out (by assumption))) | exact HB.out))))).mono ?_); rintro e w85 ⟨v588, rfl, ho0, hb⟩; refine ⟨_, rfl, ?_⟩; have n0_ := Aside0.mk (Kd.R_lower ho0 (below_size (by repeat (first | (with_reducible first | exact HB.out | apply below_alloc | apply pw_below_drewN | apply below_drew1 | refine below_set ?_ GE578.out | refine below_set ?_ GE586.out) | exact HB.out)))); have n1_ := Aside0.mk (blk_below (g := gb578) (o := .cells #[.int .i64 t575, .int .i64 t576, .int .i64 t577] 25 (0, 0)) (by (with_reducible repeat (first | refine blk_drewN ?_ _ | refine blk_drew ?_ | refine blk_alloc ?_ _)); exact BK578.out) hb); have n2_ := Aside0.mk (blk_below (g := gb586) (o := .cells #[.int .i64 t583, .int .i64 t584, .int .i64 t585] 25 (0, 0)) (by (with_reducible repeat (first | refine blk_drewN ?_ _ | refine blk_drew ?_ | refine blk_alloc ?_ _)); exact BK586.out) hb); have n3_ := Aside0.mk (below_step (by repeat (first | (with_reducible first | exact HB.out | apply below_alloc | apply pw_below_drewN | apply below_drew1 | refine below_set ?_ GE578.out | refine below_set ?_ GE586.out) | exact HB.out)) hb); clear BK578; clear BK586; clear HB; have HO589 := n0_; have BK578 := n1_; have BK586 := n2_; have HB := n3_; clear n0_ n1_ n2_ n3_; (try clear hb); (try clear hb2); (try clear hk); (try clear hi); (try clear ho0); have hnb86 := NB586_578.out; have hnc86 := NB578_586.out; have hcz87_0 : w85.cell? ⟨gb586, 0, none⟩ = some (.int .i64 t583) := (blk_cell BK586.out 0).trans rfl; have hcz87_1 : w85.cell? ⟨gb586, 1, none⟩ = some (.int .i64 t584) := (blk_cell BK586.out 1).trans rfl; have hcz87_2 : w85.cell? ⟨gb586, 2, none⟩ = some (.int .i64 t585) := (blk_cell BK586.out 2).trans rfl; have hfz87_0 := blk_frozen BK586.out 0; have hfz87_1 := blk_frozen BK586.out 1; have hfz87_2 := blk_frozen BK586.out 2; obtain ⟨Ao88, co88, eo88⟩ := Kd.R_slice HO589.out; subst eo88; have hcz89_0 : w85.cell? ⟨gb578, 0, none⟩ = some (.int .i64 t575) := (blk_cell BK578.out 0).trans rfl; have hcz89_1 : w85.cell? ⟨gb578, 1, none⟩ = some (.int .i64 t576) := (blk_cell BK578.out 1).trans rfl; have hcz89_2 : w85.cell? ⟨gb578, 2, none⟩ = some (.int .i64 t577) := (blk_cell BK578.out 2).trans rfl; have hfz89_0 := blk_frozen BK578.out 0; have hfz89_1 := blk_frozen BK578.out 1; have hfz89_2 := blk_frozen BK578.out 2))
                                                go_ret
                                                exact ⟨by first | rfl | (simp [errW_none, errW_some] <;> rfl) | (simp only [← hji79]; first | rfl | (simp [errW_none, errW_some] <;> rfl)) | (simp [*, errW_none, errW_some] <;> rfl), by repeat (first | (with_reducible first | exact HB.out | apply below_alloc | apply pw_below_drewN | apply below_drew1 | refine below_set ?_ GE578.out | refine below_set ?_ GE586.out) | exact HB.out)⟩
                                              · rw [if_neg c84] at H
                                                have c84b0 : ((t587.length : Int) == 0) = false := beq_eq_false_iff_ne.mpr c84
                                                have c84b1 : ((t587.length : Int) != 0) = true := bne_iff_ne.mpr c84
                                                have c84b2 : ¬ (t587 = []) := fun h_ => c84 (by rw [h_]; rfl)
                                                obtain rfl := Option.some.inj H
                                                go_wp2_with (first | ((with_reducible refine gate_callee (f := 10) rfl ?_); refine goesL_ (some 139) rfl rfl Tryd.func10 (by kernel_rfl) rfl #[.string ((a0.extract 0 ((ji79) : Int).toNat) ++ a1)] rfl (by (try simp only [List.map_toArray, List.map_cons, List.map_nil]); first | done | (simp only [hji79]; rfl) | rfl | (simp only [List.length_drop, List.length_take]; rfl)) ?_; (with_reducible refine (tokens_Scan.calls kj61 ((a0.extract 0 ((ji79) : Int).toNat) ++ a1) t587 t590 t591 t592 _ A83.out (by first | exact hT | exact hT.on (by assumption) | exact hT.on (by first | exact HB.out | exact Below.refl _ _ | (repeat (first | (with_reducible first | exact HB.out | apply below_alloc | apply pw_below_drewN | apply below_drew1 | refine below_set ?_ (Aside0.out (by assumption))) | exact HB.out))))).mono ?_); rintro e w90 ⟨v588, rfl, ho0, hb⟩; refine ⟨_, rfl, ?_⟩; have n0_ := Aside0.mk (Kd.R_lower ho0 (below_size (by repeat (first | (with_reducible first | exact HB.out | apply below_alloc | apply pw_below_drewN | apply below_drew1 | refine below_set ?_ GE578.out | refine below_set ?_ GE586.out) | exact HB.out)))); have n1_ := Aside0.mk (blk_below (g := gb578) (o := .cells #[.int .i64 t575, .int .i64 t576, .int .i64 t577] 25 (0, 0)) (by (with_reducible repeat (first | refine blk_drewN ?_ _ | refine blk_drew ?_ | refine blk_alloc ?_ _)); exact BK578.out) hb); have n2_ := Aside0.mk (blk_below (g := gb586) (o := .cells #[.int .i64 t583, .int .i64 t584, .int .i64 t585] 25 (0, 0)) (by (with_reducible repeat (first | refine blk_drewN ?_ _ | refine blk_drew ?_ | refine blk_alloc ?_ _)); exact BK586.out) hb); have n3_ := Aside0.mk (below_step (by repeat (first | (with_reducible first | exact HB.out | apply below_alloc | apply pw_below_drewN | apply below_drew1 | refine below_set ?_ GE578.out | refine below_set ?_ GE586.out) | exact HB.out)) hb); clear BK578; clear BK586; clear HB; have HO589 := n0_; have BK578 := n1_; have BK586 := n2_; have HB := n3_; clear n0_ n1_ n2_ n3_; (try clear hb); (try clear hb2); (try clear hk); (try clear hi); (try clear ho0); have hnb91 := NB586_578.out; have hnc91 := NB578_586.out; have hcz92_0 : w90.cell? ⟨gb586, 0, none⟩ = some (.int .i64 t583) := (blk_cell BK586.out 0).trans rfl; have hcz92_1 : w90.cell? ⟨gb586, 1, none⟩ = some (.int .i64 t584) := (blk_cell BK586.out 1).trans rfl; have hcz92_2 : w90.cell? ⟨gb586, 2, none⟩ = some (.int .i64 t585) := (blk_cell BK586.out 2).trans rfl; have hfz92_0 := blk_frozen BK586.out 0; have hfz92_1 := blk_frozen BK586.out 1; have hfz92_2 := blk_frozen BK586.out 2; obtain ⟨Ao93, co93, eo93⟩ := Kd.R_slice HO589.out; subst eo93))
                                                go_ret
                                                exact ⟨by first | rfl | (simp [errW_none, errW_some] <;> rfl) | (simp only [← hji79]; first | rfl | (simp [errW_none, errW_some] <;> rfl)) | (simp [*, errW_none, errW_some] <;> rfl), by repeat (first | (with_reducible first | exact HB.out | apply below_alloc | apply pw_below_drewN | apply below_drew1 | refine below_set ?_ GE578.out | refine below_set ?_ GE586.out) | exact HB.out)⟩
                                            · rw [if_neg c82] at H
                                              exact absurd H (by simp)
                                          · rw [if_neg c81] at H
                                            exact absurd H (by simp)
                                        · rw [if_neg c80] at H
                                          exact absurd H (by simp)
                            · rw [if_neg c60] at H
                              exact absurd H (by simp)
                          · rw [if_neg c56] at H
                            exact absurd H (by simp)
                        · rw [if_neg c55] at H
                          exact absurd H (by simp)
  · replace c4 := Bool.eq_false_iff.mpr c4
    subst c4
    have H1 : (some false) = some r := by rw [if_neg (show ¬ (false = true) by decide)] at H; exact H
    clear H
    have H := H1
    clear H1
    obtain rfl := Option.some.inj H
    go_enter Tryd.func8, Tryd.ntmps8
    go_wp2_with (first | ((with_reducible refine gate_callee (f := 13) rfl ?_); refine goesL_ (some 13) rfl rfl Tryd.func13 (by kernel_rfl) rfl #[] rfl (by (try simp only [List.map_toArray, List.map_cons, List.map_nil]); first | done | rfl | (simp only [List.length_drop, List.length_take]; rfl)) ?_; (with_reducible refine (latchkeylaw05_awake.calls k  false _ A3.out (by first | exact hT | exact hT.on (by assumption) | exact hT.on (by first | exact HB.out | exact Below.refl _ _ | (repeat (first | (with_reducible first | exact HB.out | apply below_alloc | apply pw_below_drewN | apply below_drew1 | refine below_set ?_ (Aside0.out (by assumption))) | exact HB.out))))).mono ?_); rintro e w94 ⟨rfl, hb⟩; refine ⟨_, rfl, ?_⟩; have n0_ := Aside0.mk (below_step (by repeat (first | (with_reducible first | exact HB.out | apply below_alloc | apply pw_below_drewN | apply below_drew1) | exact HB.out)) hb); clear HB; have HB := n0_; clear n0_; (try clear hb); (try clear hb2); (try clear hk); (try clear hi)))
    go_ret
    exact ⟨by first | rfl | (simp [errW_none, errW_some] <;> rfl) | (simp [*, errW_none, errW_some] <;> rfl), by repeat (first | (with_reducible first | exact HB.out | apply below_alloc | apply pw_below_drewN | apply below_drew1) | exact HB.out)⟩
def latchkeylaw05_TokensBegins.Pure : Prop := ∀ (a0 : ByteArray) (a1 : ByteArray), a0.size ≤ 140737488351232 → a1.size ≤ 140737488351232 → ∃ k, latchkeylaw05_TokensBegins.f k a0 a1 = some true
theorem latchkeylaw05_TokensBegins.walk (P : latchkeylaw05_TokensBegins.Pure) (a0 : ByteArray) (a1 : ByteArray) (w : World) (w0 : a0.size ≤ 140737488351232) (w1 : a1.size ≤ 140737488351232) (hT : VT w) :
    Calls Tryd.prog 8 #[.string a0, .string a1] w fun e w' => e = .returned (.bool true) ∧ Below w.heap.size w w' := by
  obtain ⟨k, h⟩ := P a0 a1 w0 w1
  refine (latchkeylaw05_TokensBegins.calls k a0 a1 true w h hT).mono ?_
  rintro e w' ⟨rfl, hd⟩
  exact ⟨rfl, hd⟩
end Go.Proofs.YteedjhoffjkhmaaDoor.PT
