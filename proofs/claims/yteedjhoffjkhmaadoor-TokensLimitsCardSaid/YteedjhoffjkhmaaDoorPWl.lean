import Derived.Test.YteedjhoffjkhmaaDoorPTx0
import Derived.Test.YteedjhoffjkhmaaDoorPTx1
import Derived.Test.YteedjhoffjkhmaaDoorPTx3
import Derived.Test.YteedjhoffjkhmaaDoorPTx6
import Derived.Test.YteedjhoffjkhmaaDoorPTx11
import Derived.Test.YteedjhoffjkhmaaDoorPTx17
namespace Go.Proofs.YteedjhoffjkhmaaDoor.PT
open Go.RowKit Go.Proofs.YteedjhoffjkhmaaDoorW.PrintWords Go.Proofs.YteedjhoffjkhmaaDoorW.PrintLast Go.Proofs.YteedjhoffjkhmaaDoorW.PrintMore
attribute [local go_sem] max2_int min2_int max_two min_two max_three min_three max_four min_four
set_option linter.unusedVariables false
set_option linter.unusedSimpArgs false
attribute [local go_sem high] eqA25
mutual
def latchkeylaw05_TokensLimits.l0 : Nat → List Int → Int → Option (Bool)
  | 0, _, _ => none
  | k + 1, x1, x2 => if x2 < (x1.length : Int) then (if 0 ≤ x2 then (latchkeylaw05_TokensLimits.l0 k (x1.set (x2 : Int).toNat 32) (wrap64 (x2 + 1))) else (none)) else ((tokens_Scan.f k (strOfNums x1)).bind fun bt200 => (if (bt200.1.length : Int) = 1 then (if bt200.2.1 = 0 then (if 0 < (bt200.1.length : Int) then (latchkeylaw05_TokensLimits.j1 k x1 (((rd_T37 bt200.1 0).f3) != 65537)) else (none)) else (latchkeylaw05_TokensLimits.j1 k x1 true)) else (latchkeylaw05_TokensLimits.j1 k x1 true)))
def latchkeylaw05_TokensLimits.j1 : Nat → List Int → Bool → Option (Bool)
  | 0, _, _ => none
  | k + 1, x1, x47 => if x47 = true then (some false) else (if (strOfNums x1).size + 1 ≤ 9223372036854775807 then ((tokens_Scan.f k ((strOfNums x1) ++ (⟨#[33]⟩ : ByteArray))).bind fun bt208 => (if (bt208.1.length : Int) = 0 then (latchkeylaw05_TokensLimits.j2 k (!(bt208.2.1 == 3) || (!(bt208.2.2.1 == 0) || (!(bt208.2.2.2 == 0))))) else (latchkeylaw05_TokensLimits.j2 k true))) else (none))
def latchkeylaw05_TokensLimits.j2 : Nat → Bool → Option (Bool)
  | 0, _ => none
  | k + 1, x62 => if x62 = true then (some false) else ((tokens_Scan.f k (⟨#[97, 98, 99, 100, 101, 102, 103, 104, 105, 106, 107, 108, 109, 110, 111, 112, 113, 114, 115, 116, 117, 118, 119, 120, 121, 122, 95, 48, 49, 50, 51, 52]⟩ : ByteArray)).bind fun bt215 => ((tokens_Scan.f k (⟨#[97, 98, 99, 100, 101, 102, 103, 104, 105, 106, 107, 108, 109, 110, 111, 112, 113, 114, 115, 116, 117, 118, 119, 120, 121, 122, 95, 48, 49, 50, 51, 52, 53]⟩ : ByteArray)).bind fun bt221 => (if (bt215.1.length : Int) = 2 then (if 0 < (bt215.1.length : Int) then (if ((rd_T37 bt215.1 0).f1).toList = ([97, 98, 99, 100, 101, 102, 103, 104, 105, 106, 107, 108, 109, 110, 111, 112, 113, 114, 115, 116, 117, 118, 119, 120, 121, 122, 95, 48, 49, 50, 51, 52] : List UInt8) then (if ((rd_T37 bt215.1 0).f0) = 1 then (if bt215.2.1 = 0 then (if (bt221.1.length : Int) = 0 then (latchkeylaw05_TokensLimits.j3 k (!(bt221.2.1 == 50) || (!(bt221.2.2.1 == 1) || (!(bt221.2.2.2 == 33))))) else (latchkeylaw05_TokensLimits.j3 k true)) else (latchkeylaw05_TokensLimits.j3 k true)) else (latchkeylaw05_TokensLimits.j3 k true)) else (latchkeylaw05_TokensLimits.j3 k true)) else (none)) else (latchkeylaw05_TokensLimits.j3 k true))))
def latchkeylaw05_TokensLimits.j3 : Nat → Bool → Option (Bool)
  | 0, _ => none
  | k + 1, x102 => if x102 = true then (some false) else (if 32769 ≤ 7036874417766 then (latchkeylaw05_TokensLimits.l1 k (List.replicate 32769 z37) 0) else (none))
def latchkeylaw05_TokensLimits.l1 : Nat → List (S37) → Int → Option (Bool)
  | 0, _, _ => none
  | k + 1, x7, x8 => if x8 < (x7.length : Int) then (if 0 ≤ x8 then (latchkeylaw05_TokensLimits.l1 k (x7.set (x8 : Int).toNat (⟨1, (⟨#[97]⟩ : ByteArray), 0, 0⟩ : S37)) (wrap64 (x8 + 1))) else (none)) else (if 1 ≤ (x7.length : Int) then ((tokens_Print.f k (x7.drop 1)).bind fun bt237 => ((tokens_Print.f k x7).bind fun bt239 => (if 32768 < (x7.length : Int) then ((tokens_Print.f k ((x7.set (32768 : Int).toNat (⟨(rd_T37 x7 32768).f0, (⟨#[97, 98]⟩ : ByteArray), (rd_T37 x7 32768).f2, (rd_T37 x7 32768).f3⟩ : S37)).drop 1)).bind fun bt242 => ((latchkeyref05_Words.f).bind fun t244 => (latchkeylaw05_TokensLimits.l2 k bt237.1 bt237.2 bt239.2 bt242.1 bt242.2 t244 0))) else (none)))) else (none))
def latchkeylaw05_TokensLimits.l2 : Nat → ByteArray → Int → Int → ByteArray → Int → List ByteArray → Int → Option (Bool)
  | 0, _, _, _, _, _, _, _ => none
  | k + 1, x9, x10, x12, x13, x14, x15, x16 => if x16 < (x15.length : Int) then (if 0 ≤ x16 then ((tokens_Scan.f k (rdOf ByteArray.empty x15 x16)).bind fun bt248 => (if (bt248.1.length : Int) = 2 then (if 0 < (bt248.1.length : Int) then (if ((rd_T37 bt248.1 0).f0) = 2 then (if bt248.2.1 = 0 then (latchkeylaw05_TokensLimits.l2 k x9 x10 x12 x13 x14 x15 (wrap64 (x16 + 1))) else (some false)) else (some false)) else (none)) else (some false))) else (none)) else (if x10 = 0 then (if (x9.size : Int) = 65535 then (if x12 = 3 then (if x14 = 0 then (if (x13.size : Int) = 65536 then ((latchkeylaw05_awake.f k).bind fun t255 => (some t255)) else (some false)) else (some false)) else (some false)) else (some false)) else (some false))
end
def latchkeylaw05_TokensLimits.f (k : Nat)  : Option (Bool) := if 65536 ≤ 281474976710656 then (latchkeylaw05_TokensLimits.l0 k (List.replicate 65536 0) 0) else (none)
set_option maxHeartbeats 8000000 in
set_option maxRecDepth 100000 in
theorem latchkeylaw05_TokensLimits.calls (k : Nat)  (r : Bool) (hr : r = true) (w : World) (h : latchkeylaw05_TokensLimits.f k  = some r) (hT : VT w) :
    Calls Tryd.prog 5 #[] w fun e w' => e = .returned (.bool r) ∧ Below w.heap.size w w' := by
  have hu25 := Tryd.underlying25
  have hu37 := Tryd.underlying37
  have HB := Aside0.mk (Below.refl w.heap.size w)
  have H : (if 65536 ≤ 281474976710656 then (latchkeylaw05_TokensLimits.l0 k (List.replicate 65536 0) 0) else (none)) = some r := h
  clear h
  by_cases c1 : 65536 ≤ 281474976710656
  · rw [if_pos c1] at H
    have c1b0 := eq_true c1
    have c1b1 : decide (65536 ≤ 281474976710656) = true := decide_eq_true c1
    clear c1
    obtain ⟨y196, hy196⟩ : ∃ y_ : List Int, y_ = (List.replicate 65536 0) := ⟨_, rfl⟩
    replace H : (latchkeylaw05_TokensLimits.l0 k y196 0) = some r := by first | (rw [hy196]; with_reducible exact H) | (have H2_ := (Option.bind_some _ _).symm.trans H; rw [hy196]; with_reducible exact H2_) | (have H2_ := (Option.bind_some _ _).symm.trans H; with_reducible exact H2_) | with_reducible exact H | (rw [hy196]; exact H) | exact H
    have Ny196 := Aside0.mk hy196
    clear hy196
    have H' := Aside0.mk H
    clear H
    go_enter Tryd.func5, Tryd.ntmps5
    go_wp2_with (first | ((with_reducible refine gate_dst (N := 17) rfl ?_); (try (refine gate_guard (by rfl) ?_; dsimp only)); refine Kd.R_make (Kd.int .u8) _ 5 rfl (N := 17) rfl 35 _ _ rfl 65536 rfl rfl Tryd.underlying35 (.int .u8 0) 1 info5 rfl (by decide) (by omega) 0 (ok := fun _ => True) (okp := fun _ => True) rfl (fun _ hk => hk) trivial (by omega) (by omega) (Below.refl _ _) (Nat.le_refl _) ?_; intro v197 w2 ho3 hb hg_ hnew_; clear hg_ hnew_; (first | rw [← Ny196.out] at ho3 | (simp only [Int.reduceToNat] at ho3; rw [← Ny196.out] at ho3)); have n0_ := Aside0.mk (Kd.R_lower ho3 (below_size (by repeat (first | (with_reducible first | exact HB.out | apply below_alloc | apply pw_below_drewN | apply below_drew1) | exact HB.out)))); have n1_ := Aside0.mk (below_step (by repeat (first | (with_reducible first | exact HB.out | apply below_alloc | apply pw_below_drewN | apply below_drew1) | exact HB.out)) hb); clear HB; have HO198 := n0_; have HB := n1_; clear n0_ n1_; clear hb ho3))
    go_loopg [2] k (fun kq v2 w' => ∃ (x1_1 : List Int) (x2_1 : Int), v2 = .int .i64 x2_1 ∧ Aside0 (latchkeylaw05_TokensLimits.l0 kq x1_1 x2_1 = some r) ∧ Aside0 (kq ≤ k) ∧ Aside0 (Kd.R (Kd.int .u8) 5 w' w.heap.size (fun _ => True) v197 x1_1) ∧ Aside0 (Below w.heap.size w w'))
    case atStart => exact ⟨(y196), (0), (by first | rfl | (simp; done) | (simp [*]; done)), H', ⟨Nat.le_refl _⟩, ⟨by (with_reducible repeat (first | apply Kd.R_alloc | apply Kd.R_drewN | apply Kd.R_drew)); exact HO198.out⟩, ⟨by repeat (first | (with_reducible first | exact HB.out | apply below_alloc | apply pw_below_drewN | apply below_drew1) | exact HB.out)⟩⟩
    case round =>
      clear H'
      try clear c1
      try clear c1b0
      try clear c1b1
      try clear p2
      obtain ⟨x1_1, x2_1, rfl, HA, HK1, HO_1, HB⟩ := hrel
      cases gk with
      | zero => exact absurd HA.out (by simp [latchkeylaw05_TokensLimits.l0])
      | succ k1 =>
        have H := HA.out
        clear HA
        simp only [latchkeylaw05_TokensLimits.l0] at H
        by_cases c4 : x2_1 < (x1_1.length : Int)
        · rw [if_pos c4] at H
          have c4b0 : decide (x2_1 < (x1_1.length : Int)) = true := decide_eq_true c4
          clear c4
          by_cases c5 : 0 ≤ x2_1
          · rw [if_pos c5] at H
            have c5b0 : decide (0 ≤ x2_1) = true := decide_eq_true c5
            clear c5
            obtain ⟨y199, hy199⟩ : ∃ y_ : List Int, y_ = (x1_1.set (x2_1 : Int).toNat 32) := ⟨_, rfl⟩
            replace H : (latchkeylaw05_TokensLimits.l0 k1 y199 (wrap64 (x2_1 + 1))) = some r := by first | (rw [hy199]; with_reducible exact H) | (have H2_ := (Option.bind_some _ _).symm.trans H; rw [hy199]; with_reducible exact H2_) | (have H2_ := (Option.bind_some _ _).symm.trans H; with_reducible exact H2_) | with_reducible exact H | (rw [hy199]; exact H) | exact H
            have Ny199 := Aside0.mk hy199
            clear hy199
            have H' := Aside0.mk H
            clear H
            obtain ⟨Ao7, co7, eo7⟩ := Kd.R_slice HO_1.out
            subst eo7
            have p6 : 0 ≤ (x2_1 : Int) := of_decide_eq_true (by first | (with_reducible assumption) | assumption)
            have q6 : (x2_1 : Int) < ((x1_1.length : Int) : Int) := of_decide_eq_true (by first | (with_reducible assumption) | assumption)
            obtain ⟨go6, co6, eo6, gb6, gl6, cl6, HG6⟩ := Kd.R_form HO_1.out (by omega)
            (first | cases eo6 | (injection eo6 with ea_ en_ ec_; (first | subst ea_ | (injection ea_ with ea_; subst ea_)); subst ec_; clear en_))
            have GB6 := Aside0.mk gb6
            have GG6 := Aside0.mk HG6
            clear gb6 gl6 HG6
            obtain ⟨hx6_0, hf6_0⟩ := Kd.R_celln 0 HO_1.out (x2_1 : Int) p6 q6
            replace p6 := eq_true p6
            replace q6 := eq_true q6
            have HP8 := Kd.R_putg HO_1.out (x2_1 : Int) 32
            go_wp2_with (first | ((with_reducible refine gate_store (t := 5) (p := 26) rfl ?_); refine store_event (t := 5) (p := 26) (v := ?vo_w9) (w1 := (wr.setCell ⟨go6, (x2_1 : Int).toNat, none⟩ (.int .u8 32))) ?hg ?ho ?hn ?hr ?_; (case ho => rfl); (case hg => rfl); (case hn => rfl); (case hr => first | (go_simp; done) | (go_simp; rfl)); intro w9 hw; have hg : wr.grownBy w9 (some go6) := (by rw [hw]; exact HP8.2); have hp_ : Kd.R (Kd.int .u8) 5 w9 w.heap.size (fun _ => True) (.slice (some ⟨go6, 0, none⟩) x1_1.length co7) y199 := (by rw [hw, Ny199.out]; exact HP8.1); clear HP8; have n0_ := Aside0.mk (hp_); have n1_ := Aside0.mk ((by rw [hw]; exact below_set (HB.out) GB6.out : Below w.heap.size w w9)); clear HO_1; clear HB; have HO_1 := n0_; have HB := n1_; clear n0_ n1_; clear hg hw hp_))
            go_roundg k1
            case measure => have := HK1.out; omega
            case rel => exact ⟨(y199), (wrap64 (x2_1 + 1)), (by first | rfl | (simp; done) | (simp [*]; done)), H', ⟨by have := HK1.out; omega⟩, ⟨by (with_reducible repeat (first | apply Kd.R_alloc | apply Kd.R_drewN | apply Kd.R_drew)); exact HO_1.out⟩, ⟨by repeat (first | (with_reducible first | exact HB.out | apply below_alloc | apply pw_below_drewN | apply below_drew1) | exact HB.out)⟩⟩
          · rw [if_neg c5] at H
            exact absurd H (by simp)
        · rw [if_neg c4] at H
          have c4b0 : decide (x2_1 < (x1_1.length : Int)) = false := decide_eq_false c4
          clear c4
          replace H := Option.bind_eq_some_iff.mp H
          obtain ⟨⟨t200, t203, t204, t205⟩, A100, H⟩ := H
          replace H : (if (t200.length : Int) = 1 then (if t203 = 0 then (if 0 < (t200.length : Int) then (latchkeylaw05_TokensLimits.j1 k1 x1_1 (((rd_T37 t200 0).f3) != 65537)) else (none)) else (latchkeylaw05_TokensLimits.j1 k1 x1_1 true)) else (latchkeylaw05_TokensLimits.j1 k1 x1_1 true)) = some r := H
          have A10 := Aside0.mk A100
          clear A100
          have HC11 := Aside0.mk H
          clear H
          obtain ⟨Ao12, co12, eo12⟩ := Kd.R_slice HO_1.out
          subst eo12
          have hcv13 := own_string (P := Tryd.prog) Tryd.underlying35 Tryd.underlying5 Tryd.underlying9 (Kd.own_of_R HO_1.out)
          go_upto_region 7 with (first | ((with_reducible refine gate_callee (f := 10) rfl ?_); refine goesL_ (some 30) rfl rfl Tryd.func10 (by kernel_rfl) rfl #[.string (strOfNums x1_1)] rfl (by (try simp only [List.map_toArray, List.map_cons, List.map_nil]); first | done | rfl | (simp only [List.length_drop, List.length_take]; rfl)) ?_; (with_reducible refine (tokens_Scan.calls k1 (strOfNums x1_1) t200 t203 t204 t205 _ A10.out (by first | exact hT | exact hT.on (by assumption) | exact hT.on (by first | exact HB.out | exact Below.refl _ _ | (repeat (first | (with_reducible first | exact HB.out | apply below_alloc | apply pw_below_drewN | apply below_drew1 | refine below_set ?_ (Aside0.out (by assumption))) | exact HB.out))))).mono ?_); rintro e w14 ⟨v201, rfl, ho0, hb⟩; refine ⟨_, rfl, ?_⟩; have n0_ := Aside0.mk (Kd.R_below (by (with_reducible repeat (first | apply Kd.R_alloc | apply Kd.R_drewN | apply Kd.R_drew)); exact HO_1.out) hb); have n1_ := Aside0.mk (Kd.R_lower ho0 (below_size (by repeat (first | (with_reducible first | exact HB.out | apply below_alloc | apply pw_below_drewN | apply below_drew1) | exact HB.out)))); have n2_ := Aside0.mk (below_step (by repeat (first | (with_reducible first | exact HB.out | apply below_alloc | apply pw_below_drewN | apply below_drew1) | exact HB.out)) hb); clear HO_1; clear HB; have HO_1 := n0_; have HO202 := n1_; have HB := n2_; clear n0_ n1_ n2_; (try clear hb); (try clear hb2); (try clear hk); (try clear hi); (try clear ho0)) | ((with_reducible refine gate_dst (N := 4) rfl ?_); (try (refine gate_guard (by rfl) ?_; dsimp only)); refine box_event ?hg (N := 4) ?hd (cs := #[.int .i64 0, .int .i64 0, .int .i64 0]) (t := 25) ?hr ?_; (case hd => rfl); (case hg => rfl); (case hr => first | (go_simp; done) | (go_simp; rfl)); intro gb206 hg w15 hbox hb; have n0_ := Aside0.mk (Kd.R_below (by (with_reducible repeat (first | apply Kd.R_alloc | apply Kd.R_drewN | apply Kd.R_drew)); exact HO_1.out) hb); have n1_ := Aside0.mk (Kd.R_below (by (with_reducible repeat (first | apply Kd.R_alloc | apply Kd.R_drewN | apply Kd.R_drew)); exact HO202.out) hb); have n2_ := Aside0.mk (below_step (by repeat (first | (with_reducible first | exact HB.out | apply below_alloc | apply pw_below_drewN | apply below_drew1) | exact HB.out)) hb); have n3_ := Aside0.mk (hbox); have n4_ := Aside0.mk ((by rw [hg]; exact (below_size (by repeat (first | (with_reducible first | exact HB.out | apply below_alloc | apply pw_below_drewN | apply below_drew1) | exact HB.out))) : w.heap.size ≤ gb206)); have n5_ := Aside0.mk ((by rw [hg]; exact (below_size (by repeat (first | (with_reducible first | exact HB.out | apply below_alloc | apply pw_below_drewN | apply below_drew1) | exact HB.out))) : w.heap.size ≤ gb206)); clear HO_1; clear HO202; clear HB; have HO_1 := n0_; have HO202 := n1_; have HB := n2_; have BK206 := n3_; have GW206 := n4_; have GE206 := n5_; clear n0_ n1_ n2_ n3_ n4_ n5_; clear hb hbox hg; have hcz16_0 : w15.cell? ⟨gb206, 0, none⟩ = some (.int .i64 0) := (blk_cell BK206.out 0).trans rfl; have hcz16_1 : w15.cell? ⟨gb206, 1, none⟩ = some (.int .i64 0) := (blk_cell BK206.out 1).trans rfl; have hcz16_2 : w15.cell? ⟨gb206, 2, none⟩ = some (.int .i64 0) := (blk_cell BK206.out 2).trans rfl; have hfz16_0 := blk_frozen BK206.out 0; have hfz16_1 := blk_frozen BK206.out 1; have hfz16_2 := blk_frozen BK206.out 2))
          (try simp only [Act.put, List.setIfInBounds_toArray, List.set_cons_zero, List.set_cons_succ])
          go_cut [47] (fun v47 wc => ∃ (kq : Nat) (x47_10 : Bool), v47 = .bool x47_10 ∧ Aside0 (latchkeylaw05_TokensLimits.j1 kq x1_1 x47_10 = some r) ∧ Aside0 (kq ≤ k1) ∧ Aside0 (Kd.R (Kd.int .u8) 5 wc w.heap.size (fun _ => True) (.slice Ao12 x1_1.length co12) x1_1) ∧ Aside0 (wc.heap[gb206]? = some (.cells #[.int .i64 t203, .int .i64 t204, .int .i64 t205] 25 (0, 0))) ∧ Aside0 (Below w.heap.size w wc))
          case first =>
            have H := HC11.out
            clear HC11
            by_cases c17 : (t200.length : Int) = 1
            · rw [if_pos c17] at H
              have c17b0 : ((t200.length : Int) == 1) = true := beq_iff_eq.mpr c17
              have c17b1 : ((t200.length : Int) != 1) = false := bne_eq_false_iff_eq.mpr c17
              clear c17
              (first | rw [c17b0] | (simp only [i64_w, i32_w]; rw [c17b0]) | skip)
              by_cases c18 : t203 = 0
              · rw [if_pos c18] at H
                have c18b0 : (t203 == 0) = true := beq_iff_eq.mpr c18
                have c18b1 : (t203 != 0) = false := bne_eq_false_iff_eq.mpr c18
                clear c18
                by_cases c19 : 0 < (t200.length : Int)
                · rw [if_pos c19] at H
                  have c19b0 : decide (0 < (t200.length : Int)) = true := decide_eq_true c19
                  have c19b1 : decide (0 < t200.length) = true := decide_eq_true (by omega)
                  clear c19
                  have H' := Aside0.mk H
                  clear H
                  obtain ⟨Ao20, co20, eo20⟩ := Kd.R_slice HO202.out
                  subst eo20
                  have hcz21_0 : w15.cell? ⟨gb206, 0, none⟩ = some (.int .i64 0) := (blk_cell BK206.out 0).trans rfl
                  have hcz21_1 : w15.cell? ⟨gb206, 1, none⟩ = some (.int .i64 0) := (blk_cell BK206.out 1).trans rfl
                  have hcz21_2 : w15.cell? ⟨gb206, 2, none⟩ = some (.int .i64 0) := (blk_cell BK206.out 2).trans rfl
                  have hfz21_0 := blk_frozen BK206.out 0
                  have hfz21_1 := blk_frozen BK206.out 1
                  have hfz21_2 := blk_frozen BK206.out 2
                  have p207 : 0 ≤ (0 : Int) := (by omega)
                  have q207 : 0 < (t200.length : Int) := of_decide_eq_true (by first | (with_reducible assumption) | assumption)
                  obtain ⟨ad207, e207, hx207_0, hx207_1, hx207_2, hx207_3⟩ := at_T37 (Kd.R_reads' HO202.out).2.2 0 p207 q207
                  cases e207
                  have qi207 : (0 < t200.length) = True := eq_true (by omega)
                  (try rw [show ((0 : Int)).toNat = 0 from rfl] at hx207_0)
                  (try rw [show 0 * 4 = 0 from rfl] at hx207_0)
                  (try rw [Addr.add_zero'] at hx207_0)
                  (try rw [show ((0 : Int)).toNat = 0 from rfl] at hx207_1)
                  (try rw [show 0 * 4 = 0 from rfl] at hx207_1)
                  (try rw [Addr.add_zero'] at hx207_1)
                  (try rw [show ((0 : Int)).toNat = 0 from rfl] at hx207_2)
                  (try rw [show 0 * 4 = 0 from rfl] at hx207_2)
                  (try rw [Addr.add_zero'] at hx207_2)
                  (try rw [show ((0 : Int)).toNat = 0 from rfl] at hx207_3)
                  (try rw [show 0 * 4 = 0 from rfl] at hx207_3)
                  (try rw [Addr.add_zero'] at hx207_3)
                  have hn207_0 : ad207.block ≠ gb206 := Kd.own_blk (Kd.R_ne HO202.out BK206.out (by decide))
                  have hn207_1 : ad207.block ≠ gb206 := Kd.own_blk (Kd.R_ne HO202.out BK206.out (by decide))
                  have hn207_2 : ad207.block ≠ gb206 := Kd.own_blk (Kd.R_ne HO202.out BK206.out (by decide))
                  replace hx207_0 := (cell_far (p := ⟨gb206, 0, none⟩) (by first | (rw [add_block]; exact hn207_0) | (show (Addr.add _ _).block ≠ _; rw [add_block]; exact hn207_0) | exact hn207_0) (.int .i64 t203)).trans hx207_0
                  replace hx207_1 := (cell_far (p := ⟨gb206, 0, none⟩) (by first | (rw [add_block]; exact hn207_0) | (show (Addr.add _ _).block ≠ _; rw [add_block]; exact hn207_0) | exact hn207_0) (.int .i64 t203)).trans hx207_1
                  replace hx207_2 := (cell_far (p := ⟨gb206, 0, none⟩) (by first | (rw [add_block]; exact hn207_0) | (show (Addr.add _ _).block ≠ _; rw [add_block]; exact hn207_0) | exact hn207_0) (.int .i64 t203)).trans hx207_2
                  replace hx207_3 := (cell_far (p := ⟨gb206, 0, none⟩) (by first | (rw [add_block]; exact hn207_0) | (show (Addr.add _ _).block ≠ _; rw [add_block]; exact hn207_0) | exact hn207_0) (.int .i64 t203)).trans hx207_3
                  replace hx207_0 := (cell_far (p := ⟨gb206, 1, none⟩) (by first | (rw [add_block]; exact hn207_1) | (show (Addr.add _ _).block ≠ _; rw [add_block]; exact hn207_1) | exact hn207_1) (.int .i64 t204)).trans hx207_0
                  replace hx207_1 := (cell_far (p := ⟨gb206, 1, none⟩) (by first | (rw [add_block]; exact hn207_1) | (show (Addr.add _ _).block ≠ _; rw [add_block]; exact hn207_1) | exact hn207_1) (.int .i64 t204)).trans hx207_1
                  replace hx207_2 := (cell_far (p := ⟨gb206, 1, none⟩) (by first | (rw [add_block]; exact hn207_1) | (show (Addr.add _ _).block ≠ _; rw [add_block]; exact hn207_1) | exact hn207_1) (.int .i64 t204)).trans hx207_2
                  replace hx207_3 := (cell_far (p := ⟨gb206, 1, none⟩) (by first | (rw [add_block]; exact hn207_1) | (show (Addr.add _ _).block ≠ _; rw [add_block]; exact hn207_1) | exact hn207_1) (.int .i64 t204)).trans hx207_3
                  replace hx207_0 := (cell_far (p := ⟨gb206, 2, none⟩) (by first | (rw [add_block]; exact hn207_2) | (show (Addr.add _ _).block ≠ _; rw [add_block]; exact hn207_2) | exact hn207_2) (.int .i64 t205)).trans hx207_0
                  replace hx207_1 := (cell_far (p := ⟨gb206, 2, none⟩) (by first | (rw [add_block]; exact hn207_2) | (show (Addr.add _ _).block ≠ _; rw [add_block]; exact hn207_2) | exact hn207_2) (.int .i64 t205)).trans hx207_1
                  replace hx207_2 := (cell_far (p := ⟨gb206, 2, none⟩) (by first | (rw [add_block]; exact hn207_2) | (show (Addr.add _ _).block ≠ _; rw [add_block]; exact hn207_2) | exact hn207_2) (.int .i64 t205)).trans hx207_2
                  replace hx207_3 := (cell_far (p := ⟨gb206, 2, none⟩) (by first | (rw [add_block]; exact hn207_2) | (show (Addr.add _ _).block ≠ _; rw [add_block]; exact hn207_2) | exact hn207_2) (.int .i64 t205)).trans hx207_3
                  clear hn207_0
                  clear hn207_1
                  clear hn207_2
                  replace p207 := eq_true p207
                  replace q207 := eq_true q207
                  go_wp2
                  go_meet
                  case rel => exact ⟨_, ((((rd_T37 t200 0).f3) != 65537)), (by first | rfl | (simp; done) | (simp [*]; done)), H', ⟨by have := HK1.out; first | omega | exact Nat.le_refl _⟩, ⟨by (with_reducible repeat (first | apply Kd.R_alloc | apply Kd.R_drewN | apply Kd.R_drew)); exact Kd.R_mono (Kd.R_far (p := ⟨gb206, 2, none⟩) (Kd.R_far (p := ⟨gb206, 1, none⟩) (Kd.R_far (p := ⟨gb206, 0, none⟩) (Kd.R_types HO_1.out BK206.out (by decide)) (fun _ hk => hk.2) (.int .i64 t203)) (fun _ hk => hk.2) (.int .i64 t204)) (fun _ hk => hk.2) (.int .i64 t205)) (fun _ hk => trivial)⟩, ⟨by (with_reducible repeat (first | refine blk_drewN ?_ _ | refine blk_drew ?_ | refine blk_alloc ?_ _)); refine blk_put (cs := #[.int .i64 t203, .int .i64 t204, .int .i64 0]) ?_ 2 _ rfl; (with_reducible repeat (first | refine blk_drewN ?_ _ | refine blk_drew ?_ | refine blk_alloc ?_ _)); refine blk_put (cs := #[.int .i64 t203, .int .i64 0, .int .i64 0]) ?_ 1 _ rfl; (with_reducible repeat (first | refine blk_drewN ?_ _ | refine blk_drew ?_ | refine blk_alloc ?_ _)); refine blk_put (cs := #[.int .i64 0, .int .i64 0, .int .i64 0]) ?_ 0 _ rfl; (with_reducible repeat (first | refine blk_drewN ?_ _ | refine blk_drew ?_ | refine blk_alloc ?_ _)); exact BK206.out⟩, ⟨by repeat (first | (with_reducible first | exact HB.out | apply below_alloc | apply pw_below_drewN | apply below_drew1 | refine below_set ?_ GE206.out) | exact HB.out)⟩⟩
                · rw [if_neg c19] at H
                  exact absurd H (by simp)
              · rw [if_neg c18] at H
                have c18b0 : (t203 == 0) = false := beq_eq_false_iff_ne.mpr c18
                have c18b1 : (t203 != 0) = true := bne_iff_ne.mpr c18
                have H' := Aside0.mk H
                clear H
                obtain ⟨Ao22, co22, eo22⟩ := Kd.R_slice HO202.out
                subst eo22
                have hcz23_0 : w15.cell? ⟨gb206, 0, none⟩ = some (.int .i64 0) := (blk_cell BK206.out 0).trans rfl
                have hcz23_1 : w15.cell? ⟨gb206, 1, none⟩ = some (.int .i64 0) := (blk_cell BK206.out 1).trans rfl
                have hcz23_2 : w15.cell? ⟨gb206, 2, none⟩ = some (.int .i64 0) := (blk_cell BK206.out 2).trans rfl
                have hfz23_0 := blk_frozen BK206.out 0
                have hfz23_1 := blk_frozen BK206.out 1
                have hfz23_2 := blk_frozen BK206.out 2
                go_wp2
                go_meet
                case rel => exact ⟨_, (true), (by first | rfl | (simp; done) | (simp [*]; done)), H', ⟨by have := HK1.out; first | omega | exact Nat.le_refl _⟩, ⟨by (with_reducible repeat (first | apply Kd.R_alloc | apply Kd.R_drewN | apply Kd.R_drew)); exact Kd.R_mono (Kd.R_far (p := ⟨gb206, 2, none⟩) (Kd.R_far (p := ⟨gb206, 1, none⟩) (Kd.R_far (p := ⟨gb206, 0, none⟩) (Kd.R_types HO_1.out BK206.out (by decide)) (fun _ hk => hk.2) (.int .i64 t203)) (fun _ hk => hk.2) (.int .i64 t204)) (fun _ hk => hk.2) (.int .i64 t205)) (fun _ hk => trivial)⟩, ⟨by (with_reducible repeat (first | refine blk_drewN ?_ _ | refine blk_drew ?_ | refine blk_alloc ?_ _)); refine blk_put (cs := #[.int .i64 t203, .int .i64 t204, .int .i64 0]) ?_ 2 _ rfl; (with_reducible repeat (first | refine blk_drewN ?_ _ | refine blk_drew ?_ | refine blk_alloc ?_ _)); refine blk_put (cs := #[.int .i64 t203, .int .i64 0, .int .i64 0]) ?_ 1 _ rfl; (with_reducible repeat (first | refine blk_drewN ?_ _ | refine blk_drew ?_ | refine blk_alloc ?_ _)); refine blk_put (cs := #[.int .i64 0, .int .i64 0, .int .i64 0]) ?_ 0 _ rfl; (with_reducible repeat (first | refine blk_drewN ?_ _ | refine blk_drew ?_ | refine blk_alloc ?_ _)); exact BK206.out⟩, ⟨by repeat (first | (with_reducible first | exact HB.out | apply below_alloc | apply pw_below_drewN | apply below_drew1 | refine below_set ?_ GE206.out) | exact HB.out)⟩⟩
            · rw [if_neg c17] at H
              have c17b0 : ((t200.length : Int) == 1) = false := beq_eq_false_iff_ne.mpr c17
              have c17b1 : ((t200.length : Int) != 1) = true := bne_iff_ne.mpr c17
              (first | rw [c17b0] | (simp only [i64_w, i32_w]; rw [c17b0]) | skip)
              have H' := Aside0.mk H
              clear H
              obtain ⟨Ao24, co24, eo24⟩ := Kd.R_slice HO202.out
              subst eo24
              go_wp2
              go_meet
              case rel => exact ⟨_, (true), (by first | rfl | (simp; done) | (simp [*]; done)), H', ⟨by have := HK1.out; first | omega | exact Nat.le_refl _⟩, ⟨by (with_reducible repeat (first | apply Kd.R_alloc | apply Kd.R_drewN | apply Kd.R_drew)); exact Kd.R_mono (Kd.R_far (p := ⟨gb206, 2, none⟩) (Kd.R_far (p := ⟨gb206, 1, none⟩) (Kd.R_far (p := ⟨gb206, 0, none⟩) (Kd.R_types HO_1.out BK206.out (by decide)) (fun _ hk => hk.2) (.int .i64 t203)) (fun _ hk => hk.2) (.int .i64 t204)) (fun _ hk => hk.2) (.int .i64 t205)) (fun _ hk => trivial)⟩, ⟨by (with_reducible repeat (first | refine blk_drewN ?_ _ | refine blk_drew ?_ | refine blk_alloc ?_ _)); refine blk_put (cs := #[.int .i64 t203, .int .i64 t204, .int .i64 0]) ?_ 2 _ rfl; (with_reducible repeat (first | refine blk_drewN ?_ _ | refine blk_drew ?_ | refine blk_alloc ?_ _)); refine blk_put (cs := #[.int .i64 t203, .int .i64 0, .int .i64 0]) ?_ 1 _ rfl; (with_reducible repeat (first | refine blk_drewN ?_ _ | refine blk_drew ?_ | refine blk_alloc ?_ _)); refine blk_put (cs := #[.int .i64 0, .int .i64 0, .int .i64 0]) ?_ 0 _ rfl; (with_reducible repeat (first | refine blk_drewN ?_ _ | refine blk_drew ?_ | refine blk_alloc ?_ _)); exact BK206.out⟩, ⟨by repeat (first | (with_reducible first | exact HB.out | apply below_alloc | apply pw_below_drewN | apply below_drew1 | refine below_set ?_ GE206.out) | exact HB.out)⟩⟩
          case rest =>
            clear HC11
            try clear c1
            try clear c1b0
            try clear c1b1
            try clear hcv1
            try clear p2
            try clear q2
            try clear hx2
            try clear qi2
            try clear c4
            try clear c4b0
            try clear c5
            try clear c5b0
            try clear p6
            try clear q6
            try clear hx6
            try clear hf6
            try clear c10
            try clear hcv13
            try clear c17
            try clear c17b0
            try clear c17b1
            try clear c18
            try clear c18b0
            try clear c18b1
            try clear c19
            try clear c19b0
            try clear c19b1
            try clear p20
            try clear q20
            try clear hx20
            try clear qi20
            try clear hcz16_0
            try clear hcz16_1
            try clear hcz16_2
            try clear hcz21_0
            try clear hcz21_1
            try clear hcz21_2
            try clear hcz23_0
            try clear hcz23_1
            try clear hcz23_2
            try clear hfz16_0
            try clear hfz16_1
            try clear hfz16_2
            try clear hfz21_0
            try clear hfz21_1
            try clear hfz21_2
            try clear hfz23_0
            try clear hfz23_1
            try clear hfz23_2
            try clear hx207_0
            try clear hx207_1
            try clear hx207_2
            try clear hx207_3
            try clear hx6_0
            try clear p2
            try clear p207
            try clear p6
            try clear q207
            try clear q6
            obtain ⟨kq, x47_10, rfl, HA, HJ10, HO_1, BK206, HB⟩ := hcut
            cases kq with
            | zero => exact absurd HA.out (by simp [latchkeylaw05_TokensLimits.j1])
            | succ kj10 =>
              have H := HA.out
              clear HA
              simp only [latchkeylaw05_TokensLimits.j1] at H
              by_cases c25 : x47_10 = true
              · subst c25
                have H1 : (some false) = some r := by rw [if_pos rfl] at H; exact H
                clear H
                have H := H1
                clear H1
                exact absurd (Option.some.inj H) (by rw [hr]; decide)
              · replace c25 := Bool.eq_false_iff.mpr c25
                subst c25
                have H1 : (if (strOfNums x1_1).size + 1 ≤ 9223372036854775807 then ((tokens_Scan.f kj10 ((strOfNums x1_1) ++ (⟨#[33]⟩ : ByteArray))).bind fun bt208 => (if (bt208.1.length : Int) = 0 then (latchkeylaw05_TokensLimits.j2 kj10 (!(bt208.2.1 == 3) || (!(bt208.2.2.1 == 0) || (!(bt208.2.2.2 == 0))))) else (latchkeylaw05_TokensLimits.j2 kj10 true))) else (none)) = some r := by rw [if_neg (show ¬ (false = true) by decide)] at H; exact H
                clear H
                have H := H1
                clear H1
                by_cases c26 : (strOfNums x1_1).size + 1 ≤ 9223372036854775807
                · rw [if_pos c26] at H
                  have c26b0 := eq_true c26
                  have c26b1 : decide ((strOfNums x1_1).size + 1 ≤ 9223372036854775807) = true := decide_eq_true c26
                  try have c26b2 : (9223372036854775807 < (strOfNums x1_1).size + 1) = False := eq_false (Nat.not_lt.2 c26)
                  replace H := Option.bind_eq_some_iff.mp H
                  obtain ⟨⟨t208, t211, t212, t213⟩, A270, H⟩ := H
                  replace H : (if (t208.length : Int) = 0 then (latchkeylaw05_TokensLimits.j2 kj10 (!(t211 == 3) || (!(t212 == 0) || (!(t213 == 0))))) else (latchkeylaw05_TokensLimits.j2 kj10 true)) = some r := H
                  have A27 := Aside0.mk A270
                  clear A270
                  have HC28 := Aside0.mk H
                  clear H
                  have hcv29 := own_string (P := Tryd.prog) Tryd.underlying35 Tryd.underlying5 Tryd.underlying9 (Kd.own_of_R HO_1.out)
                  go_upto_region 10 with (first | ((with_reducible refine gate_callee (f := 10) rfl ?_); refine goesL_ (some 52) rfl rfl Tryd.func10 (by kernel_rfl) rfl #[.string ((strOfNums x1_1) ++ (⟨#[33]⟩ : ByteArray))] rfl (by (try simp only [List.map_toArray, List.map_cons, List.map_nil]); first | done | rfl | (simp only [List.length_drop, List.length_take]; rfl)) ?_; (with_reducible refine (tokens_Scan.calls kj10 ((strOfNums x1_1) ++ (⟨#[33]⟩ : ByteArray)) t208 t211 t212 t213 _ A27.out (by first | exact hT | exact hT.on (by assumption) | exact hT.on (by first | exact HB.out | exact Below.refl _ _ | (repeat (first | (with_reducible first | exact HB.out | apply below_alloc | apply pw_below_drewN | apply below_drew1 | refine below_set ?_ (Aside0.out (by assumption))) | exact HB.out))))).mono ?_); rintro e w30 ⟨v209, rfl, ho0, hb⟩; refine ⟨_, rfl, ?_⟩; have n0_ := Aside0.mk (Kd.R_below (by (with_reducible repeat (first | apply Kd.R_alloc | apply Kd.R_drewN | apply Kd.R_drew)); exact HO_1.out) hb); have n1_ := Aside0.mk (Kd.R_lower ho0 (below_size (by repeat (first | (with_reducible first | exact HB.out | apply below_alloc | apply pw_below_drewN | apply below_drew1 | refine below_set ?_ GE206.out) | exact HB.out)))); have n2_ := Aside0.mk (blk_below (g := gb206) (o := .cells #[.int .i64 t203, .int .i64 t204, .int .i64 t205] 25 (0, 0)) (by (with_reducible repeat (first | refine blk_drewN ?_ _ | refine blk_drew ?_ | refine blk_alloc ?_ _)); exact BK206.out) hb); have n3_ := Aside0.mk (below_step (by repeat (first | (with_reducible first | exact HB.out | apply below_alloc | apply pw_below_drewN | apply below_drew1 | refine below_set ?_ GE206.out) | exact HB.out)) hb); clear HO_1; clear BK206; clear HB; have HO_1 := n0_; have HO210 := n1_; have BK206 := n2_; have HB := n3_; clear n0_ n1_ n2_ n3_; (try clear hb); (try clear hb2); (try clear hk); (try clear hi); (try clear ho0)) | ((with_reducible refine gate_dst (N := 6) rfl ?_); (try (refine gate_guard (by rfl) ?_; dsimp only)); refine box_event ?hg (N := 6) ?hd (cs := #[.int .i64 0, .int .i64 0, .int .i64 0]) (t := 25) ?hr ?_; (case hd => rfl); (case hg => rfl); (case hr => first | (go_simp; done) | (go_simp; rfl)); intro gb214 hg w31 hbox hb; have n0_ := Aside0.mk (Kd.R_below (by (with_reducible repeat (first | apply Kd.R_alloc | apply Kd.R_drewN | apply Kd.R_drew)); exact HO_1.out) hb); have n1_ := Aside0.mk (Kd.R_below (by (with_reducible repeat (first | apply Kd.R_alloc | apply Kd.R_drewN | apply Kd.R_drew)); exact HO210.out) hb); have n2_ := Aside0.mk (blk_below (g := gb206) (o := .cells #[.int .i64 t203, .int .i64 t204, .int .i64 t205] 25 (0, 0)) (by (with_reducible repeat (first | refine blk_drewN ?_ _ | refine blk_drew ?_ | refine blk_alloc ?_ _)); exact BK206.out) hb); have n3_ := Aside0.mk (below_step (by repeat (first | (with_reducible first | exact HB.out | apply below_alloc | apply pw_below_drewN | apply below_drew1 | refine below_set ?_ GE206.out) | exact HB.out)) hb); have n4_ := Aside0.mk (hbox); have n5_ := Aside0.mk ((by rw [hg]; exact (below_size (by repeat (first | (with_reducible first | exact HB.out | apply below_alloc | apply pw_below_drewN | apply below_drew1 | refine below_set ?_ GE206.out) | exact HB.out))) : w.heap.size ≤ gb214)); have n6_ := Aside0.mk ((by rw [hg]; exact (below_size (by repeat (first | (with_reducible first | exact HB.out | apply below_alloc | apply pw_below_drewN | apply below_drew1 | refine below_set ?_ GE206.out) | exact HB.out))) : w.heap.size ≤ gb214)); have n7_ := Aside0.mk ((by rw [hg]; exact Nat.ne_of_lt (blk_lt (g := gb206) (o := .cells #[.int .i64 t203, .int .i64 t204, .int .i64 t205] 25 (0, 0)) (by (with_reducible repeat (first | refine blk_drewN ?_ _ | refine blk_drew ?_ | refine blk_alloc ?_ _)); exact BK206.out)) : gb206 ≠ gb214)); have n8_ := Aside0.mk ((by rw [hg]; exact Nat.ne_of_gt (blk_lt (g := gb206) (o := .cells #[.int .i64 t203, .int .i64 t204, .int .i64 t205] 25 (0, 0)) (by (with_reducible repeat (first | refine blk_drewN ?_ _ | refine blk_drew ?_ | refine blk_alloc ?_ _)); exact BK206.out)) : gb214 ≠ gb206)); clear HO_1; clear HO210; clear BK206; clear HB; have HO_1 := n0_; have HO210 := n1_; have BK206 := n2_; have HB := n3_; have BK214 := n4_; have GW214 := n5_; have GE214 := n6_; have NB206_214 := n7_; have NB214_206 := n8_; clear n0_ n1_ n2_ n3_ n4_ n5_ n6_ n7_ n8_; clear hb hbox hg; have hnb32 := NB214_206.out; have hnc32 := NB206_214.out; have hcz33_0 : w31.cell? ⟨gb214, 0, none⟩ = some (.int .i64 0) := (blk_cell BK214.out 0).trans rfl; have hcz33_1 : w31.cell? ⟨gb214, 1, none⟩ = some (.int .i64 0) := (blk_cell BK214.out 1).trans rfl; have hcz33_2 : w31.cell? ⟨gb214, 2, none⟩ = some (.int .i64 0) := (blk_cell BK214.out 2).trans rfl; have hfz33_0 := blk_frozen BK214.out 0; have hfz33_1 := blk_frozen BK214.out 1; have hfz33_2 := blk_frozen BK214.out 2))
                  (try simp only [Act.put, List.setIfInBounds_toArray, List.set_cons_zero, List.set_cons_succ])
                  go_cut [62] (fun v62 wc => ∃ (kq : Nat) (x62_27 : Bool), v62 = .bool x62_27 ∧ Aside0 (latchkeylaw05_TokensLimits.j2 kq x62_27 = some r) ∧ Aside0 (kq ≤ kj10) ∧ Aside0 (wc.heap[gb206]? = some (.cells #[.int .i64 t203, .int .i64 t204, .int .i64 t205] 25 (0, 0))) ∧ Aside0 (wc.heap[gb214]? = some (.cells #[.int .i64 t211, .int .i64 t212, .int .i64 t213] 25 (0, 0))) ∧ Aside0 (Below w.heap.size w wc))
                  case first =>
                    have H := HC28.out
                    clear HC28
                    by_cases c34 : (t208.length : Int) = 0
                    · rw [if_pos c34] at H
                      have c34b0 : ((t208.length : Int) == 0) = true := beq_iff_eq.mpr c34
                      have c34b1 : ((t208.length : Int) != 0) = false := bne_eq_false_iff_eq.mpr c34
                      clear c34
                      (first | rw [c34b0] | (simp only [i64_w, i32_w]; rw [c34b0]) | skip)
                      have H' := Aside0.mk H
                      clear H
                      obtain ⟨Ao35, co35, eo35⟩ := Kd.R_slice HO210.out
                      subst eo35
                      have hnb36 := NB214_206.out
                      have hnc36 := NB206_214.out
                      have hcz37_0 : w31.cell? ⟨gb214, 0, none⟩ = some (.int .i64 0) := (blk_cell BK214.out 0).trans rfl
                      have hcz37_1 : w31.cell? ⟨gb214, 1, none⟩ = some (.int .i64 0) := (blk_cell BK214.out 1).trans rfl
                      have hcz37_2 : w31.cell? ⟨gb214, 2, none⟩ = some (.int .i64 0) := (blk_cell BK214.out 2).trans rfl
                      have hfz37_0 := blk_frozen BK214.out 0
                      have hfz37_1 := blk_frozen BK214.out 1
                      have hfz37_2 := blk_frozen BK214.out 2
                      go_wp2
                      go_meet
                      case rel => exact ⟨_, ((!(t211 == 3) || (!(t212 == 0) || (!(t213 == 0))))), (by first | rfl | (simp; done) | (simp [*]; done)), H', ⟨by have := HK1.out; have := HJ10.out; first | omega | exact Nat.le_refl _⟩, ⟨by (with_reducible repeat (first | refine blk_drewN ?_ _ | refine blk_drew ?_ | refine blk_alloc ?_ _)); refine blk_far ?_ NB206_214.out _; (with_reducible repeat (first | refine blk_drewN ?_ _ | refine blk_drew ?_ | refine blk_alloc ?_ _)); refine blk_far ?_ NB206_214.out _; (with_reducible repeat (first | refine blk_drewN ?_ _ | refine blk_drew ?_ | refine blk_alloc ?_ _)); refine blk_far ?_ NB206_214.out _; (with_reducible repeat (first | refine blk_drewN ?_ _ | refine blk_drew ?_ | refine blk_alloc ?_ _)); exact BK206.out⟩, ⟨by (with_reducible repeat (first | refine blk_drewN ?_ _ | refine blk_drew ?_ | refine blk_alloc ?_ _)); refine blk_put (cs := #[.int .i64 t211, .int .i64 t212, .int .i64 0]) ?_ 2 _ rfl; (with_reducible repeat (first | refine blk_drewN ?_ _ | refine blk_drew ?_ | refine blk_alloc ?_ _)); refine blk_put (cs := #[.int .i64 t211, .int .i64 0, .int .i64 0]) ?_ 1 _ rfl; (with_reducible repeat (first | refine blk_drewN ?_ _ | refine blk_drew ?_ | refine blk_alloc ?_ _)); refine blk_put (cs := #[.int .i64 0, .int .i64 0, .int .i64 0]) ?_ 0 _ rfl; (with_reducible repeat (first | refine blk_drewN ?_ _ | refine blk_drew ?_ | refine blk_alloc ?_ _)); exact BK214.out⟩, ⟨by repeat (first | (with_reducible first | exact HB.out | apply below_alloc | apply pw_below_drewN | apply below_drew1 | refine below_set ?_ GE206.out | refine below_set ?_ GE214.out) | exact HB.out)⟩⟩
                    · rw [if_neg c34] at H
                      have c34b0 : ((t208.length : Int) == 0) = false := beq_eq_false_iff_ne.mpr c34
                      have c34b1 : ((t208.length : Int) != 0) = true := bne_iff_ne.mpr c34
                      have c34b2 : ¬ (t208 = []) := fun h_ => c34 (by rw [h_]; rfl)
                      (first | rw [c34b0] | (simp only [i64_w, i32_w]; rw [c34b0]) | skip)
                      have H' := Aside0.mk H
                      clear H
                      obtain ⟨Ao38, co38, eo38⟩ := Kd.R_slice HO210.out
                      subst eo38
                      go_wp2
                      go_meet
                      case rel => exact ⟨_, (true), (by first | rfl | (simp; done) | (simp [*]; done)), H', ⟨by have := HK1.out; have := HJ10.out; first | omega | exact Nat.le_refl _⟩, ⟨by (with_reducible repeat (first | refine blk_drewN ?_ _ | refine blk_drew ?_ | refine blk_alloc ?_ _)); refine blk_far ?_ NB206_214.out _; (with_reducible repeat (first | refine blk_drewN ?_ _ | refine blk_drew ?_ | refine blk_alloc ?_ _)); refine blk_far ?_ NB206_214.out _; (with_reducible repeat (first | refine blk_drewN ?_ _ | refine blk_drew ?_ | refine blk_alloc ?_ _)); refine blk_far ?_ NB206_214.out _; (with_reducible repeat (first | refine blk_drewN ?_ _ | refine blk_drew ?_ | refine blk_alloc ?_ _)); exact BK206.out⟩, ⟨by (with_reducible repeat (first | refine blk_drewN ?_ _ | refine blk_drew ?_ | refine blk_alloc ?_ _)); refine blk_put (cs := #[.int .i64 t211, .int .i64 t212, .int .i64 0]) ?_ 2 _ rfl; (with_reducible repeat (first | refine blk_drewN ?_ _ | refine blk_drew ?_ | refine blk_alloc ?_ _)); refine blk_put (cs := #[.int .i64 t211, .int .i64 0, .int .i64 0]) ?_ 1 _ rfl; (with_reducible repeat (first | refine blk_drewN ?_ _ | refine blk_drew ?_ | refine blk_alloc ?_ _)); refine blk_put (cs := #[.int .i64 0, .int .i64 0, .int .i64 0]) ?_ 0 _ rfl; (with_reducible repeat (first | refine blk_drewN ?_ _ | refine blk_drew ?_ | refine blk_alloc ?_ _)); exact BK214.out⟩, ⟨by repeat (first | (with_reducible first | exact HB.out | apply below_alloc | apply pw_below_drewN | apply below_drew1 | refine below_set ?_ GE206.out | refine below_set ?_ GE214.out) | exact HB.out)⟩⟩
                  case rest =>
                    clear HC28
                    try clear c1
                    try clear c1b0
                    try clear c1b1
                    try clear hcv1
                    try clear c2
                    try clear p2
                    try clear q2
                    try clear hx2
                    try clear hcv2
                    try clear qi2
                    try clear c3
                    try clear c4
                    try clear c4b0
                    try clear c5
                    try clear c5b0
                    try clear p6
                    try clear q6
                    try clear hx6
                    try clear hf6
                    try clear c10
                    try clear hcv13
                    try clear c17
                    try clear c17b0
                    try clear c17b1
                    try clear c18
                    try clear c18b0
                    try clear c18b1
                    try clear c19
                    try clear c19b0
                    try clear c19b1
                    try clear p20
                    try clear q20
                    try clear hx20
                    try clear qi20
                    try clear c25
                    try clear c26
                    try clear c26b0
                    try clear c26b1
                    try clear c26b2
                    try clear hcv29
                    try clear c32
                    try clear c34
                    try clear c34b0
                    try clear c34b1
                    try clear c34b2
                    try clear c36
                    try clear hcz16_0
                    try clear hcz16_1
                    try clear hcz16_2
                    try clear hcz21_0
                    try clear hcz21_1
                    try clear hcz21_2
                    try clear hcz23_0
                    try clear hcz23_1
                    try clear hcz23_2
                    try clear hcz33_0
                    try clear hcz33_1
                    try clear hcz33_2
                    try clear hcz37_0
                    try clear hcz37_1
                    try clear hcz37_2
                    try clear hfz16_0
                    try clear hfz16_1
                    try clear hfz16_2
                    try clear hfz21_0
                    try clear hfz21_1
                    try clear hfz21_2
                    try clear hfz23_0
                    try clear hfz23_1
                    try clear hfz23_2
                    try clear hfz33_0
                    try clear hfz33_1
                    try clear hfz33_2
                    try clear hfz37_0
                    try clear hfz37_1
                    try clear hfz37_2
                    try clear hx207_0
                    try clear hx207_1
                    try clear hx207_2
                    try clear hx207_3
                    try clear hx6_0
                    try clear p2
                    try clear p20
                    try clear p207
                    try clear p6
                    try clear q2
                    try clear q20
                    try clear q207
                    try clear q6
                    obtain ⟨kq, x62_27, rfl, HA, HJ27, BK206, BK214, HB⟩ := hcut
                    cases kq with
                    | zero => exact absurd HA.out (by simp [latchkeylaw05_TokensLimits.j2])
                    | succ kj27 =>
                      have H := HA.out
                      clear HA
                      simp only [latchkeylaw05_TokensLimits.j2] at H
                      by_cases c39 : x62_27 = true
                      · subst c39
                        have H1 : (some false) = some r := by rw [if_pos rfl] at H; exact H
                        clear H
                        have H := H1
                        clear H1
                        exact absurd (Option.some.inj H) (by rw [hr]; decide)
                      · replace c39 := Bool.eq_false_iff.mpr c39
                        subst c39
                        have H1 : ((tokens_Scan.f kj27 (⟨#[97, 98, 99, 100, 101, 102, 103, 104, 105, 106, 107, 108, 109, 110, 111, 112, 113, 114, 115, 116, 117, 118, 119, 120, 121, 122, 95, 48, 49, 50, 51, 52]⟩ : ByteArray)).bind fun bt215 => ((tokens_Scan.f kj27 (⟨#[97, 98, 99, 100, 101, 102, 103, 104, 105, 106, 107, 108, 109, 110, 111, 112, 113, 114, 115, 116, 117, 118, 119, 120, 121, 122, 95, 48, 49, 50, 51, 52, 53]⟩ : ByteArray)).bind fun bt221 => (if (bt215.1.length : Int) = 2 then (if 0 < (bt215.1.length : Int) then (if ((rd_T37 bt215.1 0).f1).toList = ([97, 98, 99, 100, 101, 102, 103, 104, 105, 106, 107, 108, 109, 110, 111, 112, 113, 114, 115, 116, 117, 118, 119, 120, 121, 122, 95, 48, 49, 50, 51, 52] : List UInt8) then (if ((rd_T37 bt215.1 0).f0) = 1 then (if bt215.2.1 = 0 then (if (bt221.1.length : Int) = 0 then (latchkeylaw05_TokensLimits.j3 kj27 (!(bt221.2.1 == 50) || (!(bt221.2.2.1 == 1) || (!(bt221.2.2.2 == 33))))) else (latchkeylaw05_TokensLimits.j3 kj27 true)) else (latchkeylaw05_TokensLimits.j3 kj27 true)) else (latchkeylaw05_TokensLimits.j3 kj27 true)) else (latchkeylaw05_TokensLimits.j3 kj27 true)) else (none)) else (latchkeylaw05_TokensLimits.j3 kj27 true)))) = some r := by rw [if_neg (show ¬ (false = true) by decide)] at H; exact H
                        clear H
                        have H := H1
                        clear H1
                        replace H := Option.bind_eq_some_iff.mp H
                        obtain ⟨⟨t215, t218, t219, t220⟩, A400, H⟩ := H
                        replace H : ((tokens_Scan.f kj27 (⟨#[97, 98, 99, 100, 101, 102, 103, 104, 105, 106, 107, 108, 109, 110, 111, 112, 113, 114, 115, 116, 117, 118, 119, 120, 121, 122, 95, 48, 49, 50, 51, 52, 53]⟩ : ByteArray)).bind fun bt221 => (if (t215.length : Int) = 2 then (if 0 < (t215.length : Int) then (if ((rd_T37 t215 0).f1).toList = ([97, 98, 99, 100, 101, 102, 103, 104, 105, 106, 107, 108, 109, 110, 111, 112, 113, 114, 115, 116, 117, 118, 119, 120, 121, 122, 95, 48, 49, 50, 51, 52] : List UInt8) then (if ((rd_T37 t215 0).f0) = 1 then (if t218 = 0 then (if (bt221.1.length : Int) = 0 then (latchkeylaw05_TokensLimits.j3 kj27 (!(bt221.2.1 == 50) || (!(bt221.2.2.1 == 1) || (!(bt221.2.2.2 == 33))))) else (latchkeylaw05_TokensLimits.j3 kj27 true)) else (latchkeylaw05_TokensLimits.j3 kj27 true)) else (latchkeylaw05_TokensLimits.j3 kj27 true)) else (latchkeylaw05_TokensLimits.j3 kj27 true)) else (none)) else (latchkeylaw05_TokensLimits.j3 kj27 true))) = some r := H
                        have A40 := Aside0.mk A400
                        clear A400
                        replace H := Option.bind_eq_some_iff.mp H
                        obtain ⟨⟨t221, t224, t225, t226⟩, A410, H⟩ := H
                        replace H : (if (t215.length : Int) = 2 then (if 0 < (t215.length : Int) then (if ((rd_T37 t215 0).f1).toList = ([97, 98, 99, 100, 101, 102, 103, 104, 105, 106, 107, 108, 109, 110, 111, 112, 113, 114, 115, 116, 117, 118, 119, 120, 121, 122, 95, 48, 49, 50, 51, 52] : List UInt8) then (if ((rd_T37 t215 0).f0) = 1 then (if t218 = 0 then (if (t221.length : Int) = 0 then (latchkeylaw05_TokensLimits.j3 kj27 (!(t224 == 50) || (!(t225 == 1) || (!(t226 == 33))))) else (latchkeylaw05_TokensLimits.j3 kj27 true)) else (latchkeylaw05_TokensLimits.j3 kj27 true)) else (latchkeylaw05_TokensLimits.j3 kj27 true)) else (latchkeylaw05_TokensLimits.j3 kj27 true)) else (none)) else (latchkeylaw05_TokensLimits.j3 kj27 true)) = some r := H
                        have A41 := Aside0.mk A410
                        clear A410
                        have HC42 := Aside0.mk H
                        clear H
                        go_upto_region 14 with (first | ((with_reducible refine gate_callee (f := 10) rfl ?_); refine goesL_ (some 64) rfl rfl Tryd.func10 (by kernel_rfl) rfl #[.string (⟨#[97, 98, 99, 100, 101, 102, 103, 104, 105, 106, 107, 108, 109, 110, 111, 112, 113, 114, 115, 116, 117, 118, 119, 120, 121, 122, 95, 48, 49, 50, 51, 52]⟩ : ByteArray)] rfl (by (try simp only [List.map_toArray, List.map_cons, List.map_nil]); first | done | rfl | (simp only [List.length_drop, List.length_take]; rfl)) ?_; (with_reducible refine (tokens_Scan.calls kj27 (⟨#[97, 98, 99, 100, 101, 102, 103, 104, 105, 106, 107, 108, 109, 110, 111, 112, 113, 114, 115, 116, 117, 118, 119, 120, 121, 122, 95, 48, 49, 50, 51, 52]⟩ : ByteArray) t215 t218 t219 t220 _ A40.out (by first | exact hT | exact hT.on (by assumption) | exact hT.on (by first | exact HB.out | exact Below.refl _ _ | (repeat (first | (with_reducible first | exact HB.out | apply below_alloc | apply pw_below_drewN | apply below_drew1 | refine below_set ?_ (Aside0.out (by assumption))) | exact HB.out))))).mono ?_); rintro e w43 ⟨v216, rfl, ho0, hb⟩; refine ⟨_, rfl, ?_⟩; have n0_ := Aside0.mk (Kd.R_lower ho0 (below_size (by repeat (first | (with_reducible first | exact HB.out | apply below_alloc | apply pw_below_drewN | apply below_drew1 | refine below_set ?_ GE206.out | refine below_set ?_ GE214.out) | exact HB.out)))); have n1_ := Aside0.mk (blk_below (g := gb206) (o := .cells #[.int .i64 t203, .int .i64 t204, .int .i64 t205] 25 (0, 0)) (by (with_reducible repeat (first | refine blk_drewN ?_ _ | refine blk_drew ?_ | refine blk_alloc ?_ _)); exact BK206.out) hb); have n2_ := Aside0.mk (blk_below (g := gb214) (o := .cells #[.int .i64 t211, .int .i64 t212, .int .i64 t213] 25 (0, 0)) (by (with_reducible repeat (first | refine blk_drewN ?_ _ | refine blk_drew ?_ | refine blk_alloc ?_ _)); exact BK214.out) hb); have n3_ := Aside0.mk (below_step (by repeat (first | (with_reducible first | exact HB.out | apply below_alloc | apply pw_below_drewN | apply below_drew1 | refine below_set ?_ GE206.out | refine below_set ?_ GE214.out) | exact HB.out)) hb); clear BK206; clear BK214; clear HB; have HO217 := n0_; have BK206 := n1_; have BK214 := n2_; have HB := n3_; clear n0_ n1_ n2_ n3_; (try clear hb); (try clear hb2); (try clear hk); (try clear hi); (try clear ho0); have hnb44 := NB206_214.out; have hnc44 := NB214_206.out; have hcz45_0 : w43.cell? ⟨gb206, 0, none⟩ = some (.int .i64 t203) := (blk_cell BK206.out 0).trans rfl; have hcz45_1 : w43.cell? ⟨gb206, 1, none⟩ = some (.int .i64 t204) := (blk_cell BK206.out 1).trans rfl; have hcz45_2 : w43.cell? ⟨gb206, 2, none⟩ = some (.int .i64 t205) := (blk_cell BK206.out 2).trans rfl; have hfz45_0 := blk_frozen BK206.out 0; have hfz45_1 := blk_frozen BK206.out 1; have hfz45_2 := blk_frozen BK206.out 2) | ((with_reducible refine gate_callee (f := 10) rfl ?_); refine goesL_ (some 68) rfl rfl Tryd.func10 (by kernel_rfl) rfl #[.string (⟨#[97, 98, 99, 100, 101, 102, 103, 104, 105, 106, 107, 108, 109, 110, 111, 112, 113, 114, 115, 116, 117, 118, 119, 120, 121, 122, 95, 48, 49, 50, 51, 52, 53]⟩ : ByteArray)] rfl (by (try simp only [List.map_toArray, List.map_cons, List.map_nil]); first | done | rfl | (simp only [List.length_drop, List.length_take]; rfl)) ?_; (with_reducible refine (tokens_Scan.calls kj27 (⟨#[97, 98, 99, 100, 101, 102, 103, 104, 105, 106, 107, 108, 109, 110, 111, 112, 113, 114, 115, 116, 117, 118, 119, 120, 121, 122, 95, 48, 49, 50, 51, 52, 53]⟩ : ByteArray) t221 t224 t225 t226 _ A41.out (by first | exact hT | exact hT.on (by assumption) | exact hT.on (by first | exact HB.out | exact Below.refl _ _ | (repeat (first | (with_reducible first | exact HB.out | apply below_alloc | apply pw_below_drewN | apply below_drew1 | refine below_set ?_ (Aside0.out (by assumption))) | exact HB.out))))).mono ?_); rintro e w46 ⟨v222, rfl, ho0, hb⟩; refine ⟨_, rfl, ?_⟩; have n0_ := Aside0.mk (Kd.R_elder' (by (with_reducible repeat (first | apply Kd.R_alloc | apply Kd.R_drewN | apply Kd.R_drew)); exact (Kd.R_mono (Kd.R_far (p := ⟨gb206, 2, none⟩) (Kd.R_far (p := ⟨gb206, 1, none⟩) (Kd.R_far (p := ⟨gb206, 0, none⟩) (Kd.R_types HO217.out BK206.out (by decide)) (fun _ hk => hk.2) (.int .i64 t218)) (fun _ hk => hk.2) (.int .i64 t219)) (fun _ hk => hk.2) (.int .i64 t220)) (fun _ h_ => h_.1))) (Kd.R_base ho0) hb); have n1_ := Aside0.mk (Kd.R_lower (Kd.R_new' ho0 (Kd.R_lt (by (with_reducible repeat (first | apply Kd.R_alloc | apply Kd.R_drewN | apply Kd.R_drew)); exact (Kd.R_mono (Kd.R_far (p := ⟨gb206, 2, none⟩) (Kd.R_far (p := ⟨gb206, 1, none⟩) (Kd.R_far (p := ⟨gb206, 0, none⟩) (Kd.R_types HO217.out BK206.out (by decide)) (fun _ hk => hk.2) (.int .i64 t218)) (fun _ hk => hk.2) (.int .i64 t219)) (fun _ hk => hk.2) (.int .i64 t220)) (fun _ h_ => h_.1))))) (below_size (by repeat (first | (with_reducible first | exact HB.out | apply below_alloc | apply pw_below_drewN | apply below_drew1 | refine below_set ?_ GE206.out | refine below_set ?_ GE214.out) | exact HB.out)))); have n2_ := Aside0.mk (blk_below (g := gb206) (o := .cells #[.int .i64 t218, .int .i64 t219, .int .i64 t220] 25 (0, 0)) (by (with_reducible repeat (first | refine blk_drewN ?_ _ | refine blk_drew ?_ | refine blk_alloc ?_ _)); refine blk_put (cs := #[.int .i64 t218, .int .i64 t219, .int .i64 t205]) ?_ 2 _ rfl; (with_reducible repeat (first | refine blk_drewN ?_ _ | refine blk_drew ?_ | refine blk_alloc ?_ _)); refine blk_put (cs := #[.int .i64 t218, .int .i64 t204, .int .i64 t205]) ?_ 1 _ rfl; (with_reducible repeat (first | refine blk_drewN ?_ _ | refine blk_drew ?_ | refine blk_alloc ?_ _)); refine blk_put (cs := #[.int .i64 t203, .int .i64 t204, .int .i64 t205]) ?_ 0 _ rfl; (with_reducible repeat (first | refine blk_drewN ?_ _ | refine blk_drew ?_ | refine blk_alloc ?_ _)); exact BK206.out) hb); have n3_ := Aside0.mk (blk_below (g := gb214) (o := .cells #[.int .i64 t211, .int .i64 t212, .int .i64 t213] 25 (0, 0)) (by (with_reducible repeat (first | refine blk_drewN ?_ _ | refine blk_drew ?_ | refine blk_alloc ?_ _)); refine blk_far ?_ NB214_206.out _; (with_reducible repeat (first | refine blk_drewN ?_ _ | refine blk_drew ?_ | refine blk_alloc ?_ _)); refine blk_far ?_ NB214_206.out _; (with_reducible repeat (first | refine blk_drewN ?_ _ | refine blk_drew ?_ | refine blk_alloc ?_ _)); refine blk_far ?_ NB214_206.out _; (with_reducible repeat (first | refine blk_drewN ?_ _ | refine blk_drew ?_ | refine blk_alloc ?_ _)); exact BK214.out) hb); have n4_ := Aside0.mk (below_step (by repeat (first | (with_reducible first | exact HB.out | apply below_alloc | apply pw_below_drewN | apply below_drew1 | refine below_set ?_ GE206.out | refine below_set ?_ GE214.out) | exact HB.out)) hb); clear HO217; clear BK206; clear BK214; clear HB; have HO217 := n0_; have HO223 := n1_; have BK206 := n2_; have BK214 := n3_; have HB := n4_; clear n0_ n1_ n2_ n3_ n4_; (try clear hb); (try clear hb2); (try clear hk); (try clear hi); (try clear ho0); have hcz47_0 : w46.cell? ⟨gb214, 0, none⟩ = some (.int .i64 t211) := (blk_cell BK214.out 0).trans rfl; have hcz47_1 : w46.cell? ⟨gb214, 1, none⟩ = some (.int .i64 t212) := (blk_cell BK214.out 1).trans rfl; have hcz47_2 : w46.cell? ⟨gb214, 2, none⟩ = some (.int .i64 t213) := (blk_cell BK214.out 2).trans rfl; have hfz47_0 := blk_frozen BK214.out 0; have hfz47_1 := blk_frozen BK214.out 1; have hfz47_2 := blk_frozen BK214.out 2))
                        (try simp only [Act.put, List.setIfInBounds_toArray, List.set_cons_zero, List.set_cons_succ])
                        go_cut [102] (fun v102 wc => ∃ (kq : Nat) (x102_41 : Bool), v102 = .bool x102_41 ∧ Aside0 (latchkeylaw05_TokensLimits.j3 kq x102_41 = some r) ∧ Aside0 (kq ≤ kj27) ∧ Aside0 (wc.heap[gb206]? = some (.cells #[.int .i64 t218, .int .i64 t219, .int .i64 t220] 25 (0, 0))) ∧ Aside0 (wc.heap[gb214]? = some (.cells #[.int .i64 t224, .int .i64 t225, .int .i64 t226] 25 (0, 0))) ∧ Aside0 (Below w.heap.size w wc))
                        case first =>
                          have H := HC42.out
                          clear HC42
                          by_cases c48 : (t215.length : Int) = 2
                          · rw [if_pos c48] at H
                            have c48b0 : ((t215.length : Int) == 2) = true := beq_iff_eq.mpr c48
                            have c48b1 : ((t215.length : Int) != 2) = false := bne_eq_false_iff_eq.mpr c48
                            clear c48
                            (first | rw [c48b0] | (simp only [i64_w, i32_w]; rw [c48b0]) | skip)
                            by_cases c49 : 0 < (t215.length : Int)
                            · rw [if_pos c49] at H
                              have c49b0 : decide (0 < (t215.length : Int)) = true := decide_eq_true c49
                              have c49b1 : decide (0 < t215.length) = true := decide_eq_true (by omega)
                              clear c49
                              by_cases c50 : ((rd_T37 t215 0).f1).toList = ([97, 98, 99, 100, 101, 102, 103, 104, 105, 106, 107, 108, 109, 110, 111, 112, 113, 114, 115, 116, 117, 118, 119, 120, 121, 122, 95, 48, 49, 50, 51, 52] : List UInt8)
                              · rw [if_pos c50] at H
                                have c50b0 : (((rd_T37 t215 0).f1).toList == ([97, 98, 99, 100, 101, 102, 103, 104, 105, 106, 107, 108, 109, 110, 111, 112, 113, 114, 115, 116, 117, 118, 119, 120, 121, 122, 95, 48, 49, 50, 51, 52] : List UInt8)) = true := beq_iff_eq.mpr c50
                                have c50b1 : (((rd_T37 t215 0).f1).toList != ([97, 98, 99, 100, 101, 102, 103, 104, 105, 106, 107, 108, 109, 110, 111, 112, 113, 114, 115, 116, 117, 118, 119, 120, 121, 122, 95, 48, 49, 50, 51, 52] : List UInt8)) = false := bne_eq_false_iff_eq.mpr c50
                                clear c50
                                by_cases c51 : ((rd_T37 t215 0).f0) = 1
                                · rw [if_pos c51] at H
                                  have c51b0 : (((rd_T37 t215 0).f0) == 1) = true := beq_iff_eq.mpr c51
                                  have c51b1 : (((rd_T37 t215 0).f0) != 1) = false := bne_eq_false_iff_eq.mpr c51
                                  clear c51
                                  by_cases c52 : t218 = 0
                                  · rw [if_pos c52] at H
                                    have c52b0 : (t218 == 0) = true := beq_iff_eq.mpr c52
                                    have c52b1 : (t218 != 0) = false := bne_eq_false_iff_eq.mpr c52
                                    clear c52
                                    by_cases c53 : (t221.length : Int) = 0
                                    · rw [if_pos c53] at H
                                      have c53b0 : ((t221.length : Int) == 0) = true := beq_iff_eq.mpr c53
                                      have c53b1 : ((t221.length : Int) != 0) = false := bne_eq_false_iff_eq.mpr c53
                                      clear c53
                                      have H' := Aside0.mk H
                                      clear H
                                      obtain ⟨Ao54, co54, eo54⟩ := Kd.R_slice HO217.out
                                      subst eo54
                                      have p227 : 0 ≤ (0 : Int) := (by omega)
                                      have q227 : 0 < (t215.length : Int) := of_decide_eq_true (by first | (with_reducible assumption) | assumption)
                                      obtain ⟨ad227, e227, hx227_0, hx227_1, hx227_2, hx227_3⟩ := at_T37 (Kd.R_reads' HO217.out).2.2 0 p227 q227
                                      cases e227
                                      have qi227 : (0 < t215.length) = True := eq_true (by omega)
                                      (try rw [show ((0 : Int)).toNat = 0 from rfl] at hx227_0)
                                      (try rw [show 0 * 4 = 0 from rfl] at hx227_0)
                                      (try rw [Addr.add_zero'] at hx227_0)
                                      (try rw [show ((0 : Int)).toNat = 0 from rfl] at hx227_1)
                                      (try rw [show 0 * 4 = 0 from rfl] at hx227_1)
                                      (try rw [Addr.add_zero'] at hx227_1)
                                      (try rw [show ((0 : Int)).toNat = 0 from rfl] at hx227_2)
                                      (try rw [show 0 * 4 = 0 from rfl] at hx227_2)
                                      (try rw [Addr.add_zero'] at hx227_2)
                                      (try rw [show ((0 : Int)).toNat = 0 from rfl] at hx227_3)
                                      (try rw [show 0 * 4 = 0 from rfl] at hx227_3)
                                      (try rw [Addr.add_zero'] at hx227_3)
                                      have hn227_0 : ad227.block ≠ gb214 := Kd.own_blk (Kd.R_ne HO217.out BK214.out (by decide))
                                      have hn227_1 : ad227.block ≠ gb214 := Kd.own_blk (Kd.R_ne HO217.out BK214.out (by decide))
                                      have hn227_2 : ad227.block ≠ gb214 := Kd.own_blk (Kd.R_ne HO217.out BK214.out (by decide))
                                      replace hx227_0 := (cell_far (p := ⟨gb214, 0, none⟩) (by first | (rw [add_block]; exact hn227_0) | (show (Addr.add _ _).block ≠ _; rw [add_block]; exact hn227_0) | exact hn227_0) (.int .i64 t224)).trans hx227_0
                                      replace hx227_1 := (cell_far (p := ⟨gb214, 0, none⟩) (by first | (rw [add_block]; exact hn227_0) | (show (Addr.add _ _).block ≠ _; rw [add_block]; exact hn227_0) | exact hn227_0) (.int .i64 t224)).trans hx227_1
                                      replace hx227_2 := (cell_far (p := ⟨gb214, 0, none⟩) (by first | (rw [add_block]; exact hn227_0) | (show (Addr.add _ _).block ≠ _; rw [add_block]; exact hn227_0) | exact hn227_0) (.int .i64 t224)).trans hx227_2
                                      replace hx227_3 := (cell_far (p := ⟨gb214, 0, none⟩) (by first | (rw [add_block]; exact hn227_0) | (show (Addr.add _ _).block ≠ _; rw [add_block]; exact hn227_0) | exact hn227_0) (.int .i64 t224)).trans hx227_3
                                      replace hx227_0 := (cell_far (p := ⟨gb214, 1, none⟩) (by first | (rw [add_block]; exact hn227_1) | (show (Addr.add _ _).block ≠ _; rw [add_block]; exact hn227_1) | exact hn227_1) (.int .i64 t225)).trans hx227_0
                                      replace hx227_1 := (cell_far (p := ⟨gb214, 1, none⟩) (by first | (rw [add_block]; exact hn227_1) | (show (Addr.add _ _).block ≠ _; rw [add_block]; exact hn227_1) | exact hn227_1) (.int .i64 t225)).trans hx227_1
                                      replace hx227_2 := (cell_far (p := ⟨gb214, 1, none⟩) (by first | (rw [add_block]; exact hn227_1) | (show (Addr.add _ _).block ≠ _; rw [add_block]; exact hn227_1) | exact hn227_1) (.int .i64 t225)).trans hx227_2
                                      replace hx227_3 := (cell_far (p := ⟨gb214, 1, none⟩) (by first | (rw [add_block]; exact hn227_1) | (show (Addr.add _ _).block ≠ _; rw [add_block]; exact hn227_1) | exact hn227_1) (.int .i64 t225)).trans hx227_3
                                      replace hx227_0 := (cell_far (p := ⟨gb214, 2, none⟩) (by first | (rw [add_block]; exact hn227_2) | (show (Addr.add _ _).block ≠ _; rw [add_block]; exact hn227_2) | exact hn227_2) (.int .i64 t226)).trans hx227_0
                                      replace hx227_1 := (cell_far (p := ⟨gb214, 2, none⟩) (by first | (rw [add_block]; exact hn227_2) | (show (Addr.add _ _).block ≠ _; rw [add_block]; exact hn227_2) | exact hn227_2) (.int .i64 t226)).trans hx227_1
                                      replace hx227_2 := (cell_far (p := ⟨gb214, 2, none⟩) (by first | (rw [add_block]; exact hn227_2) | (show (Addr.add _ _).block ≠ _; rw [add_block]; exact hn227_2) | exact hn227_2) (.int .i64 t226)).trans hx227_2
                                      replace hx227_3 := (cell_far (p := ⟨gb214, 2, none⟩) (by first | (rw [add_block]; exact hn227_2) | (show (Addr.add _ _).block ≠ _; rw [add_block]; exact hn227_2) | exact hn227_2) (.int .i64 t226)).trans hx227_3
                                      clear hn227_0
                                      clear hn227_1
                                      clear hn227_2
                                      replace p227 := eq_true p227
                                      replace q227 := eq_true q227
                                      have p228 : 0 ≤ (0 : Int) := (by omega)
                                      have q228 : 0 < (t215.length : Int) := of_decide_eq_true (by first | (with_reducible assumption) | assumption)
                                      obtain ⟨ad228, e228, hx228_0, hx228_1, hx228_2, hx228_3⟩ := at_T37 (Kd.R_reads' HO217.out).2.2 0 p228 q228
                                      obtain rfl : ad227 = ad228 := (by injection e228)
                                      have qi228 : (0 < t215.length) = True := eq_true (by omega)
                                      (try rw [show ((0 : Int)).toNat = 0 from rfl] at hx228_0)
                                      (try rw [show 0 * 4 = 0 from rfl] at hx228_0)
                                      (try rw [Addr.add_zero'] at hx228_0)
                                      (try rw [show ((0 : Int)).toNat = 0 from rfl] at hx228_1)
                                      (try rw [show 0 * 4 = 0 from rfl] at hx228_1)
                                      (try rw [Addr.add_zero'] at hx228_1)
                                      (try rw [show ((0 : Int)).toNat = 0 from rfl] at hx228_2)
                                      (try rw [show 0 * 4 = 0 from rfl] at hx228_2)
                                      (try rw [Addr.add_zero'] at hx228_2)
                                      (try rw [show ((0 : Int)).toNat = 0 from rfl] at hx228_3)
                                      (try rw [show 0 * 4 = 0 from rfl] at hx228_3)
                                      (try rw [Addr.add_zero'] at hx228_3)
                                      have hn228_0 : ad227.block ≠ gb214 := Kd.own_blk (Kd.R_ne HO217.out BK214.out (by decide))
                                      have hn228_1 : ad227.block ≠ gb214 := Kd.own_blk (Kd.R_ne HO217.out BK214.out (by decide))
                                      have hn228_2 : ad227.block ≠ gb214 := Kd.own_blk (Kd.R_ne HO217.out BK214.out (by decide))
                                      replace hx228_0 := (cell_far (p := ⟨gb214, 0, none⟩) (by first | (rw [add_block]; exact hn228_0) | (show (Addr.add _ _).block ≠ _; rw [add_block]; exact hn228_0) | exact hn228_0) (.int .i64 t224)).trans hx228_0
                                      replace hx228_1 := (cell_far (p := ⟨gb214, 0, none⟩) (by first | (rw [add_block]; exact hn228_0) | (show (Addr.add _ _).block ≠ _; rw [add_block]; exact hn228_0) | exact hn228_0) (.int .i64 t224)).trans hx228_1
                                      replace hx228_2 := (cell_far (p := ⟨gb214, 0, none⟩) (by first | (rw [add_block]; exact hn228_0) | (show (Addr.add _ _).block ≠ _; rw [add_block]; exact hn228_0) | exact hn228_0) (.int .i64 t224)).trans hx228_2
                                      replace hx228_3 := (cell_far (p := ⟨gb214, 0, none⟩) (by first | (rw [add_block]; exact hn228_0) | (show (Addr.add _ _).block ≠ _; rw [add_block]; exact hn228_0) | exact hn228_0) (.int .i64 t224)).trans hx228_3
                                      replace hx228_0 := (cell_far (p := ⟨gb214, 1, none⟩) (by first | (rw [add_block]; exact hn228_1) | (show (Addr.add _ _).block ≠ _; rw [add_block]; exact hn228_1) | exact hn228_1) (.int .i64 t225)).trans hx228_0
                                      replace hx228_1 := (cell_far (p := ⟨gb214, 1, none⟩) (by first | (rw [add_block]; exact hn228_1) | (show (Addr.add _ _).block ≠ _; rw [add_block]; exact hn228_1) | exact hn228_1) (.int .i64 t225)).trans hx228_1
                                      replace hx228_2 := (cell_far (p := ⟨gb214, 1, none⟩) (by first | (rw [add_block]; exact hn228_1) | (show (Addr.add _ _).block ≠ _; rw [add_block]; exact hn228_1) | exact hn228_1) (.int .i64 t225)).trans hx228_2
                                      replace hx228_3 := (cell_far (p := ⟨gb214, 1, none⟩) (by first | (rw [add_block]; exact hn228_1) | (show (Addr.add _ _).block ≠ _; rw [add_block]; exact hn228_1) | exact hn228_1) (.int .i64 t225)).trans hx228_3
                                      replace hx228_0 := (cell_far (p := ⟨gb214, 2, none⟩) (by first | (rw [add_block]; exact hn228_2) | (show (Addr.add _ _).block ≠ _; rw [add_block]; exact hn228_2) | exact hn228_2) (.int .i64 t226)).trans hx228_0
                                      replace hx228_1 := (cell_far (p := ⟨gb214, 2, none⟩) (by first | (rw [add_block]; exact hn228_2) | (show (Addr.add _ _).block ≠ _; rw [add_block]; exact hn228_2) | exact hn228_2) (.int .i64 t226)).trans hx228_1
                                      replace hx228_2 := (cell_far (p := ⟨gb214, 2, none⟩) (by first | (rw [add_block]; exact hn228_2) | (show (Addr.add _ _).block ≠ _; rw [add_block]; exact hn228_2) | exact hn228_2) (.int .i64 t226)).trans hx228_2
                                      replace hx228_3 := (cell_far (p := ⟨gb214, 2, none⟩) (by first | (rw [add_block]; exact hn228_2) | (show (Addr.add _ _).block ≠ _; rw [add_block]; exact hn228_2) | exact hn228_2) (.int .i64 t226)).trans hx228_3
                                      clear hn228_0
                                      clear hn228_1
                                      clear hn228_2
                                      replace p228 := eq_true p228
                                      replace q228 := eq_true q228
                                      have hnb55 := NB206_214.out
                                      have hnc55 := NB214_206.out
                                      have hcz56_0 : w46.cell? ⟨gb206, 0, none⟩ = some (.int .i64 t218) := (blk_cell BK206.out 0).trans rfl
                                      have hcz56_1 : w46.cell? ⟨gb206, 1, none⟩ = some (.int .i64 t219) := (blk_cell BK206.out 1).trans rfl
                                      have hcz56_2 : w46.cell? ⟨gb206, 2, none⟩ = some (.int .i64 t220) := (blk_cell BK206.out 2).trans rfl
                                      have hfz56_0 := blk_frozen BK206.out 0
                                      have hfz56_1 := blk_frozen BK206.out 1
                                      have hfz56_2 := blk_frozen BK206.out 2
                                      obtain ⟨Ao57, co57, eo57⟩ := Kd.R_slice HO223.out
                                      subst eo57
                                      have hcz58_0 : w46.cell? ⟨gb214, 0, none⟩ = some (.int .i64 t211) := (blk_cell BK214.out 0).trans rfl
                                      have hcz58_1 : w46.cell? ⟨gb214, 1, none⟩ = some (.int .i64 t212) := (blk_cell BK214.out 1).trans rfl
                                      have hcz58_2 : w46.cell? ⟨gb214, 2, none⟩ = some (.int .i64 t213) := (blk_cell BK214.out 2).trans rfl
                                      have hfz58_0 := blk_frozen BK214.out 0
                                      have hfz58_1 := blk_frozen BK214.out 1
                                      have hfz58_2 := blk_frozen BK214.out 2
                                      go_wp2
                                      go_meet
                                      case rel => exact ⟨_, ((!(t224 == 50) || (!(t225 == 1) || (!(t226 == 33))))), (by first | rfl | (simp; done) | (simp [*]; done)), H', ⟨by have := HK1.out; have := HJ10.out; have := HJ27.out; first | omega | exact Nat.le_refl _⟩, ⟨by (with_reducible repeat (first | refine blk_drewN ?_ _ | refine blk_drew ?_ | refine blk_alloc ?_ _)); refine blk_far ?_ NB206_214.out _; (with_reducible repeat (first | refine blk_drewN ?_ _ | refine blk_drew ?_ | refine blk_alloc ?_ _)); refine blk_far ?_ NB206_214.out _; (with_reducible repeat (first | refine blk_drewN ?_ _ | refine blk_drew ?_ | refine blk_alloc ?_ _)); refine blk_far ?_ NB206_214.out _; (with_reducible repeat (first | refine blk_drewN ?_ _ | refine blk_drew ?_ | refine blk_alloc ?_ _)); exact BK206.out⟩, ⟨by (with_reducible repeat (first | refine blk_drewN ?_ _ | refine blk_drew ?_ | refine blk_alloc ?_ _)); refine blk_put (cs := #[.int .i64 t224, .int .i64 t225, .int .i64 t213]) ?_ 2 _ rfl; (with_reducible repeat (first | refine blk_drewN ?_ _ | refine blk_drew ?_ | refine blk_alloc ?_ _)); refine blk_put (cs := #[.int .i64 t224, .int .i64 t212, .int .i64 t213]) ?_ 1 _ rfl; (with_reducible repeat (first | refine blk_drewN ?_ _ | refine blk_drew ?_ | refine blk_alloc ?_ _)); refine blk_put (cs := #[.int .i64 t211, .int .i64 t212, .int .i64 t213]) ?_ 0 _ rfl; (with_reducible repeat (first | refine blk_drewN ?_ _ | refine blk_drew ?_ | refine blk_alloc ?_ _)); exact BK214.out⟩, ⟨by repeat (first | (with_reducible first | exact HB.out | apply below_alloc | apply pw_below_drewN | apply below_drew1 | refine below_set ?_ GE206.out | refine below_set ?_ GE214.out) | exact HB.out)⟩⟩
                                    · rw [if_neg c53] at H
                                      have c53b0 : ((t221.length : Int) == 0) = false := beq_eq_false_iff_ne.mpr c53
                                      have c53b1 : ((t221.length : Int) != 0) = true := bne_iff_ne.mpr c53
                                      have c53b2 : ¬ (t221 = []) := fun h_ => c53 (by rw [h_]; rfl)
                                      have H' := Aside0.mk H
                                      clear H
                                      obtain ⟨Ao59, co59, eo59⟩ := Kd.R_slice HO217.out
                                      subst eo59
                                      have p227 : 0 ≤ (0 : Int) := (by omega)
                                      have q227 : 0 < (t215.length : Int) := of_decide_eq_true (by first | (with_reducible assumption) | assumption)
                                      obtain ⟨ad227, e227, hx227_0, hx227_1, hx227_2, hx227_3⟩ := at_T37 (Kd.R_reads' HO217.out).2.2 0 p227 q227
                                      cases e227
                                      have qi227 : (0 < t215.length) = True := eq_true (by omega)
                                      (try rw [show ((0 : Int)).toNat = 0 from rfl] at hx227_0)
                                      (try rw [show 0 * 4 = 0 from rfl] at hx227_0)
                                      (try rw [Addr.add_zero'] at hx227_0)
                                      (try rw [show ((0 : Int)).toNat = 0 from rfl] at hx227_1)
                                      (try rw [show 0 * 4 = 0 from rfl] at hx227_1)
                                      (try rw [Addr.add_zero'] at hx227_1)
                                      (try rw [show ((0 : Int)).toNat = 0 from rfl] at hx227_2)
                                      (try rw [show 0 * 4 = 0 from rfl] at hx227_2)
                                      (try rw [Addr.add_zero'] at hx227_2)
                                      (try rw [show ((0 : Int)).toNat = 0 from rfl] at hx227_3)
                                      (try rw [show 0 * 4 = 0 from rfl] at hx227_3)
                                      (try rw [Addr.add_zero'] at hx227_3)
                                      have hn227_0 : ad227.block ≠ gb214 := Kd.own_blk (Kd.R_ne HO217.out BK214.out (by decide))
                                      have hn227_1 : ad227.block ≠ gb214 := Kd.own_blk (Kd.R_ne HO217.out BK214.out (by decide))
                                      have hn227_2 : ad227.block ≠ gb214 := Kd.own_blk (Kd.R_ne HO217.out BK214.out (by decide))
                                      replace hx227_0 := (cell_far (p := ⟨gb214, 0, none⟩) (by first | (rw [add_block]; exact hn227_0) | (show (Addr.add _ _).block ≠ _; rw [add_block]; exact hn227_0) | exact hn227_0) (.int .i64 t224)).trans hx227_0
                                      replace hx227_1 := (cell_far (p := ⟨gb214, 0, none⟩) (by first | (rw [add_block]; exact hn227_0) | (show (Addr.add _ _).block ≠ _; rw [add_block]; exact hn227_0) | exact hn227_0) (.int .i64 t224)).trans hx227_1
                                      replace hx227_2 := (cell_far (p := ⟨gb214, 0, none⟩) (by first | (rw [add_block]; exact hn227_0) | (show (Addr.add _ _).block ≠ _; rw [add_block]; exact hn227_0) | exact hn227_0) (.int .i64 t224)).trans hx227_2
                                      replace hx227_3 := (cell_far (p := ⟨gb214, 0, none⟩) (by first | (rw [add_block]; exact hn227_0) | (show (Addr.add _ _).block ≠ _; rw [add_block]; exact hn227_0) | exact hn227_0) (.int .i64 t224)).trans hx227_3
                                      replace hx227_0 := (cell_far (p := ⟨gb214, 1, none⟩) (by first | (rw [add_block]; exact hn227_1) | (show (Addr.add _ _).block ≠ _; rw [add_block]; exact hn227_1) | exact hn227_1) (.int .i64 t225)).trans hx227_0
                                      replace hx227_1 := (cell_far (p := ⟨gb214, 1, none⟩) (by first | (rw [add_block]; exact hn227_1) | (show (Addr.add _ _).block ≠ _; rw [add_block]; exact hn227_1) | exact hn227_1) (.int .i64 t225)).trans hx227_1
                                      replace hx227_2 := (cell_far (p := ⟨gb214, 1, none⟩) (by first | (rw [add_block]; exact hn227_1) | (show (Addr.add _ _).block ≠ _; rw [add_block]; exact hn227_1) | exact hn227_1) (.int .i64 t225)).trans hx227_2
                                      replace hx227_3 := (cell_far (p := ⟨gb214, 1, none⟩) (by first | (rw [add_block]; exact hn227_1) | (show (Addr.add _ _).block ≠ _; rw [add_block]; exact hn227_1) | exact hn227_1) (.int .i64 t225)).trans hx227_3
                                      replace hx227_0 := (cell_far (p := ⟨gb214, 2, none⟩) (by first | (rw [add_block]; exact hn227_2) | (show (Addr.add _ _).block ≠ _; rw [add_block]; exact hn227_2) | exact hn227_2) (.int .i64 t226)).trans hx227_0
                                      replace hx227_1 := (cell_far (p := ⟨gb214, 2, none⟩) (by first | (rw [add_block]; exact hn227_2) | (show (Addr.add _ _).block ≠ _; rw [add_block]; exact hn227_2) | exact hn227_2) (.int .i64 t226)).trans hx227_1
                                      replace hx227_2 := (cell_far (p := ⟨gb214, 2, none⟩) (by first | (rw [add_block]; exact hn227_2) | (show (Addr.add _ _).block ≠ _; rw [add_block]; exact hn227_2) | exact hn227_2) (.int .i64 t226)).trans hx227_2
                                      replace hx227_3 := (cell_far (p := ⟨gb214, 2, none⟩) (by first | (rw [add_block]; exact hn227_2) | (show (Addr.add _ _).block ≠ _; rw [add_block]; exact hn227_2) | exact hn227_2) (.int .i64 t226)).trans hx227_3
                                      clear hn227_0
                                      clear hn227_1
                                      clear hn227_2
                                      replace p227 := eq_true p227
                                      replace q227 := eq_true q227
                                      have p228 : 0 ≤ (0 : Int) := (by omega)
                                      have q228 : 0 < (t215.length : Int) := of_decide_eq_true (by first | (with_reducible assumption) | assumption)
                                      obtain ⟨ad228, e228, hx228_0, hx228_1, hx228_2, hx228_3⟩ := at_T37 (Kd.R_reads' HO217.out).2.2 0 p228 q228
                                      obtain rfl : ad227 = ad228 := (by injection e228)
                                      have qi228 : (0 < t215.length) = True := eq_true (by omega)
                                      (try rw [show ((0 : Int)).toNat = 0 from rfl] at hx228_0)
                                      (try rw [show 0 * 4 = 0 from rfl] at hx228_0)
                                      (try rw [Addr.add_zero'] at hx228_0)
                                      (try rw [show ((0 : Int)).toNat = 0 from rfl] at hx228_1)
                                      (try rw [show 0 * 4 = 0 from rfl] at hx228_1)
                                      (try rw [Addr.add_zero'] at hx228_1)
                                      (try rw [show ((0 : Int)).toNat = 0 from rfl] at hx228_2)
                                      (try rw [show 0 * 4 = 0 from rfl] at hx228_2)
                                      (try rw [Addr.add_zero'] at hx228_2)
                                      (try rw [show ((0 : Int)).toNat = 0 from rfl] at hx228_3)
                                      (try rw [show 0 * 4 = 0 from rfl] at hx228_3)
                                      (try rw [Addr.add_zero'] at hx228_3)
                                      have hn228_0 : ad227.block ≠ gb214 := Kd.own_blk (Kd.R_ne HO217.out BK214.out (by decide))
                                      have hn228_1 : ad227.block ≠ gb214 := Kd.own_blk (Kd.R_ne HO217.out BK214.out (by decide))
                                      have hn228_2 : ad227.block ≠ gb214 := Kd.own_blk (Kd.R_ne HO217.out BK214.out (by decide))
                                      replace hx228_0 := (cell_far (p := ⟨gb214, 0, none⟩) (by first | (rw [add_block]; exact hn228_0) | (show (Addr.add _ _).block ≠ _; rw [add_block]; exact hn228_0) | exact hn228_0) (.int .i64 t224)).trans hx228_0
                                      replace hx228_1 := (cell_far (p := ⟨gb214, 0, none⟩) (by first | (rw [add_block]; exact hn228_0) | (show (Addr.add _ _).block ≠ _; rw [add_block]; exact hn228_0) | exact hn228_0) (.int .i64 t224)).trans hx228_1
                                      replace hx228_2 := (cell_far (p := ⟨gb214, 0, none⟩) (by first | (rw [add_block]; exact hn228_0) | (show (Addr.add _ _).block ≠ _; rw [add_block]; exact hn228_0) | exact hn228_0) (.int .i64 t224)).trans hx228_2
                                      replace hx228_3 := (cell_far (p := ⟨gb214, 0, none⟩) (by first | (rw [add_block]; exact hn228_0) | (show (Addr.add _ _).block ≠ _; rw [add_block]; exact hn228_0) | exact hn228_0) (.int .i64 t224)).trans hx228_3
                                      replace hx228_0 := (cell_far (p := ⟨gb214, 1, none⟩) (by first | (rw [add_block]; exact hn228_1) | (show (Addr.add _ _).block ≠ _; rw [add_block]; exact hn228_1) | exact hn228_1) (.int .i64 t225)).trans hx228_0
                                      replace hx228_1 := (cell_far (p := ⟨gb214, 1, none⟩) (by first | (rw [add_block]; exact hn228_1) | (show (Addr.add _ _).block ≠ _; rw [add_block]; exact hn228_1) | exact hn228_1) (.int .i64 t225)).trans hx228_1
                                      replace hx228_2 := (cell_far (p := ⟨gb214, 1, none⟩) (by first | (rw [add_block]; exact hn228_1) | (show (Addr.add _ _).block ≠ _; rw [add_block]; exact hn228_1) | exact hn228_1) (.int .i64 t225)).trans hx228_2
                                      replace hx228_3 := (cell_far (p := ⟨gb214, 1, none⟩) (by first | (rw [add_block]; exact hn228_1) | (show (Addr.add _ _).block ≠ _; rw [add_block]; exact hn228_1) | exact hn228_1) (.int .i64 t225)).trans hx228_3
                                      replace hx228_0 := (cell_far (p := ⟨gb214, 2, none⟩) (by first | (rw [add_block]; exact hn228_2) | (show (Addr.add _ _).block ≠ _; rw [add_block]; exact hn228_2) | exact hn228_2) (.int .i64 t226)).trans hx228_0
                                      replace hx228_1 := (cell_far (p := ⟨gb214, 2, none⟩) (by first | (rw [add_block]; exact hn228_2) | (show (Addr.add _ _).block ≠ _; rw [add_block]; exact hn228_2) | exact hn228_2) (.int .i64 t226)).trans hx228_1
                                      replace hx228_2 := (cell_far (p := ⟨gb214, 2, none⟩) (by first | (rw [add_block]; exact hn228_2) | (show (Addr.add _ _).block ≠ _; rw [add_block]; exact hn228_2) | exact hn228_2) (.int .i64 t226)).trans hx228_2
                                      replace hx228_3 := (cell_far (p := ⟨gb214, 2, none⟩) (by first | (rw [add_block]; exact hn228_2) | (show (Addr.add _ _).block ≠ _; rw [add_block]; exact hn228_2) | exact hn228_2) (.int .i64 t226)).trans hx228_3
                                      clear hn228_0
                                      clear hn228_1
                                      clear hn228_2
                                      replace p228 := eq_true p228
                                      replace q228 := eq_true q228
                                      have hnb60 := NB206_214.out
                                      have hnc60 := NB214_206.out
                                      have hcz61_0 : w46.cell? ⟨gb206, 0, none⟩ = some (.int .i64 t218) := (blk_cell BK206.out 0).trans rfl
                                      have hcz61_1 : w46.cell? ⟨gb206, 1, none⟩ = some (.int .i64 t219) := (blk_cell BK206.out 1).trans rfl
                                      have hcz61_2 : w46.cell? ⟨gb206, 2, none⟩ = some (.int .i64 t220) := (blk_cell BK206.out 2).trans rfl
                                      have hfz61_0 := blk_frozen BK206.out 0
                                      have hfz61_1 := blk_frozen BK206.out 1
                                      have hfz61_2 := blk_frozen BK206.out 2
                                      obtain ⟨Ao62, co62, eo62⟩ := Kd.R_slice HO223.out
                                      subst eo62
                                      go_wp2
                                      go_meet
                                      case rel => exact ⟨_, (true), (by first | rfl | (simp; done) | (simp [*]; done)), H', ⟨by have := HK1.out; have := HJ10.out; have := HJ27.out; first | omega | exact Nat.le_refl _⟩, ⟨by (with_reducible repeat (first | refine blk_drewN ?_ _ | refine blk_drew ?_ | refine blk_alloc ?_ _)); refine blk_far ?_ NB206_214.out _; (with_reducible repeat (first | refine blk_drewN ?_ _ | refine blk_drew ?_ | refine blk_alloc ?_ _)); refine blk_far ?_ NB206_214.out _; (with_reducible repeat (first | refine blk_drewN ?_ _ | refine blk_drew ?_ | refine blk_alloc ?_ _)); refine blk_far ?_ NB206_214.out _; (with_reducible repeat (first | refine blk_drewN ?_ _ | refine blk_drew ?_ | refine blk_alloc ?_ _)); exact BK206.out⟩, ⟨by (with_reducible repeat (first | refine blk_drewN ?_ _ | refine blk_drew ?_ | refine blk_alloc ?_ _)); refine blk_put (cs := #[.int .i64 t224, .int .i64 t225, .int .i64 t213]) ?_ 2 _ rfl; (with_reducible repeat (first | refine blk_drewN ?_ _ | refine blk_drew ?_ | refine blk_alloc ?_ _)); refine blk_put (cs := #[.int .i64 t224, .int .i64 t212, .int .i64 t213]) ?_ 1 _ rfl; (with_reducible repeat (first | refine blk_drewN ?_ _ | refine blk_drew ?_ | refine blk_alloc ?_ _)); refine blk_put (cs := #[.int .i64 t211, .int .i64 t212, .int .i64 t213]) ?_ 0 _ rfl; (with_reducible repeat (first | refine blk_drewN ?_ _ | refine blk_drew ?_ | refine blk_alloc ?_ _)); exact BK214.out⟩, ⟨by repeat (first | (with_reducible first | exact HB.out | apply below_alloc | apply pw_below_drewN | apply below_drew1 | refine below_set ?_ GE206.out | refine below_set ?_ GE214.out) | exact HB.out)⟩⟩
                                  · rw [if_neg c52] at H
                                    have c52b0 : (t218 == 0) = false := beq_eq_false_iff_ne.mpr c52
                                    have c52b1 : (t218 != 0) = true := bne_iff_ne.mpr c52
                                    have H' := Aside0.mk H
                                    clear H
                                    obtain ⟨Ao63, co63, eo63⟩ := Kd.R_slice HO217.out
                                    subst eo63
                                    have p227 : 0 ≤ (0 : Int) := (by omega)
                                    have q227 : 0 < (t215.length : Int) := of_decide_eq_true (by first | (with_reducible assumption) | assumption)
                                    obtain ⟨ad227, e227, hx227_0, hx227_1, hx227_2, hx227_3⟩ := at_T37 (Kd.R_reads' HO217.out).2.2 0 p227 q227
                                    cases e227
                                    have qi227 : (0 < t215.length) = True := eq_true (by omega)
                                    (try rw [show ((0 : Int)).toNat = 0 from rfl] at hx227_0)
                                    (try rw [show 0 * 4 = 0 from rfl] at hx227_0)
                                    (try rw [Addr.add_zero'] at hx227_0)
                                    (try rw [show ((0 : Int)).toNat = 0 from rfl] at hx227_1)
                                    (try rw [show 0 * 4 = 0 from rfl] at hx227_1)
                                    (try rw [Addr.add_zero'] at hx227_1)
                                    (try rw [show ((0 : Int)).toNat = 0 from rfl] at hx227_2)
                                    (try rw [show 0 * 4 = 0 from rfl] at hx227_2)
                                    (try rw [Addr.add_zero'] at hx227_2)
                                    (try rw [show ((0 : Int)).toNat = 0 from rfl] at hx227_3)
                                    (try rw [show 0 * 4 = 0 from rfl] at hx227_3)
                                    (try rw [Addr.add_zero'] at hx227_3)
                                    have hn227_0 : ad227.block ≠ gb214 := Kd.own_blk (Kd.R_ne HO217.out BK214.out (by decide))
                                    have hn227_1 : ad227.block ≠ gb214 := Kd.own_blk (Kd.R_ne HO217.out BK214.out (by decide))
                                    have hn227_2 : ad227.block ≠ gb214 := Kd.own_blk (Kd.R_ne HO217.out BK214.out (by decide))
                                    replace hx227_0 := (cell_far (p := ⟨gb214, 0, none⟩) (by first | (rw [add_block]; exact hn227_0) | (show (Addr.add _ _).block ≠ _; rw [add_block]; exact hn227_0) | exact hn227_0) (.int .i64 t224)).trans hx227_0
                                    replace hx227_1 := (cell_far (p := ⟨gb214, 0, none⟩) (by first | (rw [add_block]; exact hn227_0) | (show (Addr.add _ _).block ≠ _; rw [add_block]; exact hn227_0) | exact hn227_0) (.int .i64 t224)).trans hx227_1
                                    replace hx227_2 := (cell_far (p := ⟨gb214, 0, none⟩) (by first | (rw [add_block]; exact hn227_0) | (show (Addr.add _ _).block ≠ _; rw [add_block]; exact hn227_0) | exact hn227_0) (.int .i64 t224)).trans hx227_2
                                    replace hx227_3 := (cell_far (p := ⟨gb214, 0, none⟩) (by first | (rw [add_block]; exact hn227_0) | (show (Addr.add _ _).block ≠ _; rw [add_block]; exact hn227_0) | exact hn227_0) (.int .i64 t224)).trans hx227_3
                                    replace hx227_0 := (cell_far (p := ⟨gb214, 1, none⟩) (by first | (rw [add_block]; exact hn227_1) | (show (Addr.add _ _).block ≠ _; rw [add_block]; exact hn227_1) | exact hn227_1) (.int .i64 t225)).trans hx227_0
                                    replace hx227_1 := (cell_far (p := ⟨gb214, 1, none⟩) (by first | (rw [add_block]; exact hn227_1) | (show (Addr.add _ _).block ≠ _; rw [add_block]; exact hn227_1) | exact hn227_1) (.int .i64 t225)).trans hx227_1
                                    replace hx227_2 := (cell_far (p := ⟨gb214, 1, none⟩) (by first | (rw [add_block]; exact hn227_1) | (show (Addr.add _ _).block ≠ _; rw [add_block]; exact hn227_1) | exact hn227_1) (.int .i64 t225)).trans hx227_2
                                    replace hx227_3 := (cell_far (p := ⟨gb214, 1, none⟩) (by first | (rw [add_block]; exact hn227_1) | (show (Addr.add _ _).block ≠ _; rw [add_block]; exact hn227_1) | exact hn227_1) (.int .i64 t225)).trans hx227_3
                                    replace hx227_0 := (cell_far (p := ⟨gb214, 2, none⟩) (by first | (rw [add_block]; exact hn227_2) | (show (Addr.add _ _).block ≠ _; rw [add_block]; exact hn227_2) | exact hn227_2) (.int .i64 t226)).trans hx227_0
                                    replace hx227_1 := (cell_far (p := ⟨gb214, 2, none⟩) (by first | (rw [add_block]; exact hn227_2) | (show (Addr.add _ _).block ≠ _; rw [add_block]; exact hn227_2) | exact hn227_2) (.int .i64 t226)).trans hx227_1
                                    replace hx227_2 := (cell_far (p := ⟨gb214, 2, none⟩) (by first | (rw [add_block]; exact hn227_2) | (show (Addr.add _ _).block ≠ _; rw [add_block]; exact hn227_2) | exact hn227_2) (.int .i64 t226)).trans hx227_2
                                    replace hx227_3 := (cell_far (p := ⟨gb214, 2, none⟩) (by first | (rw [add_block]; exact hn227_2) | (show (Addr.add _ _).block ≠ _; rw [add_block]; exact hn227_2) | exact hn227_2) (.int .i64 t226)).trans hx227_3
                                    clear hn227_0
                                    clear hn227_1
                                    clear hn227_2
                                    replace p227 := eq_true p227
                                    replace q227 := eq_true q227
                                    have p228 : 0 ≤ (0 : Int) := (by omega)
                                    have q228 : 0 < (t215.length : Int) := of_decide_eq_true (by first | (with_reducible assumption) | assumption)
                                    obtain ⟨ad228, e228, hx228_0, hx228_1, hx228_2, hx228_3⟩ := at_T37 (Kd.R_reads' HO217.out).2.2 0 p228 q228
                                    obtain rfl : ad227 = ad228 := (by injection e228)
                                    have qi228 : (0 < t215.length) = True := eq_true (by omega)
                                    (try rw [show ((0 : Int)).toNat = 0 from rfl] at hx228_0)
                                    (try rw [show 0 * 4 = 0 from rfl] at hx228_0)
                                    (try rw [Addr.add_zero'] at hx228_0)
                                    (try rw [show ((0 : Int)).toNat = 0 from rfl] at hx228_1)
                                    (try rw [show 0 * 4 = 0 from rfl] at hx228_1)
                                    (try rw [Addr.add_zero'] at hx228_1)
                                    (try rw [show ((0 : Int)).toNat = 0 from rfl] at hx228_2)
                                    (try rw [show 0 * 4 = 0 from rfl] at hx228_2)
                                    (try rw [Addr.add_zero'] at hx228_2)
                                    (try rw [show ((0 : Int)).toNat = 0 from rfl] at hx228_3)
                                    (try rw [show 0 * 4 = 0 from rfl] at hx228_3)
                                    (try rw [Addr.add_zero'] at hx228_3)
                                    have hn228_0 : ad227.block ≠ gb214 := Kd.own_blk (Kd.R_ne HO217.out BK214.out (by decide))
                                    have hn228_1 : ad227.block ≠ gb214 := Kd.own_blk (Kd.R_ne HO217.out BK214.out (by decide))
                                    have hn228_2 : ad227.block ≠ gb214 := Kd.own_blk (Kd.R_ne HO217.out BK214.out (by decide))
                                    replace hx228_0 := (cell_far (p := ⟨gb214, 0, none⟩) (by first | (rw [add_block]; exact hn228_0) | (show (Addr.add _ _).block ≠ _; rw [add_block]; exact hn228_0) | exact hn228_0) (.int .i64 t224)).trans hx228_0
                                    replace hx228_1 := (cell_far (p := ⟨gb214, 0, none⟩) (by first | (rw [add_block]; exact hn228_0) | (show (Addr.add _ _).block ≠ _; rw [add_block]; exact hn228_0) | exact hn228_0) (.int .i64 t224)).trans hx228_1
                                    replace hx228_2 := (cell_far (p := ⟨gb214, 0, none⟩) (by first | (rw [add_block]; exact hn228_0) | (show (Addr.add _ _).block ≠ _; rw [add_block]; exact hn228_0) | exact hn228_0) (.int .i64 t224)).trans hx228_2
                                    replace hx228_3 := (cell_far (p := ⟨gb214, 0, none⟩) (by first | (rw [add_block]; exact hn228_0) | (show (Addr.add _ _).block ≠ _; rw [add_block]; exact hn228_0) | exact hn228_0) (.int .i64 t224)).trans hx228_3
                                    replace hx228_0 := (cell_far (p := ⟨gb214, 1, none⟩) (by first | (rw [add_block]; exact hn228_1) | (show (Addr.add _ _).block ≠ _; rw [add_block]; exact hn228_1) | exact hn228_1) (.int .i64 t225)).trans hx228_0
                                    replace hx228_1 := (cell_far (p := ⟨gb214, 1, none⟩) (by first | (rw [add_block]; exact hn228_1) | (show (Addr.add _ _).block ≠ _; rw [add_block]; exact hn228_1) | exact hn228_1) (.int .i64 t225)).trans hx228_1
                                    replace hx228_2 := (cell_far (p := ⟨gb214, 1, none⟩) (by first | (rw [add_block]; exact hn228_1) | (show (Addr.add _ _).block ≠ _; rw [add_block]; exact hn228_1) | exact hn228_1) (.int .i64 t225)).trans hx228_2
                                    replace hx228_3 := (cell_far (p := ⟨gb214, 1, none⟩) (by first | (rw [add_block]; exact hn228_1) | (show (Addr.add _ _).block ≠ _; rw [add_block]; exact hn228_1) | exact hn228_1) (.int .i64 t225)).trans hx228_3
                                    replace hx228_0 := (cell_far (p := ⟨gb214, 2, none⟩) (by first | (rw [add_block]; exact hn228_2) | (show (Addr.add _ _).block ≠ _; rw [add_block]; exact hn228_2) | exact hn228_2) (.int .i64 t226)).trans hx228_0
                                    replace hx228_1 := (cell_far (p := ⟨gb214, 2, none⟩) (by first | (rw [add_block]; exact hn228_2) | (show (Addr.add _ _).block ≠ _; rw [add_block]; exact hn228_2) | exact hn228_2) (.int .i64 t226)).trans hx228_1
                                    replace hx228_2 := (cell_far (p := ⟨gb214, 2, none⟩) (by first | (rw [add_block]; exact hn228_2) | (show (Addr.add _ _).block ≠ _; rw [add_block]; exact hn228_2) | exact hn228_2) (.int .i64 t226)).trans hx228_2
                                    replace hx228_3 := (cell_far (p := ⟨gb214, 2, none⟩) (by first | (rw [add_block]; exact hn228_2) | (show (Addr.add _ _).block ≠ _; rw [add_block]; exact hn228_2) | exact hn228_2) (.int .i64 t226)).trans hx228_3
                                    clear hn228_0
                                    clear hn228_1
                                    clear hn228_2
                                    replace p228 := eq_true p228
                                    replace q228 := eq_true q228
                                    have hnb64 := NB206_214.out
                                    have hnc64 := NB214_206.out
                                    have hcz65_0 : w46.cell? ⟨gb206, 0, none⟩ = some (.int .i64 t218) := (blk_cell BK206.out 0).trans rfl
                                    have hcz65_1 : w46.cell? ⟨gb206, 1, none⟩ = some (.int .i64 t219) := (blk_cell BK206.out 1).trans rfl
                                    have hcz65_2 : w46.cell? ⟨gb206, 2, none⟩ = some (.int .i64 t220) := (blk_cell BK206.out 2).trans rfl
                                    have hfz65_0 := blk_frozen BK206.out 0
                                    have hfz65_1 := blk_frozen BK206.out 1
                                    have hfz65_2 := blk_frozen BK206.out 2
                                    go_wp2
                                    go_meet
                                    case rel => exact ⟨_, (true), (by first | rfl | (simp; done) | (simp [*]; done)), H', ⟨by have := HK1.out; have := HJ10.out; have := HJ27.out; first | omega | exact Nat.le_refl _⟩, ⟨by (with_reducible repeat (first | refine blk_drewN ?_ _ | refine blk_drew ?_ | refine blk_alloc ?_ _)); refine blk_far ?_ NB206_214.out _; (with_reducible repeat (first | refine blk_drewN ?_ _ | refine blk_drew ?_ | refine blk_alloc ?_ _)); refine blk_far ?_ NB206_214.out _; (with_reducible repeat (first | refine blk_drewN ?_ _ | refine blk_drew ?_ | refine blk_alloc ?_ _)); refine blk_far ?_ NB206_214.out _; (with_reducible repeat (first | refine blk_drewN ?_ _ | refine blk_drew ?_ | refine blk_alloc ?_ _)); exact BK206.out⟩, ⟨by (with_reducible repeat (first | refine blk_drewN ?_ _ | refine blk_drew ?_ | refine blk_alloc ?_ _)); refine blk_put (cs := #[.int .i64 t224, .int .i64 t225, .int .i64 t213]) ?_ 2 _ rfl; (with_reducible repeat (first | refine blk_drewN ?_ _ | refine blk_drew ?_ | refine blk_alloc ?_ _)); refine blk_put (cs := #[.int .i64 t224, .int .i64 t212, .int .i64 t213]) ?_ 1 _ rfl; (with_reducible repeat (first | refine blk_drewN ?_ _ | refine blk_drew ?_ | refine blk_alloc ?_ _)); refine blk_put (cs := #[.int .i64 t211, .int .i64 t212, .int .i64 t213]) ?_ 0 _ rfl; (with_reducible repeat (first | refine blk_drewN ?_ _ | refine blk_drew ?_ | refine blk_alloc ?_ _)); exact BK214.out⟩, ⟨by repeat (first | (with_reducible first | exact HB.out | apply below_alloc | apply pw_below_drewN | apply below_drew1 | refine below_set ?_ GE206.out | refine below_set ?_ GE214.out) | exact HB.out)⟩⟩
                                · rw [if_neg c51] at H
                                  have c51b0 : (((rd_T37 t215 0).f0) == 1) = false := beq_eq_false_iff_ne.mpr c51
                                  have c51b1 : (((rd_T37 t215 0).f0) != 1) = true := bne_iff_ne.mpr c51
                                  have H' := Aside0.mk H
                                  clear H
                                  obtain ⟨Ao66, co66, eo66⟩ := Kd.R_slice HO217.out
                                  subst eo66
                                  have p227 : 0 ≤ (0 : Int) := (by omega)
                                  have q227 : 0 < (t215.length : Int) := of_decide_eq_true (by first | (with_reducible assumption) | assumption)
                                  obtain ⟨ad227, e227, hx227_0, hx227_1, hx227_2, hx227_3⟩ := at_T37 (Kd.R_reads' HO217.out).2.2 0 p227 q227
                                  cases e227
                                  have qi227 : (0 < t215.length) = True := eq_true (by omega)
                                  (try rw [show ((0 : Int)).toNat = 0 from rfl] at hx227_0)
                                  (try rw [show 0 * 4 = 0 from rfl] at hx227_0)
                                  (try rw [Addr.add_zero'] at hx227_0)
                                  (try rw [show ((0 : Int)).toNat = 0 from rfl] at hx227_1)
                                  (try rw [show 0 * 4 = 0 from rfl] at hx227_1)
                                  (try rw [Addr.add_zero'] at hx227_1)
                                  (try rw [show ((0 : Int)).toNat = 0 from rfl] at hx227_2)
                                  (try rw [show 0 * 4 = 0 from rfl] at hx227_2)
                                  (try rw [Addr.add_zero'] at hx227_2)
                                  (try rw [show ((0 : Int)).toNat = 0 from rfl] at hx227_3)
                                  (try rw [show 0 * 4 = 0 from rfl] at hx227_3)
                                  (try rw [Addr.add_zero'] at hx227_3)
                                  have hn227_0 : ad227.block ≠ gb214 := Kd.own_blk (Kd.R_ne HO217.out BK214.out (by decide))
                                  have hn227_1 : ad227.block ≠ gb214 := Kd.own_blk (Kd.R_ne HO217.out BK214.out (by decide))
                                  have hn227_2 : ad227.block ≠ gb214 := Kd.own_blk (Kd.R_ne HO217.out BK214.out (by decide))
                                  replace hx227_0 := (cell_far (p := ⟨gb214, 0, none⟩) (by first | (rw [add_block]; exact hn227_0) | (show (Addr.add _ _).block ≠ _; rw [add_block]; exact hn227_0) | exact hn227_0) (.int .i64 t224)).trans hx227_0
                                  replace hx227_1 := (cell_far (p := ⟨gb214, 0, none⟩) (by first | (rw [add_block]; exact hn227_0) | (show (Addr.add _ _).block ≠ _; rw [add_block]; exact hn227_0) | exact hn227_0) (.int .i64 t224)).trans hx227_1
                                  replace hx227_2 := (cell_far (p := ⟨gb214, 0, none⟩) (by first | (rw [add_block]; exact hn227_0) | (show (Addr.add _ _).block ≠ _; rw [add_block]; exact hn227_0) | exact hn227_0) (.int .i64 t224)).trans hx227_2
                                  replace hx227_3 := (cell_far (p := ⟨gb214, 0, none⟩) (by first | (rw [add_block]; exact hn227_0) | (show (Addr.add _ _).block ≠ _; rw [add_block]; exact hn227_0) | exact hn227_0) (.int .i64 t224)).trans hx227_3
                                  replace hx227_0 := (cell_far (p := ⟨gb214, 1, none⟩) (by first | (rw [add_block]; exact hn227_1) | (show (Addr.add _ _).block ≠ _; rw [add_block]; exact hn227_1) | exact hn227_1) (.int .i64 t225)).trans hx227_0
                                  replace hx227_1 := (cell_far (p := ⟨gb214, 1, none⟩) (by first | (rw [add_block]; exact hn227_1) | (show (Addr.add _ _).block ≠ _; rw [add_block]; exact hn227_1) | exact hn227_1) (.int .i64 t225)).trans hx227_1
                                  replace hx227_2 := (cell_far (p := ⟨gb214, 1, none⟩) (by first | (rw [add_block]; exact hn227_1) | (show (Addr.add _ _).block ≠ _; rw [add_block]; exact hn227_1) | exact hn227_1) (.int .i64 t225)).trans hx227_2
                                  replace hx227_3 := (cell_far (p := ⟨gb214, 1, none⟩) (by first | (rw [add_block]; exact hn227_1) | (show (Addr.add _ _).block ≠ _; rw [add_block]; exact hn227_1) | exact hn227_1) (.int .i64 t225)).trans hx227_3
                                  replace hx227_0 := (cell_far (p := ⟨gb214, 2, none⟩) (by first | (rw [add_block]; exact hn227_2) | (show (Addr.add _ _).block ≠ _; rw [add_block]; exact hn227_2) | exact hn227_2) (.int .i64 t226)).trans hx227_0
                                  replace hx227_1 := (cell_far (p := ⟨gb214, 2, none⟩) (by first | (rw [add_block]; exact hn227_2) | (show (Addr.add _ _).block ≠ _; rw [add_block]; exact hn227_2) | exact hn227_2) (.int .i64 t226)).trans hx227_1
                                  replace hx227_2 := (cell_far (p := ⟨gb214, 2, none⟩) (by first | (rw [add_block]; exact hn227_2) | (show (Addr.add _ _).block ≠ _; rw [add_block]; exact hn227_2) | exact hn227_2) (.int .i64 t226)).trans hx227_2
                                  replace hx227_3 := (cell_far (p := ⟨gb214, 2, none⟩) (by first | (rw [add_block]; exact hn227_2) | (show (Addr.add _ _).block ≠ _; rw [add_block]; exact hn227_2) | exact hn227_2) (.int .i64 t226)).trans hx227_3
                                  clear hn227_0
                                  clear hn227_1
                                  clear hn227_2
                                  replace p227 := eq_true p227
                                  replace q227 := eq_true q227
                                  have p228 : 0 ≤ (0 : Int) := (by omega)
                                  have q228 : 0 < (t215.length : Int) := of_decide_eq_true (by first | (with_reducible assumption) | assumption)
                                  obtain ⟨ad228, e228, hx228_0, hx228_1, hx228_2, hx228_3⟩ := at_T37 (Kd.R_reads' HO217.out).2.2 0 p228 q228
                                  obtain rfl : ad227 = ad228 := (by injection e228)
                                  have qi228 : (0 < t215.length) = True := eq_true (by omega)
                                  (try rw [show ((0 : Int)).toNat = 0 from rfl] at hx228_0)
                                  (try rw [show 0 * 4 = 0 from rfl] at hx228_0)
                                  (try rw [Addr.add_zero'] at hx228_0)
                                  (try rw [show ((0 : Int)).toNat = 0 from rfl] at hx228_1)
                                  (try rw [show 0 * 4 = 0 from rfl] at hx228_1)
                                  (try rw [Addr.add_zero'] at hx228_1)
                                  (try rw [show ((0 : Int)).toNat = 0 from rfl] at hx228_2)
                                  (try rw [show 0 * 4 = 0 from rfl] at hx228_2)
                                  (try rw [Addr.add_zero'] at hx228_2)
                                  (try rw [show ((0 : Int)).toNat = 0 from rfl] at hx228_3)
                                  (try rw [show 0 * 4 = 0 from rfl] at hx228_3)
                                  (try rw [Addr.add_zero'] at hx228_3)
                                  have hn228_0 : ad227.block ≠ gb214 := Kd.own_blk (Kd.R_ne HO217.out BK214.out (by decide))
                                  have hn228_1 : ad227.block ≠ gb214 := Kd.own_blk (Kd.R_ne HO217.out BK214.out (by decide))
                                  have hn228_2 : ad227.block ≠ gb214 := Kd.own_blk (Kd.R_ne HO217.out BK214.out (by decide))
                                  replace hx228_0 := (cell_far (p := ⟨gb214, 0, none⟩) (by first | (rw [add_block]; exact hn228_0) | (show (Addr.add _ _).block ≠ _; rw [add_block]; exact hn228_0) | exact hn228_0) (.int .i64 t224)).trans hx228_0
                                  replace hx228_1 := (cell_far (p := ⟨gb214, 0, none⟩) (by first | (rw [add_block]; exact hn228_0) | (show (Addr.add _ _).block ≠ _; rw [add_block]; exact hn228_0) | exact hn228_0) (.int .i64 t224)).trans hx228_1
                                  replace hx228_2 := (cell_far (p := ⟨gb214, 0, none⟩) (by first | (rw [add_block]; exact hn228_0) | (show (Addr.add _ _).block ≠ _; rw [add_block]; exact hn228_0) | exact hn228_0) (.int .i64 t224)).trans hx228_2
                                  replace hx228_3 := (cell_far (p := ⟨gb214, 0, none⟩) (by first | (rw [add_block]; exact hn228_0) | (show (Addr.add _ _).block ≠ _; rw [add_block]; exact hn228_0) | exact hn228_0) (.int .i64 t224)).trans hx228_3
                                  replace hx228_0 := (cell_far (p := ⟨gb214, 1, none⟩) (by first | (rw [add_block]; exact hn228_1) | (show (Addr.add _ _).block ≠ _; rw [add_block]; exact hn228_1) | exact hn228_1) (.int .i64 t225)).trans hx228_0
                                  replace hx228_1 := (cell_far (p := ⟨gb214, 1, none⟩) (by first | (rw [add_block]; exact hn228_1) | (show (Addr.add _ _).block ≠ _; rw [add_block]; exact hn228_1) | exact hn228_1) (.int .i64 t225)).trans hx228_1
                                  replace hx228_2 := (cell_far (p := ⟨gb214, 1, none⟩) (by first | (rw [add_block]; exact hn228_1) | (show (Addr.add _ _).block ≠ _; rw [add_block]; exact hn228_1) | exact hn228_1) (.int .i64 t225)).trans hx228_2
                                  replace hx228_3 := (cell_far (p := ⟨gb214, 1, none⟩) (by first | (rw [add_block]; exact hn228_1) | (show (Addr.add _ _).block ≠ _; rw [add_block]; exact hn228_1) | exact hn228_1) (.int .i64 t225)).trans hx228_3
                                  replace hx228_0 := (cell_far (p := ⟨gb214, 2, none⟩) (by first | (rw [add_block]; exact hn228_2) | (show (Addr.add _ _).block ≠ _; rw [add_block]; exact hn228_2) | exact hn228_2) (.int .i64 t226)).trans hx228_0
                                  replace hx228_1 := (cell_far (p := ⟨gb214, 2, none⟩) (by first | (rw [add_block]; exact hn228_2) | (show (Addr.add _ _).block ≠ _; rw [add_block]; exact hn228_2) | exact hn228_2) (.int .i64 t226)).trans hx228_1
                                  replace hx228_2 := (cell_far (p := ⟨gb214, 2, none⟩) (by first | (rw [add_block]; exact hn228_2) | (show (Addr.add _ _).block ≠ _; rw [add_block]; exact hn228_2) | exact hn228_2) (.int .i64 t226)).trans hx228_2
                                  replace hx228_3 := (cell_far (p := ⟨gb214, 2, none⟩) (by first | (rw [add_block]; exact hn228_2) | (show (Addr.add _ _).block ≠ _; rw [add_block]; exact hn228_2) | exact hn228_2) (.int .i64 t226)).trans hx228_3
                                  clear hn228_0
                                  clear hn228_1
                                  clear hn228_2
                                  replace p228 := eq_true p228
                                  replace q228 := eq_true q228
                                  go_wp2
                                  go_meet
                                  case rel => exact ⟨_, (true), (by first | rfl | (simp; done) | (simp [*]; done)), H', ⟨by have := HK1.out; have := HJ10.out; have := HJ27.out; first | omega | exact Nat.le_refl _⟩, ⟨by (with_reducible repeat (first | refine blk_drewN ?_ _ | refine blk_drew ?_ | refine blk_alloc ?_ _)); refine blk_far ?_ NB206_214.out _; (with_reducible repeat (first | refine blk_drewN ?_ _ | refine blk_drew ?_ | refine blk_alloc ?_ _)); refine blk_far ?_ NB206_214.out _; (with_reducible repeat (first | refine blk_drewN ?_ _ | refine blk_drew ?_ | refine blk_alloc ?_ _)); refine blk_far ?_ NB206_214.out _; (with_reducible repeat (first | refine blk_drewN ?_ _ | refine blk_drew ?_ | refine blk_alloc ?_ _)); exact BK206.out⟩, ⟨by (with_reducible repeat (first | refine blk_drewN ?_ _ | refine blk_drew ?_ | refine blk_alloc ?_ _)); refine blk_put (cs := #[.int .i64 t224, .int .i64 t225, .int .i64 t213]) ?_ 2 _ rfl; (with_reducible repeat (first | refine blk_drewN ?_ _ | refine blk_drew ?_ | refine blk_alloc ?_ _)); refine blk_put (cs := #[.int .i64 t224, .int .i64 t212, .int .i64 t213]) ?_ 1 _ rfl; (with_reducible repeat (first | refine blk_drewN ?_ _ | refine blk_drew ?_ | refine blk_alloc ?_ _)); refine blk_put (cs := #[.int .i64 t211, .int .i64 t212, .int .i64 t213]) ?_ 0 _ rfl; (with_reducible repeat (first | refine blk_drewN ?_ _ | refine blk_drew ?_ | refine blk_alloc ?_ _)); exact BK214.out⟩, ⟨by repeat (first | (with_reducible first | exact HB.out | apply below_alloc | apply pw_below_drewN | apply below_drew1 | refine below_set ?_ GE206.out | refine below_set ?_ GE214.out) | exact HB.out)⟩⟩
                              · rw [if_neg c50] at H
                                have c50b0 : (((rd_T37 t215 0).f1).toList == ([97, 98, 99, 100, 101, 102, 103, 104, 105, 106, 107, 108, 109, 110, 111, 112, 113, 114, 115, 116, 117, 118, 119, 120, 121, 122, 95, 48, 49, 50, 51, 52] : List UInt8)) = false := beq_eq_false_iff_ne.mpr c50
                                have c50b1 : (((rd_T37 t215 0).f1).toList != ([97, 98, 99, 100, 101, 102, 103, 104, 105, 106, 107, 108, 109, 110, 111, 112, 113, 114, 115, 116, 117, 118, 119, 120, 121, 122, 95, 48, 49, 50, 51, 52] : List UInt8)) = true := bne_iff_ne.mpr c50
                                have H' := Aside0.mk H
                                clear H
                                obtain ⟨Ao67, co67, eo67⟩ := Kd.R_slice HO217.out
                                subst eo67
                                have p227 : 0 ≤ (0 : Int) := (by omega)
                                have q227 : 0 < (t215.length : Int) := of_decide_eq_true (by first | (with_reducible assumption) | assumption)
                                obtain ⟨ad227, e227, hx227_0, hx227_1, hx227_2, hx227_3⟩ := at_T37 (Kd.R_reads' HO217.out).2.2 0 p227 q227
                                cases e227
                                have qi227 : (0 < t215.length) = True := eq_true (by omega)
                                (try rw [show ((0 : Int)).toNat = 0 from rfl] at hx227_0)
                                (try rw [show 0 * 4 = 0 from rfl] at hx227_0)
                                (try rw [Addr.add_zero'] at hx227_0)
                                (try rw [show ((0 : Int)).toNat = 0 from rfl] at hx227_1)
                                (try rw [show 0 * 4 = 0 from rfl] at hx227_1)
                                (try rw [Addr.add_zero'] at hx227_1)
                                (try rw [show ((0 : Int)).toNat = 0 from rfl] at hx227_2)
                                (try rw [show 0 * 4 = 0 from rfl] at hx227_2)
                                (try rw [Addr.add_zero'] at hx227_2)
                                (try rw [show ((0 : Int)).toNat = 0 from rfl] at hx227_3)
                                (try rw [show 0 * 4 = 0 from rfl] at hx227_3)
                                (try rw [Addr.add_zero'] at hx227_3)
                                have hn227_0 : ad227.block ≠ gb214 := Kd.own_blk (Kd.R_ne HO217.out BK214.out (by decide))
                                have hn227_1 : ad227.block ≠ gb214 := Kd.own_blk (Kd.R_ne HO217.out BK214.out (by decide))
                                have hn227_2 : ad227.block ≠ gb214 := Kd.own_blk (Kd.R_ne HO217.out BK214.out (by decide))
                                replace hx227_0 := (cell_far (p := ⟨gb214, 0, none⟩) (by first | (rw [add_block]; exact hn227_0) | (show (Addr.add _ _).block ≠ _; rw [add_block]; exact hn227_0) | exact hn227_0) (.int .i64 t224)).trans hx227_0
                                replace hx227_1 := (cell_far (p := ⟨gb214, 0, none⟩) (by first | (rw [add_block]; exact hn227_0) | (show (Addr.add _ _).block ≠ _; rw [add_block]; exact hn227_0) | exact hn227_0) (.int .i64 t224)).trans hx227_1
                                replace hx227_2 := (cell_far (p := ⟨gb214, 0, none⟩) (by first | (rw [add_block]; exact hn227_0) | (show (Addr.add _ _).block ≠ _; rw [add_block]; exact hn227_0) | exact hn227_0) (.int .i64 t224)).trans hx227_2
                                replace hx227_3 := (cell_far (p := ⟨gb214, 0, none⟩) (by first | (rw [add_block]; exact hn227_0) | (show (Addr.add _ _).block ≠ _; rw [add_block]; exact hn227_0) | exact hn227_0) (.int .i64 t224)).trans hx227_3
                                replace hx227_0 := (cell_far (p := ⟨gb214, 1, none⟩) (by first | (rw [add_block]; exact hn227_1) | (show (Addr.add _ _).block ≠ _; rw [add_block]; exact hn227_1) | exact hn227_1) (.int .i64 t225)).trans hx227_0
                                replace hx227_1 := (cell_far (p := ⟨gb214, 1, none⟩) (by first | (rw [add_block]; exact hn227_1) | (show (Addr.add _ _).block ≠ _; rw [add_block]; exact hn227_1) | exact hn227_1) (.int .i64 t225)).trans hx227_1
                                replace hx227_2 := (cell_far (p := ⟨gb214, 1, none⟩) (by first | (rw [add_block]; exact hn227_1) | (show (Addr.add _ _).block ≠ _; rw [add_block]; exact hn227_1) | exact hn227_1) (.int .i64 t225)).trans hx227_2
                                replace hx227_3 := (cell_far (p := ⟨gb214, 1, none⟩) (by first | (rw [add_block]; exact hn227_1) | (show (Addr.add _ _).block ≠ _; rw [add_block]; exact hn227_1) | exact hn227_1) (.int .i64 t225)).trans hx227_3
                                replace hx227_0 := (cell_far (p := ⟨gb214, 2, none⟩) (by first | (rw [add_block]; exact hn227_2) | (show (Addr.add _ _).block ≠ _; rw [add_block]; exact hn227_2) | exact hn227_2) (.int .i64 t226)).trans hx227_0
                                replace hx227_1 := (cell_far (p := ⟨gb214, 2, none⟩) (by first | (rw [add_block]; exact hn227_2) | (show (Addr.add _ _).block ≠ _; rw [add_block]; exact hn227_2) | exact hn227_2) (.int .i64 t226)).trans hx227_1
                                replace hx227_2 := (cell_far (p := ⟨gb214, 2, none⟩) (by first | (rw [add_block]; exact hn227_2) | (show (Addr.add _ _).block ≠ _; rw [add_block]; exact hn227_2) | exact hn227_2) (.int .i64 t226)).trans hx227_2
                                replace hx227_3 := (cell_far (p := ⟨gb214, 2, none⟩) (by first | (rw [add_block]; exact hn227_2) | (show (Addr.add _ _).block ≠ _; rw [add_block]; exact hn227_2) | exact hn227_2) (.int .i64 t226)).trans hx227_3
                                clear hn227_0
                                clear hn227_1
                                clear hn227_2
                                replace p227 := eq_true p227
                                replace q227 := eq_true q227
                                go_wp2
                                go_meet
                                case rel => exact ⟨_, (true), (by first | rfl | (simp; done) | (simp [*]; done)), H', ⟨by have := HK1.out; have := HJ10.out; have := HJ27.out; first | omega | exact Nat.le_refl _⟩, ⟨by (with_reducible repeat (first | refine blk_drewN ?_ _ | refine blk_drew ?_ | refine blk_alloc ?_ _)); refine blk_far ?_ NB206_214.out _; (with_reducible repeat (first | refine blk_drewN ?_ _ | refine blk_drew ?_ | refine blk_alloc ?_ _)); refine blk_far ?_ NB206_214.out _; (with_reducible repeat (first | refine blk_drewN ?_ _ | refine blk_drew ?_ | refine blk_alloc ?_ _)); refine blk_far ?_ NB206_214.out _; (with_reducible repeat (first | refine blk_drewN ?_ _ | refine blk_drew ?_ | refine blk_alloc ?_ _)); exact BK206.out⟩, ⟨by (with_reducible repeat (first | refine blk_drewN ?_ _ | refine blk_drew ?_ | refine blk_alloc ?_ _)); refine blk_put (cs := #[.int .i64 t224, .int .i64 t225, .int .i64 t213]) ?_ 2 _ rfl; (with_reducible repeat (first | refine blk_drewN ?_ _ | refine blk_drew ?_ | refine blk_alloc ?_ _)); refine blk_put (cs := #[.int .i64 t224, .int .i64 t212, .int .i64 t213]) ?_ 1 _ rfl; (with_reducible repeat (first | refine blk_drewN ?_ _ | refine blk_drew ?_ | refine blk_alloc ?_ _)); refine blk_put (cs := #[.int .i64 t211, .int .i64 t212, .int .i64 t213]) ?_ 0 _ rfl; (with_reducible repeat (first | refine blk_drewN ?_ _ | refine blk_drew ?_ | refine blk_alloc ?_ _)); exact BK214.out⟩, ⟨by repeat (first | (with_reducible first | exact HB.out | apply below_alloc | apply pw_below_drewN | apply below_drew1 | refine below_set ?_ GE206.out | refine below_set ?_ GE214.out) | exact HB.out)⟩⟩
                            · rw [if_neg c49] at H
                              exact absurd H (by simp)
                          · rw [if_neg c48] at H
                            have c48b0 : ((t215.length : Int) == 2) = false := beq_eq_false_iff_ne.mpr c48
                            have c48b1 : ((t215.length : Int) != 2) = true := bne_iff_ne.mpr c48
                            (first | rw [c48b0] | (simp only [i64_w, i32_w]; rw [c48b0]) | skip)
                            have H' := Aside0.mk H
                            clear H
                            obtain ⟨Ao68, co68, eo68⟩ := Kd.R_slice HO217.out
                            subst eo68
                            go_wp2
                            go_meet
                            case rel => exact ⟨_, (true), (by first | rfl | (simp; done) | (simp [*]; done)), H', ⟨by have := HK1.out; have := HJ10.out; have := HJ27.out; first | omega | exact Nat.le_refl _⟩, ⟨by (with_reducible repeat (first | refine blk_drewN ?_ _ | refine blk_drew ?_ | refine blk_alloc ?_ _)); refine blk_far ?_ NB206_214.out _; (with_reducible repeat (first | refine blk_drewN ?_ _ | refine blk_drew ?_ | refine blk_alloc ?_ _)); refine blk_far ?_ NB206_214.out _; (with_reducible repeat (first | refine blk_drewN ?_ _ | refine blk_drew ?_ | refine blk_alloc ?_ _)); refine blk_far ?_ NB206_214.out _; (with_reducible repeat (first | refine blk_drewN ?_ _ | refine blk_drew ?_ | refine blk_alloc ?_ _)); exact BK206.out⟩, ⟨by (with_reducible repeat (first | refine blk_drewN ?_ _ | refine blk_drew ?_ | refine blk_alloc ?_ _)); refine blk_put (cs := #[.int .i64 t224, .int .i64 t225, .int .i64 t213]) ?_ 2 _ rfl; (with_reducible repeat (first | refine blk_drewN ?_ _ | refine blk_drew ?_ | refine blk_alloc ?_ _)); refine blk_put (cs := #[.int .i64 t224, .int .i64 t212, .int .i64 t213]) ?_ 1 _ rfl; (with_reducible repeat (first | refine blk_drewN ?_ _ | refine blk_drew ?_ | refine blk_alloc ?_ _)); refine blk_put (cs := #[.int .i64 t211, .int .i64 t212, .int .i64 t213]) ?_ 0 _ rfl; (with_reducible repeat (first | refine blk_drewN ?_ _ | refine blk_drew ?_ | refine blk_alloc ?_ _)); exact BK214.out⟩, ⟨by repeat (first | (with_reducible first | exact HB.out | apply below_alloc | apply pw_below_drewN | apply below_drew1 | refine below_set ?_ GE206.out | refine below_set ?_ GE214.out) | exact HB.out)⟩⟩
                        case rest =>
                          clear HC42
                          try clear c1
                          try clear c1b0
                          try clear c1b1
                          try clear hcv1
                          try clear c2
                          try clear p2
                          try clear q2
                          try clear hx2
                          try clear hcv2
                          try clear qi2
                          try clear c3
                          try clear c4
                          try clear c4b0
                          try clear c5
                          try clear c5b0
                          try clear c6
                          try clear p6
                          try clear q6
                          try clear hx6
                          try clear hf6
                          try clear c10
                          try clear hcv13
                          try clear c17
                          try clear c17b0
                          try clear c17b1
                          try clear c18
                          try clear c18b0
                          try clear c18b1
                          try clear c19
                          try clear c19b0
                          try clear c19b1
                          try clear p20
                          try clear q20
                          try clear hx20
                          try clear qi20
                          try clear p22
                          try clear q22
                          try clear hx22
                          try clear qi22
                          try clear c25
                          try clear c26
                          try clear c26b0
                          try clear c26b1
                          try clear c26b2
                          try clear hcv29
                          try clear c32
                          try clear c34
                          try clear c34b0
                          try clear c34b1
                          try clear c34b2
                          try clear c36
                          try clear c39
                          try clear c44
                          try clear c48
                          try clear c48b0
                          try clear c48b1
                          try clear c49
                          try clear c49b0
                          try clear c49b1
                          try clear c50
                          try clear c50b0
                          try clear c50b1
                          try clear c51
                          try clear c51b0
                          try clear c51b1
                          try clear c52
                          try clear c52b0
                          try clear c52b1
                          try clear c53
                          try clear c53b0
                          try clear c53b1
                          try clear c53b2
                          try clear c55
                          try clear c60
                          try clear c64
                          try clear hcz16_0
                          try clear hcz16_1
                          try clear hcz16_2
                          try clear hcz21_0
                          try clear hcz21_1
                          try clear hcz21_2
                          try clear hcz23_0
                          try clear hcz23_1
                          try clear hcz23_2
                          try clear hcz33_0
                          try clear hcz33_1
                          try clear hcz33_2
                          try clear hcz37_0
                          try clear hcz37_1
                          try clear hcz37_2
                          try clear hcz45_0
                          try clear hcz45_1
                          try clear hcz45_2
                          try clear hcz47_0
                          try clear hcz47_1
                          try clear hcz47_2
                          try clear hcz56_0
                          try clear hcz56_1
                          try clear hcz56_2
                          try clear hcz58_0
                          try clear hcz58_1
                          try clear hcz58_2
                          try clear hcz61_0
                          try clear hcz61_1
                          try clear hcz61_2
                          try clear hcz65_0
                          try clear hcz65_1
                          try clear hcz65_2
                          try clear hfz16_0
                          try clear hfz16_1
                          try clear hfz16_2
                          try clear hfz21_0
                          try clear hfz21_1
                          try clear hfz21_2
                          try clear hfz23_0
                          try clear hfz23_1
                          try clear hfz23_2
                          try clear hfz33_0
                          try clear hfz33_1
                          try clear hfz33_2
                          try clear hfz37_0
                          try clear hfz37_1
                          try clear hfz37_2
                          try clear hfz45_0
                          try clear hfz45_1
                          try clear hfz45_2
                          try clear hfz47_0
                          try clear hfz47_1
                          try clear hfz47_2
                          try clear hfz56_0
                          try clear hfz56_1
                          try clear hfz56_2
                          try clear hfz58_0
                          try clear hfz58_1
                          try clear hfz58_2
                          try clear hfz61_0
                          try clear hfz61_1
                          try clear hfz61_2
                          try clear hfz65_0
                          try clear hfz65_1
                          try clear hfz65_2
                          try clear hx207_0
                          try clear hx207_1
                          try clear hx207_2
                          try clear hx207_3
                          try clear hx227_0
                          try clear hx227_1
                          try clear hx227_2
                          try clear hx227_3
                          try clear hx228_0
                          try clear hx228_1
                          try clear hx228_2
                          try clear hx228_3
                          try clear hx6_0
                          try clear p2
                          try clear p20
                          try clear p207
                          try clear p227
                          try clear p228
                          try clear p6
                          try clear q2
                          try clear q20
                          try clear q207
                          try clear q227
                          try clear q228
                          try clear q6
                          obtain ⟨kq, x102_41, rfl, HA, HJ41, BK206, BK214, HB⟩ := hcut
                          cases kq with
                          | zero => exact absurd HA.out (by simp [latchkeylaw05_TokensLimits.j3])
                          | succ kj41 =>
                            have H := HA.out
                            clear HA
                            simp only [latchkeylaw05_TokensLimits.j3] at H
                            by_cases c69 : x102_41 = true
                            · subst c69
                              have H1 : (some false) = some r := by rw [if_pos rfl] at H; exact H
                              clear H
                              have H := H1
                              clear H1
                              exact absurd (Option.some.inj H) (by rw [hr]; decide)
                            · replace c69 := Bool.eq_false_iff.mpr c69
                              subst c69
                              have H1 : (if 32769 ≤ 7036874417766 then (latchkeylaw05_TokensLimits.l1 kj41 (List.replicate 32769 z37) 0) else (none)) = some r := by rw [if_neg (show ¬ (false = true) by decide)] at H; exact H
                              clear H
                              have H := H1
                              clear H1
                              by_cases c70 : 32769 ≤ 7036874417766
                              · rw [if_pos c70] at H
                                have c70b0 := eq_true c70
                                have c70b1 : decide (32769 ≤ 7036874417766) = true := decide_eq_true c70
                                clear c70
                                obtain ⟨y229, hy229⟩ : ∃ y_ : List (S37), y_ = (List.replicate 32769 z37) := ⟨_, rfl⟩
                                replace H : (latchkeylaw05_TokensLimits.l1 kj41 y229 0) = some r := by first | (rw [hy229]; with_reducible exact H) | (have H2_ := (Option.bind_some _ _).symm.trans H; rw [hy229]; with_reducible exact H2_) | (have H2_ := (Option.bind_some _ _).symm.trans H; with_reducible exact H2_) | with_reducible exact H | (rw [hy229]; exact H) | exact H
                                have Ny229 := Aside0.mk hy229
                                clear hy229
                                have H' := Aside0.mk H
                                clear H
                                go_wp2_with (first | ((with_reducible refine gate_dst (N := 103) rfl ?_); (try (refine gate_guard (by rfl) ?_; dsimp only)); refine Kd.R_make k37 _ 37 rfl (N := 103) rfl 22 _ _ rfl 32769 rfl rfl Tryd.underlying22 (.agg #[(.int .i64 0), (.string ⟨#[]⟩), (.int .i64 0), (.int .i64 0)]) 40 info37 rfl (by decide) (by omega) z37 (ok := fun _ => True) (okp := fun _ => True) (k37_mkM _ _ _ z37 ) (fun _ hk => hk) trivial (by omega) (by omega) (Below.refl _ _) (Nat.le_refl _) ?_; intro v230 w71 ho72 hb hg_ hnew_; clear hg_ hnew_; (first | rw [← Ny229.out] at ho72 | (simp only [Int.reduceToNat] at ho72; rw [← Ny229.out] at ho72)); have n0_ := Aside0.mk (Kd.R_lower ho72 (below_size (by repeat (first | (with_reducible first | exact HB.out | apply below_alloc | apply pw_below_drewN | apply below_drew1 | refine below_set ?_ GE206.out | refine below_set ?_ GE214.out) | exact HB.out)))); have n1_ := Aside0.mk (blk_below (g := gb206) (o := .cells #[.int .i64 t218, .int .i64 t219, .int .i64 t220] 25 (0, 0)) (by (with_reducible repeat (first | refine blk_drewN ?_ _ | refine blk_drew ?_ | refine blk_alloc ?_ _)); exact BK206.out) hb); have n2_ := Aside0.mk (blk_below (g := gb214) (o := .cells #[.int .i64 t224, .int .i64 t225, .int .i64 t226] 25 (0, 0)) (by (with_reducible repeat (first | refine blk_drewN ?_ _ | refine blk_drew ?_ | refine blk_alloc ?_ _)); exact BK214.out) hb); have n3_ := Aside0.mk (below_step (by repeat (first | (with_reducible first | exact HB.out | apply below_alloc | apply pw_below_drewN | apply below_drew1 | refine below_set ?_ GE206.out | refine below_set ?_ GE214.out) | exact HB.out)) hb); clear BK206; clear BK214; clear HB; have HO231 := n0_; have BK206 := n1_; have BK214 := n2_; have HB := n3_; clear n0_ n1_ n2_ n3_; clear hb ho72))
                                go_loopg [8] kj41 (fun kq v8 w' => ∃ (x7_5 : List (S37)) (x8_5 : Int), v8 = .int .i64 x8_5 ∧ Aside0 (latchkeylaw05_TokensLimits.l1 kq x7_5 x8_5 = some r) ∧ Aside0 (kq ≤ kj41) ∧ Aside0 (Kd.R k37 37 w' w.heap.size (fun _ => True) v230 x7_5) ∧ Aside0 (w'.heap[gb206]? = some (.cells #[.int .i64 t218, .int .i64 t219, .int .i64 t220] 25 (0, 0))) ∧ Aside0 (w'.heap[gb214]? = some (.cells #[.int .i64 t224, .int .i64 t225, .int .i64 t226] 25 (0, 0))) ∧ Aside0 (Below w.heap.size w w'))
                                case atStart => exact ⟨(y229), (0), (by first | rfl | (simp; done) | (simp [*]; done)), H', ⟨Nat.le_refl _⟩, ⟨by (with_reducible repeat (first | apply Kd.R_alloc | apply Kd.R_drewN | apply Kd.R_drew)); exact HO231.out⟩, ⟨by (with_reducible repeat (first | refine blk_drewN ?_ _ | refine blk_drew ?_ | refine blk_alloc ?_ _)); exact BK206.out⟩, ⟨by (with_reducible repeat (first | refine blk_drewN ?_ _ | refine blk_drew ?_ | refine blk_alloc ?_ _)); exact BK214.out⟩, ⟨by repeat (first | (with_reducible first | exact HB.out | apply below_alloc | apply pw_below_drewN | apply below_drew1 | refine below_set ?_ GE206.out | refine below_set ?_ GE214.out) | exact HB.out)⟩⟩
                                case round =>
                                  clear H'
                                  try clear c1
                                  try clear c1b0
                                  try clear c1b1
                                  try clear hcv1
                                  try clear c2
                                  try clear p2
                                  try clear q2
                                  try clear hx2
                                  try clear hcv2
                                  try clear qi2
                                  try clear c3
                                  try clear c4
                                  try clear c4b0
                                  try clear c5
                                  try clear c5b0
                                  try clear c6
                                  try clear p6
                                  try clear q6
                                  try clear hx6
                                  try clear hf6
                                  try clear c7
                                  try clear c10
                                  try clear hcv13
                                  try clear c17
                                  try clear c17b0
                                  try clear c17b1
                                  try clear c18
                                  try clear c18b0
                                  try clear c18b1
                                  try clear c19
                                  try clear c19b0
                                  try clear c19b1
                                  try clear p20
                                  try clear q20
                                  try clear hx20
                                  try clear qi20
                                  try clear p22
                                  try clear q22
                                  try clear hx22
                                  try clear qi22
                                  try clear c25
                                  try clear c26
                                  try clear c26b0
                                  try clear c26b1
                                  try clear c26b2
                                  try clear hcv29
                                  try clear c32
                                  try clear c34
                                  try clear c34b0
                                  try clear c34b1
                                  try clear c34b2
                                  try clear c36
                                  try clear c39
                                  try clear c44
                                  try clear c48
                                  try clear c48b0
                                  try clear c48b1
                                  try clear c49
                                  try clear c49b0
                                  try clear c49b1
                                  try clear c50
                                  try clear c50b0
                                  try clear c50b1
                                  try clear c51
                                  try clear c51b0
                                  try clear c51b1
                                  try clear c52
                                  try clear c52b0
                                  try clear c52b1
                                  try clear c53
                                  try clear c53b0
                                  try clear c53b1
                                  try clear c53b2
                                  try clear c55
                                  try clear c60
                                  try clear c64
                                  try clear c69
                                  try clear c70
                                  try clear c70b0
                                  try clear c70b1
                                  try clear hcz16_0
                                  try clear hcz16_1
                                  try clear hcz16_2
                                  try clear hcz21_0
                                  try clear hcz21_1
                                  try clear hcz21_2
                                  try clear hcz23_0
                                  try clear hcz23_1
                                  try clear hcz23_2
                                  try clear hcz33_0
                                  try clear hcz33_1
                                  try clear hcz33_2
                                  try clear hcz37_0
                                  try clear hcz37_1
                                  try clear hcz37_2
                                  try clear hcz45_0
                                  try clear hcz45_1
                                  try clear hcz45_2
                                  try clear hcz47_0
                                  try clear hcz47_1
                                  try clear hcz47_2
                                  try clear hcz56_0
                                  try clear hcz56_1
                                  try clear hcz56_2
                                  try clear hcz58_0
                                  try clear hcz58_1
                                  try clear hcz58_2
                                  try clear hcz61_0
                                  try clear hcz61_1
                                  try clear hcz61_2
                                  try clear hcz65_0
                                  try clear hcz65_1
                                  try clear hcz65_2
                                  try clear hfz16_0
                                  try clear hfz16_1
                                  try clear hfz16_2
                                  try clear hfz21_0
                                  try clear hfz21_1
                                  try clear hfz21_2
                                  try clear hfz23_0
                                  try clear hfz23_1
                                  try clear hfz23_2
                                  try clear hfz33_0
                                  try clear hfz33_1
                                  try clear hfz33_2
                                  try clear hfz37_0
                                  try clear hfz37_1
                                  try clear hfz37_2
                                  try clear hfz45_0
                                  try clear hfz45_1
                                  try clear hfz45_2
                                  try clear hfz47_0
                                  try clear hfz47_1
                                  try clear hfz47_2
                                  try clear hfz56_0
                                  try clear hfz56_1
                                  try clear hfz56_2
                                  try clear hfz58_0
                                  try clear hfz58_1
                                  try clear hfz58_2
                                  try clear hfz61_0
                                  try clear hfz61_1
                                  try clear hfz61_2
                                  try clear hfz65_0
                                  try clear hfz65_1
                                  try clear hfz65_2
                                  try clear hx207_0
                                  try clear hx207_1
                                  try clear hx207_2
                                  try clear hx207_3
                                  try clear hx227_0
                                  try clear hx227_1
                                  try clear hx227_2
                                  try clear hx227_3
                                  try clear hx228_0
                                  try clear hx228_1
                                  try clear hx228_2
                                  try clear hx228_3
                                  try clear hx6_0
                                  try clear p2
                                  try clear p20
                                  try clear p207
                                  try clear p22
                                  try clear p227
                                  try clear p228
                                  try clear p6
                                  try clear q2
                                  try clear q20
                                  try clear q207
                                  try clear q22
                                  try clear q227
                                  try clear q228
                                  try clear q6
                                  obtain ⟨x7_5, x8_5, rfl, HA, HK5, HO_7, BK206, BK214, HB⟩ := hrel
                                  cases gk with
                                  | zero => exact absurd HA.out (by simp [latchkeylaw05_TokensLimits.l1])
                                  | succ k5 =>
                                    have H := HA.out
                                    clear HA
                                    simp only [latchkeylaw05_TokensLimits.l1] at H
                                    by_cases c73 : x8_5 < (x7_5.length : Int)
                                    · rw [if_pos c73] at H
                                      have c73b0 : decide (x8_5 < (x7_5.length : Int)) = true := decide_eq_true c73
                                      clear c73
                                      by_cases c74 : 0 ≤ x8_5
                                      · rw [if_pos c74] at H
                                        have c74b0 : decide (0 ≤ x8_5) = true := decide_eq_true c74
                                        clear c74
                                        obtain ⟨y232, hy232⟩ : ∃ y_ : List (S37), y_ = (x7_5.set (x8_5 : Int).toNat (⟨1, (⟨#[97]⟩ : ByteArray), 0, 0⟩ : S37)) := ⟨_, rfl⟩
                                        replace H : (latchkeylaw05_TokensLimits.l1 k5 y232 (wrap64 (x8_5 + 1))) = some r := by first | (rw [hy232]; with_reducible exact H) | (have H2_ := (Option.bind_some _ _).symm.trans H; rw [hy232]; with_reducible exact H2_) | (have H2_ := (Option.bind_some _ _).symm.trans H; with_reducible exact H2_) | with_reducible exact H | (rw [hy232]; exact H) | exact H
                                        have Ny232 := Aside0.mk hy232
                                        clear hy232
                                        have H' := Aside0.mk H
                                        clear H
                                        obtain ⟨Ao76, co76, eo76⟩ := Kd.R_slice HO_7.out
                                        subst eo76
                                        have p75 : 0 ≤ (x8_5 : Int) := of_decide_eq_true (by first | (with_reducible assumption) | assumption)
                                        have q75 : (x8_5 : Int) < ((x7_5.length : Int) : Int) := of_decide_eq_true (by first | (with_reducible assumption) | assumption)
                                        obtain ⟨go75, co75, eo75, gb75, gl75, cl75, HG75⟩ := Kd.R_form HO_7.out (by omega)
                                        (first | cases eo75 | (injection eo75 with ea_ en_ ec_; (first | subst ea_ | (injection ea_ with ea_; subst ea_)); subst ec_; clear en_))
                                        have GB75 := Aside0.mk gb75
                                        have GG75 := Aside0.mk HG75
                                        clear gb75 gl75 HG75
                                        obtain ⟨ce75, hcl75, hM75, hcc75, hfr75⟩ := Kd.R_elem HO_7.out z37 (x8_5 : Int) p75 q75
                                        obtain rfl := k37_openM hM75
                                        have hx75_0 : wr.cell? ⟨go75, (x8_5 : Int).toNat * 4, none⟩ = some (.int .i64 ((rd_T37 x7_5 x8_5).f0)) := hcc75 0 _ rfl
                                        have hx75_1 : wr.cell? ⟨go75, (x8_5 : Int).toNat * 4 + 1, none⟩ = some (.string ((rd_T37 x7_5 x8_5).f1)) := hcc75 1 _ rfl
                                        have hx75_2 : wr.cell? ⟨go75, (x8_5 : Int).toNat * 4 + 2, none⟩ = some (.int .i64 ((rd_T37 x7_5 x8_5).f2)) := hcc75 2 _ rfl
                                        have hx75_3 : wr.cell? ⟨go75, (x8_5 : Int).toNat * 4 + 3, none⟩ = some (.int .i64 ((rd_T37 x7_5 x8_5).f3)) := hcc75 3 _ rfl
                                        have hf75_0 : wr.frozen? ⟨go75, (x8_5 : Int).toNat * 4, none⟩ = false := hfr75 0
                                        have hf75_1 : wr.frozen? ⟨go75, (x8_5 : Int).toNat * 4 + 1, none⟩ = false := hfr75 1
                                        have hf75_2 : wr.frozen? ⟨go75, (x8_5 : Int).toNat * 4 + 2, none⟩ = false := hfr75 2
                                        have hf75_3 : wr.frozen? ⟨go75, (x8_5 : Int).toNat * 4 + 3, none⟩ = false := hfr75 3
                                        clear hcl75 hcc75 hfr75 hM75
                                        replace p75 := eq_true p75
                                        replace q75 := eq_true q75
                                        have HX77 := Aside0.mk (show Kd.R k37 37 wr w.heap.size (fun _ => True) (.slice (some ⟨go75, 0, none⟩) x7_5.length co76) x7_5 from (by (with_reducible repeat (first | apply Kd.R_alloc | apply Kd.R_drewN | apply Kd.R_drew)); exact HO_7.out))
                                        obtain ⟨ce77, hcl77, hM77, hcc77, hfr77⟩ := Kd.R_elem HX77.out z37 (x8_5 : Int) (of_decide_eq_true (by first | (with_reducible assumption) | assumption)) (by have h_ : (x8_5 : Int) < ((x7_5.length : Int) : Int) := of_decide_eq_true (by first | (with_reducible assumption) | assumption); first | exact h_ | (have e_ := (Kd.R_reads' HO_7.out).1; omega) | simpa using h_)
                                        obtain rfl := k37_openM hM77
                                        have HP77 := Kd.R_seg HX77.out (x8_5 : Int) (of_decide_eq_true (by first | (with_reducible assumption) | assumption)) (by have h_ : (x8_5 : Int) < ((x7_5.length : Int) : Int) := of_decide_eq_true (by first | (with_reducible assumption) | assumption); first | exact h_ | (have e_ := (Kd.R_reads' HO_7.out).1; omega) | simpa using h_) (seg := [.int .i64 1, .string (⟨#[97]⟩ : ByteArray), .int .i64 0, .int .i64 0]) (j := 0) hcl77 hcc77 (show 4 ≤ 4 from by decide) (x' := (⟨1, (⟨#[97]⟩ : ByteArray), 0, 0⟩ : S37)) (k37_mkM _ _ _ (⟨1, (⟨#[97]⟩ : ByteArray), 0, 0⟩ : S37) ) (fun _ hk => hk)
                                        have hx77_0 := hcc77 0 _ rfl
                                        (try simp only [show (k37).sz = 4 from rfl, Nat.mul_one, Nat.add_zero] at hx77_0)
                                        have hf77_0 := hfr77 0
                                        (try simp only [show (k37).sz = 4 from rfl, Nat.mul_one, Nat.add_zero] at hf77_0)
                                        have hx77_1 := hcc77 1 _ rfl
                                        (try simp only [show (k37).sz = 4 from rfl, Nat.mul_one, Nat.add_zero] at hx77_1)
                                        have hf77_1 := hfr77 1
                                        (try simp only [show (k37).sz = 4 from rfl, Nat.mul_one, Nat.add_zero] at hf77_1)
                                        have hx77_2 := hcc77 2 _ rfl
                                        (try simp only [show (k37).sz = 4 from rfl, Nat.mul_one, Nat.add_zero] at hx77_2)
                                        have hf77_2 := hfr77 2
                                        (try simp only [show (k37).sz = 4 from rfl, Nat.mul_one, Nat.add_zero] at hf77_2)
                                        have hx77_3 := hcc77 3 _ rfl
                                        (try simp only [show (k37).sz = 4 from rfl, Nat.mul_one, Nat.add_zero] at hx77_3)
                                        have hf77_3 := hfr77 3
                                        (try simp only [show (k37).sz = 4 from rfl, Nat.mul_one, Nat.add_zero] at hf77_3)
                                        clear hcl77 hcc77 hfr77 hM77
                                        go_wp2_with (first | ((with_reducible refine gate_store (t := 37) (p := 113) rfl ?_); refine store_event (t := 37) (p := 113) (v := ?vo_w78) (w1 := ((((wr.setCell ⟨go75, (x8_5 : Int).toNat * 4, none⟩ (.int .i64 1)).setCell ⟨go75, (x8_5 : Int).toNat * 4 + 1, none⟩ (.string (⟨#[97]⟩ : ByteArray))).setCell ⟨go75, (x8_5 : Int).toNat * 4 + 2, none⟩ (.int .i64 0)).setCell ⟨go75, (x8_5 : Int).toNat * 4 + 3, none⟩ (.int .i64 0))) ?hg ?ho ?hn ?hr ?_; (case ho => rfl); (case hg => rfl); (case hn => rfl); (case hr => first | (go_simp; done) | (go_simp; rfl)); intro w78 hw; have hg : wr.grownBy w78 (some go75) := (by rw [hw]; exact HP77.2); have hp_ : Kd.R k37 37 w78 w.heap.size (fun _ => True) (.slice (some ⟨go75, 0, none⟩) x7_5.length co76) y232 := (by rw [hw, Ny232.out]; exact HP77.1); clear HP77; have n0_ := Aside0.mk (hp_); have n1_ := Aside0.mk (blk_grown (g := gb206) (o := .cells #[.int .i64 t218, .int .i64 t219, .int .i64 t220] 25 (0, 0)) (by (with_reducible repeat (first | refine blk_drewN ?_ _ | refine blk_drew ?_ | refine blk_alloc ?_ _)); exact BK206.out) hg (Kd.R_ne HO_7.out BK206.out (by decide))); have n2_ := Aside0.mk (blk_grown (g := gb214) (o := .cells #[.int .i64 t224, .int .i64 t225, .int .i64 t226] 25 (0, 0)) (by (with_reducible repeat (first | refine blk_drewN ?_ _ | refine blk_drew ?_ | refine blk_alloc ?_ _)); exact BK214.out) hg (Kd.R_ne HO_7.out BK214.out (by decide))); have n3_ := Aside0.mk ((by rw [hw]; exact below_set (below_set (below_set (below_set (HB.out) GB75.out) GB75.out) GB75.out) GB75.out : Below w.heap.size w w78)); clear HO_7; clear BK206; clear BK214; clear HB; have HO_7 := n0_; have BK206 := n1_; have BK214 := n2_; have HB := n3_; clear n0_ n1_ n2_ n3_; clear hg hw hp_))
                                        go_roundg k5
                                        case measure => have := HK1.out; have := HJ10.out; have := HJ27.out; have := HJ41.out; have := HK5.out; omega
                                        case rel => exact ⟨(y232), (wrap64 (x8_5 + 1)), (by first | rfl | (simp; done) | (simp [*]; done)), H', ⟨by have := HK1.out; have := HJ10.out; have := HJ27.out; have := HJ41.out; have := HK5.out; omega⟩, ⟨by (with_reducible repeat (first | apply Kd.R_alloc | apply Kd.R_drewN | apply Kd.R_drew)); exact HO_7.out⟩, ⟨by (with_reducible repeat (first | refine blk_drewN ?_ _ | refine blk_drew ?_ | refine blk_alloc ?_ _)); exact BK206.out⟩, ⟨by (with_reducible repeat (first | refine blk_drewN ?_ _ | refine blk_drew ?_ | refine blk_alloc ?_ _)); exact BK214.out⟩, ⟨by repeat (first | (with_reducible first | exact HB.out | apply below_alloc | apply pw_below_drewN | apply below_drew1 | refine below_set ?_ GE206.out | refine below_set ?_ GE214.out) | exact HB.out)⟩⟩
                                      · rw [if_neg c74] at H
                                        exact absurd H (by simp)
                                    · rw [if_neg c73] at H
                                      have c73b0 : decide (x8_5 < (x7_5.length : Int)) = false := decide_eq_false c73
                                      clear c73
                                      by_cases c79 : 1 ≤ (x7_5.length : Int)
                                      · rw [if_pos c79] at H
                                        have c79b0 := eq_true c79
                                        have c79b1 : decide (1 ≤ (x7_5.length : Int)) = true := decide_eq_true c79
                                        clear c79
                                        obtain ⟨y233, hy233⟩ : ∃ y_ : List (S37), y_ = (x7_5.drop 1) := ⟨_, rfl⟩
                                        replace H : ((tokens_Print.f k5 y233).bind fun bt237 => ((tokens_Print.f k5 x7_5).bind fun bt239 => (if 32768 < (x7_5.length : Int) then ((tokens_Print.f k5 ((x7_5.set (32768 : Int).toNat (⟨(rd_T37 x7_5 32768).f0, (⟨#[97, 98]⟩ : ByteArray), (rd_T37 x7_5 32768).f2, (rd_T37 x7_5 32768).f3⟩ : S37)).drop 1)).bind fun bt242 => ((latchkeyref05_Words.f).bind fun t244 => (latchkeylaw05_TokensLimits.l2 k5 bt237.1 bt237.2 bt239.2 bt242.1 bt242.2 t244 0))) else (none)))) = some r := by first | (rw [hy233]; with_reducible exact H) | (have H2_ := (Option.bind_some _ _).symm.trans H; rw [hy233]; with_reducible exact H2_) | (have H2_ := (Option.bind_some _ _).symm.trans H; with_reducible exact H2_) | with_reducible exact H | (rw [hy233]; exact H) | exact H
                                        have Ny233 := Aside0.mk hy233
                                        clear hy233
                                        replace H := Option.bind_eq_some_iff.mp H
                                        obtain ⟨⟨t237, t238⟩, A800, H⟩ := H
                                        replace H : ((tokens_Print.f k5 x7_5).bind fun bt239 => (if 32768 < (x7_5.length : Int) then ((tokens_Print.f k5 ((x7_5.set (32768 : Int).toNat (⟨(rd_T37 x7_5 32768).f0, (⟨#[97, 98]⟩ : ByteArray), (rd_T37 x7_5 32768).f2, (rd_T37 x7_5 32768).f3⟩ : S37)).drop 1)).bind fun bt242 => ((latchkeyref05_Words.f).bind fun t244 => (latchkeylaw05_TokensLimits.l2 k5 t237 t238 bt239.2 bt242.1 bt242.2 t244 0))) else (none))) = some r := H
                                        have A80 := Aside0.mk A800
                                        clear A800
                                        replace H := Option.bind_eq_some_iff.mp H
                                        obtain ⟨⟨t239, t240⟩, A810, H⟩ := H
                                        replace H : (if 32768 < (x7_5.length : Int) then ((tokens_Print.f k5 ((x7_5.set (32768 : Int).toNat (⟨(rd_T37 x7_5 32768).f0, (⟨#[97, 98]⟩ : ByteArray), (rd_T37 x7_5 32768).f2, (rd_T37 x7_5 32768).f3⟩ : S37)).drop 1)).bind fun bt242 => ((latchkeyref05_Words.f).bind fun t244 => (latchkeylaw05_TokensLimits.l2 k5 t237 t238 t240 bt242.1 bt242.2 t244 0))) else (none)) = some r := H
                                        have A81 := Aside0.mk A810
                                        clear A810
                                        by_cases c82 : 32768 < (x7_5.length : Int)
                                        · rw [if_pos c82] at H
                                          have c82b0 : decide (32768 < (x7_5.length : Int)) = true := decide_eq_true c82
                                          have c82b1 : decide (32768 < x7_5.length) = true := decide_eq_true (by omega)
                                          clear c82
                                          obtain ⟨y241, hy241⟩ : ∃ y_ : List (S37), y_ = (x7_5.set (32768 : Int).toNat (⟨(rd_T37 x7_5 32768).f0, (⟨#[97, 98]⟩ : ByteArray), (rd_T37 x7_5 32768).f2, (rd_T37 x7_5 32768).f3⟩ : S37)) := ⟨_, rfl⟩
                                          obtain ⟨yB, hyB⟩ : ∃ y_ : List (S37), y_ = (y241.drop 1) := ⟨_, rfl⟩
                                          replace H : ((tokens_Print.f k5 yB).bind fun bt242 => ((latchkeyref05_Words.f).bind fun t244 => (latchkeylaw05_TokensLimits.l2 k5 t237 t238 t240 bt242.1 bt242.2 t244 0))) = some r := by rw [hyB, hy241]; exact H
                                          have Ny241 := Aside0.mk hy241
                                          have NyB := Aside0.mk hyB
                                          clear hy241 hyB
                                          replace H := Option.bind_eq_some_iff.mp H
                                          obtain ⟨⟨t242, t243⟩, A840, H⟩ := H
                                          replace H : ((latchkeyref05_Words.f).bind fun t244 => (latchkeylaw05_TokensLimits.l2 k5 t237 t238 t240 t242 t243 t244 0)) = some r := H
                                          have A84 := Aside0.mk A840
                                          clear A840
                                          replace H := Option.bind_eq_some_iff.mp H
                                          obtain ⟨t244, A850, H⟩ := H
                                          replace H : (latchkeylaw05_TokensLimits.l2 k5 t237 t238 t240 t242 t243 t244 0) = some r := H
                                          have A85 := Aside0.mk A850
                                          clear A850
                                          have H' := Aside0.mk H
                                          clear H
                                          obtain ⟨Ao86, co86, eo86⟩ := Kd.R_slice HO_7.out
                                          subst eo86
                                          have q87 : (1 : Int) ≤ ((x7_5.length : Int) : Int) := of_decide_eq_true (by first | (with_reducible assumption) | assumption)
                                          obtain ⟨i087, hi087, _, hsz87, _⟩ := info_parts info37
                                          have hroom87 : x7_5.length ≤ co86 := (Kd.R_reads' HO_7.out).2.1
                                          have hC87 : Kd.C k37 _ Ao86 x7_5.length x7_5 := (Kd.R_reads' HO_7.out).2.2
                                          have hcut87 := cut_from (P := Tryd.prog) 22 37 .i64 Tryd.underlying22 hi087 4 hsz87 Ao86 x7_5.length co86 1 (by omega) q87
                                          have hr87 := Kd.C_drop (m := (1 : Int).toNat) (c := co86) hC87 (by omega) hroom87
                                          obtain ⟨A87, hA87⟩ : ∃ A1, A1 = (if co86 = (1 : Int).toNat then Ao86 else (Ao86 : Option Addr).map (·.add ((1 : Int).toNat * 4))) := ⟨_, rfl⟩
                                          obtain ⟨c87, hc87⟩ : ∃ c1, c1 = co86 - (1 : Int).toNat := ⟨_, rfl⟩
                                          have hy87 : y233.length = x7_5.length - (1 : Int).toNat := (by rw [Ny233.out, List.length_drop] <;> omega)
                                          rw [show (x7_5).drop (1 : Int).toNat = y233 from Ny233.out.symm] at hr87
                                          replace hr87 : Kd.C k37 _ A87 y233.length y233 := (by rw [hA87]; exact hr87)
                                          rw [← hy87, ← hA87, ← hc87] at hcut87
                                          have HR236 := Aside0.mk hr87
                                          have HC236 := Aside0.mk (show y233.length ≤ c87 from by rw [hy87, hc87]; exact Nat.sub_le_sub_right hroom87 _)
                                          clear hr87 hC87 hroom87 hi087 hsz87 hc87
                                          have KY87 := Aside0.mk hy87
                                          have KA87 := Aside0.mk hA87
                                          clear hy87 hA87
                                          have KL87 := Aside0.mk (show 1 ≤ x7_5.length from by omega)
                                          replace q87 := eq_true q87
                                          go_wp2_with (first | ((with_reducible refine gate_callee (f := 16) rfl ?_); refine goesL_ (some 117) rfl rfl Tryd.func16 (by kernel_rfl) rfl #[.slice A87 y233.length c87] rfl (by (try simp only [List.map_toArray, List.map_cons, List.map_nil]); first | done | rfl | (simp only [List.length_drop, List.length_take]; rfl)) ?_; (with_reducible refine (tokens_Print.calls k5 _ _ y233 t237 t238 _ ?side1 ?side2 A80.out).mono ?_); (case side1 => repeat (first | exact (by repeat (first | (with_reducible exact HR236.out) | (with_reducible refine Kd.C_alloc ?_ _) | (with_reducible refine Kd.C_drewN ?_ _) | (with_reducible refine Kd.C_drew ?_) | exact HR236.out)) | (with_reducible refine Kd.C_alloc ?_ _) | (with_reducible refine Kd.C_drewN ?_ _) | (with_reducible refine Kd.C_drew ?_))); (case side2 => exact HC236.out); rintro e w88 ⟨rfl, hb⟩; refine ⟨_, rfl, ?_⟩; have n0_ := Aside0.mk (Kd.R_below (by (with_reducible repeat (first | apply Kd.R_alloc | apply Kd.R_drewN | apply Kd.R_drew)); exact HO_7.out) hb); have n1_ := Aside0.mk (blk_below (g := gb206) (o := .cells #[.int .i64 t218, .int .i64 t219, .int .i64 t220] 25 (0, 0)) (by (with_reducible repeat (first | refine blk_drewN ?_ _ | refine blk_drew ?_ | refine blk_alloc ?_ _)); exact BK206.out) hb); have n2_ := Aside0.mk (blk_below (g := gb214) (o := .cells #[.int .i64 t224, .int .i64 t225, .int .i64 t226] 25 (0, 0)) (by (with_reducible repeat (first | refine blk_drewN ?_ _ | refine blk_drew ?_ | refine blk_alloc ?_ _)); exact BK214.out) hb); have n3_ := Aside0.mk (Kd.C_below (by repeat (first | (with_reducible exact HR236.out) | (with_reducible refine Kd.C_alloc ?_ _) | (with_reducible refine Kd.C_drewN ?_ _) | (with_reducible refine Kd.C_drew ?_) | exact HR236.out)) hb); have n4_ := Aside0.mk (below_step (by repeat (first | (with_reducible first | exact HB.out | apply below_alloc | apply pw_below_drewN | apply below_drew1 | refine below_set ?_ GE206.out | refine below_set ?_ GE214.out) | exact HB.out)) hb); clear HO_7; clear BK206; clear BK214; clear HR236; clear HB; have HO_7 := n0_; have BK206 := n1_; have BK214 := n2_; have HR236 := n3_; have HB := n4_; clear n0_ n1_ n2_ n3_ n4_; (try clear hb); (try clear hb2); (try clear hk); (try clear hi)) | ((with_reducible refine gate_callee (f := 16) rfl ?_); refine goesL_ (some 122) rfl rfl Tryd.func16 (by kernel_rfl) rfl #[.slice Ao86 x7_5.length co86] rfl (by (try simp only [List.map_toArray, List.map_cons, List.map_nil]); first | done | rfl | (simp only [List.length_drop, List.length_take]; rfl)) ?_; (with_reducible refine (tokens_Print.calls k5 _ _ x7_5 t239 t240 _ ?side1 ?side2 A81.out).mono ?_); (case side1 => repeat (first | exact (Kd.R_reads' HO_7.out).2.2 | (with_reducible refine Kd.C_alloc ?_ _) | (with_reducible refine Kd.C_drewN ?_ _) | (with_reducible refine Kd.C_drew ?_))); (case side2 => exact (Kd.R_reads' HO_7.out).2.1); rintro e w89 ⟨rfl, hb⟩; refine ⟨_, rfl, ?_⟩; have n0_ := Aside0.mk (Kd.R_below (by (with_reducible repeat (first | apply Kd.R_alloc | apply Kd.R_drewN | apply Kd.R_drew)); exact HO_7.out) hb); have n1_ := Aside0.mk (blk_below (g := gb206) (o := .cells #[.int .i64 t218, .int .i64 t219, .int .i64 t220] 25 (0, 0)) (by (with_reducible repeat (first | refine blk_drewN ?_ _ | refine blk_drew ?_ | refine blk_alloc ?_ _)); exact BK206.out) hb); have n2_ := Aside0.mk (blk_below (g := gb214) (o := .cells #[.int .i64 t224, .int .i64 t225, .int .i64 t226] 25 (0, 0)) (by (with_reducible repeat (first | refine blk_drewN ?_ _ | refine blk_drew ?_ | refine blk_alloc ?_ _)); exact BK214.out) hb); have n3_ := Aside0.mk (Kd.C_below (by repeat (first | (with_reducible exact HR236.out) | (with_reducible refine Kd.C_alloc ?_ _) | (with_reducible refine Kd.C_drewN ?_ _) | (with_reducible refine Kd.C_drew ?_) | exact HR236.out)) hb); have n4_ := Aside0.mk (below_step (by repeat (first | (with_reducible first | exact HB.out | apply below_alloc | apply pw_below_drewN | apply below_drew1 | refine below_set ?_ GE206.out | refine below_set ?_ GE214.out) | exact HB.out)) hb); clear HO_7; clear BK206; clear BK214; clear HR236; clear HB; have HO_7 := n0_; have BK206 := n1_; have BK214 := n2_; have HR236 := n3_; have HB := n4_; clear n0_ n1_ n2_ n3_ n4_; (try clear hb); (try clear hb2); (try clear hk); (try clear hi); have p83 : 0 ≤ (32768 : Int) := (by omega); have q83 : (32768 : Int) < ((x7_5.length : Int) : Int) := of_decide_eq_true (by first | (with_reducible assumption) | assumption); have qi83 : (32768 < x7_5.length) = True := eq_true (by omega); obtain ⟨go83, co83, eo83, gb83, gl83, cl83, HG83⟩ := Kd.R_form HO_7.out (by omega); (first | cases eo83 | (injection eo83 with ea_ en_ ec_; (first | subst ea_ | (injection ea_ with ea_; subst ea_)); subst ec_; clear en_)); have GB83 := Aside0.mk gb83; have GG83 := Aside0.mk HG83; clear gb83 gl83 HG83; obtain ⟨ce83, hcl83, hM83, hcc83, hfr83⟩ := Kd.R_elem HO_7.out z37 (32768 : Int) p83 q83; obtain rfl := k37_openM hM83; have hx83_0 : w89.cell? ⟨go83, (32768 : Int).toNat * 4, none⟩ = some (.int .i64 ((rd_T37 x7_5 32768).f0)) := hcc83 0 _ rfl; have hx83_1 : w89.cell? ⟨go83, (32768 : Int).toNat * 4 + 1, none⟩ = some (.string ((rd_T37 x7_5 32768).f1)) := hcc83 1 _ rfl; have hx83_2 : w89.cell? ⟨go83, (32768 : Int).toNat * 4 + 2, none⟩ = some (.int .i64 ((rd_T37 x7_5 32768).f2)) := hcc83 2 _ rfl; have hx83_3 : w89.cell? ⟨go83, (32768 : Int).toNat * 4 + 3, none⟩ = some (.int .i64 ((rd_T37 x7_5 32768).f3)) := hcc83 3 _ rfl; have hf83_0 : w89.frozen? ⟨go83, (32768 : Int).toNat * 4, none⟩ = false := hfr83 0; have hf83_1 : w89.frozen? ⟨go83, (32768 : Int).toNat * 4 + 1, none⟩ = false := hfr83 1; have hf83_2 : w89.frozen? ⟨go83, (32768 : Int).toNat * 4 + 2, none⟩ = false := hfr83 2; have hf83_3 : w89.frozen? ⟨go83, (32768 : Int).toNat * 4 + 3, none⟩ = false := hfr83 3; clear hcl83 hcc83 hfr83 hM83; (try rw [show ((32768 : Int)).toNat = 32768 from rfl] at hx83_0); (try simp only [Nat.reduceMul, Nat.zero_mul, Nat.zero_add, Nat.reduceAdd] at hx83_0); (try rw [show ((32768 : Int)).toNat = 32768 from rfl] at hf83_0); (try simp only [Nat.reduceMul, Nat.zero_mul, Nat.zero_add, Nat.reduceAdd] at hf83_0); (try rw [show ((32768 : Int)).toNat = 32768 from rfl] at hx83_1); (try simp only [Nat.reduceMul, Nat.zero_mul, Nat.zero_add, Nat.reduceAdd] at hx83_1); (try rw [show ((32768 : Int)).toNat = 32768 from rfl] at hf83_1); (try simp only [Nat.reduceMul, Nat.zero_mul, Nat.zero_add, Nat.reduceAdd] at hf83_1); (try rw [show ((32768 : Int)).toNat = 32768 from rfl] at hx83_2); (try simp only [Nat.reduceMul, Nat.zero_mul, Nat.zero_add, Nat.reduceAdd] at hx83_2); (try rw [show ((32768 : Int)).toNat = 32768 from rfl] at hf83_2); (try simp only [Nat.reduceMul, Nat.zero_mul, Nat.zero_add, Nat.reduceAdd] at hf83_2); (try rw [show ((32768 : Int)).toNat = 32768 from rfl] at hx83_3); (try simp only [Nat.reduceMul, Nat.zero_mul, Nat.zero_add, Nat.reduceAdd] at hx83_3); (try rw [show ((32768 : Int)).toNat = 32768 from rfl] at hf83_3); (try simp only [Nat.reduceMul, Nat.zero_mul, Nat.zero_add, Nat.reduceAdd] at hf83_3); replace p83 := eq_true p83; replace q83 := eq_true q83; have HX90 := Aside0.mk (show Kd.R k37 37 w89 w.heap.size (fun _ => True) (.slice (some ⟨go83, 0, none⟩) x7_5.length co86) x7_5 from (by (with_reducible repeat (first | apply Kd.R_alloc | apply Kd.R_drewN | apply Kd.R_drew)); exact HO_7.out)); obtain ⟨ce90, hcl90, hM90, hcc90, hfr90⟩ := Kd.R_elem HX90.out z37 (32768 : Int) (by omega) (by have h_ : (32768 : Int) < ((x7_5.length : Int) : Int) := of_decide_eq_true (by first | (with_reducible assumption) | assumption); first | exact h_ | (have e_ := (Kd.R_reads' HO_7.out).1; omega) | simpa using h_); obtain rfl := k37_openM hM90; have HP90 := Kd.R_seg HX90.out (32768 : Int) (by omega) (by have h_ : (32768 : Int) < ((x7_5.length : Int) : Int) := of_decide_eq_true (by first | (with_reducible assumption) | assumption); first | exact h_ | (have e_ := (Kd.R_reads' HO_7.out).1; omega) | simpa using h_) (seg := [.string (⟨#[97, 98]⟩ : ByteArray)]) (j := 1) hcl90 hcc90 (show 2 ≤ 4 from by decide) (x' := (⟨(rd_T37 x7_5 32768).f0, (⟨#[97, 98]⟩ : ByteArray), (rd_T37 x7_5 32768).f2, (rd_T37 x7_5 32768).f3⟩ : S37)) (k37_mkM _ _ _ (⟨(rd_T37 x7_5 32768).f0, (⟨#[97, 98]⟩ : ByteArray), (rd_T37 x7_5 32768).f2, (rd_T37 x7_5 32768).f3⟩ : S37) ) (fun _ hk => hk); have hx90_1 := hcc90 1 _ rfl; (try simp only [show (k37).sz = 4 from rfl, Nat.mul_one, Nat.add_zero] at hx90_1); (try rw [show ((32768 : Int)).toNat = 32768 from rfl] at hx90_1); (try simp only [Nat.reduceMul, Nat.zero_mul, Nat.zero_add, Nat.reduceAdd] at hx90_1); have hf90_1 := hfr90 1; (try simp only [show (k37).sz = 4 from rfl, Nat.mul_one, Nat.add_zero] at hf90_1); (try rw [show ((32768 : Int)).toNat = 32768 from rfl] at hf90_1); (try simp only [Nat.reduceMul, Nat.zero_mul, Nat.zero_add, Nat.reduceAdd] at hf90_1); clear hcl90 hcc90 hfr90 hM90) | ((with_reducible refine gate_store (t := 9) (p := 127) rfl ?_); refine store_event (t := 9) (p := 127) (v := ?vo_w91) (w1 := (w89.setCell ⟨go83, 131073, none⟩ (.string (⟨#[97, 98]⟩ : ByteArray)))) ?hg ?ho ?hn ?hr ?_; (case ho => rfl); (case hg => rfl); (case hn => rfl); (case hr => first | (go_simp; done) | (go_simp; rfl)); intro w91 hw; have hg : w89.grownBy w91 (some go83) := (by rw [hw]; exact HP90.2); have hp_ : Kd.R k37 37 w91 w.heap.size (fun _ => True) (.slice (some ⟨go83, 0, none⟩) x7_5.length co86) y241 := (by rw [hw, Ny241.out]; exact HP90.1); clear HP90; have n0_ := Aside0.mk (hp_); have n1_ := Aside0.mk (blk_grown (g := gb206) (o := .cells #[.int .i64 t218, .int .i64 t219, .int .i64 t220] 25 (0, 0)) (by (with_reducible repeat (first | refine blk_drewN ?_ _ | refine blk_drew ?_ | refine blk_alloc ?_ _)); exact BK206.out) hg (Kd.R_ne HO_7.out BK206.out (by decide))); have n2_ := Aside0.mk (blk_grown (g := gb214) (o := .cells #[.int .i64 t224, .int .i64 t225, .int .i64 t226] 25 (0, 0)) (by (with_reducible repeat (first | refine blk_drewN ?_ _ | refine blk_drew ?_ | refine blk_alloc ?_ _)); exact BK214.out) hg (Kd.R_ne HO_7.out BK214.out (by decide))); have n3_ := Aside0.mk ((by rw [hw]; exact below_set (HB.out) GB83.out : Below w.heap.size w w91)); clear HO_7; clear BK206; clear BK214; clear HB; have HO_7 := n0_; have BK206 := n1_; have BK214 := n2_; have HB := n3_; clear n0_ n1_ n2_ n3_; clear hg hw hp_) | ((with_reducible refine gate_callee (f := 16) rfl ?_); refine goesL_ (some 131) rfl rfl Tryd.func16 (by kernel_rfl) rfl #[.slice A87 y233.length c87] rfl (by (try simp only [List.map_toArray, List.map_cons, List.map_nil]); first | done | rfl) ?_; have hl84 : x7_5.length = y241.length := (Kd.R_reads' HO_7.out).1; have hroom84 : y241.length ≤ co86 := (by rw [← hl84]; exact (Kd.R_reads' HO_7.out).2.1); have hr84 := Kd.C_drop (m := (1 : Int).toNat) (c := co86) (Kd.R_reads' HO_7.out).2.2 (by rw [← hl84]; exact KL87.out) hroom84; rw [show (y241).drop (1 : Int).toNat = yB from NyB.out.symm] at hr84; replace hr84 : Kd.C k37 _ A87 yB.length yB := (by rw [KA87.out]; exact hr84); have hy84 : y233.length = yB.length := (by rw [KY87.out, NyB.out, List.length_drop, hl84] <;> rfl); have hc84 : yB.length ≤ c87 := (by rw [← hy84]; exact HC236.out); rw [hy84]; (with_reducible refine (tokens_Print.calls k5 _ _ yB t242 t243 _ ?side1 ?side2 A84.out).mono ?_); (case side1 => exact hr84); (case side2 => exact hc84); clear hl84 hroom84 hr84 hy84 hc84; rintro e w92 ⟨rfl, hb⟩; refine ⟨_, rfl, ?_⟩; have n0_ := Aside0.mk (Kd.R_below (by (with_reducible repeat (first | apply Kd.R_alloc | apply Kd.R_drewN | apply Kd.R_drew)); exact HO_7.out) hb); have n1_ := Aside0.mk (blk_below (g := gb206) (o := .cells #[.int .i64 t218, .int .i64 t219, .int .i64 t220] 25 (0, 0)) (by (with_reducible repeat (first | refine blk_drewN ?_ _ | refine blk_drew ?_ | refine blk_alloc ?_ _)); exact BK206.out) hb); have n2_ := Aside0.mk (blk_below (g := gb214) (o := .cells #[.int .i64 t224, .int .i64 t225, .int .i64 t226] 25 (0, 0)) (by (with_reducible repeat (first | refine blk_drewN ?_ _ | refine blk_drew ?_ | refine blk_alloc ?_ _)); exact BK214.out) hb); have n3_ := Aside0.mk (below_step (by repeat (first | (with_reducible first | exact HB.out | apply below_alloc | apply pw_below_drewN | apply below_drew1 | refine below_set ?_ GE206.out | refine below_set ?_ GE214.out) | exact HB.out)) hb); clear HO_7; clear BK206; clear BK214; clear HB; have HO_7 := n0_; have BK206 := n1_; have BK214 := n2_; have HB := n3_; clear n0_ n1_ n2_ n3_; (try clear hb); (try clear hb2); (try clear hk); (try clear hi)) | ((with_reducible refine gate_callee (f := 19) rfl ?_); refine goesL_ (some 134) rfl rfl Tryd.func19 (by kernel_rfl) rfl #[] rfl (by (try simp only [List.map_toArray, List.map_cons, List.map_nil]); first | done | rfl | (simp only [List.length_drop, List.length_take]; rfl)) ?_; (with_reducible refine (latchkeyref05_Words.calls  t244 _ A85.out).mono ?_); rintro e w93 ⟨v245, rfl, ho0, hb⟩; refine ⟨_, rfl, ?_⟩; have n0_ := Aside0.mk (Kd.R_below (by (with_reducible repeat (first | apply Kd.R_alloc | apply Kd.R_drewN | apply Kd.R_drew)); exact HO_7.out) hb); have n1_ := Aside0.mk (Kd.R_lower ho0 (below_size (by repeat (first | (with_reducible first | exact HB.out | apply below_alloc | apply pw_below_drewN | apply below_drew1 | refine below_set ?_ GE206.out | refine below_set ?_ GE214.out) | exact HB.out)))); have n2_ := Aside0.mk (blk_below (g := gb206) (o := .cells #[.int .i64 t218, .int .i64 t219, .int .i64 t220] 25 (0, 0)) (by (with_reducible repeat (first | refine blk_drewN ?_ _ | refine blk_drew ?_ | refine blk_alloc ?_ _)); exact BK206.out) hb); have n3_ := Aside0.mk (blk_below (g := gb214) (o := .cells #[.int .i64 t224, .int .i64 t225, .int .i64 t226] 25 (0, 0)) (by (with_reducible repeat (first | refine blk_drewN ?_ _ | refine blk_drew ?_ | refine blk_alloc ?_ _)); exact BK214.out) hb); have n4_ := Aside0.mk (below_step (by repeat (first | (with_reducible first | exact HB.out | apply below_alloc | apply pw_below_drewN | apply below_drew1 | refine below_set ?_ GE206.out | refine below_set ?_ GE214.out) | exact HB.out)) hb); clear HO_7; clear BK206; clear BK214; clear HB; have HO_7 := n0_; have HO246 := n1_; have BK206 := n2_; have BK214 := n3_; have HB := n4_; clear n0_ n1_ n2_ n3_ n4_; (try clear hb); (try clear hb2); (try clear hk); (try clear hi); (try clear ho0)))
                                          go_loopg [16] k5 (fun kq v16 w' => ∃ (x16_6 : Int) (x207000_6 : Int) (x207001_6 : Int) (x207002_6 : Int), v16 = .int .i64 x16_6 ∧ Aside0 (latchkeylaw05_TokensLimits.l2 kq t237 t238 t240 t242 t243 t244 x16_6 = some r) ∧ Aside0 (kq ≤ k5) ∧ Aside0 (Kd.R Kd.string 9 w' w.heap.size (fun _ => True) v245 t244) ∧ Aside0 (w'.heap[gb206]? = some (.cells #[.int .i64 x207000_6, .int .i64 x207001_6, .int .i64 x207002_6] 25 (0, 0))) ∧ Aside0 (w'.heap[gb214]? = some (.cells #[.int .i64 t224, .int .i64 t225, .int .i64 t226] 25 (0, 0))) ∧ Aside0 (Below w.heap.size w w'))
                                          case atStart => exact ⟨(0), (t218), (t219), (t220), (by first | rfl | (simp; done) | (simp [*]; done)), H', ⟨Nat.le_refl _⟩, ⟨by (with_reducible repeat (first | apply Kd.R_alloc | apply Kd.R_drewN | apply Kd.R_drew)); exact HO246.out⟩, ⟨by (with_reducible repeat (first | refine blk_drewN ?_ _ | refine blk_drew ?_ | refine blk_alloc ?_ _)); exact BK206.out⟩, ⟨by (with_reducible repeat (first | refine blk_drewN ?_ _ | refine blk_drew ?_ | refine blk_alloc ?_ _)); exact BK214.out⟩, ⟨by repeat (first | (with_reducible first | exact HB.out | apply below_alloc | apply pw_below_drewN | apply below_drew1 | refine below_set ?_ GE206.out | refine below_set ?_ GE214.out) | exact HB.out)⟩⟩
                                          case round =>
                                            clear H'
                                            try clear c1
                                            try clear c1b0
                                            try clear c1b1
                                            try clear hcv1
                                            try clear c2
                                            try clear p2
                                            try clear q2
                                            try clear hx2
                                            try clear hcv2
                                            try clear qi2
                                            try clear c3
                                            try clear c4
                                            try clear c4b0
                                            try clear c5
                                            try clear c5b0
                                            try clear c6
                                            try clear p6
                                            try clear q6
                                            try clear hx6
                                            try clear hf6
                                            try clear c7
                                            try clear p7
                                            try clear q7
                                            try clear hx7
                                            try clear hf7
                                            try clear c8
                                            try clear p8
                                            try clear q8
                                            try clear hx8
                                            try clear qi8
                                            try clear hf8
                                            try clear c9
                                            try clear hx9
                                            try clear hf9
                                            try clear c10
                                            try clear hcv13
                                            try clear c16
                                            try clear c17
                                            try clear c17b0
                                            try clear c17b1
                                            try clear c18
                                            try clear c18b0
                                            try clear c18b1
                                            try clear c19
                                            try clear c19b0
                                            try clear c19b1
                                            try clear p20
                                            try clear q20
                                            try clear hx20
                                            try clear qi20
                                            try clear p22
                                            try clear q22
                                            try clear hx22
                                            try clear qi22
                                            try clear c25
                                            try clear c26
                                            try clear c26b0
                                            try clear c26b1
                                            try clear c26b2
                                            try clear hcv29
                                            try clear c32
                                            try clear c34
                                            try clear c34b0
                                            try clear c34b1
                                            try clear c34b2
                                            try clear c36
                                            try clear c39
                                            try clear c44
                                            try clear c48
                                            try clear c48b0
                                            try clear c48b1
                                            try clear c49
                                            try clear c49b0
                                            try clear c49b1
                                            try clear c50
                                            try clear c50b0
                                            try clear c50b1
                                            try clear c51
                                            try clear c51b0
                                            try clear c51b1
                                            try clear c52
                                            try clear c52b0
                                            try clear c52b1
                                            try clear c53
                                            try clear c53b0
                                            try clear c53b1
                                            try clear c53b2
                                            try clear c55
                                            try clear c60
                                            try clear c64
                                            try clear p64
                                            try clear c69
                                            try clear c70
                                            try clear c70b0
                                            try clear c70b1
                                            try clear c73
                                            try clear c73b0
                                            try clear c74
                                            try clear c74b0
                                            try clear c75
                                            try clear p75
                                            try clear q75
                                            try clear hx75
                                            try clear hf75
                                            try clear c77
                                            try clear hx77
                                            try clear hf77
                                            try clear c79
                                            try clear c79b0
                                            try clear c79b1
                                            try clear c82
                                            try clear c82b0
                                            try clear c82b1
                                            try clear c83
                                            try clear p83
                                            try clear q83
                                            try clear hx83
                                            try clear qi83
                                            try clear hf83
                                            try clear c87
                                            try clear q87
                                            try clear c90
                                            try clear hx90
                                            try clear hf90
                                            try clear hcz16_0
                                            try clear hcz16_1
                                            try clear hcz16_2
                                            try clear hcz21_0
                                            try clear hcz21_1
                                            try clear hcz21_2
                                            try clear hcz23_0
                                            try clear hcz23_1
                                            try clear hcz23_2
                                            try clear hcz33_0
                                            try clear hcz33_1
                                            try clear hcz33_2
                                            try clear hcz37_0
                                            try clear hcz37_1
                                            try clear hcz37_2
                                            try clear hcz45_0
                                            try clear hcz45_1
                                            try clear hcz45_2
                                            try clear hcz47_0
                                            try clear hcz47_1
                                            try clear hcz47_2
                                            try clear hcz56_0
                                            try clear hcz56_1
                                            try clear hcz56_2
                                            try clear hcz58_0
                                            try clear hcz58_1
                                            try clear hcz58_2
                                            try clear hcz61_0
                                            try clear hcz61_1
                                            try clear hcz61_2
                                            try clear hcz65_0
                                            try clear hcz65_1
                                            try clear hcz65_2
                                            try clear hfz16_0
                                            try clear hfz16_1
                                            try clear hfz16_2
                                            try clear hfz21_0
                                            try clear hfz21_1
                                            try clear hfz21_2
                                            try clear hfz23_0
                                            try clear hfz23_1
                                            try clear hfz23_2
                                            try clear hfz33_0
                                            try clear hfz33_1
                                            try clear hfz33_2
                                            try clear hfz37_0
                                            try clear hfz37_1
                                            try clear hfz37_2
                                            try clear hfz45_0
                                            try clear hfz45_1
                                            try clear hfz45_2
                                            try clear hfz47_0
                                            try clear hfz47_1
                                            try clear hfz47_2
                                            try clear hfz56_0
                                            try clear hfz56_1
                                            try clear hfz56_2
                                            try clear hfz58_0
                                            try clear hfz58_1
                                            try clear hfz58_2
                                            try clear hfz61_0
                                            try clear hfz61_1
                                            try clear hfz61_2
                                            try clear hfz65_0
                                            try clear hfz65_1
                                            try clear hfz65_2
                                            try clear hx207_0
                                            try clear hx207_1
                                            try clear hx207_2
                                            try clear hx207_3
                                            try clear hx227_0
                                            try clear hx227_1
                                            try clear hx227_2
                                            try clear hx227_3
                                            try clear hx228_0
                                            try clear hx228_1
                                            try clear hx228_2
                                            try clear hx228_3
                                            try clear hx6_0
                                            try clear hx75_0
                                            try clear hx75_1
                                            try clear hx75_2
                                            try clear hx75_3
                                            try clear hx77_0
                                            try clear hx77_1
                                            try clear hx77_2
                                            try clear hx77_3
                                            try clear hx83_0
                                            try clear hx83_1
                                            try clear hx83_2
                                            try clear hx83_3
                                            try clear hx90_1
                                            try clear p2
                                            try clear p20
                                            try clear p207
                                            try clear p22
                                            try clear p227
                                            try clear p228
                                            try clear p6
                                            try clear p75
                                            try clear p83
                                            try clear q2
                                            try clear q20
                                            try clear q207
                                            try clear q22
                                            try clear q227
                                            try clear q228
                                            try clear q6
                                            try clear q75
                                            try clear q83
                                            try clear q87
                                            obtain ⟨x16_6, x207000_6, x207001_6, x207002_6, rfl, HA, HK6, HO_15, BK206, BK214, HB⟩ := hrel
                                            cases gk with
                                            | zero => exact absurd HA.out (by simp [latchkeylaw05_TokensLimits.l2])
                                            | succ k6 =>
                                              have H := HA.out
                                              clear HA
                                              simp only [latchkeylaw05_TokensLimits.l2] at H
                                              by_cases c94 : x16_6 < (t244.length : Int)
                                              · rw [if_pos c94] at H
                                                have c94b0 : decide (x16_6 < (t244.length : Int)) = true := decide_eq_true c94
                                                clear c94
                                                by_cases c95 : 0 ≤ x16_6
                                                · rw [if_pos c95] at H
                                                  have c95b0 : decide (0 ≤ x16_6) = true := decide_eq_true c95
                                                  clear c95
                                                  replace H := Option.bind_eq_some_iff.mp H
                                                  obtain ⟨⟨t248, t251, t252, t253⟩, A960, H⟩ := H
                                                  replace H : (if (t248.length : Int) = 2 then (if 0 < (t248.length : Int) then (if ((rd_T37 t248 0).f0) = 2 then (if t251 = 0 then (latchkeylaw05_TokensLimits.l2 k6 t237 t238 t240 t242 t243 t244 (wrap64 (x16_6 + 1))) else (some false)) else (some false)) else (none)) else (some false)) = some r := H
                                                  have A96 := Aside0.mk A960
                                                  clear A960
                                                  by_cases c97 : (t248.length : Int) = 2
                                                  · rw [if_pos c97] at H
                                                    have c97b0 : ((t248.length : Int) == 2) = true := beq_iff_eq.mpr c97
                                                    have c97b1 : ((t248.length : Int) != 2) = false := bne_eq_false_iff_eq.mpr c97
                                                    clear c97
                                                    by_cases c98 : 0 < (t248.length : Int)
                                                    · rw [if_pos c98] at H
                                                      have c98b0 : decide (0 < (t248.length : Int)) = true := decide_eq_true c98
                                                      have c98b1 : decide (0 < t248.length) = true := decide_eq_true (by omega)
                                                      clear c98
                                                      by_cases c99 : ((rd_T37 t248 0).f0) = 2
                                                      · rw [if_pos c99] at H
                                                        have c99b0 : (((rd_T37 t248 0).f0) == 2) = true := beq_iff_eq.mpr c99
                                                        have c99b1 : (((rd_T37 t248 0).f0) != 2) = false := bne_eq_false_iff_eq.mpr c99
                                                        clear c99
                                                        by_cases c100 : t251 = 0
                                                        · rw [if_pos c100] at H
                                                          have c100b0 : (t251 == 0) = true := beq_iff_eq.mpr c100
                                                          have c100b1 : (t251 != 0) = false := bne_eq_false_iff_eq.mpr c100
                                                          clear c100
                                                          have H' := Aside0.mk H
                                                          clear H
                                                          obtain ⟨Ao101, co101, eo101⟩ := Kd.R_slice HO_15.out
                                                          subst eo101
                                                          have p247 : 0 ≤ (x16_6 : Int) := of_decide_eq_true (by first | (with_reducible assumption) | assumption)
                                                          have q247 : x16_6 < (t244.length : Int) := of_decide_eq_true (by first | (with_reducible assumption) | assumption)
                                                          obtain ⟨ad247, e247, hx247_0⟩ := Kd.at_string (Kd.R_reads' HO_15.out).2.2 x16_6 p247 q247
                                                          cases e247
                                                          replace p247 := eq_true p247
                                                          replace q247 := eq_true q247
                                                          go_wp2_with (first | ((with_reducible refine gate_callee (f := 10) rfl ?_); refine goesL_ (some 146) rfl rfl Tryd.func10 (by kernel_rfl) rfl #[.string (rdOf ByteArray.empty t244 x16_6)] rfl (by (try simp only [List.map_toArray, List.map_cons, List.map_nil]); first | done | rfl | (simp only [List.length_drop, List.length_take]; rfl)) ?_; (with_reducible refine (tokens_Scan.calls k6 (rdOf ByteArray.empty t244 x16_6) t248 t251 t252 t253 _ A96.out (by first | exact hT | exact hT.on (by assumption) | exact hT.on (by first | exact HB.out | exact Below.refl _ _ | (repeat (first | (with_reducible first | exact HB.out | apply below_alloc | apply pw_below_drewN | apply below_drew1 | refine below_set ?_ (Aside0.out (by assumption))) | exact HB.out))))).mono ?_); rintro e w102 ⟨v249, rfl, ho0, hb⟩; refine ⟨_, rfl, ?_⟩; have n0_ := Aside0.mk (Kd.R_below (by (with_reducible repeat (first | apply Kd.R_alloc | apply Kd.R_drewN | apply Kd.R_drew)); exact HO_15.out) hb); have n1_ := Aside0.mk (Kd.R_lower ho0 (below_size (by repeat (first | (with_reducible first | exact HB.out | apply below_alloc | apply pw_below_drewN | apply below_drew1 | refine below_set ?_ GE206.out | refine below_set ?_ GE214.out) | exact HB.out)))); have n2_ := Aside0.mk (blk_below (g := gb206) (o := .cells #[.int .i64 x207000_6, .int .i64 x207001_6, .int .i64 x207002_6] 25 (0, 0)) (by (with_reducible repeat (first | refine blk_drewN ?_ _ | refine blk_drew ?_ | refine blk_alloc ?_ _)); exact BK206.out) hb); have n3_ := Aside0.mk (blk_below (g := gb214) (o := .cells #[.int .i64 t224, .int .i64 t225, .int .i64 t226] 25 (0, 0)) (by (with_reducible repeat (first | refine blk_drewN ?_ _ | refine blk_drew ?_ | refine blk_alloc ?_ _)); exact BK214.out) hb); have n4_ := Aside0.mk (below_step (by repeat (first | (with_reducible first | exact HB.out | apply below_alloc | apply pw_below_drewN | apply below_drew1 | refine below_set ?_ GE206.out | refine below_set ?_ GE214.out) | exact HB.out)) hb); clear HO_15; clear BK206; clear BK214; clear HB; have HO_15 := n0_; have HO250 := n1_; have BK206 := n2_; have BK214 := n3_; have HB := n4_; clear n0_ n1_ n2_ n3_ n4_; (try clear hb); (try clear hb2); (try clear hk); (try clear hi); (try clear ho0); have hnb103 := NB206_214.out; have hnc103 := NB214_206.out; have hcz104_0 : w102.cell? ⟨gb206, 0, none⟩ = some (.int .i64 x207000_6) := (blk_cell BK206.out 0).trans rfl; have hcz104_1 : w102.cell? ⟨gb206, 1, none⟩ = some (.int .i64 x207001_6) := (blk_cell BK206.out 1).trans rfl; have hcz104_2 : w102.cell? ⟨gb206, 2, none⟩ = some (.int .i64 x207002_6) := (blk_cell BK206.out 2).trans rfl; have hfz104_0 := blk_frozen BK206.out 0; have hfz104_1 := blk_frozen BK206.out 1; have hfz104_2 := blk_frozen BK206.out 2; obtain ⟨Ao105, co105, eo105⟩ := Kd.R_slice HO250.out; subst eo105; have p254 : 0 ≤ (0 : Int) := (by omega); have q254 : 0 < (t248.length : Int) := of_decide_eq_true (by first | (with_reducible assumption) | assumption); obtain ⟨ad254, e254, hx254_0, hx254_1, hx254_2, hx254_3⟩ := at_T37 (Kd.R_reads' HO250.out).2.2 0 p254 q254; cases e254; have qi254 : (0 < t248.length) = True := eq_true (by omega); (try rw [show ((0 : Int)).toNat = 0 from rfl] at hx254_0); (try rw [show 0 * 4 = 0 from rfl] at hx254_0); (try rw [Addr.add_zero'] at hx254_0); (try rw [show ((0 : Int)).toNat = 0 from rfl] at hx254_1); (try rw [show 0 * 4 = 0 from rfl] at hx254_1); (try rw [Addr.add_zero'] at hx254_1); (try rw [show ((0 : Int)).toNat = 0 from rfl] at hx254_2); (try rw [show 0 * 4 = 0 from rfl] at hx254_2); (try rw [Addr.add_zero'] at hx254_2); (try rw [show ((0 : Int)).toNat = 0 from rfl] at hx254_3); (try rw [show 0 * 4 = 0 from rfl] at hx254_3); (try rw [Addr.add_zero'] at hx254_3); have hn254_0 : ad254.block ≠ gb206 := Kd.own_blk (Kd.R_ne HO250.out BK206.out (by decide)); have hn254_1 : ad254.block ≠ gb206 := Kd.own_blk (Kd.R_ne HO250.out BK206.out (by decide)); have hn254_2 : ad254.block ≠ gb206 := Kd.own_blk (Kd.R_ne HO250.out BK206.out (by decide)); replace hx254_0 := (cell_far (p := ⟨gb206, 0, none⟩) (by first | (rw [add_block]; exact hn254_0) | (show (Addr.add _ _).block ≠ _; rw [add_block]; exact hn254_0) | exact hn254_0) (.int .i64 t251)).trans hx254_0; replace hx254_1 := (cell_far (p := ⟨gb206, 0, none⟩) (by first | (rw [add_block]; exact hn254_0) | (show (Addr.add _ _).block ≠ _; rw [add_block]; exact hn254_0) | exact hn254_0) (.int .i64 t251)).trans hx254_1; replace hx254_2 := (cell_far (p := ⟨gb206, 0, none⟩) (by first | (rw [add_block]; exact hn254_0) | (show (Addr.add _ _).block ≠ _; rw [add_block]; exact hn254_0) | exact hn254_0) (.int .i64 t251)).trans hx254_2; replace hx254_3 := (cell_far (p := ⟨gb206, 0, none⟩) (by first | (rw [add_block]; exact hn254_0) | (show (Addr.add _ _).block ≠ _; rw [add_block]; exact hn254_0) | exact hn254_0) (.int .i64 t251)).trans hx254_3; replace hx254_0 := (cell_far (p := ⟨gb206, 1, none⟩) (by first | (rw [add_block]; exact hn254_1) | (show (Addr.add _ _).block ≠ _; rw [add_block]; exact hn254_1) | exact hn254_1) (.int .i64 t252)).trans hx254_0; replace hx254_1 := (cell_far (p := ⟨gb206, 1, none⟩) (by first | (rw [add_block]; exact hn254_1) | (show (Addr.add _ _).block ≠ _; rw [add_block]; exact hn254_1) | exact hn254_1) (.int .i64 t252)).trans hx254_1; replace hx254_2 := (cell_far (p := ⟨gb206, 1, none⟩) (by first | (rw [add_block]; exact hn254_1) | (show (Addr.add _ _).block ≠ _; rw [add_block]; exact hn254_1) | exact hn254_1) (.int .i64 t252)).trans hx254_2; replace hx254_3 := (cell_far (p := ⟨gb206, 1, none⟩) (by first | (rw [add_block]; exact hn254_1) | (show (Addr.add _ _).block ≠ _; rw [add_block]; exact hn254_1) | exact hn254_1) (.int .i64 t252)).trans hx254_3; replace hx254_0 := (cell_far (p := ⟨gb206, 2, none⟩) (by first | (rw [add_block]; exact hn254_2) | (show (Addr.add _ _).block ≠ _; rw [add_block]; exact hn254_2) | exact hn254_2) (.int .i64 t253)).trans hx254_0; replace hx254_1 := (cell_far (p := ⟨gb206, 2, none⟩) (by first | (rw [add_block]; exact hn254_2) | (show (Addr.add _ _).block ≠ _; rw [add_block]; exact hn254_2) | exact hn254_2) (.int .i64 t253)).trans hx254_1; replace hx254_2 := (cell_far (p := ⟨gb206, 2, none⟩) (by first | (rw [add_block]; exact hn254_2) | (show (Addr.add _ _).block ≠ _; rw [add_block]; exact hn254_2) | exact hn254_2) (.int .i64 t253)).trans hx254_2; replace hx254_3 := (cell_far (p := ⟨gb206, 2, none⟩) (by first | (rw [add_block]; exact hn254_2) | (show (Addr.add _ _).block ≠ _; rw [add_block]; exact hn254_2) | exact hn254_2) (.int .i64 t253)).trans hx254_3; clear hn254_0; clear hn254_1; clear hn254_2; replace p254 := eq_true p254; replace q254 := eq_true q254))
                                                          go_roundg k6
                                                          case measure => have := HK1.out; have := HJ10.out; have := HJ27.out; have := HJ41.out; have := HK5.out; have := HK6.out; omega
                                                          case rel => exact ⟨(wrap64 (x16_6 + 1)), (t251), (t252), (t253), (by first | rfl | (simp; done) | (simp [*]; done)), H', ⟨by have := HK1.out; have := HJ10.out; have := HJ27.out; have := HJ41.out; have := HK5.out; have := HK6.out; omega⟩, ⟨by (with_reducible repeat (first | apply Kd.R_alloc | apply Kd.R_drewN | apply Kd.R_drew)); exact Kd.R_mono (Kd.R_far (p := ⟨gb206, 2, none⟩) (Kd.R_far (p := ⟨gb206, 1, none⟩) (Kd.R_far (p := ⟨gb206, 0, none⟩) (Kd.R_types HO_15.out BK206.out (by decide)) (fun _ hk => hk.2) (.int .i64 t251)) (fun _ hk => hk.2) (.int .i64 t252)) (fun _ hk => hk.2) (.int .i64 t253)) (fun _ hk => trivial)⟩, ⟨by (with_reducible repeat (first | refine blk_drewN ?_ _ | refine blk_drew ?_ | refine blk_alloc ?_ _)); refine blk_put (cs := #[.int .i64 t251, .int .i64 t252, .int .i64 x207002_6]) ?_ 2 _ rfl; (with_reducible repeat (first | refine blk_drewN ?_ _ | refine blk_drew ?_ | refine blk_alloc ?_ _)); refine blk_put (cs := #[.int .i64 t251, .int .i64 x207001_6, .int .i64 x207002_6]) ?_ 1 _ rfl; (with_reducible repeat (first | refine blk_drewN ?_ _ | refine blk_drew ?_ | refine blk_alloc ?_ _)); refine blk_put (cs := #[.int .i64 x207000_6, .int .i64 x207001_6, .int .i64 x207002_6]) ?_ 0 _ rfl; (with_reducible repeat (first | refine blk_drewN ?_ _ | refine blk_drew ?_ | refine blk_alloc ?_ _)); exact BK206.out⟩, ⟨by (with_reducible repeat (first | refine blk_drewN ?_ _ | refine blk_drew ?_ | refine blk_alloc ?_ _)); refine blk_far ?_ NB214_206.out _; (with_reducible repeat (first | refine blk_drewN ?_ _ | refine blk_drew ?_ | refine blk_alloc ?_ _)); refine blk_far ?_ NB214_206.out _; (with_reducible repeat (first | refine blk_drewN ?_ _ | refine blk_drew ?_ | refine blk_alloc ?_ _)); refine blk_far ?_ NB214_206.out _; (with_reducible repeat (first | refine blk_drewN ?_ _ | refine blk_drew ?_ | refine blk_alloc ?_ _)); exact BK214.out⟩, ⟨by repeat (first | (with_reducible first | exact HB.out | apply below_alloc | apply pw_below_drewN | apply below_drew1 | refine below_set ?_ GE206.out | refine below_set ?_ GE214.out) | exact HB.out)⟩⟩
                                                        · rw [if_neg c100] at H
                                                          have c100b0 : (t251 == 0) = false := beq_eq_false_iff_ne.mpr c100
                                                          have c100b1 : (t251 != 0) = true := bne_iff_ne.mpr c100
                                                          exact absurd (Option.some.inj H) (by rw [hr]; decide)
                                                      · rw [if_neg c99] at H
                                                        have c99b0 : (((rd_T37 t248 0).f0) == 2) = false := beq_eq_false_iff_ne.mpr c99
                                                        have c99b1 : (((rd_T37 t248 0).f0) != 2) = true := bne_iff_ne.mpr c99
                                                        exact absurd (Option.some.inj H) (by rw [hr]; decide)
                                                    · rw [if_neg c98] at H
                                                      exact absurd H (by simp)
                                                  · rw [if_neg c97] at H
                                                    have c97b0 : ((t248.length : Int) == 2) = false := beq_eq_false_iff_ne.mpr c97
                                                    have c97b1 : ((t248.length : Int) != 2) = true := bne_iff_ne.mpr c97
                                                    exact absurd (Option.some.inj H) (by rw [hr]; decide)
                                                · rw [if_neg c95] at H
                                                  exact absurd H (by simp)
                                              · rw [if_neg c94] at H
                                                have c94b0 : decide (x16_6 < (t244.length : Int)) = false := decide_eq_false c94
                                                clear c94
                                                by_cases c121 : t238 = 0
                                                · rw [if_pos c121] at H
                                                  have c121b0 : (t238 == 0) = true := beq_iff_eq.mpr c121
                                                  have c121b1 : (t238 != 0) = false := bne_eq_false_iff_eq.mpr c121
                                                  clear c121
                                                  by_cases c122 : (t237.size : Int) = 65535
                                                  · rw [if_pos c122] at H
                                                    have c122b0 : ((t237.size : Int) == 65535) = true := beq_iff_eq.mpr c122
                                                    have c122b1 : ((t237.size : Int) != 65535) = false := bne_eq_false_iff_eq.mpr c122
                                                    clear c122
                                                    by_cases c123 : t240 = 3
                                                    · rw [if_pos c123] at H
                                                      have c123b0 : (t240 == 3) = true := beq_iff_eq.mpr c123
                                                      have c123b1 : (t240 != 3) = false := bne_eq_false_iff_eq.mpr c123
                                                      clear c123
                                                      by_cases c124 : t243 = 0
                                                      · rw [if_pos c124] at H
                                                        have c124b0 : (t243 == 0) = true := beq_iff_eq.mpr c124
                                                        have c124b1 : (t243 != 0) = false := bne_eq_false_iff_eq.mpr c124
                                                        clear c124
                                                        by_cases c125 : (t242.size : Int) = 65536
                                                        · rw [if_pos c125] at H
                                                          have c125b0 : ((t242.size : Int) == 65536) = true := beq_iff_eq.mpr c125
                                                          have c125b1 : ((t242.size : Int) != 65536) = false := bne_eq_false_iff_eq.mpr c125
                                                          clear c125
                                                          replace H := Option.bind_eq_some_iff.mp H
                                                          obtain ⟨t255, A1260, H⟩ := H
                                                          replace H : (some t255) = some r := H
                                                          have A126 := Aside0.mk A1260
                                                          clear A1260
                                                          obtain rfl := Option.some.inj H
                                                          obtain ⟨Ao127, co127, eo127⟩ := Kd.R_slice HO_15.out
                                                          subst eo127
                                                          go_wp2_with (first | (go_at_call 13; (with_reducible refine (latchkeylaw05_awake.calls k6  t255 _ A126.out (by first | exact hT | exact hT.on (by assumption) | exact hT.on (by first | exact HB.out | exact Below.refl _ _ | (repeat (first | (with_reducible first | exact HB.out | apply below_alloc | apply pw_below_drewN | apply below_drew1 | refine below_set ?_ (Aside0.out (by assumption))) | exact HB.out))))).mono ?_); rintro e w128 ⟨rfl, hb⟩; have n0_ := Aside0.mk (Kd.R_below (by (with_reducible repeat (first | apply Kd.R_alloc | apply Kd.R_drewN | apply Kd.R_drew)); exact HO_15.out) hb); have n1_ := Aside0.mk (blk_below (g := gb206) (o := .cells #[.int .i64 x207000_6, .int .i64 x207001_6, .int .i64 x207002_6] 25 (0, 0)) (by (with_reducible repeat (first | refine blk_drewN ?_ _ | refine blk_drew ?_ | refine blk_alloc ?_ _)); exact BK206.out) hb); have n2_ := Aside0.mk (blk_below (g := gb214) (o := .cells #[.int .i64 t224, .int .i64 t225, .int .i64 t226] 25 (0, 0)) (by (with_reducible repeat (first | refine blk_drewN ?_ _ | refine blk_drew ?_ | refine blk_alloc ?_ _)); exact BK214.out) hb); have n3_ := Aside0.mk (below_step (by repeat (first | (with_reducible first | exact HB.out | apply below_alloc | apply pw_below_drewN | apply below_drew1 | refine below_set ?_ GE206.out | refine below_set ?_ GE214.out) | exact HB.out)) hb); clear HO_15; clear BK206; clear BK214; clear HB; have HO_15 := n0_; have BK206 := n1_; have BK214 := n2_; have HB := n3_; clear n0_ n1_ n2_ n3_; (try clear hb); (try clear hb2); (try clear hk); (try clear hi)))
                                                          go_ret
                                                          exact ⟨by first | rfl | (simp [errW_none, errW_some]; exact (show ∀ L_ : List UInt8, L_.isEmpty = !(L_ != []) from fun L_ => by cases L_ <;> rfl) _) | (simp [errW_none, errW_some] <;> rfl) | (simp [*, errW_none, errW_some] <;> rfl), by repeat (first | (with_reducible first | exact HB.out | apply below_alloc | apply pw_below_drewN | apply below_drew1 | refine below_set ?_ GE206.out | refine below_set ?_ GE214.out) | exact HB.out)⟩
                                                        · rw [if_neg c125] at H
                                                          have c125b0 : ((t242.size : Int) == 65536) = false := beq_eq_false_iff_ne.mpr c125
                                                          have c125b1 : ((t242.size : Int) != 65536) = true := bne_iff_ne.mpr c125
                                                          exact absurd (Option.some.inj H) (by rw [hr]; decide)
                                                      · rw [if_neg c124] at H
                                                        have c124b0 : (t243 == 0) = false := beq_eq_false_iff_ne.mpr c124
                                                        have c124b1 : (t243 != 0) = true := bne_iff_ne.mpr c124
                                                        exact absurd (Option.some.inj H) (by rw [hr]; decide)
                                                    · rw [if_neg c123] at H
                                                      have c123b0 : (t240 == 3) = false := beq_eq_false_iff_ne.mpr c123
                                                      have c123b1 : (t240 != 3) = true := bne_iff_ne.mpr c123
                                                      exact absurd (Option.some.inj H) (by rw [hr]; decide)
                                                  · rw [if_neg c122] at H
                                                    have c122b0 : ((t237.size : Int) == 65535) = false := beq_eq_false_iff_ne.mpr c122
                                                    have c122b1 : ((t237.size : Int) != 65535) = true := bne_iff_ne.mpr c122
                                                    exact absurd (Option.some.inj H) (by rw [hr]; decide)
                                                · rw [if_neg c121] at H
                                                  have c121b0 : (t238 == 0) = false := beq_eq_false_iff_ne.mpr c121
                                                  have c121b1 : (t238 != 0) = true := bne_iff_ne.mpr c121
                                                  exact absurd (Option.some.inj H) (by rw [hr]; decide)
                                        · rw [if_neg c82] at H
                                          exact absurd H (by simp)
                                      · rw [if_neg c79] at H
                                        exact absurd H (by simp)
                              · rw [if_neg c70] at H
                                exact absurd H (by simp)
                · rw [if_neg c26] at H
                  exact absurd H (by simp)
  · rw [if_neg c1] at H
    exact absurd H (by simp)
def latchkeylaw05_TokensLimits.Pure : Prop := ∃ k, latchkeylaw05_TokensLimits.f k  = some true
theorem latchkeylaw05_TokensLimits.walk (P : latchkeylaw05_TokensLimits.Pure)  (w : World)  (hT : VT w) :
    Calls Tryd.prog 5 #[] w fun e w' => e = .returned (.bool true) ∧ Below w.heap.size w w' := by
  obtain ⟨k, h⟩ := P
  refine (latchkeylaw05_TokensLimits.calls k  true rfl w h hT).mono ?_
  rintro e w' ⟨rfl, hd⟩
  exact ⟨rfl, hd⟩
end Go.Proofs.YteedjhoffjkhmaaDoor.PT
