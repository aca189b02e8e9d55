import Derived.Test.YteedjhoffjkhmaaDoorPTx0
import Derived.Test.YteedjhoffjkhmaaDoorPTx3
import Derived.Test.YteedjhoffjkhmaaDoorPTx17
import Derived.Test.YteedjhoffjkhmaaDoorPTx18
import Derived.Test.YteedjhoffjkhmaaDoorPTx6
import Derived.Test.YteedjhoffjkhmaaDoorPTx2
namespace Go.Proofs.YteedjhoffjkhmaaDoor.PT
open Go.RowKit Go.Proofs.YteedjhoffjkhmaaDoorW.PrintWords Go.Proofs.YteedjhoffjkhmaaDoorW.PrintLast Go.Proofs.YteedjhoffjkhmaaDoorW.PrintMore
attribute [local go_sem] max2_int min2_int max_two min_two max_three min_three max_four min_four
set_option linter.unusedVariables false
set_option linter.unusedSimpArgs false
def latchkeyref00_CopyTokens.l0 : Nat → List (S37) → List (S37) → Int → Option ((List (S37)))
 | 0, _, _, _ => none
 | k + 1, x0, x3, x4 => if x4 < (x0.length : Int) then (if 0 ≤ x4 then (if x3.length < 3518437208883 then (latchkeyref00_CopyTokens.l0 k x0 (x3 ++ [(⟨(rd_T37 x0 x4).f0, (rd_T37 x0 x4).f1, (rd_T37 x0 x4).f2, (rd_T37 x0 x4).f3⟩ : S37)]) (wrap64 (x4 + 1))) else (none)) else (none)) else (some x3)
def latchkeyref00_CopyTokens.f (k : Nat) (l0 : List (S37)) : Option ((List (S37))) := latchkeyref00_CopyTokens.l0 k l0 ([] : List (S37)) 0
set_option maxHeartbeats 8000000 in
set_option maxRecDepth 100000 in
theorem latchkeyref00_CopyTokens.calls (k : Nat) (A0 : Option Addr) (c0 : Nat) (l0 : List (S37)) (r : List (S37)) (w : World) (hr0 : Kd.C k37 w A0 l0.length l0) (hc0 : l0.length ≤ c0) (h : latchkeyref00_CopyTokens.f k l0 = some r) :
  Calls Tryd.prog 20 #[.slice A0 l0.length c0] w fun e w' => ∃ v0_ : Value, e = .returned (v0_) ∧ Kd.R k37 37 w' w.heap.size (fun _ => True) v0_ r ∧ Below w.heap.size w w' := by
 have hu37 := Tryd.underlying37
 have HR0 := Aside0.mk hr0
 have HC0 := Aside0.mk hc0
 clear hr0 hc0
 have HB := Aside0.mk (Below.refl w.heap.size w)
 have H : (latchkeyref00_CopyTokens.l0 k l0 ([] : List (S37)) 0) = some r := h
 clear h
 have H' := Aside0.mk H
 clear H
 go_enter Tryd.func20, Tryd.ntmps20
 go_wp2
 go_loopg [3, 4] k (fun kq v3 v4 w' => ∃ (x3_1 : List (S37)) (x4_1 : Int), v4 = .int .i64 x4_1 ∧ Aside0 (latchkeyref00_CopyTokens.l0 kq l0 x3_1 x4_1 = some r) ∧ Aside0 (kq ≤ k) ∧ Aside0 (Kd.R k37 37 w' w.heap.size (fun _ => True) v3 x3_1) ∧ Aside0 (Below w.heap.size w w'))
 case atStart => exact ⟨(([] : List (S37))), (0), (by first | rfl | (simp; done) | (simp [*]; done)), H', ⟨Nat.le_refl _⟩, ⟨by first | exact Kd.R_nil _ _ _ _ _ | exact Kd.N_nil _ _ _ _ _ | exact Kd.V_nil _ _ _ _ _ | exact Kd.Q_nil _ _ _ _ _ | exact Kd.S_nil _ _ _ _ _⟩, ⟨bq⟩⟩
 case round =>
  clear H'
  obtain ⟨x3_1, x4_1, rfl, HA, HK1, HO_3, HB⟩ := hrel
  cases gk with
  | zero => exact absurd HA.out (by simp [latchkeyref00_CopyTokens.l0])
  | succ k1 =>
   have H := HA.out
   clear HA
   simp only [latchkeyref00_CopyTokens.l0] at H
   by_cases c2 : x4_1 < (l0.length : Int)
   ·
    rw [if_pos c2] at H
    have c2b0 : decide (x4_1 < (l0.length : Int)) = true := decide_eq_true c2
    clear c2
    by_cases c3 : 0 ≤ x4_1
    ·
     rw [if_pos c3] at H
     have c3b0 : decide (0 ≤ x4_1) = true := decide_eq_true c3
     clear c3
     by_cases c4 : x3_1.length < 3518437208883
     ·
      rw [if_pos c4] at H
      have LMc4 := Aside0.mk c4
      clear c4
      obtain ⟨y519, hy519⟩ : ∃ y_ : List (S37), y_ = (x3_1 ++ [(⟨(rd_T37 l0 x4_1).f0, (rd_T37 l0 x4_1).f1, (rd_T37 l0 x4_1).f2, (rd_T37 l0 x4_1).f3⟩ : S37)]) := ⟨_, rfl⟩
      replace H : (latchkeyref00_CopyTokens.l0 k1 l0 y519 (wrap64 (x4_1 + 1))) = some r := by first | (rw [hy519]; with_reducible exact H) | (have H2_ := (Option.bind_some _ _).symm.trans H; rw [hy519]; with_reducible exact H2_) | (have H2_ := (Option.bind_some _ _).symm.trans H; with_reducible exact H2_) | with_reducible exact H | (rw [hy519]; exact H) | exact H
      have Ny519 := Aside0.mk hy519
      clear hy519
      have H' := Aside0.mk H
      clear H
      have p518 : 0 ≤ (x4_1 : Int) := of_decide_eq_true azq
      have q518 : x4_1 < (l0.length : Int) := of_decide_eq_true azq
      obtain ⟨ad518, e518, hx518_0, hx518_1, hx518_2, hx518_3⟩ := at_T37 HR0.out x4_1 p518 q518
      cases e518
      replace hx518_0 := (HB.out.cell (World.block_lt_of_cell? w _ hx518_0)).trans hx518_0
      replace hx518_1 := (HB.out.cell (World.block_lt_of_cell? w _ hx518_1)).trans hx518_1
      replace hx518_2 := (HB.out.cell (World.block_lt_of_cell? w _ hx518_2)).trans hx518_2
      replace hx518_3 := (HB.out.cell (World.block_lt_of_cell? w _ hx518_3)).trans hx518_3
      replace p518 := eq_true p518
      replace q518 := eq_true q518
      go_wp2_with (first | ((with_reducible refine gate_builtin (b := .append) (xs := #[.tmp 11, .tmp 16]) rfl ?_); at_builtin; refine Kd.R_append k37 (w0 := w) w.heap.size rfl (.tmp 11) (.tmp 16) 22 37 (.agg #[(.int .i64 0), (.string ⟨#[]⟩), (.int .i64 0), (.int .i64 0)]) 40 rfl Tryd.underlying22 info37 rfl (by decide) (by omega) u3 x3_1 (⟨(rd_T37 l0 x4_1).f0, (rd_T37 l0 x4_1).f1, (rd_T37 l0 x4_1).f2, (rd_T37 l0 x4_1).f3⟩ : S37) [.int .i64 ((rd_T37 l0 x4_1).f0), .string ((rd_T37 l0 x4_1).f1), .int .i64 ((rd_T37 l0 x4_1).f2), .int .i64 ((rd_T37 l0 x4_1).f3)] (fun _ => True) (fun _ => False) rfl rfl ?aP (fun _ hk => hk.elim) ?aF ?aO ?aB ?aS ?aL ?_; (case aP => exact k37_mkM _ _ _ (⟨(rd_T37 l0 x4_1).f0, (rd_T37 l0 x4_1).f1, (rd_T37 l0 x4_1).f2, (rd_T37 l0 x4_1).f3⟩ : S37)); (case aB => exact bq); (case aF => exact (fun _ _ => trivial)); (case aO => exact (rxq HO_3.out)); (case aS => exact (below_size bq)); (case aL => have := LMc4.out; omega); intro v520 w5 ho hb hg hat; rw [← Ny519.out] at ho; have n0_ := Aside0.mk (hb); have n1_ := Aside0.mk (ho); clear HB; clear HO_3; have HB := n0_; have HO521 := n1_; clear n0_ n1_; clear ho hb hg hat))
      go_roundg k1
      case measure => have := HK1.out; omega
      case rel => exact ⟨(y519), (wrap64 (x4_1 + 1)), (by first | rfl | (simp; done) | (simp [*]; done)), H', ⟨by have := HK1.out; omega⟩, ⟨rxq HO521.out⟩, ⟨bq⟩⟩
     ·
      rw [if_neg c4] at H
      exact absurd H (by simp)
    ·
     rw [if_neg c3] at H
     exact absurd H (by simp)
   ·
    rw [if_neg c2] at H
    have c2b0 : decide (x4_1 < (l0.length : Int)) = false := decide_eq_false c2
    clear c2
    obtain rfl := Option.some.inj H
    go_wp2
    go_ret
    exact ⟨_, erq, by (with_reducible repeat (first | apply Kd.R_alloc | apply Kd.R_drewN | apply Kd.R_drew)); exact HO_3.out, bq⟩
def latchkeylaw05_pieces.l0 : Nat → List (S37) → List ByteArray → Int → Option (List ByteArray × Bool)
 | 0, _, _, _ => none
 | k + 1, x0, x4, x5 => if x5 < (x0.length : Int) then (if 0 ≤ x5 then ((tokens_Print.f k (([(⟨(rd_T37 x0 x5).f0, (rd_T37 x0 x5).f1, (rd_T37 x0 x5).f2, (rd_T37 x0 x5).f3⟩ : S37)] : List (S37)))).bind fun bt526 => (if bt526.2 = 0 then (if x4.length < 8796093022208 then (latchkeylaw05_pieces.l0 k x0 (x4 ++ [bt526.1]) (wrap64 (x5 + 1))) else (none)) else (some (([] : List ByteArray), false)))) else (none)) else (some (x4, true))
def latchkeylaw05_pieces.f (k : Nat) (l0 : List (S37)) : Option (List ByteArray × Bool) := latchkeylaw05_pieces.l0 k l0 ([] : List ByteArray) 0
set_option maxHeartbeats 8000000 in
set_option maxRecDepth 100000 in
theorem latchkeylaw05_pieces.calls (k : Nat) (A0 : Option Addr) (c0 : Nat) (l0 : List (S37)) (r1 : List ByteArray) (r2 : Bool) (w : World) (hr0 : Kd.C k37 w A0 l0.length l0) (hc0 : l0.length ≤ c0) (h : latchkeylaw05_pieces.f k l0 = some (r1, r2)) :
  Calls Tryd.prog 21 #[.slice A0 l0.length c0] w fun e w' => ∃ v0_ : Value, e = .returned (.tuple #[v0_, .bool r2]) ∧ Kd.R Kd.string 9 w' w.heap.size (fun _ => True) v0_ r1 ∧ Below w.heap.size w w' := by
 have hu37 := Tryd.underlying37
 have HR0 := Aside0.mk hr0
 have HC0 := Aside0.mk hc0
 clear hr0 hc0
 have HB := Aside0.mk (Below.refl w.heap.size w)
 have H : (latchkeylaw05_pieces.l0 k l0 ([] : List ByteArray) 0) = some (r1, r2) := h
 clear h
 have H' := Aside0.mk H
 clear H
 go_enter Tryd.func21, Tryd.ntmps21
 go_wp2
 go_loopg [4, 5] k (fun kq v4 v5 w' => ∃ (x4_1 : List ByteArray) (x5_1 : Int), v5 = .int .i64 x5_1 ∧ Aside0 (latchkeylaw05_pieces.l0 kq l0 x4_1 x5_1 = some (r1, r2)) ∧ Aside0 (kq ≤ k) ∧ Aside0 (Kd.R Kd.string 9 w' w.heap.size (fun _ => True) v4 x4_1) ∧ Aside0 (Below w.heap.size w w'))
 case atStart => exact ⟨(([] : List ByteArray)), (0), (by first | rfl | (simp; done) | (simp [*]; done)), H', ⟨Nat.le_refl _⟩, ⟨by first | exact Kd.R_nil _ _ _ _ _ | exact Kd.N_nil _ _ _ _ _ | exact Kd.V_nil _ _ _ _ _ | exact Kd.Q_nil _ _ _ _ _ | exact Kd.S_nil _ _ _ _ _⟩, ⟨bq⟩⟩
 case round =>
  clear H'
  obtain ⟨x4_1, x5_1, rfl, HA, HK1, HO_4, HB⟩ := hrel
  cases gk with
  | zero => exact absurd HA.out (by simp [latchkeylaw05_pieces.l0])
  | succ k1 =>
   have H := HA.out
   clear HA
   simp only [latchkeylaw05_pieces.l0] at H
   by_cases c2 : x5_1 < (l0.length : Int)
   ·
    rw [if_pos c2] at H
    have c2b0 : decide (x5_1 < (l0.length : Int)) = true := decide_eq_true c2
    clear c2
    by_cases c3 : 0 ≤ x5_1
    ·
     rw [if_pos c3] at H
     have c3b0 : decide (0 ≤ x5_1) = true := decide_eq_true c3
     clear c3
     obtain ⟨y523, hy523⟩ : ∃ y_ : List (S37), y_ = (([(⟨(rd_T37 l0 x5_1).f0, (rd_T37 l0 x5_1).f1, (rd_T37 l0 x5_1).f2, (rd_T37 l0 x5_1).f3⟩ : S37)] : List (S37))) := ⟨_, rfl⟩
     replace H : ((tokens_Print.f k1 y523).bind fun bt526 => (if bt526.2 = 0 then (if x4_1.length < 8796093022208 then (latchkeylaw05_pieces.l0 k1 l0 (x4_1 ++ [bt526.1]) (wrap64 (x5_1 + 1))) else (none)) else (some (([] : List ByteArray), false)))) = some (r1, r2) := by first | (rw [hy523]; with_reducible exact H) | (have H2_ := (Option.bind_some _ _).symm.trans H; rw [hy523]; with_reducible exact H2_) | (have H2_ := (Option.bind_some _ _).symm.trans H; with_reducible exact H2_) | with_reducible exact H | (rw [hy523]; exact H) | exact H
     have Ny523 := Aside0.mk hy523
     clear hy523
     replace H := Option.bind_eq_some_iff.mp H
     obtain ⟨⟨t526, t527⟩, A40, H⟩ := H
     replace H : (if t527 = 0 then (if x4_1.length < 8796093022208 then (latchkeylaw05_pieces.l0 k1 l0 (x4_1 ++ [t526]) (wrap64 (x5_1 + 1))) else (none)) else (some (([] : List ByteArray), false))) = some (r1, r2) := H
     have A4 := Aside0.mk A40
     clear A40
     by_cases c5 : t527 = 0
     ·
      rw [if_pos c5] at H
      have c5b0 : (t527 == 0) = true := beq_iff_eq.mpr c5
      have c5b1 : (t527 != 0) = false := bne_eq_false_iff_eq.mpr c5
      clear c5
      by_cases c6 : x4_1.length < 8796093022208
      ·
       rw [if_pos c6] at H
       have LMc6 := Aside0.mk c6
       clear c6
       obtain ⟨y528, hy528⟩ : ∃ y_ : List ByteArray, y_ = (x4_1 ++ [t526]) := ⟨_, rfl⟩
       replace H : (latchkeylaw05_pieces.l0 k1 l0 y528 (wrap64 (x5_1 + 1))) = some (r1, r2) := by first | (rw [hy528]; with_reducible exact H) | (have H2_ := (Option.bind_some _ _).symm.trans H; rw [hy528]; with_reducible exact H2_) | (have H2_ := (Option.bind_some _ _).symm.trans H; with_reducible exact H2_) | with_reducible exact H | (rw [hy528]; exact H) | exact H
       have Ny528 := Aside0.mk hy528
       clear hy528
       have H' := Aside0.mk H
       clear H
       have p522 : 0 ≤ (x5_1 : Int) := of_decide_eq_true azq
       have q522 : x5_1 < (l0.length : Int) := of_decide_eq_true azq
       obtain ⟨ad522, e522, hx522_0, hx522_1, hx522_2, hx522_3⟩ := at_T37 HR0.out x5_1 p522 q522
       cases e522
       replace hx522_0 := (HB.out.cell (World.block_lt_of_cell? w _ hx522_0)).trans hx522_0
       replace hx522_1 := (HB.out.cell (World.block_lt_of_cell? w _ hx522_1)).trans hx522_1
       replace hx522_2 := (HB.out.cell (World.block_lt_of_cell? w _ hx522_2)).trans hx522_2
       replace hx522_3 := (HB.out.cell (World.block_lt_of_cell? w _ hx522_3)).trans hx522_3
       replace p522 := eq_true p522
       replace q522 := eq_true q522
       go_wp2_with (first | ((with_reducible refine gate_dst (N := 19) rfl ?_); refine Kd.R_lit k37 _ 37 ?hg (N := 19) ?hd (xs := ([(⟨(rd_T37 l0 x5_1).f0, (rd_T37 l0 x5_1).f1, (rd_T37 l0 x5_1).f2, (rd_T37 l0 x5_1).f3⟩ : S37)] : List (S37))) (inner := [.int .i64 ((rd_T37 l0 x5_1).f0), .string ((rd_T37 l0 x5_1).f1), .int .i64 ((rd_T37 l0 x5_1).f2), .int .i64 ((rd_T37 l0 x5_1).f3)]) (ok := fun _ => True) (okp := fun _ => True) ?hr ?hp (fun _ hk => hk) trivial (Below.refl _ _) (Nat.le_refl _) (by simp) ?_; (case hd => rfl); (case hg => rfl); (case hr => first | (go_simp; done) | (go_simp; rfl)); (case hp => exact (Reps.c4 (show Kd.M k37 _ _ _ (⟨(rd_T37 l0 x5_1).f0, (rd_T37 l0 x5_1).f1, (rd_T37 l0 x5_1).f2, (rd_T37 l0 x5_1).f3⟩ : S37) [.int .i64 ((rd_T37 l0 x5_1).f0), .string ((rd_T37 l0 x5_1).f1), .int .i64 ((rd_T37 l0 x5_1).f2), .int .i64 ((rd_T37 l0 x5_1).f3)] from (k37_mkM _ _ _ (⟨(rd_T37 l0 x5_1).f0, (rd_T37 l0 x5_1).f1, (rd_T37 l0 x5_1).f2, (rd_T37 l0 x5_1).f3⟩ : S37) )) (Reps.none _ _))); intro v524 w7 ho8 hb hg_ hnew_; clear hg_ hnew_; (first | rw [← Ny523.out] at ho8 | (simp only [Int.reduceToNat] at ho8; rw [← Ny523.out] at ho8)); have n0_ := Aside0.mk (Kd.R_below (rxq HO_4.out) hb); have n1_ := Aside0.mk (Kd.R_lower ho8 (below_size bq)); have n2_ := Aside0.mk (below_step bq hb); clear HO_4; clear HB; have HO_4 := n0_; have HO525 := n1_; have HB := n2_; clear n0_ n1_ n2_; clear hb ho8; obtain ⟨Ao9, co9, eo9⟩ := Kd.R_slice HO525.out; subst eo9) | ((with_reducible refine gate_callee (f := 16) rfl ?_); refine goesL_ (some 20) rfl rfl Tryd.func16 (by kernel_rfl) rfl #[.slice Ao9 y523.length co9] rfl agq ?_; (with_reducible refine (tokens_Print.calls k1 _ _ y523 t526 t527 _ ?side1 ?side2 A4.out).mono ?_); (case side1 => repeat (first | exact (Kd.R_reads' HO525.out).2.2 | (with_reducible refine Kd.C_alloc ?_ _) | (with_reducible refine Kd.C_drewN ?_ _) | (with_reducible refine Kd.C_drew ?_))); (case side2 => exact (Kd.R_reads' HO525.out).2.1); rintro e w10 ⟨rfl, hb⟩; refine ⟨_, rfl, ?_⟩; have n0_ := Aside0.mk (Kd.R_below (rxq HO_4.out) hb); have n1_ := Aside0.mk (Kd.R_below (rxq HO525.out) hb); have n2_ := Aside0.mk (below_step bq hb); clear HO_4; clear HO525; clear HB; have HO_4 := n0_; have HO525 := n1_; have HB := n2_; clear n0_ n1_ n2_; (try clear hb); (try clear hb2); (try clear hk); (try clear hi)) | ((with_reducible refine gate_builtin (b := .append) (xs := #[.tmp 25, .tmp 27]) rfl ?_); at_builtin; refine Kd.R_append Kd.string (w0 := w) w.heap.size rfl (.tmp 25) (.tmp 27) 38 9 (.string ⟨#[]⟩) 16 rfl Tryd.underlying38 info9 rfl (by decide) (by omega) u4 x4_1 t526 [.string t526] (fun _ => True) (fun _ => False) rfl rfl ?aP (fun _ hk => hk.elim) ?aF ?aO ?aB ?aS ?aL ?_; (case aP => exact rfl); (case aB => exact bq); (case aF => exact (fun _ _ => trivial)); (case aO => exact (rxq HO_4.out)); (case aS => exact (below_size bq)); (case aL => have := LMc6.out; omega); intro v529 w11 ho hb hg hat; rw [← Ny528.out] at ho; have n0_ := Aside0.mk (Kd.R_over' (rxq HO525.out) (Kd.R_typed (rxq HO_4.out)) (by decide) hg); have n1_ := Aside0.mk (hb); have n2_ := Aside0.mk (ho); clear HO525; clear HB; clear HO_4; have HO525 := n0_; have HB := n1_; have HO530 := n2_; clear n0_ n1_ n2_; clear ho hb hg hat))
       go_roundg k1
       case measure => have := HK1.out; omega
       case rel => exact ⟨(y528), (wrap64 (x5_1 + 1)), (by first | rfl | (simp; done) | (simp [*]; done)), H', ⟨by have := HK1.out; omega⟩, ⟨rxq HO530.out⟩, ⟨bq⟩⟩
      ·
       rw [if_neg c6] at H
       exact absurd H (by simp)
     ·
      rw [if_neg c5] at H
      have c5b0 : (t527 == 0) = false := beq_eq_false_iff_ne.mpr c5
      have c5b1 : (t527 != 0) = true := bne_iff_ne.mpr c5
      simp only [Option.some.injEq, Prod.mk.injEq] at H
      obtain ⟨rfl, rfl⟩ := H
      have p522 : 0 ≤ (x5_1 : Int) := of_decide_eq_true azq
      have q522 : x5_1 < (l0.length : Int) := of_decide_eq_true azq
      obtain ⟨ad522, e522, hx522_0, hx522_1, hx522_2, hx522_3⟩ := at_T37 HR0.out x5_1 p522 q522
      cases e522
      replace hx522_0 := (HB.out.cell (World.block_lt_of_cell? w _ hx522_0)).trans hx522_0
      replace hx522_1 := (HB.out.cell (World.block_lt_of_cell? w _ hx522_1)).trans hx522_1
      replace hx522_2 := (HB.out.cell (World.block_lt_of_cell? w _ hx522_2)).trans hx522_2
      replace hx522_3 := (HB.out.cell (World.block_lt_of_cell? w _ hx522_3)).trans hx522_3
      replace p522 := eq_true p522
      replace q522 := eq_true q522
      go_wp2_with (first | ((with_reducible refine gate_dst (N := 19) rfl ?_); refine Kd.R_lit k37 _ 37 ?hg (N := 19) ?hd (xs := ([(⟨(rd_T37 l0 x5_1).f0, (rd_T37 l0 x5_1).f1, (rd_T37 l0 x5_1).f2, (rd_T37 l0 x5_1).f3⟩ : S37)] : List (S37))) (inner := [.int .i64 ((rd_T37 l0 x5_1).f0), .string ((rd_T37 l0 x5_1).f1), .int .i64 ((rd_T37 l0 x5_1).f2), .int .i64 ((rd_T37 l0 x5_1).f3)]) (ok := fun _ => True) (okp := fun _ => True) ?hr ?hp (fun _ hk => hk) trivial (Below.refl _ _) (Nat.le_refl _) (by simp) ?_; (case hd => rfl); (case hg => rfl); (case hr => first | (go_simp; done) | (go_simp; rfl)); (case hp => exact (Reps.c4 (show Kd.M k37 _ _ _ (⟨(rd_T37 l0 x5_1).f0, (rd_T37 l0 x5_1).f1, (rd_T37 l0 x5_1).f2, (rd_T37 l0 x5_1).f3⟩ : S37) [.int .i64 ((rd_T37 l0 x5_1).f0), .string ((rd_T37 l0 x5_1).f1), .int .i64 ((rd_T37 l0 x5_1).f2), .int .i64 ((rd_T37 l0 x5_1).f3)] from (k37_mkM _ _ _ (⟨(rd_T37 l0 x5_1).f0, (rd_T37 l0 x5_1).f1, (rd_T37 l0 x5_1).f2, (rd_T37 l0 x5_1).f3⟩ : S37) )) (Reps.none _ _))); intro v524 w12 ho13 hb hg_ hnew_; clear hg_ hnew_; (first | rw [← Ny523.out] at ho13 | (simp only [Int.reduceToNat] at ho13; rw [← Ny523.out] at ho13)); have n0_ := Aside0.mk (Kd.R_below (rxq HO_4.out) hb); have n1_ := Aside0.mk (Kd.R_lower ho13 (below_size bq)); have n2_ := Aside0.mk (below_step bq hb); clear HO_4; clear HB; have HO_4 := n0_; have HO525 := n1_; have HB := n2_; clear n0_ n1_ n2_; clear hb ho13; obtain ⟨Ao14, co14, eo14⟩ := Kd.R_slice HO525.out; subst eo14) | ((with_reducible refine gate_callee (f := 16) rfl ?_); refine goesL_ (some 20) rfl rfl Tryd.func16 (by kernel_rfl) rfl #[.slice Ao14 y523.length co14] rfl agq ?_; (with_reducible refine (tokens_Print.calls k1 _ _ y523 t526 t527 _ ?side1 ?side2 A4.out).mono ?_); (case side1 => repeat (first | exact (Kd.R_reads' HO525.out).2.2 | (with_reducible refine Kd.C_alloc ?_ _) | (with_reducible refine Kd.C_drewN ?_ _) | (with_reducible refine Kd.C_drew ?_))); (case side2 => exact (Kd.R_reads' HO525.out).2.1); rintro e w15 ⟨rfl, hb⟩; refine ⟨_, rfl, ?_⟩; have n0_ := Aside0.mk (Kd.R_below (rxq HO_4.out) hb); have n1_ := Aside0.mk (Kd.R_below (rxq HO525.out) hb); have n2_ := Aside0.mk (below_step bq hb); clear HO_4; clear HO525; clear HB; have HO_4 := n0_; have HO525 := n1_; have HB := n2_; clear n0_ n1_ n2_; (try clear hb); (try clear hb2); (try clear hk); (try clear hi)))
      go_ret2
      exact ⟨_, erq, by first | exact Kd.R_nil _ _ _ _ _ | exact Kd.N_nil _ _ _ _ _ | exact Kd.V_nil _ _ _ _ _ | exact Kd.Q_nil _ _ _ _ _ | exact Kd.S_nil _ _ _ _ _, bq⟩
    ·
     rw [if_neg c3] at H
     exact absurd H (by simp)
   ·
    rw [if_neg c2] at H
    have c2b0 : decide (x5_1 < (l0.length : Int)) = false := decide_eq_false c2
    clear c2
    simp only [Option.some.injEq, Prod.mk.injEq] at H
    obtain ⟨rfl, rfl⟩ := H
    go_wp2
    go_ret2
    exact ⟨_, erq, by (with_reducible repeat (first | apply Kd.R_alloc | apply Kd.R_drewN | apply Kd.R_drew)); exact HO_4.out, bq⟩
def latchkeylaw05_ahead.f (l0 : List (S37)) : Option ((List (S37))) := if (l0.length : Int) > 0 then (if 0 ≤ (wrap64 ((l0.length : Int) - 1)) then (if (wrap64 ((l0.length : Int) - 1)) < (l0.length : Int) then (if ((rd_T37 l0 (wrap64 ((l0.length : Int) - 1))).f0) = 7 then (if (wrap64 ((l0.length : Int) - 1)) ≤ (l0.length : Int) then (some (l0.take ((wrap64 ((l0.length : Int) - 1)) : Int).toNat)) else (none)) else (some l0)) else (none)) else (none)) else (some l0)
def latchkeylaw05_alike.l0 : Nat → List (S37) → List (S37) → Int → Option (Bool)
 | 0, _, _, _ => none
 | k + 1, x0, x1, x5 => if x5 < (x0.length : Int) then (if 0 ≤ x5 then (if x5 < (x1.length : Int) then (if ((rd_T37 x0 x5).f0) = ((rd_T37 x1 x5).f0) then (if ((rd_T37 x0 x5).f1).toList = ((rd_T37 x1 x5).f1).toList then (latchkeylaw05_alike.l0 k x0 x1 (wrap64 (x5 + 1))) else (some false)) else (some false)) else (none)) else (none)) else (some true)
def latchkeylaw05_alike.f (k : Nat) (l0 : List (S37)) (l1 : List (S37)) : Option (Bool) := (latchkeylaw05_ahead.f l0).bind fun t535 => ((latchkeylaw05_ahead.f l1).bind fun t538 => (if (t535.length : Int) = (t538.length : Int) then (latchkeylaw05_alike.l0 k t535 t538 0) else (some false)))
def latchkeykit_Pick.f (a0 : Int) (a1 : Int) : Option (Int) := if a1 < 1 then (some 0) else (if a1 = 0 then (none) else (if (Int.tmod a0 a1) < 0 then (some (wrap64 ((Int.tmod a0 a1) + a1))) else (some (Int.tmod a0 a1))))
set_option maxHeartbeats 8000000 in
set_option maxRecDepth 100000 in
theorem latchkeykit_Pick.calls (a0 : Int) (a1 : Int) (r : Int) (w : World) (h : latchkeykit_Pick.f a0 a1 = some r) :
  Calls Tryd.prog 41 #[.int .i64 a0, .int .i64 a1] w fun e w' => e = .returned (.int .i64 r) ∧ Drawn0 w w' := by
 have H : (if a1 < 1 then (some 0) else (if a1 = 0 then (none) else (if (Int.tmod a0 a1) < 0 then (some (wrap64 ((Int.tmod a0 a1) + a1))) else (some (Int.tmod a0 a1))))) = some r := h
 clear h
 by_cases c3 : a1 < 1
 ·
  rw [if_pos c3] at H
  have c3b0 : decide (a1 < 1) = true := decide_eq_true c3
  clear c3
  obtain rfl := Option.some.inj H
  go_enter Tryd.func41, Tryd.ntmps41
  go_wp2
  go_ret
  exact ⟨by first | rfl | (simp; done) | (simp [*]; done), g1q⟩
 ·
  rw [if_neg c3] at H
  have c3b0 : decide (a1 < 1) = false := decide_eq_false c3
  clear c3
  by_cases c4 : a1 = 0
  ·
   rw [if_pos c4] at H
   exact absurd H (by simp)
  ·
   rw [if_neg c4] at H
   have c4b0 : (a1 == 0) = false := beq_eq_false_iff_ne.mpr c4
   have c4b1 : (a1 != 0) = true := bne_iff_ne.mpr c4
   by_cases c5 : (Int.tmod a0 a1) < 0
   ·
    rw [if_pos c5] at H
    have c5b0 : decide ((Int.tmod a0 a1) < 0) = true := decide_eq_true c5
    clear c5
    obtain rfl := Option.some.inj H
    go_enter Tryd.func41, Tryd.ntmps41
    go_wp2
    go_ret
    exact ⟨by first | rfl | (simp; done) | (simp [*]; done), g1q⟩
   ·
    rw [if_neg c5] at H
    have c5b0 : decide ((Int.tmod a0 a1) < 0) = false := decide_eq_false c5
    clear c5
    obtain rfl := Option.some.inj H
    go_enter Tryd.func41, Tryd.ntmps41
    go_wp2
    go_ret
    exact ⟨by first | rfl | (simp; done) | (simp [*]; done), g1q⟩
def latchkeylaw05_filler.f (a0 : Int) : Option (ByteArray) := (some (([(⟨#[32]⟩ : ByteArray), (⟨#[10]⟩ : ByteArray), (⟨#[9]⟩ : ByteArray), (⟨#[13, 10]⟩ : ByteArray), (⟨#[32, 47, 47, 32, 120, 32, 34, 10]⟩ : ByteArray), (⟨#[47, 47, 10]⟩ : ByteArray), (⟨#[10, 10, 32, 32]⟩ : ByteArray), (⟨#[47, 47, 255, 0, 10, 9]⟩ : ByteArray)] : List ByteArray) : List ByteArray)).bind fun y559 => ((latchkeykit_Pick.f a0 8).bind fun t562 => (if 0 ≤ t562 then (if t562 < (y559.length : Int) then (some (rdOf ByteArray.empty y559 t562)) else (none)) else (none)))
set_option maxHeartbeats 8000000 in
set_option maxRecDepth 100000 in
theorem latchkeylaw05_filler.calls (a0 : Int) (r : ByteArray) (w : World) (h : latchkeylaw05_filler.f a0 = some r) :
  Calls Tryd.prog 24 #[.int .i64 a0] w fun e w' => e = .returned (.string r) ∧ Below w.heap.size w w' := by
 have HB := Aside0.mk (Below.refl w.heap.size w)
 have H : ((some (([(⟨#[32]⟩ : ByteArray), (⟨#[10]⟩ : ByteArray), (⟨#[9]⟩ : ByteArray), (⟨#[13, 10]⟩ : ByteArray), (⟨#[32, 47, 47, 32, 120, 32, 34, 10]⟩ : ByteArray), (⟨#[47, 47, 10]⟩ : ByteArray), (⟨#[10, 10, 32, 32]⟩ : ByteArray), (⟨#[47, 47, 255, 0, 10, 9]⟩ : ByteArray)] : List ByteArray) : List ByteArray)).bind fun y559 => ((latchkeykit_Pick.f a0 8).bind fun t562 => (if 0 ≤ t562 then (if t562 < (y559.length : Int) then (some (rdOf ByteArray.empty y559 t562)) else (none)) else (none)))) = some r := h
 clear h
 obtain ⟨y559, hy559⟩ : ∃ y_ : List ByteArray, y_ = (([(⟨#[32]⟩ : ByteArray), (⟨#[10]⟩ : ByteArray), (⟨#[9]⟩ : ByteArray), (⟨#[13, 10]⟩ : ByteArray), (⟨#[32, 47, 47, 32, 120, 32, 34, 10]⟩ : ByteArray), (⟨#[47, 47, 10]⟩ : ByteArray), (⟨#[10, 10, 32, 32]⟩ : ByteArray), (⟨#[47, 47, 255, 0, 10, 9]⟩ : ByteArray)] : List ByteArray)) := ⟨_, rfl⟩
 replace H : ((latchkeykit_Pick.f a0 8).bind fun t562 => (if 0 ≤ t562 then (if t562 < (y559.length : Int) then (some (rdOf ByteArray.empty y559 t562)) else (none)) else (none))) = some r := by first | (rw [hy559]; with_reducible exact H) | (have H2_ := (Option.bind_some _ _).symm.trans H; rw [hy559]; with_reducible exact H2_) | (have H2_ := (Option.bind_some _ _).symm.trans H; with_reducible exact H2_) | with_reducible exact H | (rw [hy559]; exact H) | exact H
 have Ny559 := Aside0.mk hy559
 clear hy559
 replace H := Option.bind_eq_some_iff.mp H
 obtain ⟨t562, A20, H⟩ := H
 replace H : (if 0 ≤ t562 then (if t562 < (y559.length : Int) then (some (rdOf ByteArray.empty y559 t562)) else (none)) else (none)) = some r := H
 have A2 := Aside0.mk A20
 clear A20
 by_cases c3 : 0 ≤ t562
 ·
  rw [if_pos c3] at H
  have c3b0 : decide (0 ≤ t562) = true := decide_eq_true c3
  clear c3
  by_cases c4 : t562 < (y559.length : Int)
  ·
   rw [if_pos c4] at H
   have c4b0 : decide (t562 < (y559.length : Int)) = true := decide_eq_true c4
   clear c4
   obtain rfl := Option.some.inj H
   go_enter Tryd.func24, Tryd.ntmps24
   go_wp2_with (first | ((with_reducible refine gate_dst (N := 3) rfl ?_); refine Kd.R_lit Kd.string _ 9 ?hg (N := 3) ?hd (xs := ([(⟨#[32]⟩ : ByteArray), (⟨#[10]⟩ : ByteArray), (⟨#[9]⟩ : ByteArray), (⟨#[13, 10]⟩ : ByteArray), (⟨#[32, 47, 47, 32, 120, 32, 34, 10]⟩ : ByteArray), (⟨#[47, 47, 10]⟩ : ByteArray), (⟨#[10, 10, 32, 32]⟩ : ByteArray), (⟨#[47, 47, 255, 0, 10, 9]⟩ : ByteArray)] : List ByteArray)) (inner := [.string (⟨#[32]⟩ : ByteArray), .string (⟨#[10]⟩ : ByteArray), .string (⟨#[9]⟩ : ByteArray), .string (⟨#[13, 10]⟩ : ByteArray), .string (⟨#[32, 47, 47, 32, 120, 32, 34, 10]⟩ : ByteArray), .string (⟨#[47, 47, 10]⟩ : ByteArray), .string (⟨#[10, 10, 32, 32]⟩ : ByteArray), .string (⟨#[47, 47, 255, 0, 10, 9]⟩ : ByteArray)]) (ok := fun _ => True) (okp := fun _ => True) ?hr ?hp (fun _ hk => hk) trivial (Below.refl _ _) (Nat.le_refl _) (by simp) ?_; (case hd => rfl); (case hg => rfl); (case hr => first | (go_simp; done) | (go_simp; rfl)); (case hp => exact (Reps.one (show Kd.M Kd.string _ _ _ (⟨#[32]⟩ : ByteArray) [.string (⟨#[32]⟩ : ByteArray)] from rfl) (Reps.one (show Kd.M Kd.string _ _ _ (⟨#[10]⟩ : ByteArray) [.string (⟨#[10]⟩ : ByteArray)] from rfl) (Reps.one (show Kd.M Kd.string _ _ _ (⟨#[9]⟩ : ByteArray) [.string (⟨#[9]⟩ : ByteArray)] from rfl) (Reps.one (show Kd.M Kd.string _ _ _ (⟨#[13, 10]⟩ : ByteArray) [.string (⟨#[13, 10]⟩ : ByteArray)] from rfl) (Reps.one (show Kd.M Kd.string _ _ _ (⟨#[32, 47, 47, 32, 120, 32, 34, 10]⟩ : ByteArray) [.string (⟨#[32, 47, 47, 32, 120, 32, 34, 10]⟩ : ByteArray)] from rfl) (Reps.one (show Kd.M Kd.string _ _ _ (⟨#[47, 47, 10]⟩ : ByteArray) [.string (⟨#[47, 47, 10]⟩ : ByteArray)] from rfl) (Reps.one (show Kd.M Kd.string _ _ _ (⟨#[10, 10, 32, 32]⟩ : ByteArray) [.string (⟨#[10, 10, 32, 32]⟩ : ByteArray)] from rfl) (Reps.one (show Kd.M Kd.string _ _ _ (⟨#[47, 47, 255, 0, 10, 9]⟩ : ByteArray) [.string (⟨#[47, 47, 255, 0, 10, 9]⟩ : ByteArray)] from rfl) (Reps.none _ _)))))))))); intro v560 w5 ho6 hb hg_ hnew_; clear hg_ hnew_; (first | rw [← Ny559.out] at ho6 | (simp only [Int.reduceToNat] at ho6; rw [← Ny559.out] at ho6)); have n0_ := Aside0.mk (Kd.R_lower ho6 (below_size bq)); have n1_ := Aside0.mk (below_step bq hb); clear HB; have HO561 := n0_; have HB := n1_; clear n0_ n1_; clear hb ho6) | ((with_reducible refine gate_callee (f := 41) rfl ?_); refine goesL_ (some 5) rfl rfl Tryd.func41 (by kernel_rfl) rfl #[.int .i64 a0, .int .i64 8] rfl agq ?_; (with_reducible refine (latchkeykit_Pick.calls a0 8 t562 _ A2.out).mono ?_); rintro e w' ⟨rfl, ⟨nd, rfl⟩⟩; refine ⟨_, rfl, ?_⟩; obtain ⟨Ao7, co7, eo7⟩ := Kd.R_slice HO561.out; subst eo7; have p563 : 0 ≤ (t562 : Int) := of_decide_eq_true azq; have q563 : t562 < (y559.length : Int) := of_decide_eq_true azq; obtain ⟨ad563, e563, hx563_0⟩ := Kd.at_string (Kd.R_reads' HO561.out).2.2 t562 p563 q563; cases e563; replace p563 := eq_true p563; replace q563 := eq_true q563))
   go_ret
   exact ⟨erq, bq⟩
  ·
   rw [if_neg c4] at H
   exact absurd H (by simp)
 ·
  rw [if_neg c3] at H
  exact absurd H (by simp)
end Go.Proofs.YteedjhoffjkhmaaDoor.PT
