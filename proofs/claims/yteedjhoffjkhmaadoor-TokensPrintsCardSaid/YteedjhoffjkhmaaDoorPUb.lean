import Derived.Test.YteedjhoffjkhmaaDoorPUa
import Derived.Test.YteedjhoffjkhmaaDoorPTx21
import Derived.Test.YteedjhoffjkhmaaDoorPTx17
namespace Go.Proofs.YteedjhoffjkhmaaDoor.PT
open Go.RowKit Go.Proofs.YteedjhoffjkhmaaDoorW.PrintWords Go.Proofs.YteedjhoffjkhmaaDoorW.PrintLast Go.Proofs.YteedjhoffjkhmaaDoorW.PrintMore
attribute [local go_sem] max2_int min2_int max_two min_two max_three min_three max_four min_four
set_option linter.unusedVariables false
set_option linter.unusedSimpArgs false
theorem lent_pre {w : World} {A : Option Addr} {l all : List S37} (hp : all.take l.length = l) (h : Kd.C k37 w A all.length all) : Kd.C k37 w A l.length l := by
 have hl : l.length ≤ all.length := by have := congrArg List.length hp; rw [List.length_take] at this; omega
 have := Kd.C_take (m := l.length) h hl
 rwa [hp] at this
set_option maxHeartbeats 8000000 in
set_option maxRecDepth 100000 in
theorem TokensPrints_yes (k : Nat) (A0 : Option Addr) (c0 : Nat) (l0 : List (S37)) (w : World) (hr0 : Kd.C k37 w A0 l0.length l0) (hc0 : l0.length ≤ c0) (h2 : latchkeyref00_BeyondTokens.f k l0 = some true) :
  Calls Tryd.prog 4 #[.slice A0 l0.length c0] w fun e w' => e = .returned (.bool true) ∧ Below w.heap.size w w' := by
 have HR0 := Aside0.mk hr0
 have HC0 := Aside0.mk hc0
 clear hr0 hc0
 have HB := Aside0.mk (Below.refl w.heap.size w)
 have A2 := Aside0.mk h2
 clear h2
 go_enter Tryd.func4, Tryd.ntmps4
 go_wp2_with (first | ((with_reducible refine gate_callee (f := 14) rfl ?_); refine goesL_ (some 9) rfl rfl Tryd.func14 (by kernel_rfl) rfl #[.slice A0 l0.length c0] rfl agq ?_; (with_reducible refine (latchkeyref00_BeyondTokens.calls k _ _ l0 true _ ?side1 ?side2 A2.out).mono ?_); (case side1 => repeat (first | exact HR0.out | (with_reducible refine Kd.C_alloc ?_ _) | (with_reducible refine Kd.C_drewN ?_ _) | (with_reducible refine Kd.C_drew ?_))); (case side2 => exact HC0.out); rintro e w' ⟨rfl, ⟨nd, rfl⟩⟩; refine ⟨_, rfl, ?_⟩))
 go_ret
 exact ⟨by first | rfl | (simp [errW_none, errW_some] <;> rfl), bq⟩
set_option maxHeartbeats 8000000 in
set_option maxRecDepth 100000 in
theorem TokensPrints_no (k : Nat) (A0 : Option Addr) (c0 : Nat) (l0 t445 : List (S37)) (t448 : ByteArray) (t449 : Int) (w : World) (hr0 : Kd.C k37 w A0 l0.length l0) (hc0 : l0.length ≤ c0) (h2 : latchkeyref00_BeyondTokens.f k l0 = some false)
  (h4 : latchkeykit_LentTokensR.f k l0 = some t445) (hp : t445.take l0.length = l0) (h5 : tokens_Print.f k l0 = some (t448, t449)) (h6 : latchkeyref05_Print.f k l0 = some (t448, t449))
  (h9 : latchkeykit_KeptTokensR.f k l0.length t445 l0 = some true) (h11 : latchkeylaw05_awake.f k = some true) (hT : VT w) :
  Calls Tryd.prog 4 #[.slice A0 l0.length c0] w fun e w' => e = .returned (.bool true) ∧ Below w.heap.size w w' := by
 have HR0 := Aside0.mk hr0
 have HC0 := Aside0.mk hc0
 clear hr0 hc0
 have HB := Aside0.mk (Below.refl w.heap.size w)
 have A2 := Aside0.mk h2
 have A4 := Aside0.mk h4
 have A5 := Aside0.mk h5
 have A6 := Aside0.mk h6
 have A9 := Aside0.mk h9
 have A11 := Aside0.mk h11
 have hpre := Aside0.mk hp
 have hlen := Aside0.mk (show l0.length ≤ t445.length by have := congrArg List.length hp; rw [List.length_take] at this; omega)
 have c7b0 : (t448.toList == t448.toList) = true := beq_self_eq_true _
 have c7b1 : (t448.toList != t448.toList) = false := by simp
 have c8b0 : (t449 == t449) = true := beq_self_eq_true _
 have c8b1 : (t449 != t449) = false := by simp
 clear h2 h4 h5 h6 h9 h11 hp
 go_enter Tryd.func4, Tryd.ntmps4
 go_wp2_with (first | ((with_reducible refine gate_callee (f := 14) rfl ?_); refine goesL_ (some 9) rfl rfl Tryd.func14 (by kernel_rfl) rfl #[.slice A0 l0.length c0] rfl agq ?_; (with_reducible refine (latchkeyref00_BeyondTokens.calls k _ _ l0 false _ ?side1 ?side2 A2.out).mono ?_); (case side1 => repeat (first | exact HR0.out | (with_reducible refine Kd.C_alloc ?_ _) | (with_reducible refine Kd.C_drewN ?_ _) | (with_reducible refine Kd.C_drew ?_))); (case side2 => exact HC0.out); rintro e w' ⟨rfl, ⟨nd, rfl⟩⟩; refine ⟨_, rfl, ?_⟩) | ((with_reducible refine gate_callee (f := 15) rfl ?_); refine goesL_ (some 11) rfl rfl Tryd.func15 (by kernel_rfl) rfl #[.slice A0 l0.length c0] rfl agq ?_; (with_reducible refine (latchkeykit_LentTokensR.calls k _ _ l0 t445 _ ?side1 ?side2 A4.out).mono ?_); (case side1 => repeat (first | exact HR0.out | (with_reducible refine Kd.C_alloc ?_ _) | (with_reducible refine Kd.C_drewN ?_ _) | (with_reducible refine Kd.C_drew ?_))); (case side2 => exact HC0.out); rintro e w12 ⟨Ao13, co13, rfl, ho0, hle, hb⟩; refine ⟨_, rfl, ?_⟩; have n0_ := Aside0.mk (Kd.R_lower ho0 (below_size bq)); have n1_ := Aside0.mk (below_step bq hb); clear HB; have HO447 := n0_; have HB := n1_; clear n0_ n1_; (try clear hb); (try clear hb2); (try clear hk); (try clear hi); (try clear ho0)) | ((with_reducible refine gate_callee (f := 16) rfl ?_); refine goesL_ (some 14) rfl rfl Tryd.func16 (by kernel_rfl) rfl #[.slice Ao13 l0.length co13] rfl agq ?_; (with_reducible refine (tokens_Print.calls k _ _ l0 t448 t449 _ ?side1 ?side2 A5.out).mono ?_); (case side1 => repeat (first | exact lent_pre hpre.out (Kd.R_reads' HO447.out).2.2 | (with_reducible refine Kd.C_alloc ?_ _) | (with_reducible refine Kd.C_drewN ?_ _) | (with_reducible refine Kd.C_drew ?_))); (case side2 => exact Nat.le_trans hlen.out (Kd.R_reads' HO447.out).2.1); rintro e w14 ⟨rfl, hb⟩; refine ⟨_, rfl, ?_⟩; have n0_ := Aside0.mk (Kd.R_below (rxq HO447.out) hb); have n1_ := Aside0.mk (below_step bq hb); clear HO447; clear HB; have HO447 := n0_; have HB := n1_; clear n0_ n1_; (try clear hb); (try clear hb2); (try clear hk); (try clear hi)) | ((with_reducible refine gate_callee (f := 17) rfl ?_); refine goesL_ (some 19) rfl rfl Tryd.func17 (by kernel_rfl) rfl #[.slice A0 l0.length c0] rfl agq ?_; (with_reducible refine (latchkeyref05_Print.calls k _ _ l0 t448 t449 _ ?side1 ?side2 A6.out).mono ?_); (case side1 => repeat (first | exact (Kd.C_below HR0.out HB.out) | (with_reducible refine Kd.C_alloc ?_ _) | (with_reducible refine Kd.C_drewN ?_ _) | (with_reducible refine Kd.C_drew ?_))); (case side2 => exact HC0.out); rintro e w15 ⟨rfl, hb⟩; refine ⟨_, rfl, ?_⟩; have n0_ := Aside0.mk (Kd.R_below (rxq HO447.out) hb); have n1_ := Aside0.mk (below_step bq hb); clear HO447; clear HB; have HO447 := n0_; have HB := n1_; clear n0_ n1_; (try clear hb); (try clear hb2); (try clear hk); (try clear hi)) | (go_at_call 18; (with_reducible refine (latchkeykit_KeptTokensR.calls k _ _ _ t445 _ _ l0 _ ?side1 ?side2 ?side3 ?side4 A9.out).mono ?_); (case side1 => repeat (first | exact (Kd.R_reads' HO447.out).2.2 | (with_reducible refine Kd.C_alloc ?_ _) | (with_reducible refine Kd.C_drewN ?_ _) | (with_reducible refine Kd.C_drew ?_))); (case side2 => exact (Kd.R_reads' HO447.out).2.1); (case side3 => repeat (first | exact (Kd.C_below HR0.out HB.out) | (with_reducible refine Kd.C_alloc ?_ _) | (with_reducible refine Kd.C_drewN ?_ _) | (with_reducible refine Kd.C_drew ?_))); (case side4 => exact HC0.out); rintro e w16 ⟨rfl, hb⟩; have n0_ := Aside0.mk (Kd.R_below (rxq HO447.out) hb); have n1_ := Aside0.mk (below_step bq hb); clear HO447; clear HB; have HO447 := n0_; have HB := n1_; clear n0_ n1_; (try clear hb); (try clear hb2); (try clear hk); (try clear hi)) | (go_at_call 13; (with_reducible refine (latchkeylaw05_awake.calls k  true _ A11.out (by first | exact hT | exact hT.on (by assumption) | exact hT.on (by first | exact HB.out | exact Below.refl _ _ | (repeat (first | (with_reducible first | exact HB.out | apply below_alloc | apply pw_below_drewN | apply below_drew1) | exact HB.out))))).mono ?_); rintro e w17 ⟨rfl, hb⟩; have n0_ := Aside0.mk (Kd.R_below (rxq HO447.out) hb); have n1_ := Aside0.mk (below_step bq hb); clear HO447; clear HB; have HO447 := n0_; have HB := n1_; clear n0_ n1_; (try clear hb); (try clear hb2); (try clear hk); (try clear hi)))
 go_ret
 exact ⟨by first | rfl | (simp [errW_none, errW_some] <;> rfl), bq⟩
end Go.Proofs.YteedjhoffjkhmaaDoor.PT
