import Derived.Test.YteedjhoffjkhmaaDoorPTx2
import Derived.Test.YteedjhoffjkhmaaDoorPTx18
namespace Go.Proofs.YteedjhoffjkhmaaDoor.PT
open Go.RowKit Go.Proofs.YteedjhoffjkhmaaDoorW.PrintWords Go.Proofs.YteedjhoffjkhmaaDoorW.PrintLast Go.Proofs.YteedjhoffjkhmaaDoorW.PrintMore
attribute [local go_sem] max2_int min2_int max_two min_two max_three min_three max_four min_four
set_option linter.unusedVariables false
set_option linter.unusedSimpArgs false
mutual
def latchkeykit_LentTokensR.l0 : Nat → List (S37) → List (S37) → Int → Option ((List (S37)))
 | 0, _, _, _ => none
 | k + 1, x0, x3, x4 => if x4 < (x0.length : Int) then (if 0 ≤ x4 then (if x3.length < 3518437208883 then (latchkeykit_LentTokensR.l0 k x0 (x3 ++ [(⟨(rd_T37 x0 x4).f0, (rd_T37 x0 x4).f1, (rd_T37 x0 x4).f2, (rd_T37 x0 x4).f3⟩ : S37)]) (wrap64 (x4 + 1))) else (none)) else (none)) else (latchkeykit_LentTokensR.l1 k x0 x3 0)
def latchkeykit_LentTokensR.l1 : Nat → List (S37) → List (S37) → Int → Option ((List (S37)))
 | 0, _, _, _ => none
 | k + 1, x0, x3, x5 => if x5 < 24 then ((latchkeykit_markText.f 1 x5).bind fun t341 => (if x3.length < 3518437208883 then (latchkeykit_LentTokensR.l1 k x0 (x3 ++ [(⟨(-7), t341, 0, 0⟩ : S37)]) (wrap64 (x5 + 1))) else (none))) else (if 0 ≤ (x0.length : Int) then (if (x0.length : Int) ≤ (x3.length : Int) then (some x3) else (none)) else (none))
end
def latchkeykit_LentTokensR.f (k : Nat) (l0 : List (S37)) : Option ((List (S37))) := latchkeykit_LentTokensR.l0 k l0 ([] : List (S37)) 0
set_option maxHeartbeats 8000000 in
set_option maxRecDepth 100000 in
theorem latchkeykit_LentTokensR.calls (k : Nat) (A0 : Option Addr) (c0 : Nat) (l0 : List (S37)) (r : List (S37)) (w : World) (hr0 : Kd.C k37 w A0 l0.length l0) (hc0 : l0.length ≤ c0) (h : latchkeykit_LentTokensR.f k l0 = some r) :
  Calls Tryd.prog 15 #[.slice A0 l0.length c0] w fun e w' => ∃ (A_ : Option Addr) (c_ : Nat), e = .returned (.slice A_ l0.length c_) ∧ Kd.R k37 37 w' w.heap.size (fun _ => True) (.slice A_ r.length c_) r ∧ l0.length ≤ r.length ∧ Below w.heap.size w w' := by
 have hu37 := Tryd.underlying37
 have HR0 := Aside0.mk hr0
 have HC0 := Aside0.mk hc0
 clear hr0 hc0
 have HB := Aside0.mk (Below.refl w.heap.size w)
 have H : (latchkeykit_LentTokensR.l0 k l0 ([] : List (S37)) 0) = some r := h
 clear h
 have H' := Aside0.mk H
 clear H
 go_enter Tryd.func15, Tryd.ntmps15
 go_wp2
 go_loopg [3, 4] k (fun kq v3 v4 w' => ∃ (x3_1 : List (S37)) (x4_1 : Int), v4 = .int .i64 x4_1 ∧ Aside0 (latchkeykit_LentTokensR.l0 kq l0 x3_1 x4_1 = some r) ∧ Aside0 (kq ≤ k) ∧ Aside0 (Kd.R k37 37 w' w.heap.size (fun _ => True) v3 x3_1) ∧ Aside0 (Below w.heap.size w w'))
 case atStart => exact ⟨(([] : List (S37))), (0), (by first | rfl | (simp; done) | (simp [*]; done)), H', ⟨Nat.le_refl _⟩, ⟨by first | exact Kd.R_nil _ _ _ _ _ | exact Kd.N_nil _ _ _ _ _ | exact Kd.V_nil _ _ _ _ _ | exact Kd.Q_nil _ _ _ _ _ | exact Kd.S_nil _ _ _ _ _⟩, ⟨bq⟩⟩
 case round =>
  clear H'
  (try clear c1)
  obtain ⟨x3_1, x4_1, rfl, HA, HK1, HO_3, HB⟩ := hrel
  cases gk with
  | zero => exact absurd HA.out (by simp [latchkeykit_LentTokensR.l0])
  | succ k1 =>
   have H := HA.out
   clear HA
   simp only [latchkeykit_LentTokensR.l0] at H
   by_cases c2 : x4_1 < (l0.length : Int)
   ·
    rw [if_pos c2] at H
    have c2b0 : decide (x4_1 < (l0.length : Int)) = true := decide_eq_true c2
    clear c2
    by_cases c3 : 0 ≤ x4_1
    ·
     rw [if_pos c3] at H
     have c3b0 : decide (0 ≤ x4_1) = true := decide_eq_true c3
     clear c3
     by_cases c4 : x3_1.length < 3518437208883
     ·
      rw [if_pos c4] at H
      have LMc4 := Aside0.mk c4
      clear c4
      obtain ⟨y338, hy338⟩ : ∃ y_ : List (S37), y_ = (x3_1 ++ [(⟨(rd_T37 l0 x4_1).f0, (rd_T37 l0 x4_1).f1, (rd_T37 l0 x4_1).f2, (rd_T37 l0 x4_1).f3⟩ : S37)]) := ⟨_, rfl⟩
      replace H : (latchkeykit_LentTokensR.l0 k1 l0 y338 (wrap64 (x4_1 + 1))) = some r := by first | (rw [hy338]; with_reducible exact H) | (have H2_ := (Option.bind_some _ _).symm.trans H; rw [hy338]; with_reducible exact H2_) | (have H2_ := (Option.bind_some _ _).symm.trans H; with_reducible exact H2_) | with_reducible exact H | (rw [hy338]; exact H) | exact H
      have Ny338 := Aside0.mk hy338
      clear hy338
      have H' := Aside0.mk H
      clear H
      have p337 : 0 ≤ (x4_1 : Int) := of_decide_eq_true azq
      have q337 : x4_1 < (l0.length : Int) := of_decide_eq_true azq
      obtain ⟨ad337, e337, hx337_0, hx337_1, hx337_2, hx337_3⟩ := at_T37 HR0.out x4_1 p337 q337
      cases e337
      replace hx337_0 := (HB.out.cell (World.block_lt_of_cell? w _ hx337_0)).trans hx337_0
      replace hx337_1 := (HB.out.cell (World.block_lt_of_cell? w _ hx337_1)).trans hx337_1
      replace hx337_2 := (HB.out.cell (World.block_lt_of_cell? w _ hx337_2)).trans hx337_2
      replace hx337_3 := (HB.out.cell (World.block_lt_of_cell? w _ hx337_3)).trans hx337_3
      replace p337 := eq_true p337
      replace q337 := eq_true q337
      go_wp2_with (first | ((with_reducible refine gate_builtin (b := .append) (xs := #[.tmp 12, .tmp 17]) rfl ?_); at_builtin; refine Kd.R_append k37 (w0 := w) w.heap.size rfl (.tmp 12) (.tmp 17) 22 37 (.agg #[(.int .i64 0), (.string ⟨#[]⟩), (.int .i64 0), (.int .i64 0)]) 40 rfl Tryd.underlying22 info37 rfl (by decide) (by omega) u3 x3_1 (⟨(rd_T37 l0 x4_1).f0, (rd_T37 l0 x4_1).f1, (rd_T37 l0 x4_1).f2, (rd_T37 l0 x4_1).f3⟩ : S37) [.int .i64 ((rd_T37 l0 x4_1).f0), .string ((rd_T37 l0 x4_1).f1), .int .i64 ((rd_T37 l0 x4_1).f2), .int .i64 ((rd_T37 l0 x4_1).f3)] (fun _ => True) (fun _ => False) rfl rfl ?aP (fun _ hk => hk.elim) ?aF ?aO ?aB ?aS ?aL ?_; (case aP => exact k37_mkM _ _ _ (⟨(rd_T37 l0 x4_1).f0, (rd_T37 l0 x4_1).f1, (rd_T37 l0 x4_1).f2, (rd_T37 l0 x4_1).f3⟩ : S37)); (case aB => exact bq); (case aF => exact (fun _ _ => trivial)); (case aO => exact (rxq HO_3.out)); (case aS => exact (below_size bq)); (case aL => have := LMc4.out; omega); intro v339 w5 ho hb hg hat; rw [← Ny338.out] at ho; have n0_ := Aside0.mk (hb); have n1_ := Aside0.mk (ho); clear HB; clear HO_3; have HB := n0_; have HO340 := n1_; clear n0_ n1_; clear ho hb hg hat))
      go_roundg k1
      case measure => have := HK1.out; omega
      case rel => exact ⟨(y338), (wrap64 (x4_1 + 1)), (by first | rfl | (simp; done) | (simp [*]; done)), H', ⟨by have := HK1.out; omega⟩, ⟨rxq HO340.out⟩, ⟨bq⟩⟩
     ·
      rw [if_neg c4] at H
      exact absurd H (by simp)
    ·
     rw [if_neg c3] at H
     exact absurd H (by simp)
   ·
    rw [if_neg c2] at H
    have c2b0 : decide (x4_1 < (l0.length : Int)) = false := decide_eq_false c2
    clear c2
    have H' := Aside0.mk H
    clear H
    go_wp2
    go_loopg [3, 5] k1 (fun kq v3 v5 w' => ∃ (x3_2 : List (S37)) (x5_2 : Int), v5 = .int .i64 x5_2 ∧ Aside0 (latchkeykit_LentTokensR.l1 kq l0 x3_2 x5_2 = some r) ∧ Aside0 (kq ≤ k1) ∧ Aside0 (Kd.R k37 37 w' w.heap.size (fun _ => True) v3 x3_2) ∧ Aside0 (Below w.heap.size w w'))
    case atStart => exact ⟨(x3_1), (0), (by first | rfl | (simp; done) | (simp [*]; done)), H', ⟨Nat.le_refl _⟩, ⟨rxq HO_3.out⟩, ⟨bq⟩⟩
    case round =>
     clear H'
     (try clear c1); (try clear c2); (try clear c2b0); (try clear p2); (try clear c3); (try clear c3b0); (try clear p3); (try clear q3); (try clear hx3); (try clear c4); (try clear hx337_0); (try clear hx337_1); (try clear hx337_2); (try clear hx337_3); (try clear p337); (try clear q337)
     obtain ⟨x3_2, x5_2, rfl, HA, HK2, HO_3, HB⟩ := hrel
     cases gk with
     | zero => exact absurd HA.out (by simp [latchkeykit_LentTokensR.l1])
     | succ k2 =>
      have H := HA.out
      clear HA
      simp only [latchkeykit_LentTokensR.l1] at H
      by_cases c6 : x5_2 < 24
      ·
       rw [if_pos c6] at H
       have c6b0 : decide (x5_2 < 24) = true := decide_eq_true c6
       clear c6
       replace H := Option.bind_eq_some_iff.mp H
       obtain ⟨t341, A70, H⟩ := H
       replace H : (if x3_2.length < 3518437208883 then (latchkeykit_LentTokensR.l1 k2 l0 (x3_2 ++ [(⟨(-7), t341, 0, 0⟩ : S37)]) (wrap64 (x5_2 + 1))) else (none)) = some r := H
       have A7 := Aside0.mk A70
       clear A70
       by_cases c8 : x3_2.length < 3518437208883
       ·
        rw [if_pos c8] at H
        have LMc8 := Aside0.mk c8
        clear c8
        obtain ⟨y342, hy342⟩ : ∃ y_ : List (S37), y_ = (x3_2 ++ [(⟨(-7), t341, 0, 0⟩ : S37)]) := ⟨_, rfl⟩
        replace H : (latchkeykit_LentTokensR.l1 k2 l0 y342 (wrap64 (x5_2 + 1))) = some r := by first | (rw [hy342]; with_reducible exact H) | (have H2_ := (Option.bind_some _ _).symm.trans H; rw [hy342]; with_reducible exact H2_) | (have H2_ := (Option.bind_some _ _).symm.trans H; with_reducible exact H2_) | with_reducible exact H | (rw [hy342]; exact H) | exact H
        have Ny342 := Aside0.mk hy342
        clear hy342
        have H' := Aside0.mk H
        clear H
        go_wp2_with (first | ((with_reducible refine gate_callee (f := 35) rfl ?_); refine goesL_ (some 25) rfl rfl Tryd.func35 (by kernel_rfl) rfl #[.int .i64 1, .int .i64 x5_2] rfl agq ?_; (with_reducible refine (latchkeykit_markText.calls 1 x5_2 t341 _ A7.out).mono ?_); rintro e w9 ⟨rfl, hb⟩; refine ⟨_, rfl, ?_⟩; have n0_ := Aside0.mk (Kd.R_below (rxq HO_3.out) hb); have n1_ := Aside0.mk (below_step bq hb); clear HO_3; clear HB; have HO_3 := n0_; have HB := n1_; clear n0_ n1_; (try clear hb); (try clear hb2); (try clear hk); (try clear hi)) | ((with_reducible refine gate_builtin (b := .append) (xs := #[.tmp 23, .tmp 27]) rfl ?_); at_builtin; refine Kd.R_append k37 (w0 := w) w.heap.size rfl (.tmp 23) (.tmp 27) 22 37 (.agg #[(.int .i64 0), (.string ⟨#[]⟩), (.int .i64 0), (.int .i64 0)]) 40 rfl Tryd.underlying22 info37 rfl (by decide) (by omega) u3 x3_2 (⟨(-7), t341, 0, 0⟩ : S37) [.int .i64 (-7), .string t341, .int .i64 0, .int .i64 0] (fun _ => True) (fun _ => False) rfl rfl ?aP (fun _ hk => hk.elim) ?aF ?aO ?aB ?aS ?aL ?_; (case aP => exact k37_mkM _ _ _ (⟨(-7), t341, 0, 0⟩ : S37)); (case aB => exact bq); (case aF => exact (fun _ _ => trivial)); (case aO => exact (rxq HO_3.out)); (case aS => exact (below_size bq)); (case aL => have := LMc8.out; omega); intro v343 w10 ho hb hg hat; rw [← Ny342.out] at ho; have n0_ := Aside0.mk (hb); have n1_ := Aside0.mk (ho); clear HB; clear HO_3; have HB := n0_; have HO344 := n1_; clear n0_ n1_; clear ho hb hg hat))
        go_roundg k2
        case measure => have := HK1.out; have := HK2.out; omega
        case rel => exact ⟨(y342), (wrap64 (x5_2 + 1)), (by first | rfl | (simp; done) | (simp [*]; done)), H', ⟨by have := HK1.out; have := HK2.out; omega⟩, ⟨rxq HO344.out⟩, ⟨bq⟩⟩
       ·
        rw [if_neg c8] at H
        exact absurd H (by simp)
      ·
       rw [if_neg c6] at H
       have c6b0 : decide (x5_2 < 24) = false := decide_eq_false c6
       clear c6
       by_cases c11 : 0 ≤ (l0.length : Int)
       ·
        rw [if_pos c11] at H
        have c11b0 := eq_true c11
        have c11b1 : decide (0 ≤ (l0.length : Int)) = true := decide_eq_true c11
        clear c11
        by_cases c12 : (l0.length : Int) ≤ (x3_2.length : Int)
        ·
         rw [if_pos c12] at H
         have c12b0 := eq_true c12
         have c12b1 : decide ((l0.length : Int) ≤ (x3_2.length : Int)) = true := decide_eq_true c12
         clear c12
         obtain rfl := Option.some.inj H
         obtain ⟨Ao13, co13, eo13⟩ := Kd.R_slice HO_3.out
         subst eo13
         have q14 : ((l0.length : Int) : Int) ≤ ((x3_2.length : Int) : Int) := of_decide_eq_true azq
         obtain ⟨i014, hi014, _, hsz14, _⟩ := info_parts info37
         have hcut14 := cut_to (P := Tryd.prog) 22 37 .i64 Tryd.underlying22 hi014 Ao13 x3_2.length co13 (l0.length : Int) (of_decide_eq_true azq) q14 (Kd.R_reads' HO_3.out).2.1
         rw [show ((l0.length : Int)).toNat = l0.length from Int.toNat_natCast _] at hcut14
         have hle14 : l0.length ≤ x3_2.length := by omega
         clear hi014 hsz14
         replace q14 := eq_true q14
         go_wp2
         go_ret
         exact ⟨Ao13, co13, by first | rfl | (simp [errW_none, errW_some] <;> rfl), by (with_reducible repeat (first | apply Kd.R_alloc | apply Kd.R_drewN | apply Kd.R_drew)); exact HO_3.out, bq⟩
        ·
         rw [if_neg c12] at H
         exact absurd H (by simp)
       ·
        rw [if_neg c11] at H
        exact absurd H (by simp)
attribute [local go_sem high] eqA37
theorem cut_cap {P : Program} (t e : TypeId) (kh : IntKind) {i : TypeInfo} (ht : P.underlying t = some (.slice e)) (hi : P.info? e = some i) (A : Option Addr) (n c : Nat) (j : Int) (h0 : 0 ≤ j) (hm : j ≤ c) :
  ∀ W : World, (Instr.slice t (.slice A n c) none (some (.int kh j)) none).run P W = .ok (.slice A j.toNat c) W := by
 intro W
 have hel : P.elem t = e := by simp [Program.elem, ht]
 have hu : P.underlying t = some (.slice (P.elem t)) := by rw [hel]; exact ht
 have ha : (A.map fun x => x.add 0) = A := by cases A <;> simp [Addr.add]
 rw [run_slice_h W t A n c hu kh j h0 (by omega), hel]
 simp [sizeOf, typeInfo, hi, sliced, Result.andThen, ha]
def latchkeykit_KeptTokensR.l0 : Nat → List (S37) → List (S37) → Int → Option (Bool)
 | 0, _, _, _ => none
 | k + 1, x1, x5, x6 => if x6 < (x5.length : Int) then (if x6 < (x1.length : Int) then (if 0 ≤ x6 then (if ((((rd_T37 x5 x6).f0) == ((rd_T37 x1 x6).f0) && ((((rd_T37 x5 x6).f1).toList) == (((rd_T37 x1 x6).f1).toList) && (((rd_T37 x5 x6).f2) == ((rd_T37 x1 x6).f2) && (((rd_T37 x5 x6).f3) == ((rd_T37 x1 x6).f3))))) = true) then (if x6 ≥ (x1.length : Int) then ((latchkeykit_markText.f 1 (wrap64 (x6 - (x1.length : Int)))).bind fun t441 => (if (!(((rd_T37 x5 x6).f0) == (-7)) || (!((((rd_T37 x5 x6).f1).toList) == t441.toList) || (!(((rd_T37 x5 x6).f2) == 0) || (!(((rd_T37 x5 x6).f3) == 0))))) = true then (some false) else (latchkeykit_KeptTokensR.l0 k x1 x5 (wrap64 (x6 + 1))))) else (latchkeykit_KeptTokensR.l0 k x1 x5 (wrap64 (x6 + 1)))) else (some false)) else (none)) else (if x6 ≥ (x1.length : Int) then (if 0 ≤ x6 then ((latchkeykit_markText.f 1 (wrap64 (x6 - (x1.length : Int)))).bind fun t443 => (if (!(((rd_T37 x5 x6).f0) == (-7)) || (!((((rd_T37 x5 x6).f1).toList) == t443.toList) || (!(((rd_T37 x5 x6).f2) == 0) || (!(((rd_T37 x5 x6).f3) == 0))))) = true then (some false) else (latchkeykit_KeptTokensR.l0 k x1 x5 (wrap64 (x6 + 1))))) else (none)) else (latchkeykit_KeptTokensR.l0 k x1 x5 (wrap64 (x6 + 1))))) else (some true)
def latchkeykit_KeptTokensR.f (k : Nat) (n0 : Nat) (l0 : List (S37)) (l1 : List (S37)) : Option (Bool) := if (n0 : Int) = (l1.length : Int) then (if 0 ≤ (wrap64 ((l1.length : Int) + 24)) then (if (wrap64 ((l1.length : Int) + 24)) ≤ (l0.length : Int) then (latchkeykit_KeptTokensR.l0 k l1 (l0.take ((wrap64 ((l1.length : Int) + 24)) : Int).toNat) 0) else (none)) else (none)) else (some false)
def latchkeykit_KeptTokensR.T7 : Bool × List (List Nat × List Nat) := (true, [([], []), ([], []), ([1], [1]), ([0, 2], [0, 2]), ([3], [3]), ([4], [4]), ([4], [4]), ([5, 6, 4], [4, 5, 6]), ([7, 4], [4, 7]), ([4], [4]), ([4], [4]), ([9, 10, 4], [4, 9, 10]), ([11, 4], [4, 11]), ([8, 12, 4], [4, 8, 12]), ([13, 4], [4, 13]), ([4, 14], [4, 14]), ([15, 4], [15]), ([16], [16]), ([16], [16]), ([18, 16], [16, 18]), ([17, 19, 16], [16, 17, 19]), ([20, 16, 16], [16, 20]), ([21], [21]), ([21], [21]), ([22, 23, 21], [21, 22, 23]), ([24, 21], [21, 24]), ([21], [21]), ([21], [21]), ([27, 21], [21, 27]), ([26, 28, 21], [21, 26, 28]), ([29, 21, 21], [21, 29]), ([30, 21], [21, 30]), ([25, 31, 21], [21, 25, 31]), ([21, 32, 16], [16, 21, 32]), ([16, 33], [16, 33])])
def latchkeykit_KeptTokensR.B7 : List Nat := [0, 0, 2, 7, 15, 31, 31, 127, 255, 31, 31, 1567, 3615, 8191, 16383, 32767, 65535, 131071, 131071, 393215, 1048575, 2097151, 4194303, 4194303, 16777215, 33554431, 4194303, 4194303, 138412031, 473956351, 1010827263, 2084569087, 4294967295, 8589934591, 17179869183]
theorem latchkeykit_KeptTokensR.tab7 : rtab .any (opsOf Tryd.f18 7) = latchkeykit_KeptTokensR.T7 := by kernel_rfl
theorem latchkeykit_KeptTokensR.bits7 : waitsOk latchkeykit_KeptTokensR.T7.2 latchkeykit_KeptTokensR.B7 = true := by kernel_rfl
set_option maxHeartbeats 8000000 in
set_option maxRecDepth 100000 in
theorem latchkeykit_KeptTokensR.calls (k : Nat) (A0 : Option Addr) (c0 : Nat) (n0 : Nat) (l0 : List (S37)) (A1 : Option Addr) (c1 : Nat) (l1 : List (S37)) (w : World) (hr0 : Kd.C k37 w A0 l0.length l0) (hc0 : l0.length ≤ c0) (hr1 : Kd.C k37 w A1 l1.length l1) (hc1 : l1.length ≤ c1) (h : latchkeykit_KeptTokensR.f k n0 l0 l1 = some true) :
  Calls Tryd.prog 18 #[.slice A0 n0 c0, .slice A1 l1.length c1] w fun e w' => e = .returned (.bool true) ∧ Below w.heap.size w w' := by
 have hu37 := Tryd.underlying37
 have HR0 := Aside0.mk hr0
 have HC0 := Aside0.mk hc0
 clear hr0 hc0
 have HR1 := Aside0.mk hr1
 have HC1 := Aside0.mk hc1
 clear hr1 hc1
 have HB := Aside0.mk (Below.refl w.heap.size w)
 have H : (if (n0 : Int) = (l1.length : Int) then (if 0 ≤ (wrap64 ((l1.length : Int) + 24)) then (if (wrap64 ((l1.length : Int) + 24)) ≤ (l0.length : Int) then (latchkeykit_KeptTokensR.l0 k l1 (l0.take ((wrap64 ((l1.length : Int) + 24)) : Int).toNat) 0) else (none)) else (none)) else (some false)) = some true := h
 clear h
 by_cases c3 : (n0 : Int) = (l1.length : Int)
 ·
  rw [if_pos c3] at H
  have c3b0 : ((n0 : Int) == (l1.length : Int)) = true := beq_iff_eq.mpr c3
  have c3b1 : ((n0 : Int) != (l1.length : Int)) = false := bne_eq_false_iff_eq.mpr c3
  have c3b2 : (n0 == l1.length) = true := by first | simpa using c3 | (simp at c3 ⊢; omega)
  clear c3
  obtain ⟨ji4, hji4⟩ : ∃ j_ : Int, (wrap64 ((l1.length : Int) + 24)) = j_ := ⟨_, rfl⟩
  replace H : (if 0 ≤ (ji4) then (if (ji4) ≤ (l0.length : Int) then (latchkeykit_KeptTokensR.l0 k l1 (l0.take ((ji4) : Int).toNat) 0) else (none)) else (none)) = some true := by first | (rw [hji4] at H; exact H) | (simp only [hji4] at H ⊢; exact H)
  have hji4w : (IntKind.i64.wrap ((l1.length : Int) + 24)) = ji4 := (i64_w _).trans hji4
  by_cases c5 : 0 ≤ (ji4)
  ·
   rw [if_pos c5] at H
   have c5b0 := eq_true c5
   have c5b1 : decide (0 ≤ (ji4)) = true := decide_eq_true c5
   clear c5
   by_cases c6 : (ji4) ≤ (l0.length : Int)
   ·
    rw [if_pos c6] at H
    have c6b0 := eq_true c6
    have c6b1 : decide ((ji4) ≤ (l0.length : Int)) = true := decide_eq_true c6
    clear c6
    obtain ⟨y434, hy434⟩ : ∃ y_ : List (S37), y_ = (l0.take ((ji4) : Int).toNat) := ⟨_, rfl⟩
    replace H : (latchkeykit_KeptTokensR.l0 k l1 y434 0) = some true := by first | (rw [hy434]; with_reducible exact H) | (have H2_ := (Option.bind_some _ _).symm.trans H; rw [hy434]; with_reducible exact H2_) | (have H2_ := (Option.bind_some _ _).symm.trans H; with_reducible exact H2_) | with_reducible exact H | (rw [hy434]; exact H) | exact H
    have Ny434 := Aside0.mk hy434
    clear hy434
    have H' := Aside0.mk H
    clear H
    have q7 : ((ji4) : Int) ≤ ((l0.length : Int) : Int) := of_decide_eq_true azq
    obtain ⟨i07, hi07, _, hsz7, _⟩ := info_parts info37
    have hroom7 : l0.length ≤ c0 := HC0.out
    have hC7 : Kd.C k37 _ A0 l0.length l0 := HR0.out
    have hcut7 := cut_cap (P := Tryd.prog) 22 37 .i64 Tryd.underlying22 hi07 A0 n0 c0 (ji4) (of_decide_eq_true azq) (by omega)
    have hr7 := Kd.C_take (m := ((ji4) : Int).toNat) hC7 (by omega)
    have hy7 : y434.length = ((ji4) : Int).toNat := (by rw [Ny434.out, List.length_take]; omega)
    rw [← Ny434.out] at hr7
    rw [← hy7] at hcut7
    have HR437 := Aside0.mk hr7
    have HC437 := Aside0.mk (show y434.length ≤ c0 from by omega)
    clear hr7 hC7 hroom7 hi07 hsz7
    have KY7 := Aside0.mk hy7
    clear hy7
    replace q7 := eq_true q7
    go_enter Tryd.func18, Tryd.ntmps18
    go_wp2
    go_loopg [6] k (fun kq v6 w' => ∃ (x6_1 : Int), v6 = .int .i64 x6_1 ∧ Aside0 (latchkeykit_KeptTokensR.l0 kq l1 y434 x6_1 = some true) ∧ Aside0 (kq ≤ k) ∧ Aside0 (Below w.heap.size w w'))
    case atStart => exact ⟨(0), (by first | rfl | (simp; done) | (simp [*]; done)), H', ⟨Nat.le_refl _⟩, ⟨bq⟩⟩
    case round =>
     clear H'
     (try clear c1); (try clear p2); (try clear c3); (try clear c3b0); (try clear c3b1); (try clear c3b2); (try clear c5); (try clear c5b0); (try clear c5b1); (try clear c6); (try clear c6b0); (try clear c6b1); (try clear p6); (try clear q7); (try clear q7)
     obtain ⟨x6_1, rfl, HA, HK1, HB⟩ := hrel
     cases gk with
     | zero => exact absurd HA.out (by simp [latchkeykit_KeptTokensR.l0])
     | succ k1 =>
      have H := HA.out
      clear HA
      simp only [latchkeykit_KeptTokensR.l0] at H
      by_cases c8 : x6_1 < (y434.length : Int)
      ·
       rw [if_pos c8] at H
       have c8b0 : decide (x6_1 < (y434.length : Int)) = true := decide_eq_true c8
       clear c8
       by_cases c9 : x6_1 < (l1.length : Int)
       ·
        rw [if_pos c9] at H
        have c9b0 : decide (x6_1 < (l1.length : Int)) = true := decide_eq_true c9
        clear c9
        by_cases c10 : 0 ≤ x6_1
        ·
         rw [if_pos c10] at H
         have c10b0 : decide (0 ≤ x6_1) = true := decide_eq_true c10
         clear c10
         by_cases c11 : ((((rd_T37 y434 x6_1).f0) == ((rd_T37 l1 x6_1).f0) && ((((rd_T37 y434 x6_1).f1).toList) == (((rd_T37 l1 x6_1).f1).toList) && (((rd_T37 y434 x6_1).f2) == ((rd_T37 l1 x6_1).f2) && (((rd_T37 y434 x6_1).f3) == ((rd_T37 l1 x6_1).f3))))) = true)
         ·
          rw [if_pos c11] at H
          have c11b0 : (((rd_T37 y434 x6_1).f0) == ((rd_T37 l1 x6_1).f0) && ((((rd_T37 y434 x6_1).f1).toList) == (((rd_T37 l1 x6_1).f1).toList) && (((rd_T37 y434 x6_1).f2) == ((rd_T37 l1 x6_1).f2) && (((rd_T37 y434 x6_1).f3) == ((rd_T37 l1 x6_1).f3))))) = true := c11
          (try (have c11b1 : decide (((rd_T37 y434 x6_1).f0) = ((rd_T37 l1 x6_1).f0) && ((((rd_T37 y434 x6_1).f1).toList) == (((rd_T37 l1 x6_1).f1).toList) && (((rd_T37 y434 x6_1).f2) == ((rd_T37 l1 x6_1).f2) && (((rd_T37 y434 x6_1).f3) == ((rd_T37 l1 x6_1).f3))))) = true := by simpa using c11))
          (try (have c11b2 : (((rd_T37 y434 x6_1).f0) == ((rd_T37 l1 x6_1).f0) && ((((rd_T37 y434 x6_1).f1).toList) == (((rd_T37 l1 x6_1).f1).toList) && (((rd_T37 y434 x6_1).f2) == ((rd_T37 l1 x6_1).f2) && (((rd_T37 y434 x6_1).f3) == ((rd_T37 l1 x6_1).f3))))) = true := by simpa using c11))
          clear c11
          by_cases c12 : x6_1 ≥ (l1.length : Int)
          ·
           exact absurd c12 (by have := of_decide_eq_true c9b0; omega)
          ·
           rw [if_neg c12] at H
           have c12b0 : decide ((l1.length : Int) ≤ x6_1) = false := decide_eq_false c12
           clear c12
           have H' := Aside0.mk H
           clear H
           try go_wp2
           have n0_ := Aside0.mk (below_drew1 HB.out)
           clear HB
           have HB := n0_
           clear n0_
           have p438 : 0 ≤ (x6_1 : Int) := of_decide_eq_true azq
           have q438 : x6_1 < (y434.length : Int) := of_decide_eq_true azq
           obtain ⟨ad438, e438, hx438_0, hx438_1, hx438_2, hx438_3⟩ := at_T37 HR437.out x6_1 p438 q438
           have hw438_3 := hx438_3
           have hw438_2 := hx438_2
           have hw438_1 := hx438_1
           have hw438_0 := hx438_0
           cases e438
           replace hx438_0 := (HB.out.cell (World.block_lt_of_cell? w _ hx438_0)).trans hx438_0
           replace hx438_1 := (HB.out.cell (World.block_lt_of_cell? w _ hx438_1)).trans hx438_1
           replace hx438_2 := (HB.out.cell (World.block_lt_of_cell? w _ hx438_2)).trans hx438_2
           replace hx438_3 := (HB.out.cell (World.block_lt_of_cell? w _ hx438_3)).trans hx438_3
           replace p438 := eq_true p438
           replace q438 := eq_true q438
           have p439 : 0 ≤ (x6_1 : Int) := of_decide_eq_true azq
           have q439 : x6_1 < (l1.length : Int) := of_decide_eq_true azq
           obtain ⟨ad439, e439, hx439_0, hx439_1, hx439_2, hx439_3⟩ := at_T37 HR1.out x6_1 p439 q439
           have hw439_3 := hx439_3
           have hw439_2 := hx439_2
           have hw439_1 := hx439_1
           have hw439_0 := hx439_0
           cases e439
           replace hx439_0 := (HB.out.cell (World.block_lt_of_cell? w _ hx439_0)).trans hx439_0
           replace hx439_1 := (HB.out.cell (World.block_lt_of_cell? w _ hx439_1)).trans hx439_1
           replace hx439_2 := (HB.out.cell (World.block_lt_of_cell? w _ hx439_2)).trans hx439_2
           replace hx439_3 := (HB.out.cell (World.block_lt_of_cell? w _ hx439_3)).trans hx439_3
           replace p439 := eq_true p439
           replace q439 := eq_true q439
           refine start_ (n := 35) (S := fun w' => w'.cell? (ad438.add ((x6_1).toNat * 4)) = some (.int .i64 ((rd_T37 y434 x6_1).f0)) ∧ w'.cell? ⟨(ad438.add ((x6_1).toNat * 4)).block, (ad438.add ((x6_1).toNat * 4)).off + 1, none⟩ = some (.string ((rd_T37 y434 x6_1).f1)) ∧ w'.cell? ⟨(ad438.add ((x6_1).toNat * 4)).block, (ad438.add ((x6_1).toNat * 4)).off + 2, none⟩ = some (.int .i64 ((rd_T37 y434 x6_1).f2)) ∧ w'.cell? ⟨(ad438.add ((x6_1).toNat * 4)).block, (ad438.add ((x6_1).toNat * 4)).off + 3, none⟩ = some (.int .i64 ((rd_T37 y434 x6_1).f3)) ∧ w'.cell? (ad439.add ((x6_1).toNat * 4)) = some (.int .i64 ((rd_T37 l1 x6_1).f0)) ∧ w'.cell? ⟨(ad439.add ((x6_1).toNat * 4)).block, (ad439.add ((x6_1).toNat * 4)).off + 1, none⟩ = some (.string ((rd_T37 l1 x6_1).f1)) ∧ w'.cell? ⟨(ad439.add ((x6_1).toNat * 4)).block, (ad439.add ((x6_1).toNat * 4)).off + 2, none⟩ = some (.int .i64 ((rd_T37 l1 x6_1).f2)) ∧ w'.cell? ⟨(ad439.add ((x6_1).toNat * 4)).block, (ad439.add ((x6_1).toNat * 4)).off + 3, none⟩ = some (.int .i64 ((rd_T37 l1 x6_1).f3))) (ds := []) #[nq,nq,nq,nq,nq,nq,nq,nq,nq,nq,nq,nq,nq,nq,nq,nq,nq,nq,nq,nq,nq,nq,nq,nq,nq,nq,nq,nq,nq,nq,nq,nq,nq,nq,nq] (by kernel_rfl) rfl rfl ⟨((HB.out.cell (World.block_lt_of_cell? w _ hw438_0)).trans hw438_0), ((HB.out.cell (World.block_lt_of_cell? w _ hw438_1)).trans hw438_1), ((HB.out.cell (World.block_lt_of_cell? w _ hw438_2)).trans hw438_2), ((HB.out.cell (World.block_lt_of_cell? w _ hw438_3)).trans hw438_3), ((HB.out.cell (World.block_lt_of_cell? w _ hw439_0)).trans hw439_0), ((HB.out.cell (World.block_lt_of_cell? w _ hw439_1)).trans hw439_1), ((HB.out.cell (World.block_lt_of_cell? w _ hw439_2)).trans hw439_2), ((HB.out.cell (World.block_lt_of_cell? w _ hw439_3)).trans hw439_3)⟩ (fun hHeld => ?_); refine with_tabW latchkeykit_KeptTokensR.tab7 latchkeykit_KeptTokensR.bits7 (fun HT_ HW_ => ?_)
           generalize wr.drew = w19 at HB hx438_0 hx438_1 hx438_2 hx438_3 hx439_0 hx439_1 hx439_2 hx439_3 hHeld ⊢
           refine pure_ (i := 0) (N := some 23) (v := ?_) (a' := ?_) #[yq,nq,nq,nq,nq,nq,nq,nq,nq,nq,nq,nq,nq,nq,nq,nq,nq,nq,nq,nq,nq,nq,nq,nq,nq,nq,nq,nq,nq,nq,nq,nq,nq,nq,nq] rfl rfl (any_of HT_.out (by kernel_rfl)) (fun _ _ _ h => h) (Or.inl ⟨by rfl, ?_⟩) ?_ ?_
           rotate_left
           ·
            intro w'
            go_simp
            with_reducible rfl
           rotate_left
           ·
            simp only [Act.put, List.setIfInBounds_toArray, List.set_cons_zero, List.set_cons_succ, i64_w, i32_w]
            rfl
           refine pure_ (i := 1) (N := some 24) (v := ?_) (a' := ?_) #[yq,yq,nq,nq,nq,nq,nq,nq,nq,nq,nq,nq,nq,nq,nq,nq,nq,nq,nq,nq,nq,nq,nq,nq,nq,nq,nq,nq,nq,nq,nq,nq,nq,nq,nq] rfl rfl (any_of HT_.out (by kernel_rfl)) (fun _ _ _ h => h) (Or.inl ⟨by rfl, ?_⟩) ?_ ?_
           rotate_left
           ·
            intro w'
            go_simp
            with_reducible rfl
           rotate_left
           ·
            simp only [Act.put, List.setIfInBounds_toArray, List.set_cons_zero, List.set_cons_succ, i64_w, i32_w]
            rfl
           refine pure_ (i := 2) (N := some 25) (v := ?_) (a' := ?_) #[yq,yq,yq,nq,nq,nq,nq,nq,nq,nq,nq,nq,nq,nq,nq,nq,nq,nq,nq,nq,nq,nq,nq,nq,nq,nq,nq,nq,nq,nq,nq,nq,nq,nq,nq] rfl rfl (any_of HT_.out (by kernel_rfl)) (fun _ _ _ h => h) (Or.inl ⟨by rfl, ?_⟩) ?_ ?_
           rotate_left
           ·
            intro w'
            go_simp
            with_reducible rfl
           rotate_left
           ·
            simp only [Act.put, List.setIfInBounds_toArray, List.set_cons_zero, List.set_cons_succ, i64_w, i32_w]
            rfl
           refine pure_ (i := 3) (N := some 26) (v := ?_) (a' := ?_) #[yq,yq,yq,yq,nq,nq,nq,nq,nq,nq,nq,nq,nq,nq,nq,nq,nq,nq,nq,nq,nq,nq,nq,nq,nq,nq,nq,nq,nq,nq,nq,nq,nq,nq,nq] rfl rfl (any_of HT_.out (by kernel_rfl)) (fun _ _ _ h => h) (Or.inl ⟨by rfl, ?_⟩) ?_ ?_
           rotate_left
           ·
            intro w'
            go_simp
            with_reducible rfl
           rotate_left
           ·
            simp only [Act.put, List.setIfInBounds_toArray, List.set_cons_zero, List.set_cons_succ, i64_w, i32_w]
            rfl
           refine pure_ (i := 4) (N := some 27) (v := ?_) (a' := ?_) #[yq,yq,yq,yq,yq,nq,nq,nq,nq,nq,nq,nq,nq,nq,nq,nq,nq,nq,nq,nq,nq,nq,nq,nq,nq,nq,nq,nq,nq,nq,nq,nq,nq,nq,nq] rfl rfl (any_of HT_.out (by kernel_rfl)) (fun _ _ _ h => h) (Or.inl ⟨by rfl, ?_⟩) ?_ ?_
           rotate_left
           ·
            intro w'
            go_simp
            with_reducible rfl
           rotate_left
           ·
            simp only [Act.put, List.setIfInBounds_toArray, List.set_cons_zero, List.set_cons_succ, i64_w, i32_w]
            rfl
           refine pure_ (i := 5) (N := some 28) (v := ?_) (a' := ?_) #[yq,yq,yq,yq,yq,yq,nq,nq,nq,nq,nq,nq,nq,nq,nq,nq,nq,nq,nq,nq,nq,nq,nq,nq,nq,nq,nq,nq,nq,nq,nq,nq,nq,nq,nq] rfl rfl (any_of HT_.out (by kernel_rfl)) (fun _ _ _ h => h) (Or.inl ⟨by rfl, ?_⟩) ?_ ?_
           rotate_left
           ·
            intro w'
            go_simp
            with_reducible rfl
           rotate_left
           ·
            simp only [Act.put, List.setIfInBounds_toArray, List.set_cons_zero, List.set_cons_succ, i64_w, i32_w]
            rfl
           refine pure_ (i := 6) (N := some 29) (v := ?_) (a' := ?_) #[yq,yq,yq,yq,yq,yq,yq,nq,nq,nq,nq,nq,nq,nq,nq,nq,nq,nq,nq,nq,nq,nq,nq,nq,nq,nq,nq,nq,nq,nq,nq,nq,nq,nq,nq] rfl rfl (any_of HT_.out (by kernel_rfl)) (fun _ _ _ h => h) (Or.inl ⟨by rfl, ?_⟩) ?_ ?_
           rotate_left
           ·
            intro w'
            go_simp
            with_reducible rfl
           rotate_left
           ·
            simp only [Act.put, List.setIfInBounds_toArray, List.set_cons_zero, List.set_cons_succ, i64_w, i32_w]
            rfl
           refine pure_ (i := 7) (N := some 30) (v := ?_) (a' := ?_) #[yq,yq,yq,yq,yq,yq,yq,yq,nq,nq,nq,nq,nq,nq,nq,nq,nq,nq,nq,nq,nq,nq,nq,nq,nq,nq,nq,nq,nq,nq,nq,nq,nq,nq,nq] rfl rfl (any_of HT_.out (by kernel_rfl)) (fun _ _ _ h => h) (Or.inl ⟨by rfl, ?_⟩) ?_ ?_
           rotate_left
           ·
            intro w'
            go_simp
            with_reducible rfl
           rotate_left
           ·
            simp only [Act.put, List.setIfInBounds_toArray, List.set_cons_zero, List.set_cons_succ, i64_w, i32_w]
            rfl
           refine pure_ (i := 9) (N := some 32) (v := ?_) (a' := ?_) #[yq,yq,yq,yq,yq,yq,yq,yq,nq,yq,nq,nq,nq,nq,nq,nq,nq,nq,nq,nq,nq,nq,nq,nq,nq,nq,nq,nq,nq,nq,nq,nq,nq,nq,nq] rfl rfl (any_of HT_.out (by kernel_rfl)) (fun _ _ _ h => h) (Or.inl ⟨by rfl, ?_⟩) ?_ ?_
           rotate_left
           ·
            intro w'
            go_simp
            with_reducible rfl
           rotate_left
           ·
            simp only [Act.put, List.setIfInBounds_toArray, List.set_cons_zero, List.set_cons_succ, i64_w, i32_w]
            rfl
           refine pure_ (i := 10) (N := some 33) (v := ?_) (a' := ?_) #[yq,yq,yq,yq,yq,yq,yq,yq,nq,yq,yq,nq,nq,nq,nq,nq,nq,nq,nq,nq,nq,nq,nq,nq,nq,nq,nq,nq,nq,nq,nq,nq,nq,nq,nq] rfl rfl (any_of HT_.out (by kernel_rfl)) (fun _ _ _ h => h) (Or.inl ⟨by rfl, ?_⟩) ?_ ?_
           rotate_left
           ·
            intro w'
            go_simp
            with_reducible rfl
           rotate_left
           ·
            simp only [Act.put, List.setIfInBounds_toArray, List.set_cons_zero, List.set_cons_succ, i64_w, i32_w]
            rfl
           refine pure_ (i := 11) (N := some 34) (v := ?_) (a' := ?_) #[yq,yq,yq,yq,yq,yq,yq,yq,nq,yq,yq,yq,nq,nq,nq,nq,nq,nq,nq,nq,nq,nq,nq,nq,nq,nq,nq,nq,nq,nq,nq,nq,nq,nq,nq] rfl rfl (any_of HT_.out (by kernel_rfl)) (fun _ _ _ h => h) (Or.inl ⟨by rfl, ?_⟩) ?_ ?_
           rotate_left
           ·
            intro w'
            go_simp
            with_reducible rfl
           rotate_left
           ·
            simp only [Act.put, List.setIfInBounds_toArray, List.set_cons_zero, List.set_cons_succ, i64_w, i32_w]
            rfl
           refine take_ (i := 8) (N := some 31) (v := ?_) (a' := ?_) #[yq,yq,yq,yq,yq,yq,yq,yq,yq,yq,yq,yq,nq,nq,nq,nq,nq,nq,nq,nq,nq,nq,nq,nq,nq,nq,nq,nq,nq,nq,nq,nq,nq,nq,nq] rfl rfl (take_ofW HT_.out HW_.out (by kernel_rfl)) (fun _ _ _ h => h) (Or.inl ⟨by rfl, ?_⟩) hHeld ?_ ?_
           rotate_left
           ·
            rintro w' ⟨s0, s1, s2, s3, s4, s5, s6, s7⟩
            go_simp
            with_reducible rfl
           rotate_left
           ·
            simp only [Act.put, List.setIfInBounds_toArray, List.set_cons_zero, List.set_cons_succ, i64_w, i32_w]
            rfl
           refine take_ (i := 12) (N := some 35) (v := ?_) (a' := ?_) #[yq,yq,yq,yq,yq,yq,yq,yq,yq,yq,yq,yq,yq,nq,nq,nq,nq,nq,nq,nq,nq,nq,nq,nq,nq,nq,nq,nq,nq,nq,nq,nq,nq,nq,nq] rfl rfl (take_ofW HT_.out HW_.out (by kernel_rfl)) (fun _ _ _ h => h) (Or.inl ⟨by rfl, ?_⟩) hHeld ?_ ?_
           rotate_left
           ·
            rintro w' ⟨s0, s1, s2, s3, s4, s5, s6, s7⟩
            go_simp
            with_reducible rfl
           rotate_left
           ·
            simp only [Act.put, List.setIfInBounds_toArray, List.set_cons_zero, List.set_cons_succ, i64_w, i32_w]
            rfl
           refine pure_ (i := 13) (N := some 36) (v := ?_) (a' := ?_) #[yq,yq,yq,yq,yq,yq,yq,yq,yq,yq,yq,yq,yq,yq,nq,nq,nq,nq,nq,nq,nq,nq,nq,nq,nq,nq,nq,nq,nq,nq,nq,nq,nq,nq,nq] rfl rfl (any_of HT_.out (by kernel_rfl)) (fun _ _ _ h => h) (Or.inl ⟨by rfl, ?_⟩) ?_ ?_
           rotate_left
           ·
            intro w'
            go_simp
            with_reducible rfl
           rotate_left
           ·
            simp only [Act.put, List.setIfInBounds_toArray, List.set_cons_zero, List.set_cons_succ, i64_w, i32_w]
            rfl
           refine pure_ (i := 14) (N := some 37) (v := ?_) (a' := ?_) #[yq,yq,yq,yq,yq,yq,yq,yq,yq,yq,yq,yq,yq,yq,yq,nq,nq,nq,nq,nq,nq,nq,nq,nq,nq,nq,nq,nq,nq,nq,nq,nq,nq,nq,nq] rfl rfl (any_of HT_.out (by kernel_rfl)) (fun _ _ _ h => h) (Or.inl ⟨by rfl, ?_⟩) ?_ ?_
           rotate_left
           ·
            intro w'
            go_simp
            with_reducible rfl
           rotate_left
           ·
            simp only [Act.put, List.setIfInBounds_toArray, List.set_cons_zero, List.set_cons_succ, i64_w, i32_w]
            rfl
           refine pure_ (i := 15) (N := some 38) (v := ?_) (a' := ?_) #[yq,yq,yq,yq,yq,yq,yq,yq,yq,yq,yq,yq,yq,yq,yq,yq,nq,nq,nq,nq,nq,nq,nq,nq,nq,nq,nq,nq,nq,nq,nq,nq,nq,nq,nq] rfl rfl (any_of HT_.out (by kernel_rfl)) (fun _ _ _ h => h) (Or.inl ⟨by rfl, ?_⟩) ?_ ?_
           rotate_left
           ·
            intro w'
            go_simp
            with_reducible rfl
           rotate_left
           ·
            simp only [Act.put, List.setIfInBounds_toArray, List.set_cons_zero, List.set_cons_succ, i64_w, i32_w]
            rfl
           refine pure_ (i := 16) (N := some 39) (v := ?_) (a' := ?_) #[yq,yq,yq,yq,yq,yq,yq,yq,yq,yq,yq,yq,yq,yq,yq,yq,yq,nq,nq,nq,nq,nq,nq,nq,nq,nq,nq,nq,nq,nq,nq,nq,nq,nq,nq] rfl rfl (any_of HT_.out (by kernel_rfl)) (fun _ _ _ h => h) (Or.inl ⟨by rfl, ?_⟩) ?_ ?_
           rotate_left
           ·
            intro w'
            go_simp
            with_reducible rfl
           rotate_left
           ·
            simp only [Act.put, List.setIfInBounds_toArray, List.set_cons_zero, List.set_cons_succ, i64_w, i32_w]
            rfl
           refine pure_ (i := 17) (N := some 40) (v := ?_) (a' := ?_) #[yq,yq,yq,yq,yq,yq,yq,yq,yq,yq,yq,yq,yq,yq,yq,yq,yq,yq,nq,nq,nq,nq,nq,nq,nq,nq,nq,nq,nq,nq,nq,nq,nq,nq,nq] rfl rfl (any_of HT_.out (by kernel_rfl)) (fun _ _ _ h => h) (Or.inl ⟨by rfl, ?_⟩) ?_ ?_
           rotate_left
           ·
            intro w'
            go_simp
            with_reducible rfl
           rotate_left
           ·
            simp only [Act.put, List.setIfInBounds_toArray, List.set_cons_zero, List.set_cons_succ, i64_w, i32_w]
            rfl
           refine pure_ (i := 18) (N := some 41) (v := ?_) (a' := ?_) #[yq,yq,yq,yq,yq,yq,yq,yq,yq,yq,yq,yq,yq,yq,yq,yq,yq,yq,yq,nq,nq,nq,nq,nq,nq,nq,nq,nq,nq,nq,nq,nq,nq,nq,nq] rfl rfl (any_of HT_.out (by kernel_rfl)) (fun _ _ _ h => h) (Or.inl ⟨by rfl, ?_⟩) ?_ ?_
           rotate_left
           ·
            intro w'
            go_simp
            with_reducible rfl
           rotate_left
           ·
            simp only [Act.put, List.setIfInBounds_toArray, List.set_cons_zero, List.set_cons_succ, i64_w, i32_w]
            rfl
           refine pure_ (i := 19) (N := some 42) (v := ?_) (a' := ?_) #[yq,yq,yq,yq,yq,yq,yq,yq,yq,yq,yq,yq,yq,yq,yq,yq,yq,yq,yq,yq,nq,nq,nq,nq,nq,nq,nq,nq,nq,nq,nq,nq,nq,nq,nq] rfl rfl (any_of HT_.out (by kernel_rfl)) (fun _ _ _ h => h) (Or.inl ⟨by rfl, ?_⟩) ?_ ?_
           rotate_left
           ·
            intro w'
            go_simp
            with_reducible rfl
           rotate_left
           ·
            simp only [Act.put, List.setIfInBounds_toArray, List.set_cons_zero, List.set_cons_succ, i64_w, i32_w]
            rfl
           refine pure_ (i := 20) (N := some 43) (v := ?_) (a' := ?_) #[yq,yq,yq,yq,yq,yq,yq,yq,yq,yq,yq,yq,yq,yq,yq,yq,yq,yq,yq,yq,yq,nq,nq,nq,nq,nq,nq,nq,nq,nq,nq,nq,nq,nq,nq] rfl rfl (any_of HT_.out (by kernel_rfl)) (fun _ _ _ h => h) (Or.inl ⟨by rfl, ?_⟩) ?_ ?_
           rotate_left
           ·
            intro w'
            go_simp
            with_reducible rfl
           rotate_left
           ·
            simp only [Act.put, List.setIfInBounds_toArray, List.set_cons_zero, List.set_cons_succ, i64_w, i32_w]
            rfl
           refine pure_ (i := 21) (N := some 44) (v := ?_) (a' := ?_) #[yq,yq,yq,yq,yq,yq,yq,yq,yq,yq,yq,yq,yq,yq,yq,yq,yq,yq,yq,yq,yq,yq,nq,nq,nq,nq,nq,nq,nq,nq,nq,nq,nq,nq,nq] rfl rfl (any_of HT_.out (by kernel_rfl)) (fun _ _ _ h => h) (Or.inl ⟨by rfl, ?_⟩) ?_ ?_
           rotate_left
           ·
            intro w'
            go_simp
            with_reducible rfl
           rotate_left
           ·
            simp only [Act.put, List.setIfInBounds_toArray, List.set_cons_zero, List.set_cons_succ, i64_w, i32_w]
            rfl
           refine pure_ (i := 22) (N := some 45) (v := undef) (a' := ?_) #[yq,yq,yq,yq,yq,yq,yq,yq,yq,yq,yq,yq,yq,yq,yq,yq,yq,yq,yq,yq,yq,yq,yq,nq,nq,nq,nq,nq,nq,nq,nq,nq,nq,nq,nq] rfl rfl (any_of HT_.out (by kernel_rfl)) (fun _ _ _ h => h) (Or.inr ⟨by rfl, rfl⟩) ?_ ?_
           rotate_left
           ·
            simp only [Act.put, List.setIfInBounds_toArray, List.set_cons_zero, List.set_cons_succ, i64_w, i32_w]
            rfl
           refine pure_ (i := 23) (N := some 46) (v := undef) (a' := ?_) #[yq,yq,yq,yq,yq,yq,yq,yq,yq,yq,yq,yq,yq,yq,yq,yq,yq,yq,yq,yq,yq,yq,yq,yq,nq,nq,nq,nq,nq,nq,nq,nq,nq,nq,nq] rfl rfl (any_of HT_.out (by kernel_rfl)) (fun _ _ _ h => h) (Or.inr ⟨by rfl, rfl⟩) ?_ ?_
           rotate_left
           ·
            simp only [Act.put, List.setIfInBounds_toArray, List.set_cons_zero, List.set_cons_succ, i64_w, i32_w]
            rfl
           refine pure_ (i := 24) (N := some 47) (v := undef) (a' := ?_) #[yq,yq,yq,yq,yq,yq,yq,yq,yq,yq,yq,yq,yq,yq,yq,yq,yq,yq,yq,yq,yq,yq,yq,yq,yq,nq,nq,nq,nq,nq,nq,nq,nq,nq,nq] rfl rfl (any_of HT_.out (by kernel_rfl)) (fun _ _ _ h => h) (Or.inr ⟨by rfl, rfl⟩) ?_ ?_
           rotate_left
           ·
            simp only [Act.put, List.setIfInBounds_toArray, List.set_cons_zero, List.set_cons_succ, i64_w, i32_w]
            rfl
           refine pure_ (i := 25) (N := some 48) (v := undef) (a' := ?_) #[yq,yq,yq,yq,yq,yq,yq,yq,yq,yq,yq,yq,yq,yq,yq,yq,yq,yq,yq,yq,yq,yq,yq,yq,yq,yq,nq,nq,nq,nq,nq,nq,nq,nq,nq] rfl rfl (any_of HT_.out (by kernel_rfl)) (fun _ _ _ h => h) (Or.inr ⟨by rfl, rfl⟩) ?_ ?_
           rotate_left
           ·
            simp only [Act.put, List.setIfInBounds_toArray, List.set_cons_zero, List.set_cons_succ, i64_w, i32_w]
            rfl
           refine pure_ (i := 26) (N := some 49) (v := undef) (a' := ?_) #[yq,yq,yq,yq,yq,yq,yq,yq,yq,yq,yq,yq,yq,yq,yq,yq,yq,yq,yq,yq,yq,yq,yq,yq,yq,yq,yq,nq,nq,nq,nq,nq,nq,nq,nq] rfl rfl (any_of HT_.out (by kernel_rfl)) (fun _ _ _ h => h) (Or.inr ⟨by rfl, rfl⟩) ?_ ?_
           rotate_left
           ·
            simp only [Act.put, List.setIfInBounds_toArray, List.set_cons_zero, List.set_cons_succ, i64_w, i32_w]
            rfl
           refine pure_ (i := 27) (N := some 50) (v := undef) (a' := ?_) #[yq,yq,yq,yq,yq,yq,yq,yq,yq,yq,yq,yq,yq,yq,yq,yq,yq,yq,yq,yq,yq,yq,yq,yq,yq,yq,yq,yq,nq,nq,nq,nq,nq,nq,nq] rfl rfl (any_of HT_.out (by kernel_rfl)) (fun _ _ _ h => h) (Or.inr ⟨by rfl, rfl⟩) ?_ ?_
           rotate_left
           ·
            simp only [Act.put, List.setIfInBounds_toArray, List.set_cons_zero, List.set_cons_succ, i64_w, i32_w]
            rfl
           refine pure_ (i := 28) (N := some 51) (v := undef) (a' := ?_) #[yq,yq,yq,yq,yq,yq,yq,yq,yq,yq,yq,yq,yq,yq,yq,yq,yq,yq,yq,yq,yq,yq,yq,yq,yq,yq,yq,yq,yq,nq,nq,nq,nq,nq,nq] rfl rfl (any_of HT_.out (by kernel_rfl)) (fun _ _ _ h => h) (Or.inr ⟨by rfl, rfl⟩) ?_ ?_
           rotate_left
           ·
            simp only [Act.put, List.setIfInBounds_toArray, List.set_cons_zero, List.set_cons_succ, i64_w, i32_w]
            rfl
           refine pure_ (i := 29) (N := some 52) (v := undef) (a' := ?_) #[yq,yq,yq,yq,yq,yq,yq,yq,yq,yq,yq,yq,yq,yq,yq,yq,yq,yq,yq,yq,yq,yq,yq,yq,yq,yq,yq,yq,yq,yq,nq,nq,nq,nq,nq] rfl rfl (any_of HT_.out (by kernel_rfl)) (fun _ _ _ h => h) (Or.inr ⟨by rfl, rfl⟩) ?_ ?_
           rotate_left
           ·
            simp only [Act.put, List.setIfInBounds_toArray, List.set_cons_zero, List.set_cons_succ, i64_w, i32_w]
            rfl
           refine pure_ (i := 30) (N := some 53) (v := undef) (a' := ?_) #[yq,yq,yq,yq,yq,yq,yq,yq,yq,yq,yq,yq,yq,yq,yq,yq,yq,yq,yq,yq,yq,yq,yq,yq,yq,yq,yq,yq,yq,yq,yq,nq,nq,nq,nq] rfl rfl (any_of HT_.out (by kernel_rfl)) (fun _ _ _ h => h) (Or.inr ⟨by rfl, rfl⟩) ?_ ?_
           rotate_left
           ·
            simp only [Act.put, List.setIfInBounds_toArray, List.set_cons_zero, List.set_cons_succ, i64_w, i32_w]
            rfl
           refine pure_ (i := 31) (N := some 54) (v := undef) (a' := ?_) #[yq,yq,yq,yq,yq,yq,yq,yq,yq,yq,yq,yq,yq,yq,yq,yq,yq,yq,yq,yq,yq,yq,yq,yq,yq,yq,yq,yq,yq,yq,yq,yq,nq,nq,nq] rfl rfl (any_of HT_.out (by kernel_rfl)) (fun _ _ _ h => h) (Or.inr ⟨by rfl, rfl⟩) ?_ ?_
           rotate_left
           ·
            simp only [Act.put, List.setIfInBounds_toArray, List.set_cons_zero, List.set_cons_succ, i64_w, i32_w]
            rfl
           refine pure_ (i := 32) (N := some 55) (v := undef) (a' := ?_) #[yq,yq,yq,yq,yq,yq,yq,yq,yq,yq,yq,yq,yq,yq,yq,yq,yq,yq,yq,yq,yq,yq,yq,yq,yq,yq,yq,yq,yq,yq,yq,yq,yq,nq,nq] rfl rfl (any_of HT_.out (by kernel_rfl)) (fun _ _ _ h => h) (Or.inr ⟨by rfl, rfl⟩) ?_ ?_
           rotate_left
           ·
            simp only [Act.put, List.setIfInBounds_toArray, List.set_cons_zero, List.set_cons_succ, i64_w, i32_w]
            rfl
           refine pure_ (i := 33) (N := some 56) (v := ?_) (a' := ?_) #[yq,yq,yq,yq,yq,yq,yq,yq,yq,yq,yq,yq,yq,yq,yq,yq,yq,yq,yq,yq,yq,yq,yq,yq,yq,yq,yq,yq,yq,yq,yq,yq,yq,yq,nq] rfl rfl (any_of HT_.out (by kernel_rfl)) (fun _ _ _ h => h) (Or.inl ⟨by rfl, ?_⟩) ?_ ?_
           rotate_left
           ·
            intro w'
            go_simp
            with_reducible rfl
           rotate_left
           ·
            simp only [Act.put, List.setIfInBounds_toArray, List.set_cons_zero, List.set_cons_succ, i64_w, i32_w]
            rfl
           refine pure_ (i := 34) (N := some 57) (v := ?_) (a' := ?_) #[yq,yq,yq,yq,yq,yq,yq,yq,yq,yq,yq,yq,yq,yq,yq,yq,yq,yq,yq,yq,yq,yq,yq,yq,yq,yq,yq,yq,yq,yq,yq,yq,yq,yq,yq] rfl rfl (any_of HT_.out (by kernel_rfl)) (fun _ _ _ h => h) (Or.inl ⟨by rfl, ?_⟩) ?_ ?_
           rotate_left
           ·
            intro w'
            go_simp
            with_reducible rfl
           rotate_left
           ·
            simp only [Act.put, List.setIfInBounds_toArray, List.set_cons_zero, List.set_cons_succ, i64_w, i32_w]
            rfl
           refine done_ (done_of HT_.out (by kernel_rfl)) ?_
           try go_wp2
           go_roundg k1
           case measure => have := HK1.out; omega
           case rel => exact ⟨(wrap64 (x6_1 + 1)), (by first | rfl | (simp; done) | (simp [*]; done)), H', ⟨by have := HK1.out; omega⟩, ⟨bq⟩⟩
         ·
          rw [if_neg c11] at H
          have c11b0 : (((rd_T37 y434 x6_1).f0) == ((rd_T37 l1 x6_1).f0) && ((((rd_T37 y434 x6_1).f1).toList) == (((rd_T37 l1 x6_1).f1).toList) && (((rd_T37 y434 x6_1).f2) == ((rd_T37 l1 x6_1).f2) && (((rd_T37 y434 x6_1).f3) == ((rd_T37 l1 x6_1).f3))))) = false := by simpa using c11
          (try (have c11b1 : decide (((rd_T37 y434 x6_1).f0) = ((rd_T37 l1 x6_1).f0) && ((((rd_T37 y434 x6_1).f1).toList) == (((rd_T37 l1 x6_1).f1).toList) && (((rd_T37 y434 x6_1).f2) == ((rd_T37 l1 x6_1).f2) && (((rd_T37 y434 x6_1).f3) == ((rd_T37 l1 x6_1).f3))))) = false := by simpa using c11))
          (try (have c11b2 : (((rd_T37 y434 x6_1).f0) == ((rd_T37 l1 x6_1).f0) && ((((rd_T37 y434 x6_1).f1).toList) == (((rd_T37 l1 x6_1).f1).toList) && (((rd_T37 y434 x6_1).f2) == ((rd_T37 l1 x6_1).f2) && (((rd_T37 y434 x6_1).f3) == ((rd_T37 l1 x6_1).f3))))) = false := by simpa using c11))
          (try (have c11b3 : ¬ (((rd_T37 y434 x6_1).f0) = ((rd_T37 l1 x6_1).f0) && ((((rd_T37 y434 x6_1).f1).toList) == (((rd_T37 l1 x6_1).f1).toList) && (((rd_T37 y434 x6_1).f2) == ((rd_T37 l1 x6_1).f2) && (((rd_T37 y434 x6_1).f3) == ((rd_T37 l1 x6_1).f3))))) := by simpa using c11))
          clear c11
          exact absurd H (by simp)
        ·
         rw [if_neg c10] at H
         exact absurd H (by simp)
       ·
        rw [if_neg c9] at H
        have c9b0 : decide (x6_1 < (l1.length : Int)) = false := decide_eq_false c9
        clear c9
        by_cases c21 : x6_1 ≥ (l1.length : Int)
        ·
         rw [if_pos c21] at H
         have c21b0 : decide ((l1.length : Int) ≤ x6_1) = true := decide_eq_true c21
         clear c21
         by_cases c22 : 0 ≤ x6_1
         ·
          rw [if_pos c22] at H
          have c22b0 : decide (0 ≤ x6_1) = true := decide_eq_true c22
          clear c22
          replace H := Option.bind_eq_some_iff.mp H
          obtain ⟨t443, A230, H⟩ := H
          replace H : (if (!(((rd_T37 y434 x6_1).f0) == (-7)) || (!((((rd_T37 y434 x6_1).f1).toList) == t443.toList) || (!(((rd_T37 y434 x6_1).f2) == 0) || (!(((rd_T37 y434 x6_1).f3) == 0))))) = true then (some false) else (latchkeykit_KeptTokensR.l0 k1 l1 y434 (wrap64 (x6_1 + 1)))) = some true := H
          have A23 := Aside0.mk A230
          clear A230
          by_cases c24 : (!(((rd_T37 y434 x6_1).f0) == (-7)) || (!((((rd_T37 y434 x6_1).f1).toList) == t443.toList) || (!(((rd_T37 y434 x6_1).f2) == 0) || (!(((rd_T37 y434 x6_1).f3) == 0))))) = true
          ·
           rw [if_pos c24] at H
           have c24b0 : (!(((rd_T37 y434 x6_1).f0) == (-7)) || (!((((rd_T37 y434 x6_1).f1).toList) == t443.toList) || (!(((rd_T37 y434 x6_1).f2) == 0) || (!(((rd_T37 y434 x6_1).f3) == 0))))) = true := c24
           clear c24
           exact absurd H (by simp)
          ·
           rw [if_neg c24] at H
           have c24b0 : (!(((rd_T37 y434 x6_1).f0) == (-7)) || (!((((rd_T37 y434 x6_1).f1).toList) == t443.toList) || (!(((rd_T37 y434 x6_1).f2) == 0) || (!(((rd_T37 y434 x6_1).f3) == 0))))) = false := by simpa using c24
           clear c24
           have H' := Aside0.mk H
           clear H
           try go_wp2
           have n0_ := Aside0.mk (below_drew1 HB.out)
           clear HB
           have HB := n0_
           clear n0_
           have p442 : 0 ≤ (x6_1 : Int) := of_decide_eq_true azq
           have q442 : x6_1 < (y434.length : Int) := of_decide_eq_true azq
           obtain ⟨ad442, e442, hx442_0, hx442_1, hx442_2, hx442_3⟩ := at_T37 HR437.out x6_1 p442 q442
           have hw442_3 := hx442_3
           have hw442_2 := hx442_2
           have hw442_1 := hx442_1
           have hw442_0 := hx442_0
           cases e442
           replace hx442_0 := (HB.out.cell (World.block_lt_of_cell? w _ hx442_0)).trans hx442_0
           replace hx442_1 := (HB.out.cell (World.block_lt_of_cell? w _ hx442_1)).trans hx442_1
           replace hx442_2 := (HB.out.cell (World.block_lt_of_cell? w _ hx442_2)).trans hx442_2
           replace hx442_3 := (HB.out.cell (World.block_lt_of_cell? w _ hx442_3)).trans hx442_3
           replace p442 := eq_true p442
           replace q442 := eq_true q442
           refine start_ (n := 35) (S := fun w' => w'.cell? (ad442.add ((x6_1).toNat * 4)) = some (.int .i64 ((rd_T37 y434 x6_1).f0)) ∧ w'.cell? ⟨(ad442.add ((x6_1).toNat * 4)).block, (ad442.add ((x6_1).toNat * 4)).off + 1, none⟩ = some (.string ((rd_T37 y434 x6_1).f1)) ∧ w'.cell? ⟨(ad442.add ((x6_1).toNat * 4)).block, (ad442.add ((x6_1).toNat * 4)).off + 2, none⟩ = some (.int .i64 ((rd_T37 y434 x6_1).f2)) ∧ w'.cell? ⟨(ad442.add ((x6_1).toNat * 4)).block, (ad442.add ((x6_1).toNat * 4)).off + 3, none⟩ = some (.int .i64 ((rd_T37 y434 x6_1).f3))) (ds := []) #[nq,nq,nq,nq,nq,nq,nq,nq,nq,nq,nq,nq,nq,nq,nq,nq,nq,nq,nq,nq,nq,nq,nq,nq,nq,nq,nq,nq,nq,nq,nq,nq,nq,nq,nq] (by kernel_rfl) rfl rfl ⟨((HB.out.cell (World.block_lt_of_cell? w _ hw442_0)).trans hw442_0), ((HB.out.cell (World.block_lt_of_cell? w _ hw442_1)).trans hw442_1), ((HB.out.cell (World.block_lt_of_cell? w _ hw442_2)).trans hw442_2), ((HB.out.cell (World.block_lt_of_cell? w _ hw442_3)).trans hw442_3)⟩ (fun hHeld => ?_); refine with_tabW latchkeykit_KeptTokensR.tab7 latchkeykit_KeptTokensR.bits7 (fun HT_ HW_ => ?_)
           generalize wr.drew = w27 at HB hx442_0 hx442_1 hx442_2 hx442_3 hHeld ⊢
           refine pure_ (i := 0) (N := some 23) (v := ?_) (a' := ?_) #[yq,nq,nq,nq,nq,nq,nq,nq,nq,nq,nq,nq,nq,nq,nq,nq,nq,nq,nq,nq,nq,nq,nq,nq,nq,nq,nq,nq,nq,nq,nq,nq,nq,nq,nq] rfl rfl (any_of HT_.out (by kernel_rfl)) (fun _ _ _ h => h) (Or.inl ⟨by rfl, ?_⟩) ?_ ?_
           rotate_left
           ·
            intro w'
            go_simp
            with_reducible rfl
           rotate_left
           ·
            simp only [Act.put, List.setIfInBounds_toArray, List.set_cons_zero, List.set_cons_succ, i64_w, i32_w]
            rfl
           refine pure_ (i := 1) (N := some 24) (v := ?_) (a' := ?_) #[yq,yq,nq,nq,nq,nq,nq,nq,nq,nq,nq,nq,nq,nq,nq,nq,nq,nq,nq,nq,nq,nq,nq,nq,nq,nq,nq,nq,nq,nq,nq,nq,nq,nq,nq] rfl rfl (any_of HT_.out (by kernel_rfl)) (fun _ _ _ h => h) (Or.inl ⟨by rfl, ?_⟩) ?_ ?_
           rotate_left
           ·
            intro w'
            go_simp
            with_reducible rfl
           rotate_left
           ·
            simp only [Act.put, List.setIfInBounds_toArray, List.set_cons_zero, List.set_cons_succ, i64_w, i32_w]
            rfl
           refine pure_ (i := 2) (N := some 25) (v := ?_) (a' := ?_) #[yq,yq,yq,nq,nq,nq,nq,nq,nq,nq,nq,nq,nq,nq,nq,nq,nq,nq,nq,nq,nq,nq,nq,nq,nq,nq,nq,nq,nq,nq,nq,nq,nq,nq,nq] rfl rfl (any_of HT_.out (by kernel_rfl)) (fun _ _ _ h => h) (Or.inl ⟨by rfl, ?_⟩) ?_ ?_
           rotate_left
           ·
            intro w'
            go_simp
            with_reducible rfl
           rotate_left
           ·
            simp only [Act.put, List.setIfInBounds_toArray, List.set_cons_zero, List.set_cons_succ, i64_w, i32_w]
            rfl
           refine pure_ (i := 3) (N := some 26) (v := ?_) (a' := ?_) #[yq,yq,yq,yq,nq,nq,nq,nq,nq,nq,nq,nq,nq,nq,nq,nq,nq,nq,nq,nq,nq,nq,nq,nq,nq,nq,nq,nq,nq,nq,nq,nq,nq,nq,nq] rfl rfl (any_of HT_.out (by kernel_rfl)) (fun _ _ _ h => h) (Or.inl ⟨by rfl, ?_⟩) ?_ ?_
           rotate_left
           ·
            intro w'
            go_simp
            with_reducible rfl
           rotate_left
           ·
            simp only [Act.put, List.setIfInBounds_toArray, List.set_cons_zero, List.set_cons_succ, i64_w, i32_w]
            rfl
           refine pure_ (i := 4) (N := some 27) (v := ?_) (a' := ?_) #[yq,yq,yq,yq,yq,nq,nq,nq,nq,nq,nq,nq,nq,nq,nq,nq,nq,nq,nq,nq,nq,nq,nq,nq,nq,nq,nq,nq,nq,nq,nq,nq,nq,nq,nq] rfl rfl (any_of HT_.out (by kernel_rfl)) (fun _ _ _ h => h) (Or.inl ⟨by rfl, ?_⟩) ?_ ?_
           rotate_left
           ·
            intro w'
            go_simp
            with_reducible rfl
           rotate_left
           ·
            simp only [Act.put, List.setIfInBounds_toArray, List.set_cons_zero, List.set_cons_succ, i64_w, i32_w]
            rfl
           refine pure_ (i := 5) (N := some 28) (v := undef) (a' := ?_) #[yq,yq,yq,yq,yq,yq,nq,nq,nq,nq,nq,nq,nq,nq,nq,nq,nq,nq,nq,nq,nq,nq,nq,nq,nq,nq,nq,nq,nq,nq,nq,nq,nq,nq,nq] rfl rfl (any_of HT_.out (by kernel_rfl)) (fun _ _ _ h => h) (Or.inr ⟨by rfl, rfl⟩) ?_ ?_
           rotate_left
           ·
            simp only [Act.put, List.setIfInBounds_toArray, List.set_cons_zero, List.set_cons_succ, i64_w, i32_w]
            rfl
           refine pure_ (i := 6) (N := some 29) (v := undef) (a' := ?_) #[yq,yq,yq,yq,yq,yq,yq,nq,nq,nq,nq,nq,nq,nq,nq,nq,nq,nq,nq,nq,nq,nq,nq,nq,nq,nq,nq,nq,nq,nq,nq,nq,nq,nq,nq] rfl rfl (any_of HT_.out (by kernel_rfl)) (fun _ _ _ h => h) (Or.inr ⟨by rfl, rfl⟩) ?_ ?_
           rotate_left
           ·
            simp only [Act.put, List.setIfInBounds_toArray, List.set_cons_zero, List.set_cons_succ, i64_w, i32_w]
            rfl
           refine pure_ (i := 7) (N := some 30) (v := undef) (a' := ?_) #[yq,yq,yq,yq,yq,yq,yq,yq,nq,nq,nq,nq,nq,nq,nq,nq,nq,nq,nq,nq,nq,nq,nq,nq,nq,nq,nq,nq,nq,nq,nq,nq,nq,nq,nq] rfl rfl (any_of HT_.out (by kernel_rfl)) (fun _ _ _ h => h) (Or.inr ⟨by rfl, rfl⟩) ?_ ?_
           rotate_left
           ·
            simp only [Act.put, List.setIfInBounds_toArray, List.set_cons_zero, List.set_cons_succ, i64_w, i32_w]
            rfl
           refine pure_ (i := 8) (N := some 31) (v := undef) (a' := ?_) #[yq,yq,yq,yq,yq,yq,yq,yq,yq,nq,nq,nq,nq,nq,nq,nq,nq,nq,nq,nq,nq,nq,nq,nq,nq,nq,nq,nq,nq,nq,nq,nq,nq,nq,nq] rfl rfl (any_of HT_.out (by kernel_rfl)) (fun _ _ _ h => h) (Or.inr ⟨by rfl, rfl⟩) ?_ ?_
           rotate_left
           ·
            simp only [Act.put, List.setIfInBounds_toArray, List.set_cons_zero, List.set_cons_succ, i64_w, i32_w]
            rfl
           refine pure_ (i := 9) (N := some 32) (v := undef) (a' := ?_) #[yq,yq,yq,yq,yq,yq,yq,yq,yq,yq,nq,nq,nq,nq,nq,nq,nq,nq,nq,nq,nq,nq,nq,nq,nq,nq,nq,nq,nq,nq,nq,nq,nq,nq,nq] rfl rfl (any_of HT_.out (by kernel_rfl)) (fun _ _ _ h => h) (Or.inr ⟨by rfl, rfl⟩) ?_ ?_
           rotate_left
           ·
            simp only [Act.put, List.setIfInBounds_toArray, List.set_cons_zero, List.set_cons_succ, i64_w, i32_w]
            rfl
           refine pure_ (i := 10) (N := some 33) (v := undef) (a' := ?_) #[yq,yq,yq,yq,yq,yq,yq,yq,yq,yq,yq,nq,nq,nq,nq,nq,nq,nq,nq,nq,nq,nq,nq,nq,nq,nq,nq,nq,nq,nq,nq,nq,nq,nq,nq] rfl rfl (any_of HT_.out (by kernel_rfl)) (fun _ _ _ h => h) (Or.inr ⟨by rfl, rfl⟩) ?_ ?_
           rotate_left
           ·
            simp only [Act.put, List.setIfInBounds_toArray, List.set_cons_zero, List.set_cons_succ, i64_w, i32_w]
            rfl
           refine pure_ (i := 11) (N := some 34) (v := undef) (a' := ?_) #[yq,yq,yq,yq,yq,yq,yq,yq,yq,yq,yq,yq,nq,nq,nq,nq,nq,nq,nq,nq,nq,nq,nq,nq,nq,nq,nq,nq,nq,nq,nq,nq,nq,nq,nq] rfl rfl (any_of HT_.out (by kernel_rfl)) (fun _ _ _ h => h) (Or.inr ⟨by rfl, rfl⟩) ?_ ?_
           rotate_left
           ·
            simp only [Act.put, List.setIfInBounds_toArray, List.set_cons_zero, List.set_cons_succ, i64_w, i32_w]
            rfl
           refine pure_ (i := 12) (N := some 35) (v := undef) (a' := ?_) #[yq,yq,yq,yq,yq,yq,yq,yq,yq,yq,yq,yq,yq,nq,nq,nq,nq,nq,nq,nq,nq,nq,nq,nq,nq,nq,nq,nq,nq,nq,nq,nq,nq,nq,nq] rfl rfl (any_of HT_.out (by kernel_rfl)) (fun _ _ _ h => h) (Or.inr ⟨by rfl, rfl⟩) ?_ ?_
           rotate_left
           ·
            simp only [Act.put, List.setIfInBounds_toArray, List.set_cons_zero, List.set_cons_succ, i64_w, i32_w]
            rfl
           refine pure_ (i := 13) (N := some 36) (v := undef) (a' := ?_) #[yq,yq,yq,yq,yq,yq,yq,yq,yq,yq,yq,yq,yq,yq,nq,nq,nq,nq,nq,nq,nq,nq,nq,nq,nq,nq,nq,nq,nq,nq,nq,nq,nq,nq,nq] rfl rfl (any_of HT_.out (by kernel_rfl)) (fun _ _ _ h => h) (Or.inr ⟨by rfl, rfl⟩) ?_ ?_
           rotate_left
           ·
            simp only [Act.put, List.setIfInBounds_toArray, List.set_cons_zero, List.set_cons_succ, i64_w, i32_w]
            rfl
           refine pure_ (i := 14) (N := some 37) (v := undef) (a' := ?_) #[yq,yq,yq,yq,yq,yq,yq,yq,yq,yq,yq,yq,yq,yq,yq,nq,nq,nq,nq,nq,nq,nq,nq,nq,nq,nq,nq,nq,nq,nq,nq,nq,nq,nq,nq] rfl rfl (any_of HT_.out (by kernel_rfl)) (fun _ _ _ h => h) (Or.inr ⟨by rfl, rfl⟩) ?_ ?_
           rotate_left
           ·
            simp only [Act.put, List.setIfInBounds_toArray, List.set_cons_zero, List.set_cons_succ, i64_w, i32_w]
            rfl
           refine pure_ (i := 15) (N := some 38) (v := ?_) (a' := ?_) #[yq,yq,yq,yq,yq,yq,yq,yq,yq,yq,yq,yq,yq,yq,yq,yq,nq,nq,nq,nq,nq,nq,nq,nq,nq,nq,nq,nq,nq,nq,nq,nq,nq,nq,nq] rfl rfl (any_of HT_.out (by kernel_rfl)) (fun _ _ _ h => h) (Or.inl ⟨by rfl, ?_⟩) ?_ ?_
           rotate_left
           ·
            intro w'
            go_simp
            with_reducible rfl
           rotate_left
           ·
            simp only [Act.put, List.setIfInBounds_toArray, List.set_cons_zero, List.set_cons_succ, i64_w, i32_w]
            rfl
           refine pure_ (i := 16) (N := some 39) (v := ?_) (a' := ?_) #[yq,yq,yq,yq,yq,yq,yq,yq,yq,yq,yq,yq,yq,yq,yq,yq,yq,nq,nq,nq,nq,nq,nq,nq,nq,nq,nq,nq,nq,nq,nq,nq,nq,nq,nq] rfl rfl (any_of HT_.out (by kernel_rfl)) (fun _ _ _ h => h) (Or.inl ⟨by rfl, ?_⟩) ?_ ?_
           rotate_left
           ·
            intro w'
            go_simp
            with_reducible rfl
           rotate_left
           ·
            simp only [Act.put, List.setIfInBounds_toArray, List.set_cons_zero, List.set_cons_succ, i64_w, i32_w]
            rfl
           refine pure_ (i := 17) (N := some 40) (v := ?_) (a' := ?_) #[yq,yq,yq,yq,yq,yq,yq,yq,yq,yq,yq,yq,yq,yq,yq,yq,yq,yq,nq,nq,nq,nq,nq,nq,nq,nq,nq,nq,nq,nq,nq,nq,nq,nq,nq] rfl rfl (any_of HT_.out (by kernel_rfl)) (fun _ _ _ h => h) (Or.inl ⟨by rfl, ?_⟩) ?_ ?_
           rotate_left
           ·
            intro w'
            go_simp
            with_reducible rfl
           rotate_left
           ·
            simp only [Act.put, List.setIfInBounds_toArray, List.set_cons_zero, List.set_cons_succ, i64_w, i32_w]
            rfl
           refine pure_ (i := 18) (N := some 41) (v := ?_) (a' := ?_) #[yq,yq,yq,yq,yq,yq,yq,yq,yq,yq,yq,yq,yq,yq,yq,yq,yq,yq,yq,nq,nq,nq,nq,nq,nq,nq,nq,nq,nq,nq,nq,nq,nq,nq,nq] rfl rfl (any_of HT_.out (by kernel_rfl)) (fun _ _ _ h => h) (Or.inl ⟨by rfl, ?_⟩) ?_ ?_
           rotate_left
           ·
            intro w'
            go_simp
            with_reducible rfl
           rotate_left
           ·
            simp only [Act.put, List.setIfInBounds_toArray, List.set_cons_zero, List.set_cons_succ, i64_w, i32_w]
            rfl
           refine pure_ (i := 19) (N := some 42) (v := ?_) (a' := ?_) #[yq,yq,yq,yq,yq,yq,yq,yq,yq,yq,yq,yq,yq,yq,yq,yq,yq,yq,yq,yq,nq,nq,nq,nq,nq,nq,nq,nq,nq,nq,nq,nq,nq,nq,nq] rfl rfl (any_of HT_.out (by kernel_rfl)) (fun _ _ _ h => h) (Or.inl ⟨by rfl, ?_⟩) ?_ ?_
           rotate_left
           ·
            intro w'
            go_simp
            with_reducible rfl
           rotate_left
           ·
            simp only [Act.put, List.setIfInBounds_toArray, List.set_cons_zero, List.set_cons_succ, i64_w, i32_w]
            rfl
           refine pure_ (i := 20) (N := some 43) (v := ?_) (a' := ?_) #[yq,yq,yq,yq,yq,yq,yq,yq,yq,yq,yq,yq,yq,yq,yq,yq,yq,yq,yq,yq,yq,nq,nq,nq,nq,nq,nq,nq,nq,nq,nq,nq,nq,nq,nq] rfl rfl (any_of HT_.out (by kernel_rfl)) (fun _ _ _ h => h) (Or.inl ⟨by rfl, ?_⟩) ?_ ?_
           rotate_left
           ·
            intro w'
            go_simp
            with_reducible rfl
           rotate_left
           ·
            simp only [Act.put, List.setIfInBounds_toArray, List.set_cons_zero, List.set_cons_succ, i64_w, i32_w]
            rfl
           refine pure_ (i := 21) (N := some 44) (v := ?_) (a' := ?_) #[yq,yq,yq,yq,yq,yq,yq,yq,yq,yq,yq,yq,yq,yq,yq,yq,yq,yq,yq,yq,yq,yq,nq,nq,nq,nq,nq,nq,nq,nq,nq,nq,nq,nq,nq] rfl rfl (any_of HT_.out (by kernel_rfl)) (fun _ _ _ h => h) (Or.inl ⟨by rfl, ?_⟩) ?_ ?_
           rotate_left
           ·
            intro w'
            go_simp
            with_reducible rfl
           rotate_left
           ·
            simp only [Act.put, List.setIfInBounds_toArray, List.set_cons_zero, List.set_cons_succ, i64_w, i32_w]
            rfl
           refine pure_ (i := 22) (N := some 45) (v := ?_) (a' := ?_) #[yq,yq,yq,yq,yq,yq,yq,yq,yq,yq,yq,yq,yq,yq,yq,yq,yq,yq,yq,yq,yq,yq,yq,nq,nq,nq,nq,nq,nq,nq,nq,nq,nq,nq,nq] rfl rfl (any_of HT_.out (by kernel_rfl)) (fun _ _ _ h => h) (Or.inl ⟨by rfl, ?_⟩) ?_ ?_
           rotate_left
           ·
            intro w'
            go_simp
            with_reducible rfl
           rotate_left
           ·
            simp only [Act.put, List.setIfInBounds_toArray, List.set_cons_zero, List.set_cons_succ, i64_w, i32_w]
            rfl
           refine pure_ (i := 23) (N := some 46) (v := ?_) (a' := ?_) #[yq,yq,yq,yq,yq,yq,yq,yq,yq,yq,yq,yq,yq,yq,yq,yq,yq,yq,yq,yq,yq,yq,yq,yq,nq,nq,nq,nq,nq,nq,nq,nq,nq,nq,nq] rfl rfl (any_of HT_.out (by kernel_rfl)) (fun _ _ _ h => h) (Or.inl ⟨by rfl, ?_⟩) ?_ ?_
           rotate_left
           ·
            intro w'
            go_simp
            with_reducible rfl
           rotate_left
           ·
            simp only [Act.put, List.setIfInBounds_toArray, List.set_cons_zero, List.set_cons_succ, i64_w, i32_w]
            rfl
           refine pure_ (i := 24) (N := some 47) (v := ?_) (a' := ?_) #[yq,yq,yq,yq,yq,yq,yq,yq,yq,yq,yq,yq,yq,yq,yq,yq,yq,yq,yq,yq,yq,yq,yq,yq,yq,nq,nq,nq,nq,nq,nq,nq,nq,nq,nq] rfl rfl (any_of HT_.out (by kernel_rfl)) (fun _ _ _ h => h) (Or.inl ⟨by rfl, ?_⟩) ?_ ?_
           rotate_left
           ·
            intro w'
            go_simp
            with_reducible rfl
           rotate_left
           ·
            simp only [Act.put, List.setIfInBounds_toArray, List.set_cons_zero, List.set_cons_succ, i64_w, i32_w]
            rfl
           refine pure_ (i := 26) (N := some 49) (v := ?_) (a' := ?_) #[yq,yq,yq,yq,yq,yq,yq,yq,yq,yq,yq,yq,yq,yq,yq,yq,yq,yq,yq,yq,yq,yq,yq,yq,yq,nq,yq,nq,nq,nq,nq,nq,nq,nq,nq] rfl rfl (any_of HT_.out (by kernel_rfl)) (fun _ _ _ h => h) (Or.inl ⟨by rfl, ?_⟩) ?_ ?_
           rotate_left
           ·
            intro w'
            go_simp
            with_reducible rfl
           rotate_left
           ·
            simp only [Act.put, List.setIfInBounds_toArray, List.set_cons_zero, List.set_cons_succ, i64_w, i32_w]
            rfl
           refine pure_ (i := 27) (N := some 50) (v := ?_) (a' := ?_) #[yq,yq,yq,yq,yq,yq,yq,yq,yq,yq,yq,yq,yq,yq,yq,yq,yq,yq,yq,yq,yq,yq,yq,yq,yq,nq,yq,yq,nq,nq,nq,nq,nq,nq,nq] rfl rfl (any_of HT_.out (by kernel_rfl)) (fun _ _ _ h => h) (Or.inl ⟨by rfl, ?_⟩) ?_ ?_
           rotate_left
           ·
            intro w'
            go_simp
            with_reducible rfl
           rotate_left
           ·
            simp only [Act.put, List.setIfInBounds_toArray, List.set_cons_zero, List.set_cons_succ, i64_w, i32_w]
            rfl
           refine pure_ (i := 28) (N := some 51) (v := ?_) (a' := ?_) #[yq,yq,yq,yq,yq,yq,yq,yq,yq,yq,yq,yq,yq,yq,yq,yq,yq,yq,yq,yq,yq,yq,yq,yq,yq,nq,yq,yq,yq,nq,nq,nq,nq,nq,nq] rfl rfl (any_of HT_.out (by kernel_rfl)) (fun _ _ _ h => h) (Or.inl ⟨by rfl, ?_⟩) ?_ ?_
           rotate_left
           ·
            intro w'
            go_simp
            with_reducible rfl
           rotate_left
           ·
            simp only [Act.put, List.setIfInBounds_toArray, List.set_cons_zero, List.set_cons_succ, i64_w, i32_w]
            rfl
           refine pure_ (i := 29) (N := some 52) (v := ?_) (a' := ?_) #[yq,yq,yq,yq,yq,yq,yq,yq,yq,yq,yq,yq,yq,yq,yq,yq,yq,yq,yq,yq,yq,yq,yq,yq,yq,nq,yq,yq,yq,yq,nq,nq,nq,nq,nq] rfl rfl (any_of HT_.out (by kernel_rfl)) (fun _ _ _ h => h) (Or.inl ⟨by rfl, ?_⟩) ?_ ?_
           rotate_left
           ·
            intro w'
            go_simp
            with_reducible rfl
           rotate_left
           ·
            simp only [Act.put, List.setIfInBounds_toArray, List.set_cons_zero, List.set_cons_succ, i64_w, i32_w]
            rfl
           refine take_ (i := 25) (N := some 48) (v := ?_) (a' := ?_) #[yq,yq,yq,yq,yq,yq,yq,yq,yq,yq,yq,yq,yq,yq,yq,yq,yq,yq,yq,yq,yq,yq,yq,yq,yq,yq,yq,yq,yq,yq,nq,nq,nq,nq,nq] rfl rfl (take_ofW HT_.out HW_.out (by kernel_rfl)) (fun _ _ _ h => h) (Or.inl ⟨by rfl, ?_⟩) hHeld ?_ ?_
           rotate_left
           ·
            rintro w' ⟨s0, s1, s2, s3⟩
            go_simp
            with_reducible rfl
           rotate_left
           ·
            simp only [Act.put, List.setIfInBounds_toArray, List.set_cons_zero, List.set_cons_succ, i64_w, i32_w]
            rfl
           refine one_ (i := 30) (N := some 53) #[yq,yq,yq,yq,yq,yq,yq,yq,yq,yq,yq,yq,yq,yq,yq,yq,yq,yq,yq,yq,yq,yq,yq,yq,yq,yq,yq,yq,yq,yq,yq,nq,nq,nq,nq] rfl rfl (one_of HT_.out (by kernel_rfl)) (by decide) (fun K hK => ?_)
           refine goes_ Tryd.func35 (by kernel_rfl) rfl #[.int .i64 1, .int .i64 (wrap64 (x6_1 - (l1.length : Int)))] (by rfl) rfl rfl agq ?_
           with_reducible refine (latchkeykit_markText.calls 1 (wrap64 (x6_1 - (l1.length : Int))) t443 _ A23.out).mono ?_
           rintro e w28 ⟨rfl, hb⟩
           refine ⟨_, rfl, ?_⟩
           have n0_ := Aside0.mk (below_step bq hb)
           clear HB
           have HB := n0_
           clear n0_
           (try clear hb)
           (try clear hb2)
           (try clear hk)
           (try clear hi)
           refine hK.out _ _ ⟨((HB.out.cell (World.block_lt_of_cell? w _ hw442_0)).trans hw442_0), ((HB.out.cell (World.block_lt_of_cell? w _ hw442_1)).trans hw442_1), ((HB.out.cell (World.block_lt_of_cell? w _ hw442_2)).trans hw442_2), ((HB.out.cell (World.block_lt_of_cell? w _ hw442_3)).trans hw442_3)⟩ (fun hHeld => ?_)
           clear hK K
           refine norm_ (a' := ?_) ?_ ?_
           rotate_left
           ·
            show Act.put _ (some 53) _ = _
            simp only [Act.put, List.setIfInBounds_toArray, List.set_cons_zero, List.set_cons_succ, i64_w, i32_w]
            rfl
           refine pure_ (i := 31) (N := some 54) (v := ?_) (a' := ?_) #[yq,yq,yq,yq,yq,yq,yq,yq,yq,yq,yq,yq,yq,yq,yq,yq,yq,yq,yq,yq,yq,yq,yq,yq,yq,yq,yq,yq,yq,yq,yq,yq,nq,nq,nq] rfl rfl (any_of HT_.out (by kernel_rfl)) (fun _ _ _ h => h) (Or.inl ⟨by rfl, ?_⟩) ?_ ?_
           rotate_left
           ·
            intro w'
            go_simp
            with_reducible rfl
           rotate_left
           ·
            simp only [Act.put, List.setIfInBounds_toArray, List.set_cons_zero, List.set_cons_succ, i64_w, i32_w]
            rfl
           refine pure_ (i := 32) (N := some 55) (v := ?_) (a' := ?_) #[yq,yq,yq,yq,yq,yq,yq,yq,yq,yq,yq,yq,yq,yq,yq,yq,yq,yq,yq,yq,yq,yq,yq,yq,yq,yq,yq,yq,yq,yq,yq,yq,yq,nq,nq] rfl rfl (any_of HT_.out (by kernel_rfl)) (fun _ _ _ h => h) (Or.inl ⟨by rfl, ?_⟩) ?_ ?_
           rotate_left
           ·
            intro w'
            go_simp
            with_reducible rfl
           rotate_left
           ·
            simp only [Act.put, List.setIfInBounds_toArray, List.set_cons_zero, List.set_cons_succ, i64_w, i32_w]
            rfl
           refine pure_ (i := 33) (N := some 56) (v := ?_) (a' := ?_) #[yq,yq,yq,yq,yq,yq,yq,yq,yq,yq,yq,yq,yq,yq,yq,yq,yq,yq,yq,yq,yq,yq,yq,yq,yq,yq,yq,yq,yq,yq,yq,yq,yq,yq,nq] rfl rfl (any_of HT_.out (by kernel_rfl)) (fun _ _ _ h => h) (Or.inl ⟨by rfl, ?_⟩) ?_ ?_
           rotate_left
           ·
            intro w'
            go_simp
            with_reducible rfl
           rotate_left
           ·
            simp only [Act.put, List.setIfInBounds_toArray, List.set_cons_zero, List.set_cons_succ, i64_w, i32_w]
            rfl
           refine pure_ (i := 34) (N := some 57) (v := ?_) (a' := ?_) #[yq,yq,yq,yq,yq,yq,yq,yq,yq,yq,yq,yq,yq,yq,yq,yq,yq,yq,yq,yq,yq,yq,yq,yq,yq,yq,yq,yq,yq,yq,yq,yq,yq,yq,yq] rfl rfl (any_of HT_.out (by kernel_rfl)) (fun _ _ _ h => h) (Or.inl ⟨by rfl, ?_⟩) ?_ ?_
           rotate_left
           ·
            intro w'
            go_simp
            with_reducible rfl
           rotate_left
           ·
            simp only [Act.put, List.setIfInBounds_toArray, List.set_cons_zero, List.set_cons_succ, i64_w, i32_w]
            rfl
           refine done_ (done_of HT_.out (by kernel_rfl)) ?_
           try go_wp2
           go_roundg k1
           case measure => have := HK1.out; omega
           case rel => exact ⟨(wrap64 (x6_1 + 1)), (by first | rfl | (simp; done) | (simp [*]; done)), H', ⟨by have := HK1.out; omega⟩, ⟨bq⟩⟩
         ·
          rw [if_neg c22] at H
          exact absurd H (by simp)
        ·
         rw [if_neg c21] at H
         have c21b0 : decide ((l1.length : Int) ≤ x6_1) = false := decide_eq_false c21
         clear c21
         have H' := Aside0.mk H
         clear H
         try go_wp2
         have n0_ := Aside0.mk (below_drew1 HB.out)
         clear HB
         have HB := n0_
         clear n0_
         refine start_ (n := 35) (S := fun w' => True) (ds := []) #[nq,nq,nq,nq,nq,nq,nq,nq,nq,nq,nq,nq,nq,nq,nq,nq,nq,nq,nq,nq,nq,nq,nq,nq,nq,nq,nq,nq,nq,nq,nq,nq,nq,nq,nq] (by kernel_rfl) rfl rfl trivial (fun hHeld => ?_); refine with_tabW latchkeykit_KeptTokensR.tab7 latchkeykit_KeptTokensR.bits7 (fun HT_ HW_ => ?_)
         generalize wr.drew = w29 at HB hHeld ⊢
         refine pure_ (i := 0) (N := some 23) (v := ?_) (a' := ?_) #[yq,nq,nq,nq,nq,nq,nq,nq,nq,nq,nq,nq,nq,nq,nq,nq,nq,nq,nq,nq,nq,nq,nq,nq,nq,nq,nq,nq,nq,nq,nq,nq,nq,nq,nq] rfl rfl (any_of HT_.out (by kernel_rfl)) (fun _ _ _ h => h) (Or.inl ⟨by rfl, ?_⟩) ?_ ?_
         rotate_left
         ·
          intro w'
          go_simp
          with_reducible rfl
         rotate_left
         ·
          simp only [Act.put, List.setIfInBounds_toArray, List.set_cons_zero, List.set_cons_succ, i64_w, i32_w]
          rfl
         refine pure_ (i := 1) (N := some 24) (v := ?_) (a' := ?_) #[yq,yq,nq,nq,nq,nq,nq,nq,nq,nq,nq,nq,nq,nq,nq,nq,nq,nq,nq,nq,nq,nq,nq,nq,nq,nq,nq,nq,nq,nq,nq,nq,nq,nq,nq] rfl rfl (any_of HT_.out (by kernel_rfl)) (fun _ _ _ h => h) (Or.inl ⟨by rfl, ?_⟩) ?_ ?_
         rotate_left
         ·
          intro w'
          go_simp
          with_reducible rfl
         rotate_left
         ·
          simp only [Act.put, List.setIfInBounds_toArray, List.set_cons_zero, List.set_cons_succ, i64_w, i32_w]
          rfl
         refine pure_ (i := 2) (N := some 25) (v := ?_) (a' := ?_) #[yq,yq,yq,nq,nq,nq,nq,nq,nq,nq,nq,nq,nq,nq,nq,nq,nq,nq,nq,nq,nq,nq,nq,nq,nq,nq,nq,nq,nq,nq,nq,nq,nq,nq,nq] rfl rfl (any_of HT_.out (by kernel_rfl)) (fun _ _ _ h => h) (Or.inl ⟨by rfl, ?_⟩) ?_ ?_
         rotate_left
         ·
          intro w'
          go_simp
          with_reducible rfl
         rotate_left
         ·
          simp only [Act.put, List.setIfInBounds_toArray, List.set_cons_zero, List.set_cons_succ, i64_w, i32_w]
          rfl
         refine pure_ (i := 3) (N := some 26) (v := ?_) (a' := ?_) #[yq,yq,yq,yq,nq,nq,nq,nq,nq,nq,nq,nq,nq,nq,nq,nq,nq,nq,nq,nq,nq,nq,nq,nq,nq,nq,nq,nq,nq,nq,nq,nq,nq,nq,nq] rfl rfl (any_of HT_.out (by kernel_rfl)) (fun _ _ _ h => h) (Or.inl ⟨by rfl, ?_⟩) ?_ ?_
         rotate_left
         ·
          intro w'
          go_simp
          with_reducible rfl
         rotate_left
         ·
          simp only [Act.put, List.setIfInBounds_toArray, List.set_cons_zero, List.set_cons_succ, i64_w, i32_w]
          rfl
         refine pure_ (i := 4) (N := some 27) (v := ?_) (a' := ?_) #[yq,yq,yq,yq,yq,nq,nq,nq,nq,nq,nq,nq,nq,nq,nq,nq,nq,nq,nq,nq,nq,nq,nq,nq,nq,nq,nq,nq,nq,nq,nq,nq,nq,nq,nq] rfl rfl (any_of HT_.out (by kernel_rfl)) (fun _ _ _ h => h) (Or.inl ⟨by rfl, ?_⟩) ?_ ?_
         rotate_left
         ·
          intro w'
          go_simp
          with_reducible rfl
         rotate_left
         ·
          simp only [Act.put, List.setIfInBounds_toArray, List.set_cons_zero, List.set_cons_succ, i64_w, i32_w]
          rfl
         refine pure_ (i := 5) (N := some 28) (v := undef) (a' := ?_) #[yq,yq,yq,yq,yq,yq,nq,nq,nq,nq,nq,nq,nq,nq,nq,nq,nq,nq,nq,nq,nq,nq,nq,nq,nq,nq,nq,nq,nq,nq,nq,nq,nq,nq,nq] rfl rfl (any_of HT_.out (by kernel_rfl)) (fun _ _ _ h => h) (Or.inr ⟨by rfl, rfl⟩) ?_ ?_
         rotate_left
         ·
          simp only [Act.put, List.setIfInBounds_toArray, List.set_cons_zero, List.set_cons_succ, i64_w, i32_w]
          rfl
         refine pure_ (i := 6) (N := some 29) (v := undef) (a' := ?_) #[yq,yq,yq,yq,yq,yq,yq,nq,nq,nq,nq,nq,nq,nq,nq,nq,nq,nq,nq,nq,nq,nq,nq,nq,nq,nq,nq,nq,nq,nq,nq,nq,nq,nq,nq] rfl rfl (any_of HT_.out (by kernel_rfl)) (fun _ _ _ h => h) (Or.inr ⟨by rfl, rfl⟩) ?_ ?_
         rotate_left
         ·
          simp only [Act.put, List.setIfInBounds_toArray, List.set_cons_zero, List.set_cons_succ, i64_w, i32_w]
          rfl
         refine pure_ (i := 7) (N := some 30) (v := undef) (a' := ?_) #[yq,yq,yq,yq,yq,yq,yq,yq,nq,nq,nq,nq,nq,nq,nq,nq,nq,nq,nq,nq,nq,nq,nq,nq,nq,nq,nq,nq,nq,nq,nq,nq,nq,nq,nq] rfl rfl (any_of HT_.out (by kernel_rfl)) (fun _ _ _ h => h) (Or.inr ⟨by rfl, rfl⟩) ?_ ?_
         rotate_left
         ·
          simp only [Act.put, List.setIfInBounds_toArray, List.set_cons_zero, List.set_cons_succ, i64_w, i32_w]
          rfl
         refine pure_ (i := 8) (N := some 31) (v := undef) (a' := ?_) #[yq,yq,yq,yq,yq,yq,yq,yq,yq,nq,nq,nq,nq,nq,nq,nq,nq,nq,nq,nq,nq,nq,nq,nq,nq,nq,nq,nq,nq,nq,nq,nq,nq,nq,nq] rfl rfl (any_of HT_.out (by kernel_rfl)) (fun _ _ _ h => h) (Or.inr ⟨by rfl, rfl⟩) ?_ ?_
         rotate_left
         ·
          simp only [Act.put, List.setIfInBounds_toArray, List.set_cons_zero, List.set_cons_succ, i64_w, i32_w]
          rfl
         refine pure_ (i := 9) (N := some 32) (v := undef) (a' := ?_) #[yq,yq,yq,yq,yq,yq,yq,yq,yq,yq,nq,nq,nq,nq,nq,nq,nq,nq,nq,nq,nq,nq,nq,nq,nq,nq,nq,nq,nq,nq,nq,nq,nq,nq,nq] rfl rfl (any_of HT_.out (by kernel_rfl)) (fun _ _ _ h => h) (Or.inr ⟨by rfl, rfl⟩) ?_ ?_
         rotate_left
         ·
          simp only [Act.put, List.setIfInBounds_toArray, List.set_cons_zero, List.set_cons_succ, i64_w, i32_w]
          rfl
         refine pure_ (i := 10) (N := some 33) (v := undef) (a' := ?_) #[yq,yq,yq,yq,yq,yq,yq,yq,yq,yq,yq,nq,nq,nq,nq,nq,nq,nq,nq,nq,nq,nq,nq,nq,nq,nq,nq,nq,nq,nq,nq,nq,nq,nq,nq] rfl rfl (any_of HT_.out (by kernel_rfl)) (fun _ _ _ h => h) (Or.inr ⟨by rfl, rfl⟩) ?_ ?_
         rotate_left
         ·
          simp only [Act.put, List.setIfInBounds_toArray, List.set_cons_zero, List.set_cons_succ, i64_w, i32_w]
          rfl
         refine pure_ (i := 11) (N := some 34) (v := undef) (a' := ?_) #[yq,yq,yq,yq,yq,yq,yq,yq,yq,yq,yq,yq,nq,nq,nq,nq,nq,nq,nq,nq,nq,nq,nq,nq,nq,nq,nq,nq,nq,nq,nq,nq,nq,nq,nq] rfl rfl (any_of HT_.out (by kernel_rfl)) (fun _ _ _ h => h) (Or.inr ⟨by rfl, rfl⟩) ?_ ?_
         rotate_left
         ·
          simp only [Act.put, List.setIfInBounds_toArray, List.set_cons_zero, List.set_cons_succ, i64_w, i32_w]
          rfl
         refine pure_ (i := 12) (N := some 35) (v := undef) (a' := ?_) #[yq,yq,yq,yq,yq,yq,yq,yq,yq,yq,yq,yq,yq,nq,nq,nq,nq,nq,nq,nq,nq,nq,nq,nq,nq,nq,nq,nq,nq,nq,nq,nq,nq,nq,nq] rfl rfl (any_of HT_.out (by kernel_rfl)) (fun _ _ _ h => h) (Or.inr ⟨by rfl, rfl⟩) ?_ ?_
         rotate_left
         ·
          simp only [Act.put, List.setIfInBounds_toArray, List.set_cons_zero, List.set_cons_succ, i64_w, i32_w]
          rfl
         refine pure_ (i := 13) (N := some 36) (v := undef) (a' := ?_) #[yq,yq,yq,yq,yq,yq,yq,yq,yq,yq,yq,yq,yq,yq,nq,nq,nq,nq,nq,nq,nq,nq,nq,nq,nq,nq,nq,nq,nq,nq,nq,nq,nq,nq,nq] rfl rfl (any_of HT_.out (by kernel_rfl)) (fun _ _ _ h => h) (Or.inr ⟨by rfl, rfl⟩) ?_ ?_
         rotate_left
         ·
          simp only [Act.put, List.setIfInBounds_toArray, List.set_cons_zero, List.set_cons_succ, i64_w, i32_w]
          rfl
         refine pure_ (i := 14) (N := some 37) (v := undef) (a' := ?_) #[yq,yq,yq,yq,yq,yq,yq,yq,yq,yq,yq,yq,yq,yq,yq,nq,nq,nq,nq,nq,nq,nq,nq,nq,nq,nq,nq,nq,nq,nq,nq,nq,nq,nq,nq] rfl rfl (any_of HT_.out (by kernel_rfl)) (fun _ _ _ h => h) (Or.inr ⟨by rfl, rfl⟩) ?_ ?_
         rotate_left
         ·
          simp only [Act.put, List.setIfInBounds_toArray, List.set_cons_zero, List.set_cons_succ, i64_w, i32_w]
          rfl
         refine pure_ (i := 15) (N := some 38) (v := ?_) (a' := ?_) #[yq,yq,yq,yq,yq,yq,yq,yq,yq,yq,yq,yq,yq,yq,yq,yq,nq,nq,nq,nq,nq,nq,nq,nq,nq,nq,nq,nq,nq,nq,nq,nq,nq,nq,nq] rfl rfl (any_of HT_.out (by kernel_rfl)) (fun _ _ _ h => h) (Or.inl ⟨by rfl, ?_⟩) ?_ ?_
         rotate_left
         ·
          intro w'
          go_simp
          with_reducible rfl
         rotate_left
         ·
          simp only [Act.put, List.setIfInBounds_toArray, List.set_cons_zero, List.set_cons_succ, i64_w, i32_w]
          rfl
         refine pure_ (i := 16) (N := some 39) (v := ?_) (a' := ?_) #[yq,yq,yq,yq,yq,yq,yq,yq,yq,yq,yq,yq,yq,yq,yq,yq,yq,nq,nq,nq,nq,nq,nq,nq,nq,nq,nq,nq,nq,nq,nq,nq,nq,nq,nq] rfl rfl (any_of HT_.out (by kernel_rfl)) (fun _ _ _ h => h) (Or.inl ⟨by rfl, ?_⟩) ?_ ?_
         rotate_left
         ·
          intro w'
          go_simp
          with_reducible rfl
         rotate_left
         ·
          simp only [Act.put, List.setIfInBounds_toArray, List.set_cons_zero, List.set_cons_succ, i64_w, i32_w]
          rfl
         refine pure_ (i := 17) (N := some 40) (v := ?_) (a' := ?_) #[yq,yq,yq,yq,yq,yq,yq,yq,yq,yq,yq,yq,yq,yq,yq,yq,yq,yq,nq,nq,nq,nq,nq,nq,nq,nq,nq,nq,nq,nq,nq,nq,nq,nq,nq] rfl rfl (any_of HT_.out (by kernel_rfl)) (fun _ _ _ h => h) (Or.inl ⟨by rfl, ?_⟩) ?_ ?_
         rotate_left
         ·
          intro w'
          go_simp
          with_reducible rfl
         rotate_left
         ·
          simp only [Act.put, List.setIfInBounds_toArray, List.set_cons_zero, List.set_cons_succ, i64_w, i32_w]
          rfl
         refine pure_ (i := 18) (N := some 41) (v := ?_) (a' := ?_) #[yq,yq,yq,yq,yq,yq,yq,yq,yq,yq,yq,yq,yq,yq,yq,yq,yq,yq,yq,nq,nq,nq,nq,nq,nq,nq,nq,nq,nq,nq,nq,nq,nq,nq,nq] rfl rfl (any_of HT_.out (by kernel_rfl)) (fun _ _ _ h => h) (Or.inl ⟨by rfl, ?_⟩) ?_ ?_
         rotate_left
         ·
          intro w'
          go_simp
          with_reducible rfl
         rotate_left
         ·
          simp only [Act.put, List.setIfInBounds_toArray, List.set_cons_zero, List.set_cons_succ, i64_w, i32_w]
          rfl
         refine pure_ (i := 19) (N := some 42) (v := ?_) (a' := ?_) #[yq,yq,yq,yq,yq,yq,yq,yq,yq,yq,yq,yq,yq,yq,yq,yq,yq,yq,yq,yq,nq,nq,nq,nq,nq,nq,nq,nq,nq,nq,nq,nq,nq,nq,nq] rfl rfl (any_of HT_.out (by kernel_rfl)) (fun _ _ _ h => h) (Or.inl ⟨by rfl, ?_⟩) ?_ ?_
         rotate_left
         ·
          intro w'
          go_simp
          with_reducible rfl
         rotate_left
         ·
          simp only [Act.put, List.setIfInBounds_toArray, List.set_cons_zero, List.set_cons_succ, i64_w, i32_w]
          rfl
         refine pure_ (i := 20) (N := some 43) (v := ?_) (a' := ?_) #[yq,yq,yq,yq,yq,yq,yq,yq,yq,yq,yq,yq,yq,yq,yq,yq,yq,yq,yq,yq,yq,nq,nq,nq,nq,nq,nq,nq,nq,nq,nq,nq,nq,nq,nq] rfl rfl (any_of HT_.out (by kernel_rfl)) (fun _ _ _ h => h) (Or.inl ⟨by rfl, ?_⟩) ?_ ?_
         rotate_left
         ·
          intro w'
          go_simp
          with_reducible rfl
         rotate_left
         ·
          simp only [Act.put, List.setIfInBounds_toArray, List.set_cons_zero, List.set_cons_succ, i64_w, i32_w]
          rfl
         refine pure_ (i := 21) (N := some 44) (v := ?_) (a' := ?_) #[yq,yq,yq,yq,yq,yq,yq,yq,yq,yq,yq,yq,yq,yq,yq,yq,yq,yq,yq,yq,yq,yq,nq,nq,nq,nq,nq,nq,nq,nq,nq,nq,nq,nq,nq] rfl rfl (any_of HT_.out (by kernel_rfl)) (fun _ _ _ h => h) (Or.inl ⟨by rfl, ?_⟩) ?_ ?_
         rotate_left
         ·
          intro w'
          go_simp
          with_reducible rfl
         rotate_left
         ·
          simp only [Act.put, List.setIfInBounds_toArray, List.set_cons_zero, List.set_cons_succ, i64_w, i32_w]
          rfl
         refine pure_ (i := 22) (N := some 45) (v := undef) (a' := ?_) #[yq,yq,yq,yq,yq,yq,yq,yq,yq,yq,yq,yq,yq,yq,yq,yq,yq,yq,yq,yq,yq,yq,yq,nq,nq,nq,nq,nq,nq,nq,nq,nq,nq,nq,nq] rfl rfl (any_of HT_.out (by kernel_rfl)) (fun _ _ _ h => h) (Or.inr ⟨by rfl, rfl⟩) ?_ ?_
         rotate_left
         ·
          simp only [Act.put, List.setIfInBounds_toArray, List.set_cons_zero, List.set_cons_succ, i64_w, i32_w]
          rfl
         refine pure_ (i := 23) (N := some 46) (v := undef) (a' := ?_) #[yq,yq,yq,yq,yq,yq,yq,yq,yq,yq,yq,yq,yq,yq,yq,yq,yq,yq,yq,yq,yq,yq,yq,yq,nq,nq,nq,nq,nq,nq,nq,nq,nq,nq,nq] rfl rfl (any_of HT_.out (by kernel_rfl)) (fun _ _ _ h => h) (Or.inr ⟨by rfl, rfl⟩) ?_ ?_
         rotate_left
         ·
          simp only [Act.put, List.setIfInBounds_toArray, List.set_cons_zero, List.set_cons_succ, i64_w, i32_w]
          rfl
         refine pure_ (i := 24) (N := some 47) (v := undef) (a' := ?_) #[yq,yq,yq,yq,yq,yq,yq,yq,yq,yq,yq,yq,yq,yq,yq,yq,yq,yq,yq,yq,yq,yq,yq,yq,yq,nq,nq,nq,nq,nq,nq,nq,nq,nq,nq] rfl rfl (any_of HT_.out (by kernel_rfl)) (fun _ _ _ h => h) (Or.inr ⟨by rfl, rfl⟩) ?_ ?_
         rotate_left
         ·
          simp only [Act.put, List.setIfInBounds_toArray, List.set_cons_zero, List.set_cons_succ, i64_w, i32_w]
          rfl
         refine pure_ (i := 25) (N := some 48) (v := undef) (a' := ?_) #[yq,yq,yq,yq,yq,yq,yq,yq,yq,yq,yq,yq,yq,yq,yq,yq,yq,yq,yq,yq,yq,yq,yq,yq,yq,yq,nq,nq,nq,nq,nq,nq,nq,nq,nq] rfl rfl (any_of HT_.out (by kernel_rfl)) (fun _ _ _ h => h) (Or.inr ⟨by rfl, rfl⟩) ?_ ?_
         rotate_left
         ·
          simp only [Act.put, List.setIfInBounds_toArray, List.set_cons_zero, List.set_cons_succ, i64_w, i32_w]
          rfl
         refine pure_ (i := 26) (N := some 49) (v := undef) (a' := ?_) #[yq,yq,yq,yq,yq,yq,yq,yq,yq,yq,yq,yq,yq,yq,yq,yq,yq,yq,yq,yq,yq,yq,yq,yq,yq,yq,yq,nq,nq,nq,nq,nq,nq,nq,nq] rfl rfl (any_of HT_.out (by kernel_rfl)) (fun _ _ _ h => h) (Or.inr ⟨by rfl, rfl⟩) ?_ ?_
         rotate_left
         ·
          simp only [Act.put, List.setIfInBounds_toArray, List.set_cons_zero, List.set_cons_succ, i64_w, i32_w]
          rfl
         refine pure_ (i := 27) (N := some 50) (v := undef) (a' := ?_) #[yq,yq,yq,yq,yq,yq,yq,yq,yq,yq,yq,yq,yq,yq,yq,yq,yq,yq,yq,yq,yq,yq,yq,yq,yq,yq,yq,yq,nq,nq,nq,nq,nq,nq,nq] rfl rfl (any_of HT_.out (by kernel_rfl)) (fun _ _ _ h => h) (Or.inr ⟨by rfl, rfl⟩) ?_ ?_
         rotate_left
         ·
          simp only [Act.put, List.setIfInBounds_toArray, List.set_cons_zero, List.set_cons_succ, i64_w, i32_w]
          rfl
         refine pure_ (i := 28) (N := some 51) (v := undef) (a' := ?_) #[yq,yq,yq,yq,yq,yq,yq,yq,yq,yq,yq,yq,yq,yq,yq,yq,yq,yq,yq,yq,yq,yq,yq,yq,yq,yq,yq,yq,yq,nq,nq,nq,nq,nq,nq] rfl rfl (any_of HT_.out (by kernel_rfl)) (fun _ _ _ h => h) (Or.inr ⟨by rfl, rfl⟩) ?_ ?_
         rotate_left
         ·
          simp only [Act.put, List.setIfInBounds_toArray, List.set_cons_zero, List.set_cons_succ, i64_w, i32_w]
          rfl
         refine pure_ (i := 29) (N := some 52) (v := undef) (a' := ?_) #[yq,yq,yq,yq,yq,yq,yq,yq,yq,yq,yq,yq,yq,yq,yq,yq,yq,yq,yq,yq,yq,yq,yq,yq,yq,yq,yq,yq,yq,yq,nq,nq,nq,nq,nq] rfl rfl (any_of HT_.out (by kernel_rfl)) (fun _ _ _ h => h) (Or.inr ⟨by rfl, rfl⟩) ?_ ?_
         rotate_left
         ·
          simp only [Act.put, List.setIfInBounds_toArray, List.set_cons_zero, List.set_cons_succ, i64_w, i32_w]
          rfl
         refine pure_ (i := 30) (N := some 53) (v := undef) (a' := ?_) #[yq,yq,yq,yq,yq,yq,yq,yq,yq,yq,yq,yq,yq,yq,yq,yq,yq,yq,yq,yq,yq,yq,yq,yq,yq,yq,yq,yq,yq,yq,yq,nq,nq,nq,nq] rfl rfl (any_of HT_.out (by kernel_rfl)) (fun _ _ _ h => h) (Or.inr ⟨by rfl, rfl⟩) ?_ ?_
         rotate_left
         ·
          simp only [Act.put, List.setIfInBounds_toArray, List.set_cons_zero, List.set_cons_succ, i64_w, i32_w]
          rfl
         refine pure_ (i := 31) (N := some 54) (v := undef) (a' := ?_) #[yq,yq,yq,yq,yq,yq,yq,yq,yq,yq,yq,yq,yq,yq,yq,yq,yq,yq,yq,yq,yq,yq,yq,yq,yq,yq,yq,yq,yq,yq,yq,yq,nq,nq,nq] rfl rfl (any_of HT_.out (by kernel_rfl)) (fun _ _ _ h => h) (Or.inr ⟨by rfl, rfl⟩) ?_ ?_
         rotate_left
         ·
          simp only [Act.put, List.setIfInBounds_toArray, List.set_cons_zero, List.set_cons_succ, i64_w, i32_w]
          rfl
         refine pure_ (i := 32) (N := some 55) (v := undef) (a' := ?_) #[yq,yq,yq,yq,yq,yq,yq,yq,yq,yq,yq,yq,yq,yq,yq,yq,yq,yq,yq,yq,yq,yq,yq,yq,yq,yq,yq,yq,yq,yq,yq,yq,yq,nq,nq] rfl rfl (any_of HT_.out (by kernel_rfl)) (fun _ _ _ h => h) (Or.inr ⟨by rfl, rfl⟩) ?_ ?_
         rotate_left
         ·
          simp only [Act.put, List.setIfInBounds_toArray, List.set_cons_zero, List.set_cons_succ, i64_w, i32_w]
          rfl
         refine pure_ (i := 33) (N := some 56) (v := ?_) (a' := ?_) #[yq,yq,yq,yq,yq,yq,yq,yq,yq,yq,yq,yq,yq,yq,yq,yq,yq,yq,yq,yq,yq,yq,yq,yq,yq,yq,yq,yq,yq,yq,yq,yq,yq,yq,nq] rfl rfl (any_of HT_.out (by kernel_rfl)) (fun _ _ _ h => h) (Or.inl ⟨by rfl, ?_⟩) ?_ ?_
         rotate_left
         ·
          intro w'
          go_simp
          with_reducible rfl
         rotate_left
         ·
          simp only [Act.put, List.setIfInBounds_toArray, List.set_cons_zero, List.set_cons_succ, i64_w, i32_w]
          rfl
         refine pure_ (i := 34) (N := some 57) (v := ?_) (a' := ?_) #[yq,yq,yq,yq,yq,yq,yq,yq,yq,yq,yq,yq,yq,yq,yq,yq,yq,yq,yq,yq,yq,yq,yq,yq,yq,yq,yq,yq,yq,yq,yq,yq,yq,yq,yq] rfl rfl (any_of HT_.out (by kernel_rfl)) (fun _ _ _ h => h) (Or.inl ⟨by rfl, ?_⟩) ?_ ?_
         rotate_left
         ·
          intro w'
          go_simp
          with_reducible rfl
         rotate_left
         ·
          simp only [Act.put, List.setIfInBounds_toArray, List.set_cons_zero, List.set_cons_succ, i64_w, i32_w]
          rfl
         refine done_ (done_of HT_.out (by kernel_rfl)) ?_
         try go_wp2
         go_roundg k1
         case measure => have := HK1.out; omega
         case rel => exact ⟨(wrap64 (x6_1 + 1)), (by first | rfl | (simp; done) | (simp [*]; done)), H', ⟨by have := HK1.out; omega⟩, ⟨bq⟩⟩
      ·
       rw [if_neg c8] at H
       have c8b0 : decide (x6_1 < (y434.length : Int)) = false := decide_eq_false c8
       clear c8
       clear H
       go_wp2
       go_ret
       exact ⟨by first | rfl | (simp [errW_none, errW_some] <;> rfl) | (simp only [← hji4]; first | rfl | (simp [errW_none, errW_some] <;> rfl)) | (simp [*, errW_none, errW_some] <;> rfl), bq⟩
   ·
    rw [if_neg c6] at H
    exact absurd H (by simp)
  ·
   rw [if_neg c5] at H
   exact absurd H (by simp)
 ·
  rw [if_neg c3] at H
  have c3b0 : ((n0 : Int) == (l1.length : Int)) = false := beq_eq_false_iff_ne.mpr c3
  have c3b1 : ((n0 : Int) != (l1.length : Int)) = true := bne_iff_ne.mpr c3
  have c3b2 : (n0 == l1.length) = false := by first | simpa using c3 | (simp at c3 ⊢; omega)
  exact absurd H (by simp)end Go.Proofs.YteedjhoffjkhmaaDoor.PT
