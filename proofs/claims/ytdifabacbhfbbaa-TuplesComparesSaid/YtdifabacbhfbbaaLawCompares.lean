/- Proved: latchkeylaw10.TuplesCompares returns true for every two tuples, and its arguments read afterwards as they read before; no condition. -/
import Derived.Test.YtdifabacbhfbbaaRows
import Derived.Test.YtdifabacbhfbbaaTzf
import Derived.Test.YtdifabacbhfbbaaTzg
import Derived.Test.YtdifabacbhfbbaaC
import Derived.WalkKit
import Derived.ProofKit
import Derived.OpenShut
import Derived.ShutString
import Derived.ChangeOld
import Derived.Below
import Derived.SizedLaws
namespace Go.Proofs.Ytdifabacbhfbbaa.tuplesCompares
open Go.ChangeShapes Go.WideShapes Go.ChangeAt Go.RowKit
open Go.ChangeMaps (open_string shut_string)
set_option linter.unusedVariables false
set_option linter.unusedSimpArgs false
theorem own : ownKnob Try.prog.godebug = none := by kernel_rfl
theorem laidOut : laidOutB Try.prog = true := by kernel_rfl
set_option maxHeartbeats 4000000 in
set_option maxRecDepth 100000 in
theorem lifted (os : Os) (started : os.Started) (H : Type) (enc : TypeId × Value → H) :
    ReturnsInHanded {} Try.checked os 5 .any (Rows.tuplesComparesSpec.pre6 enc Try.prog Try.f5 Rows.tuplesComparesRow.domain false) (Rows.tuplesComparesSpec.post enc Try.prog Try.f5 false true false false) := by
  refine returnsInHanded_of_change_sized (C := Try.checked) own started (by kernel_rfl) Try.func5
    (ChangeSpec.witness6 (enc := enc) (C := Try.checked) false ⟨#[], #[.agg #[.string ByteArray.empty, .string ByteArray.empty, .string ByteArray.empty, .string ByteArray.empty, .string ByteArray.empty, .string ByteArray.empty, .string ByteArray.empty, .slice none 0 0], .agg #[.string ByteArray.empty, .string ByteArray.empty, .string ByteArray.empty, .string ByteArray.empty, .string ByteArray.empty, .string ByteArray.empty, .string ByteArray.empty, .slice none 0 0]], []⟩ 8 (by kernel_rfl) (by kernel_rfl) (by kernel_rfl) (by kernel_rfl)) ?_
  intro W base args ds gs before hval0 hW hcnd hsz0 _
  have hsz : (DataW.weightsEach Try.prog (Try.f5.params.toList ++ Rows.tuplesComparesSpec.plain.varTypes Try.prog) (ds ++ gs)).all (· ≤ reachBytes) = true := hsz0
  have hval : ∀ (j : Nat) t v, Try.f5.params[j]? = some t → args[j]? = some v → Value.okWide Try.prog W .any base t v := hval0
  have hW' := hW
  obtain ⟨p, q, hA0, hV, rfl, hfz, hnd⟩ := hW
  have hA : DataW.TrodAll enc Try.prog W 0 (fun _ => true) true Try.f5.params.toList args.toList ds p := hA0
  rw [Try.params5] at hA hval hsz
  obtain ⟨v0, vs0, d0, ds0, p0, q0, hargs, rfl, rfl, h0, r0⟩ := trodAll_cons hA
  obtain ⟨v1, vs1, d1, ds1, p1, q1, rfl, rfl, rfl, h1, r1⟩ := trodAll_cons r0
  obtain ⟨rfl, rfl, rfl⟩ := trodAll_nil r1
  obtain rfl : args = #[v0, v1] := by cases args; simp_all
  obtain ⟨rfl, rfl⟩ := trodVars_none hV
  have k0 := h0
  have lt0 : ∀ x ∈ p0, x.block < W.heap.size := by obtain ⟨m, hm⟩ := k0; exact DataW.trod_lt m _ _ _ hm
  obtain ⟨⟨l0⟩, rfl, _⟩ := okWide_struct Try.underlying30 (hval 0 30 v0 rfl rfl)
  obtain ⟨fu0, hf0⟩ := h0
  obtain ⟨s0_0, s0_1, s0_2, s0_3, s0_4, s0_5, s0_6, a0_7, n0_7, c0_7, m0_7, Y0_7, e0, x0, t0_7⟩ := open30 hf0
  have e0' : l0 = _ := e0
  subst e0'
  have x0' : d0 = _ := x0
  subst x0'
  clear e0 x0 hf0
  have k1 := h1
  have lt1 : ∀ x ∈ p1, x.block < W.heap.size := by obtain ⟨m, hm⟩ := k1; exact DataW.trod_lt m _ _ _ hm
  obtain ⟨⟨l1⟩, rfl, _⟩ := okWide_struct Try.underlying30 (hval 1 30 v1 rfl rfl)
  obtain ⟨fu1, hf1⟩ := h1
  obtain ⟨s1_0, s1_1, s1_2, s1_3, s1_4, s1_5, s1_6, a1_7, n1_7, c1_7, m1_7, Y1_7, e1, x1, t1_7⟩ := open30 hf1
  have e1' : l1 = _ := e1
  subst e1'
  have x1' : d1 = _ := x1
  subst x1'
  clear e1 x1 hf1
  obtain ⟨A0, C0, L0, e7_0, hwL0, hp0⟩ := Tu.open_argsr t0_7
  injection e7_0 with ea en ec
  subst ea
  subst en
  subst ec
  have hw0 : ∀ m ∈ DataW.weights Try.prog 28 Y0_7.1, m ≤ 140737488351232 := fun m hm => by
    have z := List.all_eq_true.1 hsz _ (DataW.weights_mem_each (j := 0) (t := 30) rfl rfl m (by simp [DataW.weights, DataW.weightsEach, Try.underlying30, Try.underlying27, Try.underlying23, hm]))
    exact of_decide_eq_true z
  have hn0 : L0.length ≤ 2000000000000 := by
    by_cases he : L0 = []
    · rw [he]; simp
    · obtain ⟨m, h1, h2⟩ := hwL0 he
      have := hw0 m h2
      omega
  have hB0 : Tu.ArgsAt W a0_7 L0 := fun i a hi => by
    obtain ⟨⟨b, o, TA, tc, e, h7, ht⟩, hz, _⟩ := hp0 i a hi
    refine ⟨b, o, TA, tc, e, h7, ht, ?_⟩
    by_cases he : a.l = []
    · rw [he]; simp
    · obtain ⟨m, h1, h2⟩ := hz he
      have := hw0 m h2
      omega
  have hr0 : ∀ a ∈ L0, a.x.r < 4294967296 := fun a ha => by
    obtain ⟨i, hi⟩ := List.mem_iff_getElem?.1 ha
    exact (hp0 i a hi).2.2
  obtain ⟨A1, C1, L1, e7_1, hwL1, hp1⟩ := Tu.open_argsr t1_7
  injection e7_1 with ea en ec
  subst ea
  subst en
  subst ec
  have hw1 : ∀ m ∈ DataW.weights Try.prog 28 Y1_7.1, m ≤ 140737488351232 := fun m hm => by
    have z := List.all_eq_true.1 hsz _ (DataW.weights_mem_each (j := 1) (t := 30) rfl rfl m (by simp [DataW.weights, DataW.weightsEach, Try.underlying30, Try.underlying27, Try.underlying23, hm]))
    exact of_decide_eq_true z
  have hn1 : L1.length ≤ 2000000000000 := by
    by_cases he : L1 = []
    · rw [he]; simp
    · obtain ⟨m, h1, h2⟩ := hwL1 he
      have := hw1 m h2
      omega
  have hB1 : Tu.ArgsAt W a1_7 L1 := fun i a hi => by
    obtain ⟨⟨b, o, TA, tc, e, h7, ht⟩, hz, _⟩ := hp1 i a hi
    refine ⟨b, o, TA, tc, e, h7, ht, ?_⟩
    by_cases he : a.l = []
    · rw [he]; simp
    · obtain ⟨m, h1, h2⟩ := hz he
      have := hw1 m h2
      omega
  have hr1 : ∀ a ∈ L1, a.x.r < 4294967296 := fun a ha => by
    obtain ⟨i, hi⟩ := List.mem_iff_getElem?.1 ha
    exact (hp1 i a hi).2.2
  have z0 : Tu.SZ s0_0 := by
    have z := List.all_eq_true.1 hsz _ (DataW.weights_mem_each (j := 0) (t := 30) rfl rfl s0_0.data.toList.length (by simp [DataW.weights, DataW.weightsEach, Try.underlying30, Try.underlying27, Try.underlying23]))
    have z2 : s0_0.data.toList.length ≤ 140737488351232 := of_decide_eq_true z
    have e : s0_0.data.toList.length = s0_0.size := rfl
    rw [e] at z2
    exact Nat.le_trans z2 (by decide)
  have z1 : Tu.SZ s0_1 := by
    have z := List.all_eq_true.1 hsz _ (DataW.weights_mem_each (j := 0) (t := 30) rfl rfl s0_1.data.toList.length (by simp [DataW.weights, DataW.weightsEach, Try.underlying30, Try.underlying27, Try.underlying23]))
    have z2 : s0_1.data.toList.length ≤ 140737488351232 := of_decide_eq_true z
    have e : s0_1.data.toList.length = s0_1.size := rfl
    rw [e] at z2
    exact Nat.le_trans z2 (by decide)
  have z2 : Tu.SZ s0_2 := by
    have z := List.all_eq_true.1 hsz _ (DataW.weights_mem_each (j := 0) (t := 30) rfl rfl s0_2.data.toList.length (by simp [DataW.weights, DataW.weightsEach, Try.underlying30, Try.underlying27, Try.underlying23]))
    have z2 : s0_2.data.toList.length ≤ 140737488351232 := of_decide_eq_true z
    have e : s0_2.data.toList.length = s0_2.size := rfl
    rw [e] at z2
    exact Nat.le_trans z2 (by decide)
  have z3 : Tu.SZ s0_3 := by
    have z := List.all_eq_true.1 hsz _ (DataW.weights_mem_each (j := 0) (t := 30) rfl rfl s0_3.data.toList.length (by simp [DataW.weights, DataW.weightsEach, Try.underlying30, Try.underlying27, Try.underlying23]))
    have z2 : s0_3.data.toList.length ≤ 140737488351232 := of_decide_eq_true z
    have e : s0_3.data.toList.length = s0_3.size := rfl
    rw [e] at z2
    exact Nat.le_trans z2 (by decide)
  have z4 : Tu.SZ s0_4 := by
    have z := List.all_eq_true.1 hsz _ (DataW.weights_mem_each (j := 0) (t := 30) rfl rfl s0_4.data.toList.length (by simp [DataW.weights, DataW.weightsEach, Try.underlying30, Try.underlying27, Try.underlying23]))
    have z2 : s0_4.data.toList.length ≤ 140737488351232 := of_decide_eq_true z
    have e : s0_4.data.toList.length = s0_4.size := rfl
    rw [e] at z2
    exact Nat.le_trans z2 (by decide)
  have z5 : Tu.SZ s0_5 := by
    have z := List.all_eq_true.1 hsz _ (DataW.weights_mem_each (j := 0) (t := 30) rfl rfl s0_5.data.toList.length (by simp [DataW.weights, DataW.weightsEach, Try.underlying30, Try.underlying27, Try.underlying23]))
    have z2 : s0_5.data.toList.length ≤ 140737488351232 := of_decide_eq_true z
    have e : s0_5.data.toList.length = s0_5.size := rfl
    rw [e] at z2
    exact Nat.le_trans z2 (by decide)
  clear hA0 hval0 hsz0
  refine (Tu.compares_walk ⟨s0_0, s0_1, s0_2, s0_3, s0_4, s0_5, s0_6⟩ ⟨s1_0, s1_1, s1_2, s1_3, s1_4, s1_5, s1_6⟩ (c := c0_7) (c' := c1_7) hr0 hr1 ⟨z0, z1, z2, z3, z4, z5⟩ hB0 hB1 rfl rfl hn0 hn1).mono fun e W' ⟨he, bel⟩ => ?_
  subst he
  exact ⟨_, rfl, _, _, _, [], _, [], hW', trodAll_mk1 (shut_bool Try.underlying4 _), (trodAll_cons_mk (Below.trod laidOut (by kernel_rfl) (of_decide_eq_true (by kernel_rfl)) k0 bel lt0) (trodAll_cons_mk (Below.trod laidOut (by kernel_rfl) (of_decide_eq_true (by kernel_rfl)) k1 bel lt1) trodAll_mk0)), rfl, bel.frame _, fun h => by cases h⟩
theorem over : Rows.tuplesComparesRow.holds Try.pinned (OpenSpec.ofChange Rows.tuplesComparesSpec) :=
  OpenClaim.holds_of_wide 5 Try.f5 rfl rfl rfl rfl rfl rfl rfl ⟨rfl, rfl, rfl, rfl, rfl⟩ rfl rfl rfl rfl rfl (by kernel_rfl) Try.func5 (by kernel_rfl)
    (of_decide_eq_true (by kernel_rfl)) (by unfold Func.isWrapper; first | (rw [if_pos (by decide +kernel)]; kernel_rfl) | (rw [if_neg (by decide +kernel)]; exact ⟨rfl, rfl⟩))
    (fun os started H enc _ => lifted os started H enc)
theorem proved : Rows.TuplesComparesSaid := over
#print axioms proved
end Go.Proofs.Ytdifabacbhfbbaa.tuplesCompares
namespace Go.Proofs.Ytdifabacbhfbbaa
/-- The row, under a short name, for the claim. -/
theorem tuplesCompares_holds : Rows.TuplesComparesSaid := tuplesCompares.proved
end Go.Proofs.Ytdifabacbhfbbaa
