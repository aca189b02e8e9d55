/- Proved: latchkeylaw11.ShelfFrozen returns true for every list of elements and every script of operations, and its arguments read afterwards as they read before; no condition. -/
import Derived.Test.YteledidnhjioaaaRows
import Derived.Test.YteledidnhjioaaaShV
import Derived.Test.YteledidnhjioaaaShW
import Derived.WalkKit
import Derived.ProofKit
import Derived.OpenShut
import Derived.ShutString
import Derived.ChangeOld
import Derived.Below
import Derived.SizedLaws
namespace Go.Proofs.Yteledidnhjioaaa.shelfFrozen
open Go.Proofs.Yteledidnhjioaaa.Sh Go.ChangeShapes Go.WideShapes Go.ChangeAt Go.RowKit
open Go.ChangeMaps (open_string shut_string)
set_option linter.unusedVariables false
set_option linter.unusedSimpArgs false
theorem own : ownKnob Try.prog.godebug = none := by kernel_rfl
theorem laidOut : laidOutB Try.prog = true := by kernel_rfl
set_option maxHeartbeats 4000000 in
set_option maxRecDepth 100000 in
theorem lifted (os : Os) (started : os.Started) (H : Type) (enc : TypeId × Value → H) :
    ReturnsInHanded {} Try.checked os 4 .any (Rows.shelfFrozenSpec.pre6 enc Try.prog Try.f4 Rows.shelfFrozenRow.domain false) (Rows.shelfFrozenSpec.post enc Try.prog Try.f4 false true false false) := by
  refine returnsInHanded_of_change_sized (C := Try.checked) own started (by kernel_rfl) Try.func4
    (ChangeSpec.witness6 (enc := enc) (C := Try.checked) false ⟨#[], #[.slice none 0 0, .slice none 0 0], []⟩ 8 (by kernel_rfl) (by kernel_rfl) (by kernel_rfl) (by kernel_rfl)) ?_
  intro W base args ds gs before hval0 hW hcnd hsz0 _
  have hsz : (DataW.weightsEach Try.prog (Try.f4.params.toList ++ Rows.shelfFrozenSpec.plain.varTypes Try.prog) (ds ++ gs)).all (· ≤ reachBytes) = true := hsz0
  have hval : ∀ (j : Nat) t v, Try.f4.params[j]? = some t → args[j]? = some v → Value.okWide Try.prog W .any base t v := hval0
  have hW' := hW
  obtain ⟨p, q, hA0, hV, rfl, hfz, hnd⟩ := hW
  have hA : DataW.TrodAll enc Try.prog W 0 (fun _ => true) true Try.f4.params.toList args.toList ds p := hA0
  rw [Try.params4] at hA hval hsz
  obtain ⟨v0, vs0, d0, ds0, p0, q0, hargs, rfl, rfl, h0, r0⟩ := trodAll_cons hA
  obtain ⟨v1, vs1, d1, ds1, p1, q1, rfl, rfl, rfl, h1, r1⟩ := trodAll_cons r0
  obtain ⟨rfl, rfl, rfl⟩ := trodAll_nil r1
  obtain rfl : args = #[v0, v1] := by cases args; simp_all
  obtain ⟨rfl, rfl⟩ := trodVars_none hV
  have k0 := h0
  have lt0 : ∀ x ∈ p0, x.block < W.heap.size := by obtain ⟨m, hm⟩ := k0; exact DataW.trod_lt m _ _ _ hm
  obtain ⟨a0, n0, c0, rfl⟩ := okWide_slice Try.underlying22 (hval 0 22 v0 rfl rfl)
  have k1 := h1
  have lt1 : ∀ x ∈ p1, x.block < W.heap.size := by obtain ⟨m, hm⟩ := k1; exact DataW.trod_lt m _ _ _ hm
  obtain ⟨a1, n1, c1, rfl⟩ := okWide_slice Try.underlying36 (hval 1 36 v1 rfl rfl)
  obtain ⟨fu0, hf0⟩ := h0
  obtain ⟨A0, C0, L0, e0, hc0, hw0, hp0⟩ := open_pairs hf0
  injection e0 with ea0 en0 ec0
  subst ea0
  subst en0
  subst ec0
  have hl0 : L0.length * 16 ≤ 140737488351232 := by
    by_cases hn : L0 = []
    · rw [hn]; simp
    · obtain ⟨m, hm, hmem⟩ := hw0 hn
      have z := List.all_eq_true.1 hsz _ (DataW.weights_mem_each (j := 0) (t := 22) rfl rfl m hmem)
      exact Nat.le_trans hm (of_decide_eq_true z)
  obtain ⟨fu1, hf1⟩ := h1
  obtain ⟨A1, C1, L1, e1, hc1, hw1, hp1⟩ := open_ops hf1
  injection e1 with ea1 en1 ec1
  subst ea1
  subst en1
  subst ec1
  have hl1 : L1.length * 32 ≤ 140737488351232 := by
    by_cases hn : L1 = []
    · rw [hn]; simp
    · obtain ⟨m, hm, hmem⟩ := hw1 hn
      have z := List.all_eq_true.1 hsz _ (DataW.weights_mem_each (j := 1) (t := 36) rfl rfl m hmem)
      exact Nat.le_trans hm (of_decide_eq_true z)
  clear hA0 hval0 hsz0
  refine (frozen_walk (A0 := a0) (cap0 := c0) (l := L0) (A := a1) (cap := c1) (ops := L1) ⟨hc0, by omega, hp0⟩ ⟨hc1, by omega, hp1⟩ (by omega)).mono fun e W' ⟨he, bel⟩ => ?_
  subst he
  exact ⟨_, rfl, _, _, _, [], _, [], hW', trodAll_mk1 (shut_bool Try.underlying4 _), (trodAll_cons_mk (Below.trod laidOut (by kernel_rfl) (of_decide_eq_true (by kernel_rfl)) k0 bel lt0) (trodAll_cons_mk (Below.trod laidOut (by kernel_rfl) (of_decide_eq_true (by kernel_rfl)) k1 bel lt1) trodAll_mk0)), rfl, bel.frame _, fun h => by cases h⟩
theorem over : Rows.shelfFrozenRow.holds Try.pinned (OpenSpec.ofChange Rows.shelfFrozenSpec) :=
  OpenClaim.holds_of_wide 4 Try.f4 rfl rfl rfl rfl rfl rfl rfl ⟨rfl, rfl, rfl, rfl, rfl⟩ rfl rfl rfl rfl rfl (by kernel_rfl) Try.func4 (by kernel_rfl)
    (of_decide_eq_true (by kernel_rfl)) (by unfold Func.isWrapper; first | (rw [if_pos (by decide +kernel)]; kernel_rfl) | (rw [if_neg (by decide +kernel)]; exact ⟨rfl, rfl⟩))
    (fun os started H enc _ => lifted os started H enc)
theorem proved : Rows.ShelfFrozenSaid := over
#print axioms proved
end Go.Proofs.Yteledidnhjioaaa.shelfFrozen
namespace Go.Proofs.Yteledidnhjioaaa
/-- The row, under a short name, for the claim. -/
theorem shelfFrozen_holds : Rows.ShelfFrozenSaid := shelfFrozen.proved
end Go.Proofs.Yteledidnhjioaaa
