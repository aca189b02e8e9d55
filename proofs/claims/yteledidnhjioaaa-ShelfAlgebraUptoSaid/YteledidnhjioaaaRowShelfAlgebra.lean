/- Proved: latchkeylaw11.ShelfAlgebra returns true for every input whose reading is of bulk at most 1048576 in all, and its arguments read afterwards as they read before. The condition: that bulk. -/
import Derived.Test.YteledidnhjioaaaRows
import Derived.Test.YteledidnhjioaaaShV
import Derived.Test.YteledidnhjioaaaSlG
import Derived.WalkKit
import Derived.ProofKit
import Derived.OpenShut
import Derived.ShutString
import Derived.ChangeOld
import Derived.Below
import Derived.SizedLaws
import Derived.JoinedCond
import Derived.Deep.CondSized
namespace Go.Proofs.Yteledidnhjioaaa.shelfAlgebra
open Go.Proofs.Yteledidnhjioaaa.Sh Go.ChangeShapes Go.WideShapes Go.ChangeAt Go.RowKit
open Go.ChangeMaps (open_string shut_string)
set_option linter.unusedVariables false
set_option linter.unusedSimpArgs false
theorem own : ownKnob Try.prog.godebug = none := by kernel_rfl
theorem laidOut : laidOutB Try.prog = true := by kernel_rfl
set_option maxHeartbeats 4000000 in
set_option maxRecDepth 100000 in
theorem lifted (os : Os) (started : os.Started) (H : Type) (enc : TypeId × Value → H) (F : Stop.Interp) :
    ReturnsInHanded {} Try.checked os 10 .any ((Rows.OpenSpec.upto Rows.shelfAlgebraSpec).pre6 enc Try.prog Try.f10 Rows.shelfAlgebraUptoRow.domain false) (((Rows.OpenSpec.upto Rows.shelfAlgebraSpec).at F).post enc Try.prog Try.f10 false true false false) := by
  refine returnsInHanded_of_cond_sized (C := Try.checked) (s := (Rows.OpenSpec.upto Rows.shelfAlgebraSpec)) (k := Rows.uptoSmall) rfl own started (by kernel_rfl) Try.func10
    (OpenSpec.witness (enc := enc) (C := Try.checked) (s := (Rows.OpenSpec.upto Rows.shelfAlgebraSpec)) (k := Rows.uptoSmall) rfl false ⟨#[], #[.slice none 0 0, .slice none 0 0, .slice none 0 0], []⟩ 8 (by kernel_rfl) (by kernel_rfl) (by kernel_rfl)
      (x := ([.nil, .nil, .nil], [], [])) (by kernel_rfl) rfl (by simp [Rows.uptoSmall, Rows.uptoBulkAll, Rows.uptoBulk])) ?_
  intro W base args ds gs before hval0 hW hcnd hkk hsz0 _
  have hsz : (DataW.weightsEach Try.prog (Try.f10.params.toList ++ Rows.shelfAlgebraSpec.plain.varTypes Try.prog) (ds ++ gs)).all (· ≤ reachBytes) = true := hsz0
  have hval : ∀ (j : Nat) t v, Try.f10.params[j]? = some t → args[j]? = some v → Value.okWide Try.prog W .any base t v := hval0
  have hW' := hW
  obtain ⟨p, q, hA0, hV, rfl, hfz, hnd⟩ := hW
  have hA : DataW.TrodAll enc Try.prog W 0 (fun _ => true) true Try.f10.params.toList args.toList ds p := hA0
  rw [Try.params10] at hA hval hsz
  obtain ⟨v0, vs0, d0, ds0, p0, q0, hargs, rfl, rfl, h0, r0⟩ := trodAll_cons hA
  obtain ⟨v1, vs1, d1, ds1, p1, q1, rfl, rfl, rfl, h1, r1⟩ := trodAll_cons r0
  obtain ⟨v2, vs2, d2, ds2, p2, q2, rfl, rfl, rfl, h2, r2⟩ := trodAll_cons r1
  obtain ⟨rfl, rfl, rfl⟩ := trodAll_nil r2
  obtain rfl : args = #[v0, v1, v2] := by cases args; simp_all
  obtain ⟨rfl, rfl⟩ := trodVars_none hV
  have k0 := h0
  have lt0 : ∀ x ∈ p0, x.block < W.heap.size := by obtain ⟨m, hm⟩ := k0; exact DataW.trod_lt m _ _ _ hm
  obtain ⟨a0, n0, c0, rfl⟩ := okWide_slice Try.underlying22 (hval 0 22 v0 rfl rfl)
  have k1 := h1
  have lt1 : ∀ x ∈ p1, x.block < W.heap.size := by obtain ⟨m, hm⟩ := k1; exact DataW.trod_lt m _ _ _ hm
  obtain ⟨a1, n1, c1, rfl⟩ := okWide_slice Try.underlying22 (hval 1 22 v1 rfl rfl)
  have k2 := h2
  have lt2 : ∀ x ∈ p2, x.block < W.heap.size := by obtain ⟨m, hm⟩ := k2; exact DataW.trod_lt m _ _ _ hm
  obtain ⟨a2, n2, c2, rfl⟩ := okWide_slice Try.underlying22 (hval 2 22 v2 rfl rfl)
  obtain ⟨fu0, hf0⟩ := h0
  have bk0 := slice_bulk Try.underlying22 hf0
  obtain ⟨A0, C0, L0, e0, hc0, hw0, hp0⟩ := open_pairs hf0
  injection e0 with ea0 en0 ec0
  subst ea0
  subst en0
  subst ec0
  dsimp only at bk0
  obtain ⟨fu1, hf1⟩ := h1
  have bk1 := slice_bulk Try.underlying22 hf1
  obtain ⟨A1, C1, L1, e1, hc1, hw1, hp1⟩ := open_pairs hf1
  injection e1 with ea1 en1 ec1
  subst ea1
  subst en1
  subst ec1
  dsimp only at bk1
  obtain ⟨fu2, hf2⟩ := h2
  have bk2 := slice_bulk Try.underlying22 hf2
  obtain ⟨A2, C2, L2, e2, hc2, hw2, hp2⟩ := open_pairs hf2
  injection e2 with ea2 en2 ec2
  subst ea2
  subst en2
  subst ec2
  dsimp only at bk2
  have hb : Rows.uptoBulk d0 + Rows.uptoBulk d1 + Rows.uptoBulk d2 ≤ 1048576 := by
    have z := of_decide_eq_true hkk
    simp only [List.cons_append, List.nil_append, List.append_nil, Rows.uptoBulkAll, Rows.uptoBulk] at z
    omega
  clear hA0 hval0 hsz0
  refine (algebra_walk (Aa := a0) (ca := c0) (a := L0) (Ab := a1) (cb := c1) (b := L1) (Ac := a2) (cc := c2) (c := L2) ⟨hc0, by omega, hp0⟩ ⟨hc1, by omega, hp1⟩ ⟨hc2, by omega, hp2⟩ (by omega)).mono fun e W' ⟨he, bel⟩ => ?_
  subst he
  exact ⟨_, rfl, _, _, _, [], _, [], hW', trodAll_mk1 (shut_bool Try.underlying4 _), (trodAll_cons_mk (Below.trod laidOut (by kernel_rfl) (of_decide_eq_true (by kernel_rfl)) k0 bel lt0) (trodAll_cons_mk (Below.trod laidOut (by kernel_rfl) (of_decide_eq_true (by kernel_rfl)) k1 bel lt1) (trodAll_cons_mk (Below.trod laidOut (by kernel_rfl) (of_decide_eq_true (by kernel_rfl)) k2 bel lt2) trodAll_mk0))), rfl, bel.frame _, fun h => by cases h⟩
theorem over : Rows.shelfAlgebraUptoRow.holds Try.pinned (Rows.OpenSpec.upto Rows.shelfAlgebraSpec) :=
  OpenClaim.holds_of_cond 10 Try.f10 rfl rfl rfl rfl rfl rfl rfl ⟨rfl, rfl, rfl, rfl, rfl⟩ rfl rfl rfl rfl rfl (by kernel_rfl) Try.func10 (by kernel_rfl)
    (of_decide_eq_true (by kernel_rfl)) (by unfold Func.isWrapper; first | (rw [if_pos (by decide +kernel)]; kernel_rfl) | (rw [if_neg (by decide +kernel)]; exact ⟨rfl, rfl⟩))
    (fun os started H enc _ F => lifted os started H enc F)
theorem proved : Rows.ShelfAlgebraUptoSaid := over
#print axioms proved
end Go.Proofs.Yteledidnhjioaaa.shelfAlgebra
namespace Go.Proofs.Yteledidnhjioaaa
/-- The row, under a short name, for the claim. -/
theorem shelfAlgebra_holds : Rows.ShelfAlgebraUptoSaid := shelfAlgebra.proved
end Go.Proofs.Yteledidnhjioaaa
