/- Proved: latchkeylaw11.ShelfMerges returns true for every input whose reading is of bulk at most 1048576 in all, and its arguments read afterwards as they read before. The condition: that bulk. -/
import Derived.Test.YteledidnhjioaaaRows
import Derived.Test.YteledidnhjioaaaShV
import Derived.Test.YteledidnhjioaaaSkJ
import Derived.WalkKit
import Derived.ProofKit
import Derived.OpenShut
import Derived.ShutString
import Derived.ChangeOld
import Derived.Below
import Derived.SizedLaws
import Derived.JoinedCond
import Derived.Deep.CondSized
namespace Go.Proofs.Yteledidnhjioaaa.shelfMerges
open Go.Proofs.Yteledidnhjioaaa.Sh Go.ChangeShapes Go.WideShapes Go.ChangeAt Go.RowKit
open Go.ChangeMaps (open_string shut_string)
set_option linter.unusedVariables false
set_option linter.unusedSimpArgs false
theorem own : ownKnob Try.prog.godebug = none := by kernel_rfl
theorem laidOut : laidOutB Try.prog = true := by kernel_rfl
set_option maxHeartbeats 4000000 in
set_option maxRecDepth 100000 in
theorem lifted (os : Os) (started : os.Started) (H : Type) (enc : TypeId × Value → H) (F : Stop.Interp) :
    ReturnsInHanded {} Try.checked os 9 .any ((Rows.OpenSpec.upto Rows.shelfMergesSpec).pre6 enc Try.prog Try.f9 Rows.shelfMergesUptoRow.domain false) (((Rows.OpenSpec.upto Rows.shelfMergesSpec).at F).post enc Try.prog Try.f9 false true false false) := by
  refine returnsInHanded_of_cond_sized (C := Try.checked) (s := (Rows.OpenSpec.upto Rows.shelfMergesSpec)) (k := Rows.uptoSmall) rfl own started (by kernel_rfl) Try.func9
    (OpenSpec.witness (enc := enc) (C := Try.checked) (s := (Rows.OpenSpec.upto Rows.shelfMergesSpec)) (k := Rows.uptoSmall) rfl false ⟨#[], #[.agg #[.slice none 0 0, .slice none 0 0, .slice none 0 0, .int .i64 0]], []⟩ 8 (by kernel_rfl) (by kernel_rfl) (by kernel_rfl)
      (x := ([.agg [.nil, .nil, .nil, .lit (.int .i64 0)]], [], [])) (by kernel_rfl) rfl (by simp [Rows.uptoSmall, Rows.uptoBulkAll, Rows.uptoBulk])) ?_
  intro W base args ds gs before hval0 hW hcnd hkk hsz0 _
  have hsz : (DataW.weightsEach Try.prog (Try.f9.params.toList ++ Rows.shelfMergesSpec.plain.varTypes Try.prog) (ds ++ gs)).all (· ≤ reachBytes) = true := hsz0
  have hval : ∀ (j : Nat) t v, Try.f9.params[j]? = some t → args[j]? = some v → Value.okWide Try.prog W .any base t v := hval0
  have hW' := hW
  obtain ⟨p, q, hA0, hV, rfl, hfz, hnd⟩ := hW
  have hA : DataW.TrodAll enc Try.prog W 0 (fun _ => true) true Try.f9.params.toList args.toList ds p := hA0
  rw [Try.params9] at hA hval hsz
  obtain ⟨v0, vs0, d0, ds0, p0, q0, hargs, rfl, rfl, h0, r0⟩ := trodAll_cons hA
  obtain ⟨rfl, rfl, rfl⟩ := trodAll_nil r0
  obtain rfl : args = #[v0] := by cases args; simp_all
  obtain ⟨rfl, rfl⟩ := trodVars_none hV
  have k0 := h0
  have lt0 : ∀ x ∈ p0, x.block < W.heap.size := by obtain ⟨m, hm⟩ := k0; exact DataW.trod_lt m _ _ _ hm
  obtain ⟨⟨l0⟩, rfl, _⟩ := okWide_struct Try.underlying81 (hval 0 81 v0 rfl rfl)
  obtain ⟨fu0, hf0⟩ := h0
  obtain ⟨a0_0, n0_0, c0_0, m0_0, Y0_0, a0_1, n0_1, c0_1, m0_1, Y0_1, a0_2, n0_2, c0_2, m0_2, Y0_2, s0_3, e0, x0, t0_0, t0_1, t0_2, t0_3⟩ := open81 hf0
  have e0' : l0 = _ := e0
  subst e0'
  have x0' : d0 = _ := x0
  subst x0'
  clear e0 x0 hf0
  have bk0 := slice_bulk Try.underlying22 t0_0
  obtain ⟨A0, C0, L0, e0, hc0, hw0, hp0⟩ := open_pairs t0_0
  injection e0 with ea0 en0 ec0
  subst ea0
  subst en0
  subst ec0
  have bk1 := slice_bulk Try.underlying22 t0_1
  obtain ⟨A1, C1, L1, e1, hc1, hw1, hp1⟩ := open_pairs t0_1
  injection e1 with ea1 en1 ec1
  subst ea1
  subst en1
  subst ec1
  have bk2 := slice_bulk Try.underlying22 t0_2
  obtain ⟨A2, C2, L2, e2, hc2, hw2, hp2⟩ := open_pairs t0_2
  injection e2 with ea2 en2 ec2
  subst ea2
  subst en2
  subst ec2
  have hb : Rows.uptoBulk Y0_0.1 + Rows.uptoBulk Y0_1.1 + Rows.uptoBulk Y0_2.1 ≤ 1048576 := by
    have z := of_decide_eq_true hkk
    simp only [List.append_nil, Rows.uptoBulkAll, Rows.uptoBulk] at z
    omega
  clear hA0 hval0 hsz0
  refine (merges_walk s0_3 (Aa := a0_0) (ca := c0_0) (a := L0) (Ab := a0_1) (cb := c0_1) (b := L1) (Ac := a0_2) (cc := c0_2) (c := L2) ⟨hc0, by omega, hp0⟩ ⟨hc1, by omega, hp1⟩ ⟨hc2, by omega, hp2⟩ (by omega)).mono fun e W' ⟨he, bel⟩ => ?_
  subst he
  exact ⟨_, rfl, _, _, _, [], _, [], hW', trodAll_mk1 (shut_bool Try.underlying4 _), (trodAll_cons_mk (Below.trod laidOut (by kernel_rfl) (of_decide_eq_true (by kernel_rfl)) k0 bel lt0) trodAll_mk0), rfl, bel.frame _, fun h => by cases h⟩
theorem over : Rows.shelfMergesUptoRow.holds Try.pinned (Rows.OpenSpec.upto Rows.shelfMergesSpec) :=
  OpenClaim.holds_of_cond 9 Try.f9 rfl rfl rfl rfl rfl rfl rfl ⟨rfl, rfl, rfl, rfl, rfl⟩ rfl rfl rfl rfl rfl (by kernel_rfl) Try.func9 (by kernel_rfl)
    (of_decide_eq_true (by kernel_rfl)) (by unfold Func.isWrapper; first | (rw [if_pos (by decide +kernel)]; kernel_rfl) | (rw [if_neg (by decide +kernel)]; exact ⟨rfl, rfl⟩))
    (fun os started H enc _ F => lifted os started H enc F)
theorem proved : Rows.ShelfMergesUptoSaid := over
#print axioms proved
end Go.Proofs.Yteledidnhjioaaa.shelfMerges
namespace Go.Proofs.Yteledidnhjioaaa
/-- The row, under a short name, for the claim. -/
theorem shelfMerges_holds : Rows.ShelfMergesUptoSaid := shelfMerges.proved
end Go.Proofs.Yteledidnhjioaaa
