import Derived.Test.YteledidnhjioaaaSiJ
import Derived.Deep.AppendLies
namespace Go.Proofs.Yteledidnhjioaaa.Sh
open Go.RowKit Go.Lib Go.Proofs Go.Shelf
set_option linter.unusedVariables false
set_option linter.unusedSimpArgs false
theorem later_alloc_drew (w : World) (o : Obj) : Later w (w.drew.alloc o) := Later.alloc (Later.drew (Later.refl w)) o
/-- append of one pair: in the old row, or all laid anew and nothing else touched -/
theorem run_append_pair {w : World} {ty : TypeId} {base g0 : Nat} {v : Value} {l : List (Int × Int)} {x : Int × Int} (hown : w.ownsRow base 27 2 v l.length (flat l)) (hc : w.cell? ⟨g0, 0, none⟩ = some (.int .i64 x.1) ∧ w.cell? ⟨g0, 1, none⟩ = some (.int .i64 x.2)) (hz : l.length ≤ 8796093022200) (hb : base ≤ w.heap.size) :
    ∃ g cap w', (Builtin.append_ #[22, 22] ty #[v, .slice (some ⟨g0, 0, none⟩) 1 1]).run Try.prog w = .ok (.slice (some ⟨g, 0, none⟩) (l.length + 1) cap) w' ∧
      w'.ownsRow base 27 2 (.slice (some ⟨g, 0, none⟩) (l.length + 1) cap) (l ++ [x]).length (flat (l ++ [x])) ∧ w.grownBy w' v.ownBlock ∧ g < w'.heap.size ∧ (v.ownBlock = some g ∨ (w.heap.size ≤ g ∧ Later w w')) := by
  obtain ⟨i0, hi, hz0, hz1, hz2⟩ := info_parts info27
  have hnews : ∀ j u, [Value.int .i64 x.1, .int .i64 x.2][j]? = some u → w.cell? ((⟨g0, 0, none⟩ : Addr).add j) = some u := by
    intro j u hj
    match j, hj with
    | 0, hj => cases hj; rw [addr_plus]; exact hc.1
    | 1, hj => cases hj; rw [addr_plus]; exact hc.2
    | j + 2, hj => simp at hj
  obtain ⟨g, cap, w', hr, h2, h3, h4, h5⟩ := run_append_lies (P := Try.prog) w 22 ty base 27 i0 (.agg #[.int .i64 0, .int .i64 0]) 2 16 Try.underlying22 hi hz0 hz1 hz2 rfl (by decide) v l.length (flat l) hown ⟨g0, 0, none⟩ 1 1 [.int .i64 x.1, .int .i64 x.2] rfl hnews (by simp [Value.oneCell']) (by decide) (by unfold maxLen; omega) (by omega) hb w.heap.size rfl
  have hfl : flat l ++ [.int .i64 x.1, .int .i64 x.2] = flat (l ++ [x]) := (flat_snoc l x).symm
  rw [hfl] at h2
  refine ⟨g, cap, w', hr, by rw [List.length_append, List.length_singleton]; exact h2, h3, h5, ?_⟩
  rcases h4 with h4 | h4
  · exact .inl h4
  · rcases hown.2 with ⟨rfl, h0⟩ | ⟨g', cap', cur, rfl, hbg, hg, hnc, hcm, hcs, htake⟩
    · have hr2 := run_append_nil (P := Try.prog) w 22 ty 27 i0 (.agg #[.int .i64 0, .int .i64 0]) Try.underlying22 hi hz0 ⟨g0, 0, none⟩ 1 1 [.int .i64 x.1, .int .i64 x.2] (by rw [hz1]; rfl) hnews (by decide) (by decide) (by rw [hz2]; decide)
      rw [hr] at hr2
      injection hr2 with _ e2
      exact .inr ⟨by omega, by rw [e2]; exact later_alloc_drew w _⟩
    · by_cases hroom : l.length + 1 ≤ cap'
      · have hr2 := run_append_room (P := Try.prog) w 22 ty 27 i0 Try.underlying22 hi g' l.length cap' cur hg ⟨g0, 0, none⟩ 1 1 [.int .i64 x.1, .int .i64 x.2] (by rw [hz1]; rfl) hnews (by simp [Value.oneCell']) hroom (by rw [hz1, hcs]; simp; omega)
        rw [hr] at hr2
        injection hr2 with e1 _
        injection e1 with e1 _ _
        injection e1 with e1
        injection e1 with e1 _ _
        exact .inl (by rw [e1]; rfl)
      · have holds : ∀ j u, (flat l)[j]? = some u → w.cell? ((⟨g', 0, none⟩ : Addr).add j) = some u := hown.cells (g := g') rfl
        have hr2 := run_append_grow (P := Try.prog) w 22 ty 27 i0 (.agg #[.int .i64 0, .int .i64 0]) Try.underlying22 hi hz0 ⟨g', 0, none⟩ l.length cap' (flat l) (by rw [hz1]; exact hown.1) holds ⟨g0, 0, none⟩ 1 1 [.int .i64 x.1, .int .i64 x.2] (by rw [hz1]; rfl) hnews (by omega) (by omega) (growslice_fits (by omega) (by rw [hz2]; omega))
        rw [hr] at hr2
        injection hr2 with _ e2
        exact .inr ⟨by omega, by rw [e2]; exact later_alloc_drew w _⟩
theorem append_pair {ops : Array Oper} {rest : List Oper} {o : Oper} {a : Act} {Q : Exit → Act → World → Prop} {W : World} {s t : Operand} {base g0 : Nat} {v : Value} {l : List (Int × Int)} {x : Int × Int} (hg : o.guard = none)
    (hop : o.op = Op.call { callee := Callee.builtin Builtin.append, args := #[s, t], argTypes := #[22, 22] }) (hs : a.eval s = v) (hx : a.eval t = .slice (some ⟨g0, 0, none⟩) 1 1) (hown : W.ownsRow base 27 2 v l.length (flat l))
    (hc : W.cell? ⟨g0, 0, none⟩ = some (.int .i64 x.1) ∧ W.cell? ⟨g0, 1, none⟩ = some (.int .i64 x.2)) (hz : l.length ≤ 8796093022200) (hb : base ≤ W.heap.size)
    (hK : ∀ g cap w', w'.ownsRow base 27 2 (.slice (some ⟨g, 0, none⟩) (l.length + 1) cap) (l ++ [x]).length (flat (l ++ [x])) → W.grownBy w' v.ownBlock → g < w'.heap.size → (v.ownBlock = some g ∨ (W.heap.size ≤ g ∧ Later W w')) → wpList Try.prog ops Q rest (a.put o.dst (.slice (some ⟨g, 0, none⟩) (l.length + 1) cap)) w') : wpList Try.prog ops Q (o :: rest) a W := by
  refine wpList_plain hg fun K hK' => ?_
  obtain ⟨g, cap, w', hr, h2, h3, h4, h5⟩ := run_append_pair (ty := o.type) hown hc hz hb
  unfold Oper.wp execOp
  simp only [hop, resolve, invoke, builtin, Sem.run_bind, Sem.run_pure, Result.andThen_ok, List.map_toArray, List.map_cons, List.map_nil, hs, hx, hr]
  exact hK' _ _ (hK g cap w' h2 h3 h4 h5)
end Go.Proofs.Yteledidnhjioaaa.Sh
