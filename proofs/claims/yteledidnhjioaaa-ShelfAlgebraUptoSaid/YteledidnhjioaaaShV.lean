import Derived.Test.YteledidnhjioaaaRows
import Derived.Test.YteledidnhjioaaaShT
import Derived.WalkKit
import Derived.ProofKit
import Derived.OpenShut
import Derived.ShutString
import Derived.ChangeOld
import Derived.ChangeArms
import Derived.DataElems
import Derived.Below
import Derived.SizedLaws
namespace Go.Proofs.Yteledidnhjioaaa.Sh
open Go.ChangeShapes Go.WideShapes Go.ChangeAt Go.RowKit
set_option linter.unusedVariables false
set_option maxRecDepth 100000 in
theorem open27 {H : Type} {enc : TypeId × Value → H} {w : World} {base : Nat} {spare : Nat → Bool} {held : Bool} {fuel : Nat} {cs : List Value} {x : DataW H × List MemPlace} (h : DataW.trod enc Try.prog w base spare held fuel 27 cs = some x) :
    ∃ (s0 : Int) (s1 : Int), cs = [.int .i64 s0, .int .i64 s1] ∧ x.1 = (.agg [.lit (.int .i64 s0), .lit (.int .i64 s1)]) ∧ (Lit.int .i64 s0).wf = true ∧ (Lit.int .i64 s1).wf = true := by
  obtain ⟨xs, n, _, rfl, hlen, hxl, hf⟩ := DataW.trod_struct Try.underlying27 h
  have hC : Try.prog.cellsOf 27 = 2 := by kernel_rfl
  rw [hC] at hlen
  match xs, hxl, cs, hlen with
  | [y0, y1], _, [c0, c1], _ =>
    have g0 : DataW.trod enc Try.prog w base spare held n 3 [c0] = some y0 := by simpa [show Try.prog.cellsOf 3 = 1 from by kernel_rfl] using hf 0 _ rfl
    obtain ⟨s0, e0, r0, t0⟩ := DataW.trod_int Try.underlying3 g0
    simp only [List.cons.injEq, and_true] at e0
    subst e0
    subst r0
    have g1 : DataW.trod enc Try.prog w base spare held n 3 [c1] = some y1 := by simpa [show Try.prog.cellsOf 3 = 1 from by kernel_rfl] using hf 1 _ rfl
    obtain ⟨s1, e1, r1, t1⟩ := DataW.trod_int Try.underlying3 g1
    simp only [List.cons.injEq, and_true] at e1
    subst e1
    subst r1
    exact ⟨s0, s1, rfl, by simp, t0, t1⟩

set_option maxRecDepth 100000 in
theorem open44 {H : Type} {enc : TypeId × Value → H} {w : World} {base : Nat} {spare : Nat → Bool} {held : Bool} {fuel : Nat} {cs : List Value} {x : DataW H × List MemPlace} (h : DataW.trod enc Try.prog w base spare held fuel 44 cs = some x) :
    ∃ (s0 : Int) (s1 : Int) (s2 : Int) (s3 : Int), cs = [.int .i64 s0, .int .i64 s1, .int .i64 s2, .int .i64 s3] ∧ x.1 = (.agg [.lit (.int .i64 s0), .lit (.int .i64 s1), (.agg [.lit (.int .i64 s2), .lit (.int .i64 s3)])]) ∧ (Lit.int .i64 s0).wf = true ∧ (Lit.int .i64 s1).wf = true ∧ (Lit.int .i64 s2).wf = true ∧ (Lit.int .i64 s3).wf = true := by
  obtain ⟨xs, n, _, rfl, hlen, hxl, hf⟩ := DataW.trod_struct Try.underlying44 h
  have hC : Try.prog.cellsOf 44 = 4 := by kernel_rfl
  rw [hC] at hlen
  match xs, hxl, cs, hlen with
  | [y0, y1, y2], _, [c0, c1, c2, c3], _ =>
    have g0 : DataW.trod enc Try.prog w base spare held n 3 [c0] = some y0 := by simpa [show Try.prog.cellsOf 3 = 1 from by kernel_rfl] using hf 0 _ rfl
    obtain ⟨s0, e0, r0, t0⟩ := DataW.trod_int Try.underlying3 g0
    simp only [List.cons.injEq, and_true] at e0
    subst e0
    subst r0
    have g1 : DataW.trod enc Try.prog w base spare held n 3 [c1] = some y1 := by simpa [show Try.prog.cellsOf 3 = 1 from by kernel_rfl] using hf 1 _ rfl
    obtain ⟨s1, e1, r1, t1⟩ := DataW.trod_int Try.underlying3 g1
    simp only [List.cons.injEq, and_true] at e1
    subst e1
    subst r1
    have g2 : DataW.trod enc Try.prog w base spare held n 27 [c2, c3] = some y2 := by simpa [show Try.prog.cellsOf 27 = 2 from by kernel_rfl] using hf 2 _ rfl
    obtain ⟨s2, s3, e2, r2, t2, t3⟩ := open27 g2
    simp only [List.cons.injEq, and_true] at e2
    obtain ⟨rfl, rfl⟩ := e2
    exact ⟨s0, s1, s2, s3, rfl, by simp [r2], t0, t1, t2, t3⟩

theorem add_plain (b f n : Nat) : (⟨b, f, none⟩ : Addr).add n = ⟨b, f + n, none⟩ := by
  unfold Addr.add
  split
  · next h => rw [h, Nat.add_zero]
  · rfl
/-- what a cell's row holds, chosen for all places at once -/
theorem choose_row {α : Type} {P : Nat → α → Prop} : ∀ (n : Nat), (∀ i, i < n → ∃ x, P i x) → ∃ l : List α, l.length = n ∧ ∀ i x, l[i]? = some x → P i x
  | 0, _ => ⟨[], rfl, fun i x h => by simp at h⟩
  | n + 1, h => by
    obtain ⟨l, hl, hp⟩ := choose_row n (fun i hi => h i (by omega))
    obtain ⟨x, hx⟩ := h n (by omega)
    refine ⟨l ++ [x], by simp [hl], fun i y hy => ?_⟩
    by_cases hi : i < n
    · rw [List.getElem?_append_left (by omega)] at hy
      exact hp i y hy
    · by_cases he : i = n
      · subst he
        rw [List.getElem?_append_right (by omega), hl, Nat.sub_self] at hy
        simp at hy
        subst hy
        exact hx
      · rw [List.getElem?_append_right (by omega)] at hy
        simp only [hl] at hy
        rw [List.getElem?_eq_none (by simp; omega)] at hy
        cases hy
theorem open_ops {H : Type} {enc : TypeId × Value → H} {w : World} {base : Nat} {spare : Nat → Bool} {held : Bool} {fuel : Nat} {v : Value} {x : DataW H × List MemPlace} (h : DataW.trod enc Try.prog w base spare held fuel 36 [v] = some x) :
    ∃ (A : Option Addr) (c : Nat) (l : List Op), v = .slice A l.length c ∧ l.length ≤ c ∧ (l ≠ [] → ∃ m, l.length * 32 ≤ m ∧ m ∈ DataW.weights Try.prog 36 x.1) ∧ ∀ i o, l[i]? = some o → ∃ b f, A = some ⟨b, f, none⟩ ∧ w.cell? ⟨b, f + i * 4, none⟩ = some (.int .i64 o.on) ∧ w.cell? ⟨b, f + i * 4 + 1, none⟩ = some (.int .i64 o.kind) ∧ w.cell? ⟨b, f + i * 4 + 2, none⟩ = some (.int .i64 o.x.1) ∧ w.cell? ⟨b, f + i * 4 + 2 + 1, none⟩ = some (.int .i64 o.x.2) := by
  have hC : Try.prog.cellsOf 44 = 4 := by kernel_rfl
  have hB : Try.prog.bytesOf 44 = 32 := by kernel_rfl
  rcases DataW.trod_slice Try.underlying36 h with ⟨h1, h2⟩ | ⟨a, len, cap, elems, rest, n, rfl, h2, h3, h4, h5, h6, h7, h8, h9⟩
  · injection h1 with h1 _
    exact ⟨none, 0, [], h1, Nat.le_refl _, by simp, by simp⟩
  · injection h2 with h2 _
    rw [hC] at h8
    have hx : DataW.weights Try.prog 36 x.1 = ((elems.map (·.1)).length + (rest.map (·.1)).length) * Try.prog.bytesOf 44 :: (DataW.weightsAll Try.prog 44 (elems.map (·.1)) ++ DataW.weightsAll Try.prog 44 (rest.map (·.1))) := by
      rw [h3]
      simp only [DataW.weights, Try.underlying36]
    have ha : 0 < len → ∃ b f, a = ⟨b, f, none⟩ := by
      intro hl
      have he := h8 0 hl
      rw [List.getElem?_eq_getElem (by omega), Option.bind_eq_some_iff] at he
      obtain ⟨cs, hcs, ht⟩ := he
      obtain ⟨hb, hl, hc⟩ := World.cells?_some hcs
      obtain ⟨b, f, p⟩ := a
      cases p with
      | none => exact ⟨b, f, rfl⟩
      | some p =>
        have := hc 0 (by omega)
        rw [List.getElem?_eq_getElem (by omega)] at this
        simp only [Nat.zero_mul, Addr.add, if_pos] at this
        unfold World.cell? at this
        split at this <;> simp at this
    have hrow : ∀ i, i < len → ∃ o : Op, ∃ b f, a = ⟨b, f, none⟩ ∧ w.cell? ⟨b, f + i * 4, none⟩ = some (.int .i64 o.on) ∧ w.cell? ⟨b, f + i * 4 + 1, none⟩ = some (.int .i64 o.kind) ∧ w.cell? ⟨b, f + i * 4 + 2, none⟩ = some (.int .i64 o.x.1) ∧ w.cell? ⟨b, f + i * 4 + 2 + 1, none⟩ = some (.int .i64 o.x.2) := by
      intro i hi
      have he := h8 i hi
      rw [List.getElem?_eq_getElem (by omega), Option.bind_eq_some_iff] at he
      obtain ⟨cs, hcs, ht⟩ := he
      obtain ⟨hb, hl, hc⟩ := World.cells?_some hcs
      obtain ⟨s0, s1, s2, s3, rfl, hd, _⟩ := open44 ht
      obtain ⟨b, f, rfl⟩ := ha (by omega)
      refine ⟨⟨s0, s1, (s2, s3)⟩, b, f, rfl, ?_⟩
      have k0 := hc 0 (by simp)
      rw [add_plain, add_plain] at k0
      have k1 := hc 1 (by simp)
      rw [add_plain, add_plain] at k1
      have k2 := hc 2 (by simp)
      rw [add_plain, add_plain] at k2
      have k3 := hc 3 (by simp)
      rw [add_plain, add_plain] at k3
      exact ⟨k0, k1, k2, k3⟩
    obtain ⟨l, hl, hp⟩ := choose_row len hrow
    refine ⟨some a, cap, l, by rw [h2, hl], by omega, ?_, fun i o hi => ?_⟩
    · intro _
      rw [hx, hB]
      refine ⟨_, ?_, List.mem_cons_self ..⟩
      rw [List.length_map, List.length_map]; exact Nat.mul_le_mul_right _ (by omega)
    · obtain ⟨b, f, e, k⟩ := hp i o hi
      exact ⟨b, f, by rw [e], k⟩
theorem open_pairs {H : Type} {enc : TypeId × Value → H} {w : World} {base : Nat} {spare : Nat → Bool} {held : Bool} {fuel : Nat} {v : Value} {x : DataW H × List MemPlace} (h : DataW.trod enc Try.prog w base spare held fuel 22 [v] = some x) :
    ∃ (A : Option Addr) (c : Nat) (l : List (Int × Int)), v = .slice A l.length c ∧ l.length ≤ c ∧ (l ≠ [] → ∃ m, l.length * 16 ≤ m ∧ m ∈ DataW.weights Try.prog 22 x.1) ∧ ∀ i o, l[i]? = some o → ∃ b f, A = some ⟨b, f, none⟩ ∧ w.cell? ⟨b, f + i * 2, none⟩ = some (.int .i64 o.1) ∧ w.cell? ⟨b, f + i * 2 + 1, none⟩ = some (.int .i64 o.2) := by
  have hC : Try.prog.cellsOf 27 = 2 := by kernel_rfl
  have hB : Try.prog.bytesOf 27 = 16 := by kernel_rfl
  rcases DataW.trod_slice Try.underlying22 h with ⟨h1, h2⟩ | ⟨a, len, cap, elems, rest, n, rfl, h2, h3, h4, h5, h6, h7, h8, h9⟩
  · injection h1 with h1 _
    exact ⟨none, 0, [], h1, Nat.le_refl _, by simp, by simp⟩
  · injection h2 with h2 _
    rw [hC] at h8
    have hx : DataW.weights Try.prog 22 x.1 = ((elems.map (·.1)).length + (rest.map (·.1)).length) * Try.prog.bytesOf 27 :: (DataW.weightsAll Try.prog 27 (elems.map (·.1)) ++ DataW.weightsAll Try.prog 27 (rest.map (·.1))) := by
      rw [h3]
      simp only [DataW.weights, Try.underlying22]
    have ha : 0 < len → ∃ b f, a = ⟨b, f, none⟩ := by
      intro hl
      have he := h8 0 hl
      rw [List.getElem?_eq_getElem (by omega), Option.bind_eq_some_iff] at he
      obtain ⟨cs, hcs, ht⟩ := he
      obtain ⟨hb, hl, hc⟩ := World.cells?_some hcs
      obtain ⟨b, f, p⟩ := a
      cases p with
      | none => exact ⟨b, f, rfl⟩
      | some p =>
        have := hc 0 (by omega)
        rw [List.getElem?_eq_getElem (by omega)] at this
        simp only [Nat.zero_mul, Addr.add, if_pos] at this
        unfold World.cell? at this
        split at this <;> simp at this
    have hrow : ∀ i, i < len → ∃ o : (Int × Int), ∃ b f, a = ⟨b, f, none⟩ ∧ w.cell? ⟨b, f + i * 2, none⟩ = some (.int .i64 o.1) ∧ w.cell? ⟨b, f + i * 2 + 1, none⟩ = some (.int .i64 o.2) := by
      intro i hi
      have he := h8 i hi
      rw [List.getElem?_eq_getElem (by omega), Option.bind_eq_some_iff] at he
      obtain ⟨cs, hcs, ht⟩ := he
      obtain ⟨hb, hl, hc⟩ := World.cells?_some hcs
      obtain ⟨s0, s1, rfl, hd, _⟩ := open27 ht
      obtain ⟨b, f, rfl⟩ := ha (by omega)
      refine ⟨(s0, s1), b, f, rfl, ?_⟩
      have k0 := hc 0 (by simp)
      rw [add_plain, add_plain] at k0
      have k1 := hc 1 (by simp)
      rw [add_plain, add_plain] at k1
      exact ⟨k0, k1⟩
    obtain ⟨l, hl, hp⟩ := choose_row len hrow
    refine ⟨some a, cap, l, by rw [h2, hl], by omega, ?_, fun i o hi => ?_⟩
    · intro _
      rw [hx, hB]
      refine ⟨_, ?_, List.mem_cons_self ..⟩
      rw [List.length_map, List.length_map]; exact Nat.mul_le_mul_right _ (by omega)
    · obtain ⟨b, f, e, k⟩ := hp i o hi
      exact ⟨b, f, by rw [e], k⟩
end Go.Proofs.Yteledidnhjioaaa.Sh
namespace Go.Proofs.Yteledidnhjioaaa.Sh
open Go.ChangeShapes Go.WideShapes Go.ChangeAt Go.RowKit
set_option linter.unusedVariables false
theorem bulk_pos {H : Type} (d : DataW H) : 1 ≤ Rows.uptoBulk d := by
  cases d with
  | lit l => cases l <;> simp [Rows.uptoBulk]
  | _ => simp [Rows.uptoBulk]
theorem bulk_len {H : Type} : ∀ l : List (DataW H), l.length ≤ Rows.uptoBulkAll l
  | [] => Nat.zero_le _
  | d :: l => by
    have h1 := bulk_pos d
    have h2 := bulk_len l
    simp only [List.length_cons, Rows.uptoBulkAll]
    omega
theorem slice_bulk {H : Type} {enc : TypeId × Value → H} {w : World} {base : Nat} {spare : Nat → Bool} {held : Bool} {fuel : Nat} {t e : TypeId} {A : Option Addr} {n c : Nat} {x : DataW H × List MemPlace} (ht : Try.prog.underlying t = some (.slice e)) (h : DataW.trod enc Try.prog w base spare held fuel t [.slice A n c] = some x) : n ≤ Rows.uptoBulk x.1 := by
  rcases DataW.trod_slice ht h with ⟨h1, h2⟩ | ⟨a, len, cap, elems, rest, m, rfl, h2, h3, h4, h5, h6, h7, h8, h9⟩
  · injection h1 with h1 _
    injection h1 with _ h1 _
    omega
  · injection h2 with h2 _
    injection h2 with _ h2 _
    rw [h3]
    have := bulk_len (elems.map (·.1))
    rw [List.length_map] at this
    simp only [Rows.uptoBulk]
    omega
theorem trod_slice_form {H : Type} {enc : TypeId × Value → H} {w : World} {base : Nat} {spare : Nat → Bool} {held : Bool} {fuel : Nat} {t e : TypeId} {cs : List Value} {x : DataW H × List MemPlace} (ht : Try.prog.underlying t = some (.slice e)) (h : DataW.trod enc Try.prog w base spare held fuel t cs = some x) : ∃ a n c, cs = [.slice a n c] := by
  rcases DataW.trod_slice ht h with ⟨h1, h2⟩ | ⟨a, len, cap, elems, rest, m, rfl, h2, h3, h4, h5, h6, h7, h8, h9⟩
  · exact ⟨_, _, _, h1⟩
  · exact ⟨_, _, _, h2⟩
set_option maxRecDepth 100000 in
theorem open81 {H : Type} {enc : TypeId × Value → H} {w : World} {base : Nat} {spare : Nat → Bool} {held : Bool} {fuel : Nat} {cs : List Value} {x : DataW H × List MemPlace} (h : DataW.trod enc Try.prog w base spare held fuel 81 cs = some x) :
    ∃ (a0 : Option Addr) (n0 c0 : Nat) (m0 : Nat) (Y0 : DataW H × List MemPlace) (a1 : Option Addr) (n1 c1 : Nat) (m1 : Nat) (Y1 : DataW H × List MemPlace) (a2 : Option Addr) (n2 c2 : Nat) (m2 : Nat) (Y2 : DataW H × List MemPlace) (s3 : Int), cs = [.slice a0 n0 c0, .slice a1 n1 c1, .slice a2 n2 c2, .int .i64 s3] ∧ x.1 = (.agg [Y0.1, Y1.1, Y2.1, .lit (.int .i64 s3)]) ∧ DataW.trod enc Try.prog w base spare held m0 22 [.slice a0 n0 c0] = some Y0 ∧ DataW.trod enc Try.prog w base spare held m1 22 [.slice a1 n1 c1] = some Y1 ∧ DataW.trod enc Try.prog w base spare held m2 22 [.slice a2 n2 c2] = some Y2 ∧ (Lit.int .i64 s3).wf = true := by
  obtain ⟨xs, n, _, rfl, hlen, hxl, hf⟩ := DataW.trod_struct Try.underlying81 h
  have hC : Try.prog.cellsOf 81 = 4 := by kernel_rfl
  rw [hC] at hlen
  match xs, hxl, cs, hlen with
  | [y0, y1, y2, y3], _, [c0, c1, c2, c3], _ =>
    have g0 : DataW.trod enc Try.prog w base spare held n 22 [c0] = some y0 := by simpa [show Try.prog.cellsOf 22 = 1 from by kernel_rfl] using hf 0 _ rfl
    obtain ⟨a0, n0, c0, e0⟩ := trod_slice_form Try.underlying22 g0
    simp only [List.cons.injEq, and_true] at e0
    subst e0
    have g1 : DataW.trod enc Try.prog w base spare held n 22 [c1] = some y1 := by simpa [show Try.prog.cellsOf 22 = 1 from by kernel_rfl] using hf 1 _ rfl
    obtain ⟨a1, n1, c1, e1⟩ := trod_slice_form Try.underlying22 g1
    simp only [List.cons.injEq, and_true] at e1
    subst e1
    have g2 : DataW.trod enc Try.prog w base spare held n 22 [c2] = some y2 := by simpa [show Try.prog.cellsOf 22 = 1 from by kernel_rfl] using hf 2 _ rfl
    obtain ⟨a2, n2, c2, e2⟩ := trod_slice_form Try.underlying22 g2
    simp only [List.cons.injEq, and_true] at e2
    subst e2
    have g3 : DataW.trod enc Try.prog w base spare held n 3 [c3] = some y3 := by simpa [show Try.prog.cellsOf 3 = 1 from by kernel_rfl] using hf 3 _ rfl
    obtain ⟨s3, e3, r3, t3⟩ := DataW.trod_int Try.underlying3 g3
    simp only [List.cons.injEq, and_true] at e3
    subst e3
    subst r3
    exact ⟨a0, n0, c0, n, y0, a1, n1, c1, n, y1, a2, n2, c2, n, y2, s3, rfl, by simp, g0, g1, g2, t3⟩
end Go.Proofs.Yteledidnhjioaaa.Sh
