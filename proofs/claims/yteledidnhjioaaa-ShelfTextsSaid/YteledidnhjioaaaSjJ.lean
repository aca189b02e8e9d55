import Derived.Test.YteledidnhjioaaaShV
import Derived.Test.YteledidnhjioaaaSjI
namespace Go.Proofs.Yteledidnhjioaaa.Sh
open Go.ChangeShapes Go.WideShapes Go.ChangeAt Go.RowKit
set_option linter.unusedVariables false
theorem open_texts {H : Type} {enc : TypeId × Value → H} {w : World} {base : Nat} {spare : Nat → Bool} {held : Bool} {fuel : Nat} {v : Value} {x : DataW H × List MemPlace} (h : DataW.trod enc Try.prog w base spare held fuel 60 [v] = some x) :
    ∃ (A : Option Addr) (c : Nat) (l : List ByteArray), v = .slice A l.length c ∧ l.length ≤ c ∧ (l ≠ [] → ∃ m, l.length * 16 ≤ m ∧ m ∈ DataW.weights Try.prog 60 x.1) ∧ ∀ i o, l[i]? = some o → ∃ b f, A = some ⟨b, f, none⟩ ∧ w.cell? ⟨b, f + i, none⟩ = some (.string o) := by
  have hC : Try.prog.cellsOf 9 = 1 := by kernel_rfl
  have hB : Try.prog.bytesOf 9 = 16 := by kernel_rfl
  rcases DataW.trod_slice Try.underlying60 h with ⟨h1, h2⟩ | ⟨a, len, cap, elems, rest, n, rfl, h2, h3, h4, h5, h6, h7, h8, h9⟩
  · injection h1 with h1 _
    exact ⟨none, 0, [], h1, Nat.le_refl _, by simp, by simp⟩
  · injection h2 with h2 _
    rw [hC] at h8
    have hx : DataW.weights Try.prog 60 x.1 = ((elems.map (·.1)).length + (rest.map (·.1)).length) * Try.prog.bytesOf 9 :: (DataW.weightsAll Try.prog 9 (elems.map (·.1)) ++ DataW.weightsAll Try.prog 9 (rest.map (·.1))) := by
      rw [h3]
      simp only [DataW.weights, Try.underlying60]
    have ha : 0 < len → ∃ b f, a = ⟨b, f, none⟩ := by
      intro hl
      have he := h8 0 hl
      rw [List.getElem?_eq_getElem (by omega), Option.bind_eq_some_iff] at he
      obtain ⟨cs, hcs, ht⟩ := he
      obtain ⟨hb, hl, hc⟩ := World.cells?_some hcs
      obtain ⟨b, f, p⟩ := a
      cases p with
      | none => exact ⟨b, f, rfl⟩
      | some p =>
        have := hc 0 (by omega)
        rw [List.getElem?_eq_getElem (by omega)] at this
        simp only [Nat.zero_mul, Addr.add, if_pos] at this
        unfold World.cell? at this
        split at this <;> simp at this
    have hrow : ∀ i, i < len → ∃ o : ByteArray, ∃ b f, a = ⟨b, f, none⟩ ∧ w.cell? ⟨b, f + i, none⟩ = some (.string o) := by
      intro i hi
      have he := h8 i hi
      rw [List.getElem?_eq_getElem (by omega), Option.bind_eq_some_iff] at he
      obtain ⟨cs, hcs, ht⟩ := he
      obtain ⟨hb, hl, hc⟩ := World.cells?_some hcs
      obtain ⟨s0, rfl, hd, _⟩ := DataW.trod_string Try.underlying9 ht
      obtain ⟨b, f, rfl⟩ := ha (by omega)
      refine ⟨s0, b, f, rfl, ?_⟩
      have k0 := hc 0 (by simp)
      rw [add_plain, add_plain, Nat.mul_one, Nat.add_zero] at k0
      exact k0
    obtain ⟨l, hl, hp⟩ := choose_row len hrow
    refine ⟨some a, cap, l, by rw [h2, hl], by omega, ?_, fun i o hi => ?_⟩
    · intro _
      rw [hx, hB]
      refine ⟨_, ?_, List.mem_cons_self ..⟩
      rw [List.length_map, List.length_map]; exact Nat.mul_le_mul_right _ (by omega)
    · obtain ⟨b, f, e, k⟩ := hp i o hi
      exact ⟨b, f, by rw [e], k⟩
end Go.Proofs.Yteledidnhjioaaa.Sh
