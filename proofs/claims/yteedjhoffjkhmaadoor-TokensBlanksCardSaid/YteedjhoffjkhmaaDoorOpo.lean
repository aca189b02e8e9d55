import Derived.Test.YteedjhoffjkhmaaDoorOpn
namespace Go.Proofs.YteedjhoffjkhmaaDoor.Opn
open Go.ChangeShapes Go.WideShapes Go.ChangeAt Go.RowKit Go.Proofs.YteedjhoffjkhmaaDoor.PT
open Go.Proofs.YteedjhoffjkhmaaDoorW.PrintWords Go.Proofs.YteedjhoffjkhmaaDoorW.PrintLast Go.Proofs.YteedjhoffjkhmaaDoorW.PrintMore
set_option linter.unusedVariables false
theorem choose_ints {P : Nat → Int → Prop} : ∀ (n : Nat), (∀ i, i < n → ∃ x, P i x) → ∃ l : List Int, l.length = n ∧ ∀ i x, l[i]? = some x → P i x
  | 0, _ => ⟨[], rfl, fun i x h => by simp at h⟩
  | n + 1, h => by
    obtain ⟨l, hl, hp⟩ := choose_ints n (fun i hi => h i (by omega))
    obtain ⟨x, hx⟩ := h n (by omega)
    refine ⟨l ++ [x], by simp [hl], fun i y hy => ?_⟩
    by_cases hi : i < n
    · rw [List.getElem?_append_left (by omega)] at hy
      exact hp i y hy
    · by_cases he : i = n
      · subst he
        rw [List.getElem?_append_right (by omega), hl, Nat.sub_self] at hy
        simp at hy
        subst hy
        exact hx
      · rw [List.getElem?_append_right (by omega)] at hy
        simp only [hl] at hy
        rw [List.getElem?_eq_none (by simp; omega)] at hy
        cases hy
theorem open_nums {H : Type} {enc : TypeId × Value → H} {w : World} {base : Nat} {spare : Nat → Bool} {held : Bool} {fuel : Nat} {v : Value} {x : DataW H × List MemPlace} (h : DataW.trod enc Tryd.prog w base spare held fuel 42 [v] = some x) :
    ∃ (A : Option Addr) (c : Nat) (l : List Int), v = .slice A l.length c ∧ Kd.C (Kd.int .i64) w A l.length l ∧ l.length ≤ c := by
  have hC : Tryd.prog.cellsOf 3 = 1 := by kernel_rfl
  rcases DataW.trod_slice Tryd.underlying42 h with ⟨h1, h2⟩ | ⟨a, len, cap, elems, rest, n, rfl, h2, h3, h4, h5, h6, h7, h8, h9⟩
  · injection h1 with h1 _
    refine ⟨none, 0, [], h1, ?_, Nat.le_refl _⟩
    exact ⟨rfl, by simp, fun h => by simp at h⟩
  · injection h2 with h2 _
    rw [hC] at h8
    have hrow : ∀ i, i < len → ∃ y : Int, ∃ c : List Value, c.length = 1 ∧ (Kd.int .i64).K w y c ∧ ∀ j u, c[j]? = some u → w.cell? (a.add (i * 1 + j)) = some u := by
      intro i hi
      have he := h8 i hi
      rw [List.getElem?_eq_getElem (by omega), Option.bind_eq_some_iff] at he
      obtain ⟨cs, hcs, ht⟩ := he
      obtain ⟨hb, hl, hc⟩ := World.cells?_some hcs
      obtain ⟨s0, rfl, _, _⟩ := DataW.trod_int Tryd.underlying3 ht
      refine ⟨s0, _, rfl, rfl, ?_⟩
      intro j u hu
      have hj : j < 1 := (List.getElem?_eq_some_iff.1 hu).1
      rw [← Addr.add_add, hc j hj]
      exact hu
    obtain ⟨l, hl, hp⟩ := choose_ints len hrow
    refine ⟨some a, cap, l, by rw [h2, hl], ?_, by omega⟩
    refine ⟨rfl, ?_, fun _ => ⟨a, rfl, fun j y hy => hp j y hy⟩⟩
    have : maxLen ≤ 9223372036854775807 := by decide
    omega
end Go.Proofs.YteedjhoffjkhmaaDoor.Opn
