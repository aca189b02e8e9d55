import Derived.Test.YteedjhoffjkhmaaDoorRows
import Derived.Test.YteedjhoffjkhmaaDoorPTx0
import Derived.WalkKit
import Derived.ProofKit
import Derived.OpenShut
import Derived.ShutString
import Derived.ChangeOld
import Derived.ChangeArms
import Derived.DataElems
import Derived.Below
import Derived.SizedLaws
namespace Go.Proofs.YteedjhoffjkhmaaDoor.Opn
open Go.ChangeShapes Go.WideShapes Go.ChangeAt Go.RowKit Go.Proofs.YteedjhoffjkhmaaDoor.PT
open Go.Proofs.YteedjhoffjkhmaaDoorW.PrintWords Go.Proofs.YteedjhoffjkhmaaDoorW.PrintLast Go.Proofs.YteedjhoffjkhmaaDoorW.PrintMore
set_option linter.unusedVariables false
theorem open37 {H : Type} {enc : TypeId × Value → H} {w : World} {base : Nat} {spare : Nat → Bool} {held : Bool} {fuel : Nat} {cs : List Value} {x : DataW H × List MemPlace} (h : DataW.trod enc Tryd.prog w base spare held fuel 37 cs = some x) :
    ∃ (s0 : Int) (s1 : ByteArray) (s2 : Int) (s3 : Int), cs = [.int .i64 s0, .string s1, .int .i64 s2, .int .i64 s3] ∧ x.1 = (.agg [.lit (.int .i64 s0), .lit (.string s1.data.toList), .lit (.int .i64 s2), .lit (.int .i64 s3)]) ∧ s1.size ≤ maxLen ∧ (Lit.int .i64 s0).wf = true ∧ (Lit.int .i64 s2).wf = true ∧ (Lit.int .i64 s3).wf = true := by
  obtain ⟨xs, n, _, rfl, hlen, hxl, hf⟩ := DataW.trod_struct Tryd.underlying37 h
  have hC : Tryd.prog.cellsOf 37 = 4 := by kernel_rfl
  rw [hC] at hlen
  match xs, hxl, cs, hlen with
  | [y0, y1, y2, y3], _, [c0, c1, c2, c3], _ =>
    have g0 : DataW.trod enc Tryd.prog w base spare held n 3 [c0] = some y0 := by simpa [show Tryd.prog.cellsOf 3 = 1 from by kernel_rfl] using hf 0 _ rfl
    obtain ⟨s0, e0, r0, t0⟩ := DataW.trod_int Tryd.underlying3 g0
    simp only [List.cons.injEq, and_true] at e0
    subst e0
    subst r0
    have g1 : DataW.trod enc Tryd.prog w base spare held n 9 [c1] = some y1 := by simpa [show Tryd.prog.cellsOf 9 = 1 from by kernel_rfl] using hf 1 _ rfl
    obtain ⟨s1, e1, r1, z1⟩ := DataW.trod_string Tryd.underlying9 g1
    simp only [List.cons.injEq, and_true] at e1
    subst e1
    subst r1
    have g2 : DataW.trod enc Tryd.prog w base spare held n 3 [c2] = some y2 := by simpa [show Tryd.prog.cellsOf 3 = 1 from by kernel_rfl] using hf 2 _ rfl
    obtain ⟨s2, e2, r2, t2⟩ := DataW.trod_int Tryd.underlying3 g2
    simp only [List.cons.injEq, and_true] at e2
    subst e2
    subst r2
    have g3 : DataW.trod enc Tryd.prog w base spare held n 3 [c3] = some y3 := by simpa [show Tryd.prog.cellsOf 3 = 1 from by kernel_rfl] using hf 3 _ rfl
    obtain ⟨s3, e3, r3, t3⟩ := DataW.trod_int Tryd.underlying3 g3
    simp only [List.cons.injEq, and_true] at e3
    subst e3
    subst r3
    exact ⟨s0, s1, s2, s3, rfl, by simp, z1, t0, t2, t3⟩
theorem choose_row {P : Nat → S37 → Prop} : ∀ (n : Nat), (∀ i, i < n → ∃ x, P i x) → ∃ l : List S37, l.length = n ∧ ∀ i x, l[i]? = some x → P i x
  | 0, _ => ⟨[], rfl, fun i x h => by simp at h⟩
  | n + 1, h => by
    obtain ⟨l, hl, hp⟩ := choose_row n (fun i hi => h i (by omega))
    obtain ⟨x, hx⟩ := h n (by omega)
    refine ⟨l ++ [x], by simp [hl], fun i y hy => ?_⟩
    by_cases hi : i < n
    · rw [List.getElem?_append_left (by omega)] at hy
      exact hp i y hy
    · by_cases he : i = n
      · subst he
        rw [List.getElem?_append_right (by omega), hl, Nat.sub_self] at hy
        simp at hy
        subst hy
        exact hx
      · rw [List.getElem?_append_right (by omega)] at hy
        simp only [hl] at hy
        have : i - n ≠ 0 := by omega
        rw [List.getElem?_eq_none (by simp; omega)] at hy
        cases hy
theorem mem_all {H : Type} {P : Program} {e : TypeId} {d : DataW H} {n : Nat} : ∀ {l : List (DataW H)}, d ∈ l → n ∈ d.weights P e → n ∈ DataW.weightsAll P e l
  | x :: r, h, hn => by
    unfold DataW.weightsAll
    rcases List.mem_cons.1 h with rfl | h
    · exact List.mem_append_left _ hn
    · exact List.mem_append_right _ (mem_all h hn)
theorem open_rows {H : Type} {enc : TypeId × Value → H} {w : World} {base : Nat} {spare : Nat → Bool} {held : Bool} {fuel : Nat} {v : Value} {x : DataW H × List MemPlace} (h : DataW.trod enc Tryd.prog w base spare held fuel 22 [v] = some x) :
    ∃ (A : Option Addr) (c : Nat) (l : List S37), v = .slice A l.length c ∧ Kd.C k37 w A l.length l ∧ l.length ≤ c ∧ (l ≠ [] → ∃ m, l.length ≤ m ∧ m ∈ DataW.weights Tryd.prog 22 x.1) ∧ ∀ y ∈ l, y.f1.size ∈ DataW.weights Tryd.prog 22 x.1 := by
  have hC : Tryd.prog.cellsOf 37 = 4 := by kernel_rfl
  have hB : Tryd.prog.bytesOf 37 = 40 := by kernel_rfl
  rcases DataW.trod_slice Tryd.underlying22 h with ⟨h1, h2⟩ | ⟨a, len, cap, elems, rest, n, rfl, h2, h3, h4, h5, h6, h7, h8, h9⟩
  · injection h1 with h1 _
    refine ⟨none, 0, [], h1, ?_, Nat.le_refl _, by simp, by simp⟩
    exact ⟨rfl, by simp, fun h => by simp at h⟩
  · injection h2 with h2 _
    rw [hC] at h8
    have hx : DataW.weights Tryd.prog 22 x.1 = ((elems.map (·.1)).length + (rest.map (·.1)).length) * Tryd.prog.bytesOf 37 :: (DataW.weightsAll Tryd.prog 37 (elems.map (·.1)) ++ DataW.weightsAll Tryd.prog 37 (rest.map (·.1))) := by
      rw [h3]
      simp only [DataW.weights, Tryd.underlying22]
    have hrow : ∀ i, i < len → ∃ y : S37, (∃ c : List Value, c.length = 4 ∧ k37.K w y c ∧ ∀ j u, c[j]? = some u → w.cell? (a.add (i * 4 + j)) = some u) ∧ y.f1.size ∈ DataW.weights Tryd.prog 22 x.1 := by
      intro i hi
      have he := h8 i hi
      rw [List.getElem?_eq_getElem (by omega), Option.bind_eq_some_iff] at he
      obtain ⟨cs, hcs, ht⟩ := he
      obtain ⟨hb, hl, hc⟩ := World.cells?_some hcs
      obtain ⟨s0, s1, s2, s3, rfl, hd, _⟩ := open37 ht
      refine ⟨⟨s0, s1, s2, s3⟩, ⟨_, rfl, k37.K_of_M (k37_mkM w 0 (fun _ => True) ⟨s0, s1, s2, s3⟩), ?_⟩, ?_⟩
      · intro j u hu
        have hj : j < 4 := (List.getElem?_eq_some_iff.1 hu).1
        rw [← Addr.add_add, hc j hj]
        exact hu
      · rw [hx]
        refine List.mem_cons_of_mem _ (List.mem_append_left _ (mem_all (d := (elems[i]'(by omega)).1) (List.mem_map_of_mem (List.getElem_mem _)) ?_))
        rw [hd]
        have : s1.size = s1.data.toList.length := by rw [Array.length_toList]; rfl
        simp only [DataW.weights, Tryd.underlying37, this]
        simp [DataW.weightsEach, DataW.weights]
    obtain ⟨l, hl, hp⟩ := choose_row len hrow
    have h7' : len ≤ maxLen := by omega
    refine ⟨some a, cap, l, by rw [h2, hl], ?_, by omega, ?_, ?_⟩
    · refine ⟨rfl, ?_, fun _ => ⟨a, rfl, fun j y hy => (hp j y hy).1⟩⟩
      have : maxLen ≤ 9223372036854775807 := by decide
      omega
    · intro _
      rw [hx, hB]
      refine ⟨_, ?_, List.mem_cons_self ..⟩
      rw [List.length_map, List.length_map]; omega
    · intro y hy
      obtain ⟨i, hi⟩ := List.mem_iff_getElem?.1 hy
      exact (hp i y hi).2
end Go.Proofs.YteedjhoffjkhmaaDoor.Opn
