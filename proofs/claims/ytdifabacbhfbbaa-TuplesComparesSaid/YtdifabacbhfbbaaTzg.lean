import Derived.Test.YtdifabacbhfbbaaTl
namespace Go.Proofs.Ytdifabacbhfbbaa.Tu
open Go.ChangeShapes Go.WideShapes Go.ChangeAt Go.RowKit
set_option linter.unusedVariables false
set_option linter.unusedSimpArgs false
section
variable {H : Type} {enc : TypeId × Value → H} {P : Program} {w : World} {base : Nat} {spare : Nat → Bool} {held : Bool} {fuel : Nat} {cs : List Value} {x : DataW H × List MemPlace}
theorem trod_float_wf {t : TypeId} {k : FloatKind} (ht : P.underlying t = some (.float k)) (h : DataW.trod enc P w base spare held fuel t cs = some x) : ∃ (b : Nat) (D : DataW H), cs = [.float k b] ∧ x.1 = D ∧ (Lit.float k b).wf = true := by
  cases fuel with
  | zero => simp [DataW.trod] at h
  | succ m =>
    unfold DataW.trod at h
    rw [ht] at h
    split at h <;> simp_all
end
theorem open48r {H : Type} {enc : TypeId × Value → H} {w : World} {base : Nat} {spare : Nat → Bool} {held : Bool} {fuel : Nat} {cs : List Value} {x : DataW H × List MemPlace} (h : DataW.trod enc Try.prog w base spare held fuel 48 cs = some x) :
    ∃ (s0 : Int) (s1 : Bool) (s2 : Int) (s3 : Nat) (D3 : DataW H) (s4 : ByteArray) (a5 : Option Addr) (n5 c5 : Nat) (m5 : Nat) (Y5 : DataW H × List MemPlace), cs = [.int .i64 s0, .bool s1, .int .i64 s2, .float .f32 s3, .string s4, .slice a5 n5 c5] ∧ x.1 = (.agg [.lit (.int .i64 s0), .lit (.bool s1), .lit (.int .i64 s2), D3, .lit (.string s4.data.toList), Y5.1]) ∧ (Lit.float .f32 s3).wf = true ∧ DataW.trod enc Try.prog w base spare held m5 46 [.slice a5 n5 c5] = some Y5 := by
  obtain ⟨xs, n, _, rfl, hlen, hxl, hf⟩ := DataW.trod_struct Try.underlying48 h
  have hC : Try.prog.cellsOf 48 = 6 := by kernel_rfl
  rw [hC] at hlen
  match xs, hxl, cs, hlen with
  | [y0, y1, y2, y3, y4, y5], _, [c0, c1, c2, c3, c4, c5], _ =>
    have g0 : DataW.trod enc Try.prog w base spare held n 3 [c0] = some y0 := by simpa [show Try.prog.cellsOf 3 = 1 from by kernel_rfl] using hf 0 _ rfl
    obtain ⟨s0, e0, r0, t0⟩ := DataW.trod_int Try.underlying3 g0
    simp only [List.cons.injEq, and_true] at e0
    subst e0
    subst r0
    have g1 : DataW.trod enc Try.prog w base spare held n 4 [c1] = some y1 := by simpa [show Try.prog.cellsOf 4 = 1 from by kernel_rfl] using hf 1 _ rfl
    obtain ⟨s1, e1, r1⟩ := DataW.trod_bool Try.underlying4 g1
    simp only [List.cons.injEq, and_true] at e1
    subst e1
    subst r1
    have g2 : DataW.trod enc Try.prog w base spare held n 2 [c2] = some y2 := by simpa [show Try.prog.cellsOf 2 = 1 from by kernel_rfl] using hf 2 _ rfl
    obtain ⟨s2, e2, r2, t2⟩ := DataW.trod_int Try.underlying2 g2
    simp only [List.cons.injEq, and_true] at e2
    subst e2
    subst r2
    have g3 : DataW.trod enc Try.prog w base spare held n 45 [c3] = some y3 := by simpa [show Try.prog.cellsOf 45 = 1 from by kernel_rfl] using hf 3 _ rfl
    obtain ⟨s3, D3, e3, r3, t3⟩ := trod_float_wf Try.underlying45 g3
    simp only [List.cons.injEq, and_true] at e3
    subst e3
    have g4 : DataW.trod enc Try.prog w base spare held n 9 [c4] = some y4 := by simpa [show Try.prog.cellsOf 9 = 1 from by kernel_rfl] using hf 4 _ rfl
    obtain ⟨s4, e4, r4, _⟩ := DataW.trod_string Try.underlying9 g4
    simp only [List.cons.injEq, and_true] at e4
    subst e4
    subst r4
    have g5 : DataW.trod enc Try.prog w base spare held n 46 [c5] = some y5 := by simpa [show Try.prog.cellsOf 46 = 1 from by kernel_rfl] using hf 5 _ rfl
    obtain ⟨a5, n5, c5, e5⟩ := trod_slice_form Try.underlying46 g5
    simp only [List.cons.injEq, and_true] at e5
    subst e5
    exact ⟨s0, s1, s2, s3, D3, s4, a5, n5, c5, n, y5, rfl, by simp [r3], t3, g5⟩

theorem open50r {H : Type} {enc : TypeId × Value → H} {w : World} {base : Nat} {spare : Nat → Bool} {held : Bool} {fuel : Nat} {cs : List Value} {x : DataW H × List MemPlace} (h : DataW.trod enc Try.prog w base spare held fuel 50 cs = some x) :
    ∃ (s0 : ByteArray) (s1 : Int) (s2 : Bool) (s3 : Int) (s4 : Nat) (D4 : DataW H) (s5 : ByteArray) (a6 : Option Addr) (n6 c6 : Nat) (m6 : Nat) (Y6 : DataW H × List MemPlace), cs = [.string s0, .int .i64 s1, .bool s2, .int .i64 s3, .float .f32 s4, .string s5, .slice a6 n6 c6] ∧ x.1 = (.agg [.lit (.string s0.data.toList), (.agg [.lit (.int .i64 s1), .lit (.bool s2), .lit (.int .i64 s3), D4, .lit (.string s5.data.toList), Y6.1])]) ∧ (Lit.float .f32 s4).wf = true ∧ DataW.trod enc Try.prog w base spare held m6 46 [.slice a6 n6 c6] = some Y6 := by
  obtain ⟨xs, n, _, rfl, hlen, hxl, hf⟩ := DataW.trod_struct Try.underlying50 h
  have hC : Try.prog.cellsOf 50 = 7 := by kernel_rfl
  rw [hC] at hlen
  match xs, hxl, cs, hlen with
  | [y0, y1], _, [c0, c1, c2, c3, c4, c5, c6], _ =>
    have g0 : DataW.trod enc Try.prog w base spare held n 9 [c0] = some y0 := by simpa [show Try.prog.cellsOf 9 = 1 from by kernel_rfl] using hf 0 _ rfl
    obtain ⟨s0, e0, r0, _⟩ := DataW.trod_string Try.underlying9 g0
    simp only [List.cons.injEq, and_true] at e0
    subst e0
    subst r0
    have g1 : DataW.trod enc Try.prog w base spare held n 48 [c1, c2, c3, c4, c5, c6] = some y1 := by simpa [show Try.prog.cellsOf 48 = 6 from by kernel_rfl] using hf 1 _ rfl
    obtain ⟨s1, s2, s3, s4, D4, s5, a6, n6, c6, m6, Y6, e1, r1, t1, t6⟩ := open48r g1
    simp only [List.cons.injEq, and_true] at e1
    obtain ⟨rfl, rfl, rfl, rfl, rfl, rfl⟩ := e1
    exact ⟨s0, s1, s2, s3, s4, D4, s5, a6, n6, c6, m6, Y6, rfl, by simp [r1], t1, t6⟩
theorem open_argsr {H : Type} {enc : TypeId × Value → H} {w : World} {base : Nat} {spare : Nat → Bool} {held : Bool} {fuel : Nat} {v : Value} {x : DataW H × List MemPlace} (h : DataW.trod enc Try.prog w base spare held fuel 28 [v] = some x) :
    ∃ (A : Option Addr) (c : Nat) (L : List Arg), v = .slice A L.length c ∧ (L ≠ [] → ∃ m, L.length * 88 ≤ m ∧ m ∈ DataW.weights Try.prog 28 x.1) ∧ ∀ (i : Nat) (a : Arg), L[i]? = some a → (∃ b o TA tc, A = some ⟨b, o, none⟩ ∧ Seven w b (o + i * 7) a.x (.slice TA a.l.length tc) ∧ TxtAt w TA a.l) ∧ (a.l ≠ [] → ∃ m, a.l.length * 16 ≤ m ∧ m ∈ DataW.weights Try.prog 28 x.1) ∧ a.x.r < 4294967296 := by
  have hC : Try.prog.cellsOf 50 = 7 := by kernel_rfl
  have hB : Try.prog.bytesOf 50 = 88 := by kernel_rfl
  rcases DataW.trod_slice Try.underlying28 h with ⟨h1, h2⟩ | ⟨a, len, cap, elems, rest, n, rfl, h2, h3, h4, h5, h6, h7, h8, h9⟩
  · injection h1 with h1 _
    exact ⟨none, 0, [], h1, by simp, by simp⟩
  · injection h2 with h2 _
    rw [hC] at h8
    have hx : DataW.weights Try.prog 28 x.1 = ((elems.map (·.1)).length + (rest.map (·.1)).length) * Try.prog.bytesOf 50 :: (DataW.weightsAll Try.prog 50 (elems.map (·.1)) ++ DataW.weightsAll Try.prog 50 (rest.map (·.1))) := by
      rw [h3]
      simp only [DataW.weights, Try.underlying28]
    have ha : 0 < len → ∃ b f, a = ⟨b, f, none⟩ := by
      intro hl
      have he := h8 0 hl
      rw [List.getElem?_eq_getElem (by omega), Option.bind_eq_some_iff] at he
      obtain ⟨cs, hcs, ht⟩ := he
      obtain ⟨hb, hl, hc⟩ := World.cells?_some hcs
      obtain ⟨b, f, p⟩ := a
      cases p with
      | none => exact ⟨b, f, rfl⟩
      | some p =>
        have := hc 0 (by omega)
        rw [List.getElem?_eq_getElem (by omega)] at this
        simp only [Nat.zero_mul, Addr.add, if_pos] at this
        unfold World.cell? at this
        split at this <;> simp at this
    have hrow : ∀ i, i < len → ∃ y : Arg, (∃ b o TA tc, a = ⟨b, o, none⟩ ∧ Seven w b (o + i * 7) y.x (.slice TA y.l.length tc) ∧ TxtAt w TA y.l) ∧ (y.l ≠ [] → ∃ m, y.l.length * 16 ≤ m ∧ m ∈ DataW.weights Try.prog 28 x.1) ∧ y.x.r < 4294967296 := by
      intro i hi
      have he := h8 i hi
      rw [List.getElem?_eq_getElem (by omega), Option.bind_eq_some_iff] at he
      obtain ⟨cs, hcs, ht⟩ := he
      obtain ⟨hb, hl, hc⟩ := World.cells?_some hcs
      obtain ⟨s0, s1, s2, s3, s4, D4, s5, a6, n6, c6, m6, Y6, rfl, hd, t4, t6⟩ := open50r ht
      obtain ⟨TA, tc, l, e6, _, hw6, hp6⟩ := open_texts t6
      injection e6 with e1 e2 e3
      subst e1
      subst e2
      subst e3
      obtain ⟨b, f, rfl⟩ := ha (by omega)
      refine ⟨⟨⟨s0, s1, s2, s3, s4, s5⟩, l⟩, ⟨b, f, a6, c6, rfl, ?_, hp6⟩, fun hl0 => ?_, by simpa [Lit.wf] using t4⟩
      · have k := fun j (hj : j < 7) => hc j (by simpa using hj)
        have k0 := k 0 (by omega)
        have k1 := k 1 (by omega)
        have k2 := k 2 (by omega)
        have k3 := k 3 (by omega)
        have k4 := k 4 (by omega)
        have k5 := k 5 (by omega)
        have k6 := k 6 (by omega)
        rw [add_plain, add_plain] at k0 k1 k2 k3 k4 k5 k6
        exact ⟨k0, k1, k2, k3, k4, k5, k6⟩
      · obtain ⟨m, hm1, hm2⟩ := hw6 hl0
        refine ⟨m, hm1, ?_⟩
        rw [hx]
        refine List.mem_cons_of_mem _ (List.mem_append_left _ (mem_all (d := (elems[i]'(by omega)).1) (List.mem_map_of_mem (List.getElem_mem _)) ?_))
        rw [hd]
        simp only [DataW.weights, Try.underlying50, DataW.weightsEach, Try.underlying48, List.map_cons, List.map_nil]
        simp [DataW.weightsEach, DataW.weights, hm2]
    obtain ⟨L, hl, hp⟩ := choose_row len hrow
    refine ⟨some a, cap, L, by rw [h2, hl], fun _ => ?_, fun i y hi => ?_⟩
    · rw [hx, hB]
      refine ⟨_, ?_, List.mem_cons_self ..⟩
      rw [List.length_map, List.length_map]; exact Nat.mul_le_mul_right _ (by omega)
    · obtain ⟨⟨b, o, TA, tc, e, h7, ht⟩, hw⟩ := hp i y hi
      exact ⟨⟨b, o, TA, tc, by rw [e], h7, ht⟩, hw⟩
end Go.Proofs.Ytdifabacbhfbbaa.Tu
