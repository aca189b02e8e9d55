import Derived.Test.YtdifabacbhfbbaaRows
import Derived.WalkKit
import Derived.ProofKit
import Derived.OpenShut
import Derived.ShutString
import Derived.ChangeOld
import Derived.Below
import Derived.SizedLaws
namespace Go.Proofs.Ytdifabacbhfbbaa
open Go.ChangeShapes Go.WideShapes Go.ChangeAt Go.RowKit
section
variable {H : Type} {enc : TypeId × Value → H} {P : Program} {w : World} {base : Nat} {spare : Nat → Bool} {held : Bool} {fuel : Nat} {cs : List Value} {x : DataW H × List MemPlace}
theorem trod_slice_form {t e : TypeId} (ht : P.underlying t = some (.slice e)) (h : DataW.trod enc P w base spare held fuel t cs = some x) : ∃ a n c, cs = [.slice a n c] := by
  cases fuel with
  | zero => simp [DataW.trod] at h
  | succ m =>
    unfold DataW.trod at h
    rw [ht] at h
    split at h <;> simp_all
end
theorem open23 {H : Type} {enc : TypeId × Value → H} {w : World} {base : Nat} {spare : Nat → Bool} {held : Bool} {fuel : Nat} {cs : List Value} {x : DataW H × List MemPlace} (h : DataW.trod enc Try.prog w base spare held fuel 23 cs = some x) :
    ∃ (s0 : ByteArray) (s1 : ByteArray) (s2 : ByteArray), cs = [.string s0, .string s1, .string s2] ∧ x.1 = (.agg [.lit (.string s0.data.toList), .lit (.string s1.data.toList), .lit (.string s2.data.toList)]) := by
  obtain ⟨xs, n, _, rfl, hlen, hxl, hf⟩ := DataW.trod_struct Try.underlying23 h
  have hC : Try.prog.cellsOf 23 = 3 := by kernel_rfl
  rw [hC] at hlen
  match xs, hxl, cs, hlen with
  | [y0, y1, y2], _, [c0, c1, c2], _ =>
    have g0 : DataW.trod enc Try.prog w base spare held n 9 [c0] = some y0 := by simpa [show Try.prog.cellsOf 9 = 1 from by kernel_rfl] using hf 0 _ rfl
    obtain ⟨s0, e0, r0, _⟩ := DataW.trod_string Try.underlying9 g0
    simp only [List.cons.injEq, and_true] at e0
    subst e0
    subst r0
    have g1 : DataW.trod enc Try.prog w base spare held n 9 [c1] = some y1 := by simpa [show Try.prog.cellsOf 9 = 1 from by kernel_rfl] using hf 1 _ rfl
    obtain ⟨s1, e1, r1, _⟩ := DataW.trod_string Try.underlying9 g1
    simp only [List.cons.injEq, and_true] at e1
    subst e1
    subst r1
    have g2 : DataW.trod enc Try.prog w base spare held n 9 [c2] = some y2 := by simpa [show Try.prog.cellsOf 9 = 1 from by kernel_rfl] using hf 2 _ rfl
    obtain ⟨s2, e2, r2, _⟩ := DataW.trod_string Try.underlying9 g2
    simp only [List.cons.injEq, and_true] at e2
    subst e2
    subst r2
    exact ⟨s0, s1, s2, rfl, by simp⟩

theorem open25 {H : Type} {enc : TypeId × Value → H} {w : World} {base : Nat} {spare : Nat → Bool} {held : Bool} {fuel : Nat} {cs : List Value} {x : DataW H × List MemPlace} (h : DataW.trod enc Try.prog w base spare held fuel 25 cs = some x) :
    ∃ (s0 : ByteArray) (s1 : ByteArray) (s2 : ByteArray) (s3 : ByteArray) (s4 : ByteArray) (s5 : ByteArray) (s6 : ByteArray), cs = [.string s0, .string s1, .string s2, .string s3, .string s4, .string s5, .string s6] ∧ x.1 = (.agg [.lit (.string s0.data.toList), .lit (.string s1.data.toList), .lit (.string s2.data.toList), (.agg [.lit (.string s3.data.toList), .lit (.string s4.data.toList), .lit (.string s5.data.toList)]), .lit (.string s6.data.toList)]) := by
  obtain ⟨xs, n, _, rfl, hlen, hxl, hf⟩ := DataW.trod_struct Try.underlying25 h
  have hC : Try.prog.cellsOf 25 = 7 := by kernel_rfl
  rw [hC] at hlen
  match xs, hxl, cs, hlen with
  | [y0, y1, y2, y3, y4], _, [c0, c1, c2, c3, c4, c5, c6], _ =>
    have g0 : DataW.trod enc Try.prog w base spare held n 9 [c0] = some y0 := by simpa [show Try.prog.cellsOf 9 = 1 from by kernel_rfl] using hf 0 _ rfl
    obtain ⟨s0, e0, r0, _⟩ := DataW.trod_string Try.underlying9 g0
    simp only [List.cons.injEq, and_true] at e0
    subst e0
    subst r0
    have g1 : DataW.trod enc Try.prog w base spare held n 9 [c1] = some y1 := by simpa [show Try.prog.cellsOf 9 = 1 from by kernel_rfl] using hf 1 _ rfl
    obtain ⟨s1, e1, r1, _⟩ := DataW.trod_string Try.underlying9 g1
    simp only [List.cons.injEq, and_true] at e1
    subst e1
    subst r1
    have g2 : DataW.trod enc Try.prog w base spare held n 9 [c2] = some y2 := by simpa [show Try.prog.cellsOf 9 = 1 from by kernel_rfl] using hf 2 _ rfl
    obtain ⟨s2, e2, r2, _⟩ := DataW.trod_string Try.underlying9 g2
    simp only [List.cons.injEq, and_true] at e2
    subst e2
    subst r2
    have g3 : DataW.trod enc Try.prog w base spare held n 23 [c3, c4, c5] = some y3 := by simpa [show Try.prog.cellsOf 23 = 3 from by kernel_rfl] using hf 3 _ rfl
    obtain ⟨s3, s4, s5, e3, r3⟩ := open23 g3
    simp only [List.cons.injEq, and_true] at e3
    obtain ⟨rfl, rfl, rfl⟩ := e3
    have g4 : DataW.trod enc Try.prog w base spare held n 9 [c6] = some y4 := by simpa [show Try.prog.cellsOf 9 = 1 from by kernel_rfl] using hf 4 _ rfl
    obtain ⟨s6, e4, r4, _⟩ := DataW.trod_string Try.underlying9 g4
    simp only [List.cons.injEq, and_true] at e4
    subst e4
    subst r4
    exact ⟨s0, s1, s2, s3, s4, s5, s6, rfl, by simp [r3]⟩

theorem open27 {H : Type} {enc : TypeId × Value → H} {w : World} {base : Nat} {spare : Nat → Bool} {held : Bool} {fuel : Nat} {cs : List Value} {x : DataW H × List MemPlace} (h : DataW.trod enc Try.prog w base spare held fuel 27 cs = some x) :
    ∃ (s0 : ByteArray) (s1 : ByteArray), cs = [.string s0, .string s1] ∧ x.1 = (.agg [.lit (.string s0.data.toList), .lit (.string s1.data.toList)]) := by
  obtain ⟨xs, n, _, rfl, hlen, hxl, hf⟩ := DataW.trod_struct Try.underlying27 h
  have hC : Try.prog.cellsOf 27 = 2 := by kernel_rfl
  rw [hC] at hlen
  match xs, hxl, cs, hlen with
  | [y0, y1], _, [c0, c1], _ =>
    have g0 : DataW.trod enc Try.prog w base spare held n 9 [c0] = some y0 := by simpa [show Try.prog.cellsOf 9 = 1 from by kernel_rfl] using hf 0 _ rfl
    obtain ⟨s0, e0, r0, _⟩ := DataW.trod_string Try.underlying9 g0
    simp only [List.cons.injEq, and_true] at e0
    subst e0
    subst r0
    have g1 : DataW.trod enc Try.prog w base spare held n 9 [c1] = some y1 := by simpa [show Try.prog.cellsOf 9 = 1 from by kernel_rfl] using hf 1 _ rfl
    obtain ⟨s1, e1, r1, _⟩ := DataW.trod_string Try.underlying9 g1
    simp only [List.cons.injEq, and_true] at e1
    subst e1
    subst r1
    exact ⟨s0, s1, rfl, by simp⟩

theorem open30 {H : Type} {enc : TypeId × Value → H} {w : World} {base : Nat} {spare : Nat → Bool} {held : Bool} {fuel : Nat} {cs : List Value} {x : DataW H × List MemPlace} (h : DataW.trod enc Try.prog w base spare held fuel 30 cs = some x) :
    ∃ (s0 : ByteArray) (s1 : ByteArray) (s2 : ByteArray) (s3 : ByteArray) (s4 : ByteArray) (s5 : ByteArray) (s6 : ByteArray) (a7 : Option Addr) (n7 c7 : Nat) (m7 : Nat) (Y7 : DataW H × List MemPlace), cs = [.string s0, .string s1, .string s2, .string s3, .string s4, .string s5, .string s6, .slice a7 n7 c7] ∧ x.1 = (.agg [(.agg [.lit (.string s0.data.toList), .lit (.string s1.data.toList)]), .lit (.string s2.data.toList), (.agg [.lit (.string s3.data.toList), .lit (.string s4.data.toList), .lit (.string s5.data.toList)]), .lit (.string s6.data.toList), Y7.1]) ∧ DataW.trod enc Try.prog w base spare held m7 28 [.slice a7 n7 c7] = some Y7 := by
  obtain ⟨xs, n, _, rfl, hlen, hxl, hf⟩ := DataW.trod_struct Try.underlying30 h
  have hC : Try.prog.cellsOf 30 = 8 := by kernel_rfl
  rw [hC] at hlen
  match xs, hxl, cs, hlen with
  | [y0, y1, y2, y3, y4], _, [c0, c1, c2, c3, c4, c5, c6, c7], _ =>
    have g0 : DataW.trod enc Try.prog w base spare held n 27 [c0, c1] = some y0 := by simpa [show Try.prog.cellsOf 27 = 2 from by kernel_rfl] using hf 0 _ rfl
    obtain ⟨s0, s1, e0, r0⟩ := open27 g0
    simp only [List.cons.injEq, and_true] at e0
    obtain ⟨rfl, rfl⟩ := e0
    have g1 : DataW.trod enc Try.prog w base spare held n 9 [c2] = some y1 := by simpa [show Try.prog.cellsOf 9 = 1 from by kernel_rfl] using hf 1 _ rfl
    obtain ⟨s2, e1, r1, _⟩ := DataW.trod_string Try.underlying9 g1
    simp only [List.cons.injEq, and_true] at e1
    subst e1
    subst r1
    have g2 : DataW.trod enc Try.prog w base spare held n 23 [c3, c4, c5] = some y2 := by simpa [show Try.prog.cellsOf 23 = 3 from by kernel_rfl] using hf 2 _ rfl
    obtain ⟨s3, s4, s5, e2, r2⟩ := open23 g2
    simp only [List.cons.injEq, and_true] at e2
    obtain ⟨rfl, rfl, rfl⟩ := e2
    have g3 : DataW.trod enc Try.prog w base spare held n 9 [c6] = some y3 := by simpa [show Try.prog.cellsOf 9 = 1 from by kernel_rfl] using hf 3 _ rfl
    obtain ⟨s6, e3, r3, _⟩ := DataW.trod_string Try.underlying9 g3
    simp only [List.cons.injEq, and_true] at e3
    subst e3
    subst r3
    have g4 : DataW.trod enc Try.prog w base spare held n 28 [c7] = some y4 := by simpa [show Try.prog.cellsOf 28 = 1 from by kernel_rfl] using hf 4 _ rfl
    obtain ⟨a7, n7, c7, e4⟩ := trod_slice_form Try.underlying28 g4
    simp only [List.cons.injEq, and_true] at e4
    subst e4
    exact ⟨s0, s1, s2, s3, s4, s5, s6, a7, n7, c7, n, y4, rfl, by simp [r0, r2], g4⟩

end Go.Proofs.Ytdifabacbhfbbaa
