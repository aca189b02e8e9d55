import Derived.Test.YtdifabacbhfbbaaTr
namespace Go.Proofs.Ytdifabacbhfbbaa.Tu
open Go.RowKit Go.Lib Go.Proofs
set_option linter.unusedVariables false
set_option linter.unusedSimpArgs false
/-- a value, but for its texts -/
structure ValV where
  kind : Int
  b : Bool
  i : Int
  r : Nat
  text : ByteArray
abbrev ValV.v (x : ValV) (t : Value) : Value := .agg #[.int .i64 x.kind, .bool x.b, .int .i64 x.i, .float .f32 x.r, .string x.text, t]
abbrev ValV.ls (x : ValV) (t : Value) : List Value := [.int .i64 x.kind, .bool x.b, .int .i64 x.i, .float .f32 x.r, .string x.text, t]
abbrev ValV.ok (x : ValV) (l : List ByteArray) : Bool := okV x.kind x.b x.i x.r x.text l
theorem errV_zero (o : Bool) : (errV o == 0) = o := by cases o <;> rfl
set_option maxHeartbeats 8000000 in
set_option maxRecDepth 100000 in
theorem may_any (x y : ValV) {l m : List ByteArray} {w : World} {A B : Option Addr} {n1 n2 c c' : Nat} (hA : TxtAt w A l) (hB : TxtAt w B m) (hn1 : l.length = n1) (hn2 : m.length = n2) (hz1 : n1 ≤ 8796093022080) (hz2 : n2 ≤ 8796093022080) :
    Calls Try.prog 42 #[x.v (.slice A n1 c), y.v (.slice B n2 c')] w fun e w' => e = .returned (.bool (x.ok l && y.ok m)) ∧ Later w w' := by
  obtain ⟨hw2, hc⟩ := two_boxes (x.ls (.slice A n1 c)) (y.ls (.slice B n2 c')) 48 w
  have k1 := fun W (h : Later w W) => check_any x.kind x.b x.i x.r x.text (c := c) (hA.later h) hn1 hz1
  have k2 := fun W (h : Later w W) => check_any y.kind y.b y.i y.r y.text (c := c') (hB.later h) hn2 hz2
  unfold ValV.ok
  generalize okV x.kind x.b x.i x.r x.text l = o1 at k1 ⊢
  generalize okV y.kind y.b y.i y.r y.text m = o2 at k2 ⊢
  go_enter Try.func42, Try.ntmps42
  go_upto_region 1 with fail
  generalize (w.alloc (.cells (x.ls (.slice A n1 c)).toArray 48)).alloc (.cells (y.ls (.slice B n2 c')).toArray 48) = W2 at hc hw2 ⊢
  have hcc : ∀ V, Later W2 V → (V.cell? ⟨w.heap.size, 0, none⟩ = some (.int .i64 x.kind) ∧ V.cell? ⟨w.heap.size, 1, none⟩ = some (.bool x.b) ∧ V.cell? ⟨w.heap.size, 2, none⟩ = some (.int .i64 x.i) ∧ V.cell? ⟨w.heap.size, 3, none⟩ = some (.float .f32 x.r) ∧ V.cell? ⟨w.heap.size, 4, none⟩ = some (.string x.text) ∧ V.cell? ⟨w.heap.size, 5, none⟩ = some (.slice A n1 c)) ∧ (V.cell? ⟨w.heap.size + 1, 0, none⟩ = some (.int .i64 y.kind) ∧ V.cell? ⟨w.heap.size + 1, 1, none⟩ = some (.bool y.b) ∧ V.cell? ⟨w.heap.size + 1, 2, none⟩ = some (.int .i64 y.i) ∧ V.cell? ⟨w.heap.size + 1, 3, none⟩ = some (.float .f32 y.r) ∧ V.cell? ⟨w.heap.size + 1, 4, none⟩ = some (.string y.text) ∧ V.cell? ⟨w.heap.size + 1, 5, none⟩ = some (.slice B n2 c')) := fun V l =>
    ⟨⟨(hc V l).1 0 _ rfl, (hc V l).1 1 _ rfl, (hc V l).1 2 _ rfl, (hc V l).1 3 _ rfl, (hc V l).1 4 _ rfl, (hc V l).1 5 _ rfl⟩, ⟨(hc V l).2 0 _ rfl, (hc V l).2 1 _ rfl, (hc V l).2 2 _ rfl, (hc V l).2 3 _ rfl, (hc V l).2 4 _ rfl, (hc V l).2 5 _ rfl⟩⟩
  clear hc
  obtain ⟨⟨p0, p1, p2, p3, p4, p5⟩, ⟨q0, q1, q2, q3, q4, q5⟩⟩ := hcc W2 (Later.refl _)
  cases o1 with
  | false =>
    have e0 : errV false = 40 := rfl
    rw [e0] at k1
    go_wp2_with (go_at_call 49; refine (k1 _ hw2).mono ?_; rintro e w3 ⟨rfl, l3⟩)
    go_ret
    exact ⟨rfl, hw2.next l3⟩
  | true =>
    have e0 : errV true = 0 := rfl
    rw [e0] at k1
    cases o2 with
    | false =>
      have e1 : errV false = 40 := rfl
      rw [e1] at k2
      go_wp2_with (first
        | (go_at_call 49; (with_reducible refine (k1 _ hw2).mono ?_); rintro e w3 ⟨rfl, l3⟩; obtain ⟨_, ⟨s0, s1, s2, s3, s4, s5⟩⟩ := hcc _ l3)
        | (go_at_call 49; (with_reducible refine (k2 _ (hw2.next l3)).mono ?_); rintro e w4 ⟨rfl, l4⟩))
      go_ret
      exact ⟨rfl, hw2.next (l3.next l4)⟩
    | true =>
      rw [e0] at k2
      go_wp2_with (first
        | (go_at_call 49; (with_reducible refine (k1 _ hw2).mono ?_); rintro e w3 ⟨rfl, l3⟩; obtain ⟨_, ⟨s0, s1, s2, s3, s4, s5⟩⟩ := hcc _ l3)
        | (go_at_call 49; (with_reducible refine (k2 _ (hw2.next l3)).mono ?_); rintro e w4 ⟨rfl, l4⟩))
      go_ret
      exact ⟨rfl, hw2.next (l3.next l4)⟩
end Go.Proofs.Ytdifabacbhfbbaa.Tu
