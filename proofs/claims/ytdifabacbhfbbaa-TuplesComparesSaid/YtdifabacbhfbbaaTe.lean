import Derived.Test.YtdifabacbhfbbaaTd
namespace Go.Proofs.Ytdifabacbhfbbaa.Tu
open Go.RowKit Go.Lib Go.Proofs
set_option linter.unusedVariables false
set_option linter.unusedSimpArgs false
/-- an argument, but for its texts -/
structure ArgV where
  name : ByteArray
  kind : Int
  b : Bool
  i : Int
  r : Nat
  text : ByteArray
abbrev ArgV.v (x : ArgV) (t : Value) : Value := .agg #[.string x.name, .int .i64 x.kind, .bool x.b, .int .i64 x.i, .float .f32 x.r, .string x.text, t]
theorem seven {W : World} {B t : Nat} {v0 v1 v2 v3 v4 v5 v6 : Value} (h' : W.heap[B]? = some (.cells #[v0, v1, v2, v3, v4, v5, v6] t (0, 0))) :
    (W.cell? ⟨B, 0, none⟩ = some v0 ∧ W.cell? ⟨B, 1, none⟩ = some v1 ∧ W.cell? ⟨B, 2, none⟩ = some v2 ∧ W.cell? ⟨B, 3, none⟩ = some v3 ∧ W.cell? ⟨B, 4, none⟩ = some v4 ∧ W.cell? ⟨B, 5, none⟩ = some v5 ∧ W.cell? ⟨B, 6, none⟩ = some v6) ∧
    (W.frozen? ⟨B, 0, none⟩ = false ∧ W.frozen? ⟨B, 1, none⟩ = false ∧ W.frozen? ⟨B, 2, none⟩ = false ∧ W.frozen? ⟨B, 3, none⟩ = false ∧ W.frozen? ⟨B, 4, none⟩ = false ∧ W.frozen? ⟨B, 5, none⟩ = false ∧ W.frozen? ⟨B, 6, none⟩ = false) := by
  simp [World.cell?, World.frozen?, h']
set_option maxHeartbeats 8000000 in
set_option maxRecDepth 100000 in
theorem same_arg (x : ArgV) {l : List ByteArray} {w : World} {A B : Option Addr} {n c c' : Nat} (hA : TxtAt w A l) (hB : TxtAt w B l) (hn : l.length = n) (hz : n ≤ 8796093022080) :
    Calls Try.prog 39 #[x.v (.slice A n c), x.v (.slice B n c')] w fun e w' => e = .returned (.bool true) ∧ Later w w' := by
  have hw2 : Later w ((w.alloc (.cells #[.string x.name, .int .i64 x.kind, .bool x.b, .int .i64 x.i, .float .f32 x.r, .string x.text, .slice A n c] 50)).alloc (.cells #[.string x.name, .int .i64 x.kind, .bool x.b, .int .i64 x.i, .float .f32 x.r, .string x.text, .slice B n c'] 50)) := ((Later.refl w).alloc _).alloc _
  have hT := fun W (h : Later w W) => same_value x.kind x.b x.i x.r x.text (c := c) (c' := c') (hA.later h) (hB.later h) hn hz
  go_enter Try.func39, Try.ntmps39
  go_wp2_with (go_at_call 47; refine (hT _ hw2).mono ?_; rintro e w4 ⟨rfl, l4⟩)
  go_ret
  exact ⟨rfl, hw2.next l4⟩
set_option maxHeartbeats 8000000 in
set_option maxRecDepth 100000 in
theorem kept_arg (x : ArgV) {l : List ByteArray} {w : World} {B : Option Addr} {g n c c' : Nat} (hA : LentAt w g c (l ++ marks)) (hB : TxtAt w B l) (hn : l.length = n) (hz : n ≤ 8796093022080) :
    Calls Try.prog 32 #[x.v (.slice (some ⟨g, 0, none⟩) n c), x.v (.slice B n c')] w fun e w' => e = .returned (.bool true) ∧ Later w w' := by
  have a1 := World.alloc_heap_new w (.cells #[.string x.name, .int .i64 x.kind, .bool x.b, .int .i64 x.i, .float .f32 x.r, .string x.text, .slice (some ⟨g, 0, none⟩) n c] 50)
  have a2 := World.alloc_heap_new (w.alloc (.cells #[.string x.name, .int .i64 x.kind, .bool x.b, .int .i64 x.i, .float .f32 x.r, .string x.text, .slice (some ⟨g, 0, none⟩) n c] 50)) (.cells #[.string x.name, .int .i64 x.kind, .bool x.b, .int .i64 x.i, .float .f32 x.r, .string x.text, .slice B n c'] 50)
  have hw1 : Later (w.alloc (.cells #[.string x.name, .int .i64 x.kind, .bool x.b, .int .i64 x.i, .float .f32 x.r, .string x.text, .slice (some ⟨g, 0, none⟩) n c] 50)) ((w.alloc (.cells #[.string x.name, .int .i64 x.kind, .bool x.b, .int .i64 x.i, .float .f32 x.r, .string x.text, .slice (some ⟨g, 0, none⟩) n c] 50)).alloc (.cells #[.string x.name, .int .i64 x.kind, .bool x.b, .int .i64 x.i, .float .f32 x.r, .string x.text, .slice B n c'] 50)) := (Later.refl _).alloc _
  have hw2 := ((Later.refl w).alloc (.cells #[.string x.name, .int .i64 x.kind, .bool x.b, .int .i64 x.i, .float .f32 x.r, .string x.text, .slice (some ⟨g, 0, none⟩) n c] 50)).next hw1
  have h1 := (hw1.block w.heap.size (Array.getElem?_eq_some_iff.1 a1).1).trans a1
  rw [World.size_alloc] at a2
  have hc : ∀ V, Later ((w.alloc (.cells #[.string x.name, .int .i64 x.kind, .bool x.b, .int .i64 x.i, .float .f32 x.r, .string x.text, .slice (some ⟨g, 0, none⟩) n c] 50)).alloc (.cells #[.string x.name, .int .i64 x.kind, .bool x.b, .int .i64 x.i, .float .f32 x.r, .string x.text, .slice B n c'] 50)) V → (V.cell? ⟨w.heap.size, 4, none⟩ = some (.float .f32 x.r) ∧ V.cell? ⟨w.heap.size, 6, none⟩ = some (.slice (some ⟨g, 0, none⟩) n c)) ∧ (V.cell? ⟨w.heap.size + 1, 4, none⟩ = some (.float .f32 x.r) ∧ V.cell? ⟨w.heap.size + 1, 6, none⟩ = some (.slice B n c')) := fun V l => by
    obtain ⟨⟨_, _, _, _, c4, _, c6⟩, _⟩ := seven h1
    obtain ⟨⟨_, _, _, _, d4, _, d6⟩, _⟩ := seven a2
    exact ⟨⟨l.cell c4, l.cell c6⟩, ⟨l.cell d4, l.cell d6⟩⟩
  clear h1 a1 a2 hw1
  have hT := fun W (h : Later w W) => same_arg x (c := c) (c' := c') ((hA.later h).txt (List.prefix_append l marks)) (hB.later h) hn hz
  have hK := fun W (h : Later w W) => kept_texts (c' := c') (hA.later h) (hB.later h) hn hz
  have hR := fun W => same_real x.r W
  go_enter Try.func32, Try.ntmps32
  go_wp2_with (first
    | (go_at_call 39; refine (hT _ hw2).mono ?_; rintro e w4 ⟨rfl, l4⟩; obtain ⟨⟨p1, p2⟩, p3, p4⟩ := hc _ l4)
    | (go_at_call 40; refine (hR _).mono ?_; rintro e w5 ⟨rfl, rfl⟩)
    | (go_at_call 41; refine (hK _ (hw2.next l4)).mono ?_; rintro e w6 ⟨rfl, l6⟩))
  go_ret
  exact ⟨rfl, (hw2.next l4).next l6⟩
end Go.Proofs.Ytdifabacbhfbbaa.Tu
