import Derived.Test.YtdifabacbhfbbaaTe
namespace Go.Proofs.Ytdifabacbhfbbaa.Tu
open Go.RowKit Go.Lib Go.Proofs
set_option linter.unusedVariables false
set_option linter.unusedSimpArgs false
theorem seven_set6 {W : World} {B t : Nat} {v0 v1 v2 v3 v4 v5 v6 : Value} (u : Value) (h' : W.heap[B]? = some (.cells #[v0, v1, v2, v3, v4, v5, v6] t (0, 0))) : (W.setCell ⟨B, 6, none⟩ u).heap[B]? = some (.cells #[v0, v1, v2, v3, v4, v5, u] t (0, 0)) := by
  obtain ⟨hlt, hk⟩ := Array.getElem?_eq_some_iff.1 h'
  show (W.heap.modify B _)[B]? = _
  rw [Array.getElem?_eq_getElem (by rw [Array.size_modify]; exact hlt), Array.getElem_modify_self, hk]
  rfl
theorem run_store_float {P : Program} {w : World} {a : Addr} {m : Mode} (k : FloatKind) (r : Nat) : (store a (.float k r) m).run P w = stored P w a (.float k r) m := run_store P w a _ m rfl
attribute [local go_sem] run_store_float
theorem later_set {w W : World} (h : Later w W) {B o : Nat} (hB : w.heap.size ≤ B) (u : Value) : Later w (W.setCell ⟨B, o, none⟩ u) := Below.setCell (p := ⟨B, o, none⟩) h hB _
theorem set_cells {W : World} {B o t : Nat} {cs : Array Value} (u : Value) (h' : W.heap[B]? = some (.cells cs t (0, 0))) : (W.setCell ⟨B, o, none⟩ u).heap[B]? = some (.cells (cs.setIfInBounds o u) t (0, 0)) := by
  obtain ⟨hlt, hk⟩ := Array.getElem?_eq_some_iff.1 h'
  show (W.heap.modify B _)[B]? = _
  rw [Array.getElem?_eq_getElem (by rw [Array.size_modify]; exact hlt), Array.getElem_modify_self, hk]
  rfl
/-- a store into another struct's box -/
theorem set_both {W : World} {g c B o t : Nat} {L : List ByteArray} {cs : Array Value} (u : Value) (ha : LentAt W g c L) (hb : W.heap[B]? = some (.cells cs t (0, 0))) (ht : t ≠ 9) : LentAt (W.setCell ⟨B, o, none⟩ u) g c L ∧ (W.setCell ⟨B, o, none⟩ u).heap[B]? = some (.cells (cs.setIfInBounds o u) t (0, 0)) := by
  refine ⟨?_, set_cells u hb⟩
  obtain ⟨⟨ds, h1⟩, h2, h3⟩ := ha
  have hne : g ≠ B := fun e => by
    rw [e, hb] at h1
    injection h1 with h1
    injection h1 with _ h1 _
    exact ht h1
  have hk := Below.heap_setCell W ⟨B, o, none⟩ u g hne
  exact ⟨⟨ds, hk.trans h1⟩, h2, fun i s hi => (World.cell?_of_block (w := W) (a := ⟨g, i, none⟩) hk).trans (h3 i s hi)⟩
set_option maxHeartbeats 8000000 in
set_option maxRecDepth 100000 in
theorem lent_arg (x : ArgV) {l : List ByteArray} {w : World} {A : Option Addr} {n c : Nat} (hA : TxtAt w A l) (hn : l.length = n) (hz : n ≤ 8796093022080) :
    Calls Try.prog 29 #[x.v (.slice A n c)] w fun e w' => ∃ g cap, e = .returned (x.v (.slice (some ⟨g, 0, none⟩) n cap)) ∧ LentAt w' g cap (l ++ marks) ∧ w.heap.size ≤ g ∧ Later w w' := by
  have a1 := World.alloc_heap_new w (.cells #[.string x.name, .int .i64 x.kind, .bool x.b, .int .i64 x.i, .float .f32 x.r, .string x.text, .slice A n c] 50)
  have a2 := World.alloc_heap_new (w.alloc (.cells #[.string x.name, .int .i64 x.kind, .bool x.b, .int .i64 x.i, .float .f32 x.r, .string x.text, .slice A n c] 50)) (.cells #[.string ⟨#[]⟩, .int .i64 0, .bool false, .int .i64 0, .float .f32 0, .string ⟨#[]⟩, .slice none 0 0] 50)
  have hw1 : Later (w.alloc (.cells #[.string x.name, .int .i64 x.kind, .bool x.b, .int .i64 x.i, .float .f32 x.r, .string x.text, .slice A n c] 50)) ((w.alloc (.cells #[.string x.name, .int .i64 x.kind, .bool x.b, .int .i64 x.i, .float .f32 x.r, .string x.text, .slice A n c] 50)).alloc (.cells #[.string ⟨#[]⟩, .int .i64 0, .bool false, .int .i64 0, .float .f32 0, .string ⟨#[]⟩, .slice none 0 0] 50)) := (Later.refl _).alloc _
  have hw2 := ((Later.refl w).alloc (.cells #[.string x.name, .int .i64 x.kind, .bool x.b, .int .i64 x.i, .float .f32 x.r, .string x.text, .slice A n c] 50)).next hw1
  have h1 := (hw1.block w.heap.size (Array.getElem?_eq_some_iff.1 a1).1).trans a1
  rw [World.size_alloc] at a2
  have hc : ∀ V, Later ((w.alloc (.cells #[.string x.name, .int .i64 x.kind, .bool x.b, .int .i64 x.i, .float .f32 x.r, .string x.text, .slice A n c] 50)).alloc (.cells #[.string ⟨#[]⟩, .int .i64 0, .bool false, .int .i64 0, .float .f32 0, .string ⟨#[]⟩, .slice none 0 0] 50)) V → V.heap[w.heap.size]? = some (.cells #[.string x.name, .int .i64 x.kind, .bool x.b, .int .i64 x.i, .float .f32 x.r, .string x.text, .slice A n c] 50 (0, 0)) ∧ V.heap[w.heap.size + 1]? = some (.cells #[.string ⟨#[]⟩, .int .i64 0, .bool false, .int .i64 0, .float .f32 0, .string ⟨#[]⟩, .slice none 0 0] 50 (0, 0)) := fun V l =>
    ⟨(l.block w.heap.size (Array.getElem?_eq_some_iff.1 h1).1).trans h1, (l.block (w.heap.size + 1) (Array.getElem?_eq_some_iff.1 a2).1).trans a2⟩
  clear h1 a1 a2 hw1
  have hT := fun W (h : Later w W) => lent_texts (c := c) (hA.later h) hn hz
  go_enter Try.func29, Try.ntmps29
  go_upto_region 2 with (go_at_call 38; refine (hT _ hw2).mono ?_; rintro e w4 ⟨g, cap, rfl, ha, hg, l4⟩; obtain ⟨b1, b2⟩ := hc _ l4; obtain ⟨⟨c0, c1, c2, c3, c4, c5, c6⟩, f0, f1, f2, f3, f4, f5, f6⟩ := seven b1)
  clear c0 c1 c2 c3 c4 c5 c6 f0 f1 f2 f3 f4 f5 f6
  have b1' := seven_set6 (.slice (some ⟨g, 0, none⟩) n cap) b1
  have k5 := KeepsOthers.setCell w4 ⟨w.heap.size, 6, none⟩ (.slice (some ⟨g, 0, none⟩) n cap)
  have b2' : (w4.setCell ⟨w.heap.size, 6, none⟩ (.slice (some ⟨g, 0, none⟩) n cap)).heap[w.heap.size + 1]? = _ := (Below.heap_setCell w4 ⟨w.heap.size, 6, none⟩ (.slice (some ⟨g, 0, none⟩) n cap) (w.heap.size + 1) (by simp)).trans b2
  have ha' : LentAt (w4.setCell ⟨w.heap.size, 6, none⟩ (.slice (some ⟨g, 0, none⟩) n cap)) g cap (l ++ marks) := by
    obtain ⟨⟨cs, hb⟩, h2, h3⟩ := ha
    have hgw : g ≠ w.heap.size := fun e => by rw [e, b1] at hb; cases hb
    have hk := Below.heap_setCell w4 ⟨w.heap.size, 6, none⟩ (.slice (some ⟨g, 0, none⟩) n cap) g hgw
    exact ⟨⟨cs, hk.trans hb⟩, h2, fun i s hi => (World.cell?_of_block (w := w4) (a := ⟨g, i, none⟩) hk).trans (h3 i s hi)⟩
  have l5 : Later w (w4.setCell ⟨w.heap.size, 6, none⟩ (.slice (some ⟨g, 0, none⟩) n cap)) := later_set (hw2.next l4) (Nat.le_refl _) _
  generalize w4.setCell ⟨w.heap.size, 6, none⟩ (.slice (some ⟨g, 0, none⟩) n cap) = W5 at b1' b2' ha' l5 ⊢
  have hgw := Nat.le_trans hw2.size hg
  clear b1 b2 hc hT ha k5 l4 hw2
  obtain ⟨⟨c0, c1, c2, c3, c4, c5, c6⟩, f0, f1, f2, f3, f4, f5, f6⟩ := seven b1'
  obtain ⟨⟨d0, d1, d2, d3, d4, d5, d6⟩, e0, e1, e2, e3, e4, e5, e6⟩ := seven b2'
  go_wp2_with fail
  obtain ⟨h0, g0⟩ := set_both (o := 0) (.string x.name) ha' b2' (by decide)
  obtain ⟨h1, g1⟩ := set_both (o := 1) (.int .i64 x.kind) h0 g0 (by decide)
  obtain ⟨h2, g2⟩ := set_both (o := 2) (.bool x.b) h1 g1 (by decide)
  obtain ⟨h3, g3⟩ := set_both (o := 3) (.int .i64 x.i) h2 g2 (by decide)
  obtain ⟨h4, g4⟩ := set_both (o := 4) (.float .f32 x.r) h3 g3 (by decide)
  obtain ⟨h5, g5⟩ := set_both (o := 5) (.string x.text) h4 g4 (by decide)
  obtain ⟨h6, g6⟩ := set_both (o := 6) (.slice (some ⟨g, 0, none⟩) n cap) h5 g5 (by decide)
  have hle : w.heap.size ≤ w.heap.size + 1 := Nat.le_succ _
  have l6 := later_set (o := 6) (later_set (o := 5) (later_set (o := 4) (later_set (o := 3) (later_set (o := 2) (later_set (o := 1) (later_set (o := 0) l5 hle (.string x.name)) hle (.int .i64 x.kind)) hle (.bool x.b)) hle (.int .i64 x.i)) hle (.float .f32 x.r)) hle (.string x.text)) hle (.slice (some ⟨g, 0, none⟩) n cap)
  refine bodyPost_ret (results_cell_row Try.results29 _ _ (w.heap.size + 1) 50 _ (0, 0) _ rfl g6 Try.underlying50 rfl (by kernel_rfl)) rfl ?_
  exact ⟨g, cap, rfl, h6, hgw, l6⟩
end Go.Proofs.Ytdifabacbhfbbaa.Tu
