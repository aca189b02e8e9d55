import Derived.Test.YtdifabacbhfbbaaTi
namespace Go.Proofs.Ytdifabacbhfbbaa.Tu
open Go.RowKit Go.Lib Go.Proofs
set_option linter.unusedVariables false
set_option linter.unusedSimpArgs false
attribute [local go_sem] run_store_float
/-- a store into a block of one's own that is no row of arguments and no row of texts -/
theorem la_set {W : World} {g c B o t : Nat} {L : List Arg} {cs : Array Value} (u : Value) (ha : LA W g c L) (hg : g ≠ B) (hb : W.heap[B]? = some (.cells cs t (0, 0))) (ht : t ≠ 9) : LA (W.setCell ⟨B, o, none⟩ u) g c L := by
  have hk := fun j => World.cell?_of_block (w := W) (a := ⟨g, j, none⟩) (Below.heap_setCell W ⟨B, o, none⟩ u g hg)
  refine ⟨ha.len, fun i a hi => ?_, fun j hj => (hk _).trans (ha.mark j hj)⟩
  obtain ⟨tg, tc, ⟨h0, h1, h2, h3, h4, h5, h6⟩, hl⟩ := ha.arg i a hi
  exact ⟨tg, tc, ⟨(hk _).trans h0, (hk _).trans h1, (hk _).trans h2, (hk _).trans h3, (hk _).trans h4, (hk _).trans h5, (hk _).trans h6⟩, (set_both (o := o) u hl hb ht).1⟩
set_option maxHeartbeats 8000000 in
set_option maxRecDepth 100000 in
theorem lent_tuple (x : TupV) {L : List Arg} {w : World} {A : Option Addr} {n c : Nat} (hA : ArgsAt w A L) (hn : L.length = n) (hz : n ≤ 2000000000000) :
    Calls Try.prog 7 #[x.v (.slice A n c)] w fun e w' => ∃ g cap, e = .returned (x.v (.slice (some ⟨g, 0, none⟩) n cap)) ∧ LA w' g cap L ∧ w.heap.size ≤ g ∧ Later w w' := by
  have a1 := World.alloc_heap_new w (x.o (.slice A n c))
  have a2 := World.alloc_heap_new (w.alloc (x.o (.slice A n c))) (.cells #[.string ⟨#[]⟩, .string ⟨#[]⟩, .string ⟨#[]⟩, .string ⟨#[]⟩, .string ⟨#[]⟩, .string ⟨#[]⟩, .string ⟨#[]⟩, .slice none 0 0] 30)
  have hw1 : Later (w.alloc (x.o (.slice A n c))) ((w.alloc (x.o (.slice A n c))).alloc (.cells #[.string ⟨#[]⟩, .string ⟨#[]⟩, .string ⟨#[]⟩, .string ⟨#[]⟩, .string ⟨#[]⟩, .string ⟨#[]⟩, .string ⟨#[]⟩, .slice none 0 0] 30)) := (Later.refl _).alloc _
  have hw2 := ((Later.refl w).alloc (x.o (.slice A n c))).next hw1
  have h1 := (hw1.block w.heap.size (Array.getElem?_eq_some_iff.1 a1).1).trans a1
  rw [World.size_alloc] at a2
  have hc : ∀ V, Later ((w.alloc (x.o (.slice A n c))).alloc (.cells #[.string ⟨#[]⟩, .string ⟨#[]⟩, .string ⟨#[]⟩, .string ⟨#[]⟩, .string ⟨#[]⟩, .string ⟨#[]⟩, .string ⟨#[]⟩, .slice none 0 0] 30)) V → V.heap[w.heap.size]? = some (.cells #[.string x.t0, .string x.t1, .string x.t2, .string x.t3, .string x.t4, .string x.t5, .string x.t6, .slice A n c] 30 (0, 0)) ∧ V.heap[w.heap.size + 1]? = some (.cells #[.string ⟨#[]⟩, .string ⟨#[]⟩, .string ⟨#[]⟩, .string ⟨#[]⟩, .string ⟨#[]⟩, .string ⟨#[]⟩, .string ⟨#[]⟩, .slice none 0 0] 30 (0, 0)) := fun V l =>
    ⟨(l.block w.heap.size (Array.getElem?_eq_some_iff.1 h1).1).trans h1, (l.block (w.heap.size + 1) (Array.getElem?_eq_some_iff.1 a2).1).trans a2⟩
  have hs2 : ((w.alloc (x.o (.slice A n c))).alloc (.cells #[.string ⟨#[]⟩, .string ⟨#[]⟩, .string ⟨#[]⟩, .string ⟨#[]⟩, .string ⟨#[]⟩, .string ⟨#[]⟩, .string ⟨#[]⟩, .slice none 0 0] 30)).heap.size = w.heap.size + 2 := by rw [World.size_alloc, World.size_alloc]
  clear h1 a1 a2 hw1
  have hT := fun W (h : Later w W) => lent_args (c := c) (hA.later h) hn hz
  go_enter Try.func7, Try.ntmps7
  go_upto_region 2 with (go_at_call 16; refine (hT _ hw2).mono ?_; rintro e w4 ⟨g, cap, rfl, ha, hg, l4⟩; obtain ⟨b1, b2⟩ := hc _ l4; obtain ⟨⟨c0, c1, c2, c3, c4, c5, c6, c7⟩, f0, f1, f2, f3, f4, f5, f6, f7⟩ := eight b1)
  clear c0 c1 c2 c3 c4 c5 c6 c7 f0 f1 f2 f3 f4 f5 f6 f7
  rw [hs2] at hg
  have b1' := set_cells (o := 7) (.slice (some ⟨g, 0, none⟩) n cap) b1
  have b2' : (w4.setCell ⟨w.heap.size, 7, none⟩ (.slice (some ⟨g, 0, none⟩) n cap)).heap[w.heap.size + 1]? = _ := (Below.heap_setCell w4 ⟨w.heap.size, 7, none⟩ (.slice (some ⟨g, 0, none⟩) n cap) (w.heap.size + 1) (by simp)).trans b2
  have ha' := la_set (o := 7) (.slice (some ⟨g, 0, none⟩) n cap) ha (by omega) b1 (by decide)
  have l5 : Later w (w4.setCell ⟨w.heap.size, 7, none⟩ (.slice (some ⟨g, 0, none⟩) n cap)) := later_set (hw2.next l4) (Nat.le_refl _) _
  have b1'' : (w4.setCell ⟨w.heap.size, 7, none⟩ (.slice (some ⟨g, 0, none⟩) n cap)).heap[w.heap.size]? = some (.cells #[.string x.t0, .string x.t1, .string x.t2, .string x.t3, .string x.t4, .string x.t5, .string x.t6, .slice (some ⟨g, 0, none⟩) n cap] 30 (0, 0)) := b1'
  generalize w4.setCell ⟨w.heap.size, 7, none⟩ (.slice (some ⟨g, 0, none⟩) n cap) = W5 at b1'' b2' ha' l5 ⊢
  clear b1 b2 hc hT ha l4 hw2 hs2 b1'
  obtain ⟨⟨c0, c1, c2, c3, c4, c5, c6, c7⟩, f0, f1, f2, f3, f4, f5, f6, f7⟩ := eight b1''
  obtain ⟨⟨d0, d1, d2, d3, d4, d5, d6, d7⟩, e0, e1, e2, e3, e4, e5, e6, e7⟩ := eight b2'
  go_wp2_with fail
  have hne : g ≠ w.heap.size + 1 := by omega
  have g0 := set_cells (o := 0) (.string x.t0) b2'
  have h0 := la_set (o := 0) (.string x.t0) ha' hne b2' (by decide)
  have g1 := set_cells (o := 1) (.string x.t1) g0
  have h1 := la_set (o := 1) (.string x.t1) h0 hne g0 (by decide)
  have g2 := set_cells (o := 2) (.string x.t2) g1
  have h2 := la_set (o := 2) (.string x.t2) h1 hne g1 (by decide)
  have g3 := set_cells (o := 3) (.string x.t3) g2
  have h3 := la_set (o := 3) (.string x.t3) h2 hne g2 (by decide)
  have g4 := set_cells (o := 4) (.string x.t4) g3
  have h4 := la_set (o := 4) (.string x.t4) h3 hne g3 (by decide)
  have g5 := set_cells (o := 5) (.string x.t5) g4
  have h5 := la_set (o := 5) (.string x.t5) h4 hne g4 (by decide)
  have g6 := set_cells (o := 6) (.string x.t6) g5
  have h6 := la_set (o := 6) (.string x.t6) h5 hne g5 (by decide)
  have g7 := set_cells (o := 7) (.slice (some ⟨g, 0, none⟩) n cap) g6
  have h7 := la_set (o := 7) (.slice (some ⟨g, 0, none⟩) n cap) h6 hne g6 (by decide)
  have hle : w.heap.size ≤ w.heap.size + 1 := Nat.le_succ _
  have l7 := later_set (o := 7) (later_set (o := 6) (later_set (o := 5) (later_set (o := 4) (later_set (o := 3) (later_set (o := 2) (later_set (o := 1) (later_set (o := 0) l5 hle (.string x.t0)) hle (.string x.t1)) hle (.string x.t2)) hle (.string x.t3)) hle (.string x.t4)) hle (.string x.t5)) hle (.string x.t6)) hle (.slice (some ⟨g, 0, none⟩) n cap)
  refine bodyPost_ret (results_cell_row Try.results7 _ _ (w.heap.size + 1) 30 _ (0, 0) _ rfl g7 Try.underlying30 rfl (by kernel_rfl)) rfl ?_
  exact ⟨g, cap, rfl, h7, by omega, l7⟩
set_option maxHeartbeats 16000000 in
set_option maxRecDepth 100000 in
theorem ref_lets (f0 f1 f2 f3 f4 f5 f6 t0 t1 t2 t3 t4 t5 t6 : ByteArray) (a : Option Addr) (n c : Nat) (w : World) :
    Calls Try.prog 8 #[.agg #[.string f0, .string f1, .string f2, .string f3, .string f4, .string f5, .string f6], .agg #[.string t0, .string t1, .string t2, .string t3, .string t4, .string t5, .string t6, .slice a n c]] w fun e w' => e = .returned (.bool (letsB f0 f1 f2 f3 f4 f5 f6 t0 t1 t2 t3 t4 t5 t6)) ∧ Later w w' := by
  have hF := fun f t W => field_any f t W
  have hw2 : Later w ((w.alloc (.cells #[.string f0, .string f1, .string f2, .string f3, .string f4, .string f5, .string f6] 25)).alloc (.cells #[.string t0, .string t1, .string t2, .string t3, .string t4, .string t5, .string t6, .slice a n c] 30)) := ((Later.refl w).alloc _).alloc _
  rw [letsB_eq]
  obtain ⟨o0, h0⟩ : ∃ o, one f0 t0 = o := ⟨_, rfl⟩
  obtain ⟨o1, h1⟩ : ∃ o, one f1 t1 = o := ⟨_, rfl⟩
  obtain ⟨o2, h2⟩ : ∃ o, one f2 t2 = o := ⟨_, rfl⟩
  obtain ⟨o3, h3⟩ : ∃ o, one f3 t3 = o := ⟨_, rfl⟩
  obtain ⟨o4, h4⟩ : ∃ o, one f4 t4 = o := ⟨_, rfl⟩
  obtain ⟨o5, h5⟩ : ∃ o, one f5 t5 = o := ⟨_, rfl⟩
  obtain ⟨o6, h6⟩ : ∃ o, one f6 t6 = o := ⟨_, rfl⟩
  rw [h0, h1, h2, h3, h4, h5, h6]
  have c0 := fun W => hF f0 t0 W
  have c1 := fun W => hF f1 t1 W
  have c2 := fun W => hF f2 t2 W
  have c3 := fun W => hF f3 t3 W
  have c4 := fun W => hF f4 t4 W
  have c5 := fun W => hF f5 t5 W
  have c6 := fun W => hF f6 t6 W
  rw [h0] at c0
  rw [h1] at c1
  rw [h2] at c2
  rw [h3] at c3
  rw [h4] at c4
  rw [h5] at c5
  rw [h6] at c6
  clear h0 h1 h2 h3 h4 h5 h6 hF
  go_enter Try.func8, Try.ntmps8
  cases o0 <;> cases o1 <;> cases o2 <;> cases o6 <;> cases o3 <;> cases o4 <;> cases o5
  all_goals
    go_wp2_with (first
      | (go_at_call 17; (with_reducible refine (c0 _).mono ?_); rintro e w3 ⟨rfl, rfl⟩)
      | (go_at_call 17; (with_reducible refine (c1 _).mono ?_); rintro e w3 ⟨rfl, rfl⟩)
      | (go_at_call 17; (with_reducible refine (c2 _).mono ?_); rintro e w3 ⟨rfl, rfl⟩)
      | (go_at_call 17; (with_reducible refine (c6 _).mono ?_); rintro e w3 ⟨rfl, rfl⟩)
      | (go_at_call 17; (with_reducible refine (c3 _).mono ?_); rintro e w3 ⟨rfl, rfl⟩)
      | (go_at_call 17; (with_reducible refine (c4 _).mono ?_); rintro e w3 ⟨rfl, rfl⟩)
      | (go_at_call 17; (with_reducible refine (c5 _).mono ?_); rintro e w3 ⟨rfl, rfl⟩))
    go_ret
    exact ⟨rfl, hw2⟩
end Go.Proofs.Ytdifabacbhfbbaa.Tu
