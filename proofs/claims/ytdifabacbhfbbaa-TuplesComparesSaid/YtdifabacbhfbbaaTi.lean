import Derived.Test.YtdifabacbhfbbaaTh
import Derived.Test.YtdifabacbhfbbaaB
namespace Go.Proofs.Ytdifabacbhfbbaa.Tu
open Go.RowKit Go.Lib Go.Proofs
set_option linter.unusedVariables false
set_option linter.unusedSimpArgs false
attribute [local go_sem] run_store_float
/-- a tuple, but for its arguments -/
structure TupV where
  t0 : ByteArray
  t1 : ByteArray
  t2 : ByteArray
  t3 : ByteArray
  t4 : ByteArray
  t5 : ByteArray
  t6 : ByteArray
abbrev TupV.v (x : TupV) (t : Value) : Value := .agg #[.string x.t0, .string x.t1, .string x.t2, .string x.t3, .string x.t4, .string x.t5, .string x.t6, t]
abbrev TupV.o (x : TupV) (t : Value) : Obj := .cells #[.string x.t0, .string x.t1, .string x.t2, .string x.t3, .string x.t4, .string x.t5, .string x.t6, t] 30
theorem eight {W : World} {B t : Nat} {v0 v1 v2 v3 v4 v5 v6 v7 : Value} (h' : W.heap[B]? = some (.cells #[v0, v1, v2, v3, v4, v5, v6, v7] t (0, 0))) :
    (W.cell? ⟨B, 0, none⟩ = some v0 ∧ W.cell? ⟨B, 1, none⟩ = some v1 ∧ W.cell? ⟨B, 2, none⟩ = some v2 ∧ W.cell? ⟨B, 3, none⟩ = some v3 ∧ W.cell? ⟨B, 4, none⟩ = some v4 ∧ W.cell? ⟨B, 5, none⟩ = some v5 ∧ W.cell? ⟨B, 6, none⟩ = some v6 ∧ W.cell? ⟨B, 7, none⟩ = some v7) ∧
    (W.frozen? ⟨B, 0, none⟩ = false ∧ W.frozen? ⟨B, 1, none⟩ = false ∧ W.frozen? ⟨B, 2, none⟩ = false ∧ W.frozen? ⟨B, 3, none⟩ = false ∧ W.frozen? ⟨B, 4, none⟩ = false ∧ W.frozen? ⟨B, 5, none⟩ = false ∧ W.frozen? ⟨B, 6, none⟩ = false ∧ W.frozen? ⟨B, 7, none⟩ = false) := by
  simp [World.cell?, World.frozen?, h']
set_option maxHeartbeats 8000000 in
set_option maxRecDepth 100000 in
theorem field_any (f t : ByteArray) (w : World) : Calls Try.prog 17 #[.string f, .string t] w fun e w' => e = .returned (.bool (one f t)) ∧ w = w' := by
  go_enter Try.func17, Try.ntmps17
  by_cases h : f.toList = []
  · have h1 : one f t = true := by simp [one, h]
    obtain ⟨o, ho⟩ : ∃ o, one f t = o := ⟨_, rfl⟩
    rw [ho] at h1 ⊢
    subst h1
    go_wp2_with fail
    go_ret
    exact ⟨rfl, rfl⟩
  · go_wp2_with fail
    go_ret
    exact ⟨rfl, rfl⟩
set_option maxHeartbeats 8000000 in
set_option maxRecDepth 100000 in
theorem same_tuple (x : TupV) {L : List Arg} {w : World} {B : Option Addr} {g n c c' : Nat} (hA : ∀ W, Later w W → ArgsTo W g L) (hB : ArgsAt w B L) (hn : L.length = n) (hz : n ≤ 2000000000000) :
    Calls Try.prog 18 #[x.v (.slice (some ⟨g, 0, none⟩) n c), x.v (.slice B n c')] w fun e w' => e = .returned (.bool true) ∧ Later w w' := by
  have hw2 : Later w ((w.alloc (x.o (.slice (some ⟨g, 0, none⟩) n c))).alloc (x.o (.slice B n c'))) := ((Later.refl w).alloc _).alloc _
  have hT := fun W (h : Later w W) => same_args (c := c) (c' := c') (fun V hV => hA V (h.next hV)) (hB.later h) hn hz
  go_enter Try.func18, Try.ntmps18
  go_wp2_with (go_at_call 31; refine (hT _ hw2).mono ?_; rintro e w4 ⟨rfl, l4⟩)
  go_ret
  exact ⟨rfl, hw2.next l4⟩
set_option maxHeartbeats 8000000 in
set_option maxRecDepth 100000 in
theorem kept_tuple (x : TupV) {L : List Arg} {w : World} {B : Option Addr} {g n c c' : Nat} (hA : LA w g c L) (hB : ArgsAt w B L) (hn : L.length = n) (hz : n ≤ 2000000000000) :
    Calls Try.prog 9 #[x.v (.slice (some ⟨g, 0, none⟩) n c), x.v (.slice B n c')] w fun e w' => e = .returned (.bool true) ∧ Later w w' := by
  have a1 := World.alloc_heap_new w (x.o (.slice (some ⟨g, 0, none⟩) n c))
  have a2 := World.alloc_heap_new (w.alloc (x.o (.slice (some ⟨g, 0, none⟩) n c))) (x.o (.slice B n c'))
  have hw1 : Later (w.alloc (x.o (.slice (some ⟨g, 0, none⟩) n c))) ((w.alloc (x.o (.slice (some ⟨g, 0, none⟩) n c))).alloc (x.o (.slice B n c'))) := (Later.refl _).alloc _
  have hw2 := ((Later.refl w).alloc (x.o (.slice (some ⟨g, 0, none⟩) n c))).next hw1
  have h1 := (hw1.block w.heap.size (Array.getElem?_eq_some_iff.1 a1).1).trans a1
  rw [World.size_alloc] at a2
  have hc : ∀ V, Later ((w.alloc (x.o (.slice (some ⟨g, 0, none⟩) n c))).alloc (x.o (.slice B n c'))) V → V.cell? ⟨w.heap.size, 7, none⟩ = some (.slice (some ⟨g, 0, none⟩) n c) ∧ V.cell? ⟨w.heap.size + 1, 7, none⟩ = some (.slice B n c') := fun V l =>
    ⟨l.cell (eight h1).1.2.2.2.2.2.2.2, l.cell (eight a2).1.2.2.2.2.2.2.2⟩
  clear h1 a1 a2 hw1
  have hT := fun W (h : Later w W) => same_tuple x (c := c) (c' := c') (fun V hV => (hA.later (h.next hV)).to) (hB.later h) hn hz
  have hK := fun W (h : Later w W) => kept_args (c' := c') (hA.later h) (hB.later h) hn hz
  go_enter Try.func9, Try.ntmps9
  go_wp2_with (first
    | (go_at_call 18; refine (hT _ hw2).mono ?_; rintro e w4 ⟨rfl, l4⟩; obtain ⟨p1, p2⟩ := hc _ l4)
    | (go_at_call 19; refine (hK _ (hw2.next l4)).mono ?_; rintro e w6 ⟨rfl, l6⟩))
  go_ret
  exact ⟨rfl, (hw2.next l4).next l6⟩
end Go.Proofs.Ytdifabacbhfbbaa.Tu
