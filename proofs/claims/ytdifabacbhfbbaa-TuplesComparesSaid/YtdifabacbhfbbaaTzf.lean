import Derived.Test.YtdifabacbhfbbaaTze
namespace Go.Proofs.Ytdifabacbhfbbaa.Tu
open Go.RowKit Go.Lib Go.Proofs
set_option linter.unusedVariables false
set_option linter.unusedSimpArgs false
attribute [local go_sem] run_store_float
def SixZ (x : TupV) : Prop := SZ x.t0 ∧ SZ x.t1 ∧ SZ x.t2 ∧ SZ x.t3 ∧ SZ x.t4 ∧ SZ x.t5
/-- a tuple's box -/
structure Box8 (V : World) (b : Nat) (x : TupV) (t : Value) : Prop where
  c : V.heap[b]? = some (x.o t)
theorem Box8.later {V W : World} {b : Nat} {x : TupV} {t : Value} (h : Box8 V b x t) (l : Later V W) : Box8 W b x t := ⟨(l.block b (Array.getElem?_eq_some_iff.1 h.c).1).trans h.c⟩
theorem Box8.cells {V : World} {b : Nat} {x : TupV} {t : Value} (h : Box8 V b x t) : V.cell? ⟨b, 0, none⟩ = some (.string x.t0) ∧ V.cell? ⟨b, 1, none⟩ = some (.string x.t1) ∧ V.cell? ⟨b, 2, none⟩ = some (.string x.t2) ∧ V.cell? ⟨b, 3, none⟩ = some (.string x.t3) ∧ V.cell? ⟨b, 4, none⟩ = some (.string x.t4) ∧ V.cell? ⟨b, 5, none⟩ = some (.string x.t5) ∧ V.cell? ⟨b, 6, none⟩ = some (.string x.t6) ∧ V.cell? ⟨b, 7, none⟩ = some t := (eight h.c).1
theorem Box8.new (V : World) (x : TupV) (t : Value) : Box8 (V.alloc (x.o t)) V.heap.size x t := ⟨World.alloc_heap_new V (x.o t)⟩
set_option maxHeartbeats 16000000 in
set_option maxRecDepth 100000 in
theorem compares_walk (x y : TupV) {L M : List Arg} {w : World} {A B : Option Addr} {n m c c' : Nat} (hL : ∀ a ∈ L, a.x.r < 4294967296) (hM : ∀ a ∈ M, a.x.r < 4294967296) (hx : SixZ x) (hA : ArgsAt w A L) (hB : ArgsAt w B M) (hn : L.length = n) (hm : M.length = m) (hz : n ≤ 2000000000000) (hz' : m ≤ 2000000000000) :
    Calls Try.prog 5 #[x.v (.slice A n c), y.v (.slice B m c')] w fun e w' => e = .returned (.bool true) ∧ Later w w' := by
  have hzL : ∀ a ∈ L, a.l.length ≤ 8796093022080 := fun a ha => by
    obtain ⟨i, hi⟩ := List.mem_iff_getElem?.1 ha
    obtain ⟨_, _, _, _, _, _, _, h⟩ := hA i a hi
    exact h
  have hzM : ∀ a ∈ M, a.l.length ≤ 8796093022080 := fun a ha => by
    obtain ⟨i, hi⟩ := List.mem_iff_getElem?.1 ha
    obtain ⟨_, _, _, _, _, _, _, h⟩ := hB i a hi
    exact h
  have lw1 : Later w (w.alloc (x.o (.slice A n c))) := (Later.refl w).alloc _
  have lw2 : Later w ((w.alloc (x.o (.slice A n c))).alloc (y.o (.slice B m c'))) := lw1.alloc _
  have bx := (Box8.new w x (.slice A n c)).later ((Later.refl _).alloc (y.o (.slice B m c')))
  have bY := Box8.new (w.alloc (x.o (.slice A n c))) y (.slice B m c')
  rw [World.size_alloc] at bY
  have t1 := fun W (h : Later w W) => lent_tuple x (c := c) (hA.later h) hn hz
  have t2 := fun W (h : Later w W) => lent_tuple y (c := c') (hB.later h) hm hz'
  go_enter Try.func5, Try.ntmps5
  go_upto_region 1 with fail
  generalize (w.alloc (x.o (.slice A n c))).alloc (y.o (.slice B m c')) = W2 at lw2 bx bY ⊢
  clear lw1
  obtain ⟨p0, p1, p2, p3, p4, p5, p6, p7⟩ := bx.cells
  go_upto_region 2 with (go_at_call 7; (with_reducible refine (t1 _ lw2).mono ?_); rintro e w3 ⟨g, cap, rfl, ha, hg, l3⟩)
  clear p0 p1 p2 p3 p4 p5 p6 p7
  have l4 : Later w3 (w3.alloc (x.o (.slice (some ⟨g, 0, none⟩) n cap))) := (Later.refl _).alloc _
  have bx2 := Box8.new w3 x (.slice (some ⟨g, 0, none⟩) n cap)
  replace ha := ha.later l4
  replace bx := bx.later (l3.next l4)
  replace bY := bY.later (l3.next l4)
  have lw4 := (lw2.next l3).next l4
  generalize w3.alloc (x.o (.slice (some ⟨g, 0, none⟩) n cap)) = W4 at ha bx bY bx2 lw4 ⊢
  obtain ⟨B3, hB3⟩ : ∃ B, w3.heap.size = B := ⟨_, rfl⟩
  rw [hB3] at bx2 ⊢
  clear l3 l4 hB3 hg
  obtain ⟨p0, p1, p2, p3, p4, p5, p6, p7⟩ := bY.cells
  go_upto_region 3 with (go_at_call 7; (with_reducible refine (t2 _ lw4).mono ?_); rintro e w5 ⟨g', cap', rfl, hb, hg', l5⟩)
  clear p0 p1 p2 p3 p4 p5 p6 p7 t1 t2
  have l6 : Later w5 (w5.alloc (y.o (.slice (some ⟨g', 0, none⟩) m cap'))) := (Later.refl _).alloc _
  have bY2 := Box8.new w5 y (.slice (some ⟨g', 0, none⟩) m cap')
  replace hb := hb.later l6
  replace ha := (ha.later l5).later l6
  replace bx := bx.later (l5.next l6)
  replace bx2 := bx2.later (l5.next l6)
  replace bY := bY.later (l5.next l6)
  have lw6 := (lw4.next l5).next l6
  generalize w5.alloc (y.o (.slice (some ⟨g', 0, none⟩) m cap')) = W6 at ha hb bx bY bx2 bY2 lw6 ⊢
  obtain ⟨B5, hB5⟩ : ∃ B, w5.heap.size = B := ⟨_, rfl⟩
  rw [hB5] at bY2 ⊢
  clear l5 l6 hB5 hg' lw4 lw2
  have s1 := fun W (h : Later W6 W) => sametup_any x y (c := cap) (c' := cap') ((ha.later h).at hzL) ((hb.later h).at hzM) hn hm hz
  have s2 := fun W => compare_any x y (.slice (some ⟨g, 0, none⟩) n cap) (.slice (some ⟨g', 0, none⟩) m cap') W
  have s3 := fun W => backward_any x y (.slice (some ⟨g, 0, none⟩) n cap) (.slice (some ⟨g', 0, none⟩) m cap') W
  have s4 := fun W (h : Later W6 W) => sametup_ref x y (c := c) (c' := c') hL hM (hA.later (lw6.next h)) (hB.later (lw6.next h)) hn hm hz
  have s5 := fun W => rcompare_any x y (.slice A n c) (.slice B m c') hx W
  have s6 := fun W => rbackward_any x y (.slice A n c) (.slice B m c') hx W
  have s7 := fun W (h : Later W6 W) => kept_tuple x (c' := c) (ha.later h) (hA.later (lw6.next h)) hn hz
  have s8 := fun W (h : Later W6 W) => kept_tuple y (c' := c') (hb.later h) (hB.later (lw6.next h)) hm hz'
  generalize sameT x y (allA L M) = r1 at s1 s4
  generalize keyC x y = r2 at s2 s5
  generalize keyB x y = r3 at s3 s6
  clear ha hb hL hM hzL hzM hx
  obtain ⟨p0, p1, p2, p3, p4, p5, p6, p7⟩ := bx2.cells
  obtain ⟨q0, q1, q2, q3, q4, q5, q6, q7⟩ := bY2.cells
  go_upto_region 4 with (go_at_call 10; (with_reducible refine (s1 _ (Later.refl _)).mono ?_); rintro e w7 ⟨rfl, l7⟩)
  clear p0 p1 p2 p3 p4 p5 p6 p7 q0 q1 q2 q3 q4 q5 q6 q7 s1
  obtain ⟨p0, p1, p2, p3, p4, p5, p6, p7⟩ := (bx2.later l7).cells
  obtain ⟨q0, q1, q2, q3, q4, q5, q6, q7⟩ := (bY2.later l7).cells
  go_upto_region 5 with (go_at_call 11; (with_reducible refine (s2 _).mono ?_); rintro e w8 ⟨rfl, l8⟩)
  clear p0 p1 p2 p3 p4 p5 p6 p7 q0 q1 q2 q3 q4 q5 q6 q7 s2
  replace l8 := l7.next l8
  clear l7
  obtain ⟨p0, p1, p2, p3, p4, p5, p6, p7⟩ := (bx2.later l8).cells
  obtain ⟨q0, q1, q2, q3, q4, q5, q6, q7⟩ := (bY2.later l8).cells
  go_upto_region 6 with (go_at_call 12; (with_reducible refine (s3 _).mono ?_); rintro e w9 ⟨rfl, l9⟩)
  clear p0 p1 p2 p3 p4 p5 p6 p7 q0 q1 q2 q3 q4 q5 q6 q7 s3
  replace l9 := l8.next l9
  clear l8
  obtain ⟨p0, p1, p2, p3, p4, p5, p6, p7⟩ := (bx.later l9).cells
  obtain ⟨q0, q1, q2, q3, q4, q5, q6, q7⟩ := (bY.later l9).cells
  go_wp2_with (first
    | (go_at_call 13; (with_reducible refine (s4 _ l9).mono ?_); rintro e w10 ⟨rfl, l10'⟩; have l10 := Later.next l9 l10'; obtain ⟨d0, d1, d2, d3, d4, d5, d6, d7⟩ := (bx.later l10).cells; obtain ⟨e0, e1, e2, e3, e4, e5, e6, e7⟩ := (bY.later l10).cells)
    | (go_at_call 14; (with_reducible refine (s5 _).mono ?_); rintro e w11 ⟨rfl, l11'⟩; have l11 := Later.next l10 l11'; obtain ⟨f0, f1, f2, f3, f4, f5, f6, f7⟩ := (bx.later l11).cells; obtain ⟨g0, g1, g2, g3, g4, g5, g6, g7⟩ := (bY.later l11).cells)
    | (go_at_call 15; (with_reducible refine (s6 _).mono ?_); rintro e w12 ⟨rfl, l12'⟩; have l12 := Later.next l11 l12'; obtain ⟨h0, h1, h2, h3, h4, h5, h6, h7⟩ := (bx.later l12).cells; obtain ⟨i0, i1, i2, i3, i4, i5, i6, i7⟩ := (bx2.later l12).cells)
    | (go_at_call 9; (with_reducible refine (s7 _ l12).mono ?_); rintro e w13 ⟨rfl, l13'⟩; have l13 := Later.next l12 l13'; obtain ⟨j0, j1, j2, j3, j4, j5, j6, j7⟩ := (bY.later l13).cells; obtain ⟨k0, k1, k2, k3, k4, k5, k6, k7⟩ := (bY2.later l13).cells)
    | (go_at_call 9; (with_reducible refine (s8 _ l13).mono ?_); rintro e w14 ⟨rfl, l14⟩))
  go_ret
  exact ⟨rfl, (lw6.next l13).next l14⟩
end Go.Proofs.Ytdifabacbhfbbaa.Tu
