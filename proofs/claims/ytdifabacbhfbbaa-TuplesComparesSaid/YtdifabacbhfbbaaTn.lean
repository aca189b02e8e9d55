import Derived.Test.YtdifabacbhfbbaaTm
namespace Go.Proofs.Ytdifabacbhfbbaa.Tu
open Go.RowKit Go.Lib Go.Proofs
set_option linter.unusedVariables false
set_option linter.unusedSimpArgs false
theorem cells_at (W : World) (vs : List Value) (t : TypeId) (j : Nat) (u : Value) (hj : vs[j]? = some u) : (W.alloc (.cells vs.toArray t)).cell? ⟨W.heap.size, j, none⟩ = some u := by
  have h' := World.alloc_heap_new W (.cells vs.toArray t)
  simp only [World.cell?, h']
  simpa using hj
theorem or_new (V : World) (l : List Int) (hz : l.length ≤ 1000) : Calls Try.prog 21 #[.slice (some ⟨V.heap.size, 0, none⟩) l.length l.length] (V.alloc (.cells (l.map (Value.int .i64)).toArray 3)) fun e w' => e = .returned (.int .i64 (orL l)) ∧ (V.alloc (.cells (l.map (Value.int .i64)).toArray 3)) = w' :=
  or_any rfl hz fun i x hx => cells_at V (l.map (Value.int .i64)) 3 i _ (by simp [hx])
theorem or_new_d (V : World) (l : List Int) (hz : l.length ≤ 1000) : Calls Try.prog 21 #[.slice (some ⟨V.heap.size, 0, none⟩) l.length l.length] (V.alloc (.cells (l.map (Value.int .i64)).toArray 3)).drew fun e w' => e = .returned (.int .i64 (orL l)) ∧ (V.alloc (.cells (l.map (Value.int .i64)).toArray 3)).drew = w' :=
  or_any rfl hz fun i x hx => cells_at V (l.map (Value.int .i64)) 3 i _ (by simp [hx])
set_option maxHeartbeats 8000000 in
set_option maxRecDepth 100000 in
theorem obj_any (a0 a1 b0 b1 : ByteArray) (w : World) : Calls Try.prog 22 #[.agg #[.string a0, .string a1], .agg #[.string b0, .string b1]] w fun e w' => e = .returned (.int .i64 (orL [cmpS a0 b0, cmpS a1 b1])) ∧ Later w w' := by
  have a := cells_at w [.string a0, .string a1] 27
  have b := cells_at (w.alloc (.cells #[.string a0, .string a1] 27)) [.string b0, .string b1] 27
  have hw1 : Later (w.alloc (.cells #[.string a0, .string a1] 27)) ((w.alloc (.cells #[.string a0, .string a1] 27)).alloc (.cells #[.string b0, .string b1] 27)) := (Later.refl _).alloc _
  have hw2 := ((Later.refl w).alloc (.cells #[.string a0, .string a1] 27)).next hw1
  rw [World.size_alloc] at b
  have hc : ∀ V, Later ((w.alloc (.cells #[.string a0, .string a1] 27)).alloc (.cells #[.string b0, .string b1] 27)) V → V.cell? ⟨w.heap.size, 0, none⟩ = some (.string a0) ∧ V.cell? ⟨w.heap.size, 1, none⟩ = some (.string a1) ∧ V.cell? ⟨w.heap.size + 1, 0, none⟩ = some (.string b0) ∧ V.cell? ⟨w.heap.size + 1, 1, none⟩ = some (.string b1) := fun V l =>
    ⟨l.cell (hw1.cell (a 0 _ rfl)), l.cell (hw1.cell (a 1 _ rfl)), l.cell (b 0 _ rfl), l.cell (b 1 _ rfl)⟩
  have c0 := fun W => cmp_any a0 b0 W
  have c1 := fun W => cmp_any a1 b1 W
  generalize cmpS a0 b0 = x0 at c0 ⊢
  generalize cmpS a1 b1 = x1 at c1 ⊢
  have o0 := fun V => or_new V [x0, x1] (by simp)
  have o1 := fun V => or_new_d V [x0, x1] (by simp)
  simp only [List.map_cons, List.map_nil, List.length_cons, List.length_nil, Nat.zero_add, Nat.reduceAdd] at o0 o1
  generalize orL [x0, x1] = R at o0 o1 ⊢
  clear a b hw1
  go_enter Try.func22, Try.ntmps22
  go_upto_region 1 with fail
  generalize (w.alloc (.cells #[.string a0, .string a1] 27)).alloc (.cells #[.string b0, .string b1] 27) = W2 at hc hw2 ⊢
  have l0 := Later.refl W2
  have l1 := Later.drew l0
  go_region_held3 (fun W' => Later W2 W') (first | assumption | exact Later.drew (by assumption) | exact Later.alloc (by assumption) _ | exact (Later.alloc (by assumption) _).drew) (first
    | (go_at_call 23; (with_reducible refine (c0 _).mono ?_); rintro e w3 ⟨rfl, rfl⟩)
    | (go_at_call 23; (with_reducible refine (c1 _).mono ?_); rintro e w3 ⟨rfl, rfl⟩)
    | (go_at_call 21; (with_reducible refine (o0 _).mono ?_); rintro e w3 ⟨rfl, rfl⟩)
    | (go_at_call 21; (with_reducible refine (o1 _).mono ?_); rintro e w3 ⟨rfl, rfl⟩))
  all_goals
    go_wp2_with fail
    go_ret
    exact ⟨rfl, hw2.next (by first | exact l0.alloc _ | exact (l0.alloc _).drew | exact l1.alloc _)⟩
set_option maxHeartbeats 8000000 in
set_option maxRecDepth 100000 in
theorem subj_any (a0 a1 a2 b0 b1 b2 : ByteArray) (w : World) : Calls Try.prog 24 #[.agg #[.string a0, .string a1, .string a2], .agg #[.string b0, .string b1, .string b2]] w fun e w' => e = .returned (.int .i64 (orL [cmpS a0 b0, cmpS a1 b1, cmpS a2 b2])) ∧ Later w w' := by
  have a := cells_at w [.string a0, .string a1, .string a2] 23
  have b := cells_at (w.alloc (.cells #[.string a0, .string a1, .string a2] 23)) [.string b0, .string b1, .string b2] 23
  have hw1 : Later (w.alloc (.cells #[.string a0, .string a1, .string a2] 23)) ((w.alloc (.cells #[.string a0, .string a1, .string a2] 23)).alloc (.cells #[.string b0, .string b1, .string b2] 23)) := (Later.refl _).alloc _
  have hw2 := ((Later.refl w).alloc (.cells #[.string a0, .string a1, .string a2] 23)).next hw1
  rw [World.size_alloc] at b
  have hc : ∀ V, Later ((w.alloc (.cells #[.string a0, .string a1, .string a2] 23)).alloc (.cells #[.string b0, .string b1, .string b2] 23)) V → V.cell? ⟨w.heap.size, 0, none⟩ = some (.string a0) ∧ V.cell? ⟨w.heap.size, 1, none⟩ = some (.string a1) ∧ V.cell? ⟨w.heap.size, 2, none⟩ = some (.string a2) ∧ V.cell? ⟨w.heap.size + 1, 0, none⟩ = some (.string b0) ∧ V.cell? ⟨w.heap.size + 1, 1, none⟩ = some (.string b1) ∧ V.cell? ⟨w.heap.size + 1, 2, none⟩ = some (.string b2) := fun V l =>
    ⟨l.cell (hw1.cell (a 0 _ rfl)), l.cell (hw1.cell (a 1 _ rfl)), l.cell (hw1.cell (a 2 _ rfl)), l.cell (b 0 _ rfl), l.cell (b 1 _ rfl), l.cell (b 2 _ rfl)⟩
  have c0 := fun W => cmp_any a0 b0 W
  have c1 := fun W => cmp_any a1 b1 W
  have c2 := fun W => cmp_any a2 b2 W
  generalize cmpS a0 b0 = x0 at c0 ⊢
  generalize cmpS a1 b1 = x1 at c1 ⊢
  generalize cmpS a2 b2 = x2 at c2 ⊢
  have o0 := fun V => or_new V [x0, x1, x2] (by simp)
  have o1 := fun V => or_new_d V [x0, x1, x2] (by simp)
  simp only [List.map_cons, List.map_nil, List.length_cons, List.length_nil, Nat.zero_add, Nat.reduceAdd] at o0 o1
  generalize orL [x0, x1, x2] = R at o0 o1 ⊢
  clear a b hw1
  go_enter Try.func24, Try.ntmps24
  go_upto_region 1 with fail
  generalize (w.alloc (.cells #[.string a0, .string a1, .string a2] 23)).alloc (.cells #[.string b0, .string b1, .string b2] 23) = W2 at hc hw2 ⊢
  have l0 := Later.refl W2
  have l1 := Later.drew l0
  go_region_held3 (fun W' => Later W2 W') (first | assumption | exact Later.drew (by assumption) | exact Later.alloc (by assumption) _ | exact (Later.alloc (by assumption) _).drew) (first
    | (go_at_call 23; (with_reducible refine (c0 _).mono ?_); rintro e w3 ⟨rfl, rfl⟩)
    | (go_at_call 23; (with_reducible refine (c1 _).mono ?_); rintro e w3 ⟨rfl, rfl⟩)
    | (go_at_call 23; (with_reducible refine (c2 _).mono ?_); rintro e w3 ⟨rfl, rfl⟩)
    | (go_at_call 21; (with_reducible refine (o0 _).mono ?_); rintro e w3 ⟨rfl, rfl⟩)
    | (go_at_call 21; (with_reducible refine (o1 _).mono ?_); rintro e w3 ⟨rfl, rfl⟩))
  all_goals
    go_wp2_with fail
    go_ret
    exact ⟨rfl, hw2.next (by first | exact l0.alloc _ | exact (l0.alloc _).drew | exact l1.alloc _)⟩
/-- the cells of two tuples' boxes -/
theorem two_tuples (x y : TupV) (s t : Value) (w : World) : Later w ((w.alloc (x.o s)).alloc (y.o t)) ∧ ∀ V, Later ((w.alloc (x.o s)).alloc (y.o t)) V →
    (V.cell? ⟨w.heap.size, 0, none⟩ = some (.string x.t0) ∧ V.cell? ⟨w.heap.size, 1, none⟩ = some (.string x.t1) ∧ V.cell? ⟨w.heap.size, 2, none⟩ = some (.string x.t2) ∧ V.cell? ⟨w.heap.size, 3, none⟩ = some (.string x.t3) ∧ V.cell? ⟨w.heap.size, 4, none⟩ = some (.string x.t4) ∧ V.cell? ⟨w.heap.size, 5, none⟩ = some (.string x.t5) ∧ V.cell? ⟨w.heap.size, 6, none⟩ = some (.string x.t6) ∧ V.cell? ⟨w.heap.size, 7, none⟩ = some s) ∧
    (V.cell? ⟨w.heap.size + 1, 0, none⟩ = some (.string y.t0) ∧ V.cell? ⟨w.heap.size + 1, 1, none⟩ = some (.string y.t1) ∧ V.cell? ⟨w.heap.size + 1, 2, none⟩ = some (.string y.t2) ∧ V.cell? ⟨w.heap.size + 1, 3, none⟩ = some (.string y.t3) ∧ V.cell? ⟨w.heap.size + 1, 4, none⟩ = some (.string y.t4) ∧ V.cell? ⟨w.heap.size + 1, 5, none⟩ = some (.string y.t5) ∧ V.cell? ⟨w.heap.size + 1, 6, none⟩ = some (.string y.t6) ∧ V.cell? ⟨w.heap.size + 1, 7, none⟩ = some t) := by
  have a1 := World.alloc_heap_new w (x.o s)
  have a2 := World.alloc_heap_new (w.alloc (x.o s)) (y.o t)
  have hw1 : Later (w.alloc (x.o s)) ((w.alloc (x.o s)).alloc (y.o t)) := (Later.refl _).alloc _
  have h1 := (hw1.block w.heap.size (Array.getElem?_eq_some_iff.1 a1).1).trans a1
  rw [World.size_alloc] at a2
  refine ⟨((Later.refl w).alloc _).next hw1, fun V l => ⟨?_, ?_⟩⟩
  · exact (eight ((l.block w.heap.size (Array.getElem?_eq_some_iff.1 h1).1).trans h1)).1
  · exact (eight ((l.block (w.heap.size + 1) (Array.getElem?_eq_some_iff.1 a2).1).trans a2)).1
def keyC (x y : TupV) : Int := orL [orL [cmpS x.t0 y.t0, cmpS x.t1 y.t1], cmpS x.t2 y.t2, orL [cmpS x.t3 y.t3, cmpS x.t4 y.t4, cmpS x.t5 y.t5]]
def keyB (x y : TupV) : Int := orL [orL [cmpS x.t3 y.t3, cmpS x.t4 y.t4, cmpS x.t5 y.t5], orL [cmpS x.t0 y.t0, cmpS x.t1 y.t1], cmpS x.t2 y.t2]
set_option maxHeartbeats 8000000 in
set_option maxRecDepth 100000 in
theorem compare_any (x y : TupV) (s t : Value) (w : World) : Calls Try.prog 11 #[x.v s, y.v t] w fun e w' => e = .returned (.int .i64 (keyC x y)) ∧ Later w w' := by
  obtain ⟨hw2, hc⟩ := two_tuples x y s t w
  unfold keyC
  have c0 := fun W => obj_any x.t0 x.t1 y.t0 y.t1 W
  have c1 := fun W => cmp_any x.t2 y.t2 W
  have c2 := fun W => subj_any x.t3 x.t4 x.t5 y.t3 y.t4 y.t5 W
  generalize orL [cmpS x.t0 y.t0, cmpS x.t1 y.t1] = x0 at c0 ⊢
  generalize orL [cmpS x.t3 y.t3, cmpS x.t4 y.t4, cmpS x.t5 y.t5] = x2 at c2 ⊢
  generalize cmpS x.t2 y.t2 = x1 at c1 ⊢
  have o0 := fun V => or_new V [x0, x1, x2] (by simp)
  have o1 := fun V => or_new_d V [x0, x1, x2] (by simp)
  simp only [List.map_cons, List.map_nil, List.length_cons, List.length_nil, Nat.zero_add, Nat.reduceAdd] at o0 o1
  generalize orL [x0, x1, x2] = R at o0 o1 ⊢
  go_enter Try.func11, Try.ntmps11
  go_upto_region 1 with fail
  generalize (w.alloc (x.o s)).alloc (y.o t) = W2 at hc hw2 ⊢
  have l0 := Later.refl W2
  have l1 := Later.drew l0
  go_region_held3 (fun W' => Later W2 W') (first | assumption | exact Later.drew (by assumption) | exact Later.alloc (by assumption) _ | exact (Later.alloc (by assumption) _).drew) (first
    | (go_at_call 22; (with_reducible refine (c0 _).mono ?_); rintro e w3 ⟨rfl, l3⟩; have lw3 : Later W2 w3 := Later.next (by assumption) l3)
    | (go_at_call 23; (with_reducible refine (c1 _).mono ?_); rintro e w4 ⟨rfl, rfl⟩)
    | (go_at_call 24; (with_reducible refine (c2 _).mono ?_); rintro e w5 ⟨rfl, l5⟩; have lw5 : Later W2 w5 := Later.next (by assumption) l5)
    | (go_at_call 21; (with_reducible refine (o0 _).mono ?_); rintro e w6 ⟨rfl, rfl⟩)
    | (go_at_call 21; (with_reducible refine (o1 _).mono ?_); rintro e w6 ⟨rfl, rfl⟩))
  all_goals
    go_wp2_with fail
    go_ret
    exact ⟨rfl, hw2.next (by first | exact lw5.alloc _ | exact (lw5.alloc _).drew | exact lw3.alloc _ | exact (lw3.alloc _).drew)⟩
set_option maxHeartbeats 8000000 in
set_option maxRecDepth 100000 in
theorem backward_any (x y : TupV) (s t : Value) (w : World) : Calls Try.prog 12 #[x.v s, y.v t] w fun e w' => e = .returned (.int .i64 (keyB x y)) ∧ Later w w' := by
  obtain ⟨hw2, hc⟩ := two_tuples x y s t w
  unfold keyB
  have c0 := fun W => obj_any x.t0 x.t1 y.t0 y.t1 W
  have c1 := fun W => cmp_any x.t2 y.t2 W
  have c2 := fun W => subj_any x.t3 x.t4 x.t5 y.t3 y.t4 y.t5 W
  generalize orL [cmpS x.t0 y.t0, cmpS x.t1 y.t1] = x0 at c0 ⊢
  generalize orL [cmpS x.t3 y.t3, cmpS x.t4 y.t4, cmpS x.t5 y.t5] = x2 at c2 ⊢
  generalize cmpS x.t2 y.t2 = x1 at c1 ⊢
  have o0 := fun V => or_new V [x2, x0, x1] (by simp)
  have o1 := fun V => or_new_d V [x2, x0, x1] (by simp)
  simp only [List.map_cons, List.map_nil, List.length_cons, List.length_nil, Nat.zero_add, Nat.reduceAdd] at o0 o1
  generalize orL [x2, x0, x1] = R at o0 o1 ⊢
  go_enter Try.func12, Try.ntmps12
  go_upto_region 1 with fail
  generalize (w.alloc (x.o s)).alloc (y.o t) = W2 at hc hw2 ⊢
  have l0 := Later.refl W2
  have l1 := Later.drew l0
  go_region_held3 (fun W' => Later W2 W') (first | assumption | exact Later.drew (by assumption) | exact Later.alloc (by assumption) _ | exact (Later.alloc (by assumption) _).drew) (first
    | (go_at_call 22; (with_reducible refine (c0 _).mono ?_); rintro e w3 ⟨rfl, l3⟩; have lw3 : Later W2 w3 := Later.next (by assumption) l3)
    | (go_at_call 23; (with_reducible refine (c1 _).mono ?_); rintro e w4 ⟨rfl, rfl⟩)
    | (go_at_call 24; (with_reducible refine (c2 _).mono ?_); rintro e w5 ⟨rfl, l5⟩; have lw5 : Later W2 w5 := Later.next (by assumption) l5)
    | (go_at_call 21; (with_reducible refine (o0 _).mono ?_); rintro e w6 ⟨rfl, rfl⟩)
    | (go_at_call 21; (with_reducible refine (o1 _).mono ?_); rintro e w6 ⟨rfl, rfl⟩))
  all_goals
    go_wp2_with fail
    go_ret
    exact ⟨rfl, hw2.next (by first | exact lw5.alloc _ | exact (lw5.alloc _).drew | exact lw3.alloc _ | exact (lw3.alloc _).drew)⟩
end Go.Proofs.Ytdifabacbhfbbaa.Tu
