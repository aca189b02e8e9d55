import Derived.Test.YtlhhpdomiioeiaaGreatDoorOo
namespace Go.Proofs.YtlhhpdomiioeiaaGreatDoor.Tu
open Go.RowKit Go.Lib Go.Proofs
set_option linter.unusedVariables false
set_option linter.unusedSimpArgs false
theorem Box8.new (V : World) (x : TupV) (t : Value) : Box8 (V.alloc (x.o t)) V.heap.size x t := ⟨World.alloc_heap_new V (x.o t)⟩
def H4 (p q t : Int) : Prop := decide (p ≤ 0) = false ∨ (decide (p ≤ 0) = true ∧ decide (q ≤ 0) = false) ∨ (decide (p ≤ 0) = true ∧ decide (q ≤ 0) = true ∧ decide (0 < t) = false ∧ (t == 0) = false) ∨ (decide (p ≤ 0) = true ∧ decide (q ≤ 0) = true ∧ decide (0 < t) = false ∧ (t == 0) = true ∧ decide (p < 0) = false ∧ decide (q < 0) = false)
theorem T3.h4 {p q t : Int} (h : T3 p q t) : H4 p q t := by
  unfold T3 at h
  unfold H4
  by_cases hp : p ≤ 0
  · by_cases hq : q ≤ 0
    · obtain ⟨a, b⟩ := h hp hq
      by_cases ht : t = 0
      · obtain ⟨c, d⟩ := b ht
        subst ht c d
        right; right; right
        simp
      · right; right; left
        refine ⟨by simpa using hp, by simpa using hq, by simpa using a, by simpa using ht⟩
    · right; left
      refine ⟨by simpa using hp, by simpa using hq⟩
  · left
    simpa using hp
theorem b_and3 (a b c : Bool) (h : a = false) : (a && (b && c)) = false := by rw [h]; rfl
set_option maxHeartbeats 32000000 in
set_option maxRecDepth 100000 in
theorem order_walk (x y z : TupV) {L M : List Arg} {w : World} {A B : Option Addr} {n m c c' : Nat} (s3 : Value) (hm : MX w) (hA : ArgsAt w A L) (hB : ArgsAt w B M) (hn : L.length = n) (hm' : M.length = m) (hz : n ≤ 2000000000000) :
    Calls Tryz.prog 4 #[x.v (.slice A n c), y.v (.slice B m c'), z.v s3] w fun e w' => e = .returned (.bool true) ∧ Later w w' := by
  have l1 : Later w (w.alloc (x.o (.slice A n c))) := (Later.refl w).alloc _
  have l2 : Later w ((w.alloc (x.o (.slice A n c))).alloc (y.o (.slice B m c'))) := l1.alloc _
  have l3 : Later w (((w.alloc (x.o (.slice A n c))).alloc (y.o (.slice B m c'))).alloc (z.o s3)) := l2.alloc _
  have bx := (Box8.new w x (.slice A n c)).later (((Later.refl _).alloc (y.o (.slice B m c'))).alloc (z.o s3))
  have bY := (Box8.new (w.alloc (x.o (.slice A n c))) y (.slice B m c')).later ((Later.refl _).alloc (z.o s3))
  have bZ := Box8.new ((w.alloc (x.o (.slice A n c))).alloc (y.o (.slice B m c'))) z s3
  rw [World.size_alloc] at bY
  rw [World.size_alloc, World.size_alloc] at bZ
  obtain ⟨p, hp⟩ : ∃ p, keyC x y = p := ⟨_, rfl⟩
  obtain ⟨q, hq⟩ : ∃ p, keyC y z = p := ⟨_, rfl⟩
  obtain ⟨t, ht⟩ : ∃ p, keyC x z = p := ⟨_, rfl⟩
  obtain ⟨u, hu⟩ : ∃ p, keyB x y = p := ⟨_, rfl⟩
  obtain ⟨v, hv⟩ : ∃ p, keyB y z = p := ⟨_, rfl⟩
  obtain ⟨o, ho⟩ : ∃ p, keyB x z = p := ⟨_, rfl⟩
  obtain ⟨kb, hkb⟩ : ∃ b, kEq x y = b := ⟨_, rfl⟩
  have f1 := hid (keyC_T3 x y z)
  have f2 := hid (keyB_T3 x y z)
  have f3 := keyC_R1 x y
  have f4 := keyB_R1 x y
  have f5 := keyC_zero x y
  have f6 := keyB_zero x y
  have f7 := hid (keys_one x y)
  have c1 := fun W => compare_any x y (.slice A n c) (.slice B m c') W
  have c2 := fun W => compare_any y z (.slice B m c') s3 W
  have c3 := fun W => compare_any x z (.slice A n c) s3 W
  have c4 := fun W => backward_any x y (.slice A n c) (.slice B m c') W
  have c5 := fun W => backward_any y z (.slice B m c') s3 W
  have c6 := fun W => backward_any x z (.slice A n c) s3 W
  have c7 := fun W => compare_any y x (.slice B m c') (.slice A n c) W
  have c8 := fun W => backward_any y x (.slice B m c') (.slice A n c) W
  have c9 := fun W => tkey_any x y (.slice A n c) (.slice B m c') W
  simp only [keyC_neg x y, keyB_neg x y] at c7 c8
  rw [hp] at f3 f5
  rw [hu] at f4 f6
  rw [hkb] at f5 f6
  simp only [hp] at c1 c7
  simp only [hq] at c2
  simp only [ht] at c3
  simp only [hu] at c4 c8
  simp only [hv] at c5
  simp only [ho] at c6
  simp only [hkb] at c9
  replace f1 : Hid (T3 p q t) := hid (by rw [← hp, ← hq, ← ht]; exact f1.out)
  replace f2 : Hid (T3 u v o) := hid (by rw [← hu, ← hv, ← ho]; exact f2.out)
  replace f7 : Hid (oEq x y = true → rEq x y = true → p = u) := hid (by rw [← hp, ← hu]; exact f7.out)
  have r1 : -1 ≤ p ∧ p ≤ 1 := by rcases f3 with h | h | h <;> omega
  have r2 : -1 ≤ u ∧ u ≤ 1 := by rcases f4 with h | h | h <;> omega
  have d1 : decide (p < -1) = false := by simp; omega
  have d2 : decide (1 < p) = false := by simp; omega
  have d3 : decide (u < -1) = false := by simp; omega
  have d4 : decide (1 < u) = false := by simp; omega
  obtain ⟨r1a, r1b⟩ := r1
  obtain ⟨r2a, r2b⟩ := r2
  replace hkb := hid hkb
  clear f3 f4 hp hq ht hu hv ho
  go_enter Tryz.func4, Tryz.ntmps4
  go_upto_region 1 with fail
  generalize ((w.alloc (x.o (.slice A n c))).alloc (y.o (.slice B m c'))).alloc (z.o s3) = W3 at l3 bx bY bZ ⊢
  clear l1 l2
  obtain ⟨x0, x1, x2, x3, x4, x5, x6, x7⟩ := bx.cells
  obtain ⟨y0, y1, y2, y3, y4, y5, y6, y7⟩ := bY.cells
  go_upto_region 2 with (go_at_call 9; (with_reducible refine (c1 _).mono ?_); rintro e w4 ⟨rfl, l4⟩)
  clear x0 x1 x2 x3 x4 x5 x6 x7 y0 y1 y2 y3 y4 y5 y6 y7
  obtain ⟨x0, x1, x2, x3, x4, x5, x6, x7⟩ := (bY.later l4).cells
  obtain ⟨y0, y1, y2, y3, y4, y5, y6, y7⟩ := (bZ.later l4).cells
  go_upto_region 3 with (go_at_call 9; (with_reducible refine (c2 _).mono ?_); rintro e w5 ⟨rfl, l5⟩)
  replace l5 := l4.next l5
  clear x0 x1 x2 x3 x4 x5 x6 x7 y0 y1 y2 y3 y4 y5 y6 y7 l4
  obtain ⟨x0, x1, x2, x3, x4, x5, x6, x7⟩ := (bx.later l5).cells
  obtain ⟨y0, y1, y2, y3, y4, y5, y6, y7⟩ := (bZ.later l5).cells
  go_upto_region 4 with (go_at_call 9; (with_reducible refine (c3 _).mono ?_); rintro e w6 ⟨rfl, l6⟩)
  replace l6 := l5.next l6
  clear x0 x1 x2 x3 x4 x5 x6 x7 y0 y1 y2 y3 y4 y5 y6 y7 l5
  obtain ⟨x0, x1, x2, x3, x4, x5, x6, x7⟩ := (bx.later l6).cells
  obtain ⟨y0, y1, y2, y3, y4, y5, y6, y7⟩ := (bY.later l6).cells
  go_upto_region 5 with (go_at_call 10; (with_reducible refine (c4 _).mono ?_); rintro e w7 ⟨rfl, l7⟩)
  replace l7 := l6.next l7
  clear x0 x1 x2 x3 x4 x5 x6 x7 y0 y1 y2 y3 y4 y5 y6 y7 l6
  obtain ⟨x0, x1, x2, x3, x4, x5, x6, x7⟩ := (bY.later l7).cells
  obtain ⟨y0, y1, y2, y3, y4, y5, y6, y7⟩ := (bZ.later l7).cells
  go_upto_region 6 with (go_at_call 10; (with_reducible refine (c5 _).mono ?_); rintro e w8 ⟨rfl, l8⟩)
  replace l8 := l7.next l8
  clear x0 x1 x2 x3 x4 x5 x6 x7 y0 y1 y2 y3 y4 y5 y6 y7 l7
  obtain ⟨x0, x1, x2, x3, x4, x5, x6, x7⟩ := (bx.later l8).cells
  obtain ⟨y0, y1, y2, y3, y4, y5, y6, y7⟩ := (bZ.later l8).cells
  go_upto_region 7 with (go_at_call 10; (with_reducible refine (c6 _).mono ?_); rintro e w9 ⟨rfl, l9⟩)
  replace l9 := l8.next l9
  clear x0 x1 x2 x3 x4 x5 x6 x7 y0 y1 y2 y3 y4 y5 y6 y7 l8 c1 c2 c3 c4 c5 c6 bZ
  obtain ⟨x0, x1, x2, x3, x4, x5, x6, x7⟩ := (bx.later l9).cells
  obtain ⟨y0, y1, y2, y3, y4, y5, y6, y7⟩ := (bY.later l9).cells
  go_upto_region 9 with (first
    | (go_at_call 9; (with_reducible refine (c7 _).mono ?_); rintro e w10 ⟨rfl, k10⟩; have l10 : Later W3 w10 := l9.next k10; obtain ⟨a0, a1, a2, a3, a4, a5, a6, a7⟩ := (bx.later l10).cells; obtain ⟨b0, b1, b2, b3, b4, b5, b6, b7⟩ := (bY.later l10).cells)
    | (go_at_call 10; (with_reducible refine (c8 _).mono ?_); rintro e w11 ⟨rfl, k11⟩; have l11 : Later W3 w11 := l10.next k11; obtain ⟨g0, g1, g2, g3, g4, g5, g6, g7⟩ := (bx.later l11).cells; obtain ⟨h0, h1, h2, h3, h4, h5, h6, h7⟩ := (bY.later l11).cells)
    | (go_at_call 11; (with_reducible refine (c9 _).mono ?_); rintro e w12 ⟨rfl, k12⟩; have l12 : Later W3 w12 := Later.next (by assumption) k12; obtain ⟨i0, i1, i2, i3, i4, i5, i6, i7⟩ := (bx.later l12).cells; obtain ⟨j0, j1, j2, j3, j4, j5, j6, j7⟩ := (bY.later l12).cells))
  go_cut [122] (fun b wx => b = .bool false ∧ Later W3 wx)
  case first =>
    clear c7 c8 c9
    rcases f1.out.h4 with e1 | ⟨e1, e2⟩ | ⟨e1, e2, e3, e4⟩ | ⟨e1, e2, e3, e4, e5, e6⟩ <;> rcases f2.out.h4 with e7 | ⟨e7, e8⟩ | ⟨e7, e8, e9, e10⟩ | ⟨e7, e8, e9, e10, e11, e12⟩
    all_goals
      go_wp2_with fail
      go_meet
      exact ⟨rfl, l12⟩
  case rest =>
  obtain ⟨rfl, l13⟩ := hcut
  clear f1 f2 f5 f6 c7 c8 c9 d1 d2 d3 d4 r1a r1b r2a r2b x0 x1 x2 x3 x4 x5 x6 x7 y0 y1 y2 y3 y4 y5 y6 y7
  generalize hX : w.heap.size = X at bx bY ⊢
  clear hX
  obtain ⟨x0, x1, x2, x3, x4, x5, x6, x7⟩ := (bx.later l13).cells
  obtain ⟨y0, y1, y2, y3, y4, y5, y6, y7⟩ := (bY.later l13).cells
  have e27 := fun W => eq27 x.t0 x.t1 y.t0 y.t1 W
  have hk2 : Hid (kEq x y = kb) := hkb
  unfold oEq rEq at f7
  obtain ⟨o1, ho1⟩ : ∃ o1, (x.t0.toList == y.t0.toList && x.t1.toList == y.t1.toList) = o1 := ⟨_, rfl⟩
  rw [ho1] at f7
  simp only [ho1] at e27
  clear ho1
  go_upto_region 11 with fail
  go_cut [139] (fun b wx => b = .bool false ∧ Later W3 wx)
  case first =>
    cases o1 with
    | false =>
      go_wp2_with fail
      go_meet
      exact ⟨rfl, l13⟩
    | true =>
      cases g2 : (x.t2.toList == y.t2.toList) with
      | false =>
        go_wp2_with fail
        go_meet
        exact ⟨rfl, l13⟩
      | true =>
        have g3 : (p != u) = false := by
          have := f7.out rfl g2
          simp [this]
        go_wp2_with fail
        go_meet
        exact ⟨rfl, l13⟩
  case rest =>
  clear x0 x1 x2 x3 x4 x5 x6 x7 y0 y1 y2 y3 y4 y5 y6 y7 e27 f7 l13
  obtain ⟨rfl, l14⟩ := hcut
  go_upto_region 13 with fail
  have hG0 := Later.drew (Later.refl wc)
  obtain ⟨Good, hGd⟩ : ∃ G : World → Prop, ∀ W', G W' ↔ Later wc W' := ⟨_, fun _ => Iff.rfl⟩
  replace hG0 := (hGd _).2 hG0
  have hne : Nonempty (InG Good) := ⟨⟨_, hG0⟩⟩
  have f0 : ∀ q : InG Good, q.W.cell? ⟨X, 0, none⟩ = some (.string x.t0) ∧ q.W.cell? ⟨X, 1, none⟩ = some (.string x.t1) ∧ q.W.cell? ⟨X, 2, none⟩ = some (.string x.t2) ∧ q.W.cell? ⟨X, 3, none⟩ = some (.string x.t3) ∧ q.W.cell? ⟨X, 4, none⟩ = some (.string x.t4) ∧ q.W.cell? ⟨X, 5, none⟩ = some (.string x.t5) ∧ q.W.cell? ⟨X, 6, none⟩ = some (.string x.t6) ∧ q.W.cell? ⟨X, 7, none⟩ = some (.slice A n c) := fun q => (bx.later (l14.next ((hGd _).1 q.h))).cells
  have f1 : ∀ q : InG Good, q.W.cell? ⟨X + 1, 0, none⟩ = some (.string y.t0) ∧ q.W.cell? ⟨X + 1, 1, none⟩ = some (.string y.t1) ∧ q.W.cell? ⟨X + 1, 2, none⟩ = some (.string y.t2) ∧ q.W.cell? ⟨X + 1, 3, none⟩ = some (.string y.t3) ∧ q.W.cell? ⟨X + 1, 4, none⟩ = some (.string y.t4) ∧ q.W.cell? ⟨X + 1, 5, none⟩ = some (.string y.t5) ∧ q.W.cell? ⟨X + 1, 6, none⟩ = some (.string y.t6) ∧ q.W.cell? ⟨X + 1, 7, none⟩ = some (.slice B m c') := fun q => (bY.later (l14.next ((hGd _).1 q.h))).cells
  obtain ⟨S, hS⟩ : ∃ b, sameT x y (allA L M) = b := ⟨_, rfl⟩
  obtain ⟨al, hal⟩ : ∃ b, allA L M = b := ⟨_, rfl⟩
  have hS2 : Hid (S = (kb && ((x.t6.toList == y.t6.toList) && al))) := hid (by rw [← hS, sameT_parts, hk2.out, hal])
  have lw : ∀ q : InG Good, Later w q.W := fun q => (l3.next l14).next ((hGd _).1 q.h)
  have k1 : ∀ q : InG Good, Calls Tryz.prog 8 #[x.v (.slice A n c), y.v (.slice B m c')] q.W fun e w'' => e = .returned (.bool S) ∧ ∃ p' : InG Good, w'' = p'.W := fun q =>
    (sametup_any x y (hA.later (lw q)) (hB.later (lw q)) hn hm' hz).mono fun e w'' hh => ⟨hS ▸ hh.1, ⟨w'', (hGd _).2 (((hGd _).1 q.h).next hh.2)⟩, rfl⟩
  have k2 : ∀ q : InG Good, Calls Tryz.prog 11 #[x.v (.slice A n c), y.v (.slice B m c')] q.W fun e w'' => e = .returned (.bool kb) ∧ ∃ p' : InG Good, w'' = p'.W := fun q =>
    (tkey_any x y _ _ q.W).mono fun e w'' hh => ⟨hk2.out ▸ hh.1, ⟨w'', (hGd _).2 (((hGd _).1 q.h).next hh.2)⟩, rfl⟩
  have k3 : ∀ q : InG Good, Calls Tryz.prog 12 #[.slice A n c, .slice B m c'] q.W fun e w'' => e = .returned (.bool al) ∧ ∃ p' : InG Good, w'' = p'.W := fun q =>
    (sameargs_any (hA.later (lw q)) (hB.later (lw q)) hn hm' hz).mono fun e w'' hh => ⟨hal ▸ hh.1, ⟨w'', (hGd _).2 (((hGd _).1 q.h).next hh.2)⟩, rfl⟩
  have k4 : ∀ q : InG Good, Calls Tryz.prog 5 #[] q.W fun e w'' => e = .returned (.bool true) ∧ ∃ p' : InG Good, w'' = p'.W := fun q =>
    (awake_c q.W (hm.later (lw q))).mono fun e w'' hh => ⟨hh.1, ⟨w'', (hGd _).2 (((hGd _).1 q.h).next hh.2)⟩, rfl⟩
  replace hGd := hid hGd
  replace hS := hid hS
  replace hal := hid hal
  clear lw bx bY hA hB
  cases kb with
  | false =>
    obtain rfl : S = false := by rw [hS2.out]; rfl
    refine region_in Good (by kernel_rfl) (by kernel_rfl) hG0 ?_
    repeat (go_big_quiet_step ((first | (go_at_call 8; with_reducible exact k1 _) | (go_at_call 11; with_reducible exact k2 _) | (go_at_call 12; with_reducible exact k3 _) | (go_at_call 5; with_reducible exact k4 _))))
    refine wpQuiet_nil ?_
    intro V8 hw8
    have l68 := (hGd.out _).1 hw8
    clear k1 k2 k3 k4 hG0 hGd hne f0 f1 hw8 Good
    go_wp2_with fail
    go_ret
    exact ⟨rfl, (l3.next l14).next l68⟩
  | true =>
    cases g2 : (x.t6.toList == y.t6.toList) with
    | false =>
      obtain rfl : S = false := by rw [hS2.out, g2]; rfl
      refine region_in Good (by kernel_rfl) (by kernel_rfl) hG0 ?_
      repeat (go_big_quiet_step ((first | (go_at_call 8; with_reducible exact k1 _) | (go_at_call 11; with_reducible exact k2 _) | (go_at_call 12; with_reducible exact k3 _) | (go_at_call 5; with_reducible exact k4 _))))
      refine wpQuiet_nil ?_
      intro V8 hw8
      have l68 := (hGd.out _).1 hw8
      clear k1 k2 k3 k4 hG0 hGd hne f0 f1 hw8 Good
      go_wp2_with fail
      go_ret
      exact ⟨rfl, (l3.next l14).next l68⟩
    | true =>
      have hS3 : S = al := by rw [hS2.out, g2]; rfl
      cases al with
      | false =>
        obtain rfl : S = false := hS3
        refine region_in Good (by kernel_rfl) (by kernel_rfl) hG0 ?_
        repeat (go_big_quiet_step ((first | (go_at_call 8; with_reducible exact k1 _) | (go_at_call 11; with_reducible exact k2 _) | (go_at_call 12; with_reducible exact k3 _) | (go_at_call 5; with_reducible exact k4 _))))
        refine wpQuiet_nil ?_
        intro V8 hw8
        have l68 := (hGd.out _).1 hw8
        clear k1 k2 k3 k4 hG0 hGd hne f0 f1 hw8 Good
        go_wp2_with fail
        go_ret
        exact ⟨rfl, (l3.next l14).next l68⟩
      | true =>
        obtain rfl : S = true := hS3
        refine region_in Good (by kernel_rfl) (by kernel_rfl) hG0 ?_
        repeat (go_big_quiet_step ((first | (go_at_call 8; with_reducible exact k1 _) | (go_at_call 11; with_reducible exact k2 _) | (go_at_call 12; with_reducible exact k3 _) | (go_at_call 5; with_reducible exact k4 _))))
        refine wpQuiet_nil ?_
        intro V8 hw8
        have l68 := (hGd.out _).1 hw8
        clear k1 k2 k3 k4 hG0 hGd hne f0 f1 hw8 Good
        go_wp2_with fail
        go_ret
        exact ⟨rfl, (l3.next l14).next l68⟩
end Go.Proofs.YtlhhpdomiioeiaaGreatDoor.Tu
