import Derived.Test.YtdifabacbhfbbaaTo
namespace Go.Proofs.Ytdifabacbhfbbaa.Tu
open Go.RowKit Go.Lib Go.Proofs
set_option linter.unusedVariables false
set_option linter.unusedSimpArgs false
theorem orL3 (x y z : Int) : orL [x, y, z] = if x = 0 then (if y = 0 then z else y) else x := by
  unfold orL orL orL orL
  by_cases hx : x = 0 <;> by_cases hy : y = 0 <;> by_cases hz : z = 0 <;> simp [hx, hy, hz]
set_option maxHeartbeats 8000000 in
set_option maxRecDepth 100000 in
theorem rsubj_any (a0 a1 a2 b0 b1 b2 : ByteArray) (z0 : SZ a0) (z1 : SZ a1) (z2 : SZ a2) (w : World) : Calls Try.prog 28 #[.agg #[.string a0, .string a1, .string a2], .agg #[.string b0, .string b1, .string b2]] w fun e w' => e = .returned (.int .i64 (orL [cmpS a0 b0, cmpS a1 b1, cmpS a2 b2])) ∧ Later w w' := by
  obtain ⟨hw2, hc⟩ := two_boxes [.string a0, .string a1, .string a2] [.string b0, .string b1, .string b2] 23 w
  have c0 := fun W => texts_any a0 b0 z0 W
  have c1 := fun W => texts_any a1 b1 z1 W
  have c2 := fun W => texts_any a2 b2 z2 W
  rw [orL3]
  generalize cmpS a0 b0 = x0 at c0 ⊢
  generalize cmpS a1 b1 = x1 at c1 ⊢
  generalize cmpS a2 b2 = x2 at c2 ⊢
  generalize hR : (if x0 = 0 then (if x1 = 0 then x2 else x1) else x0) = R
  go_enter Try.func28, Try.ntmps28
  go_upto_region 1 with fail
  generalize (w.alloc (.cells [Value.string a0, .string a1, .string a2].toArray 23)).alloc (.cells [Value.string b0, .string b1, .string b2].toArray 23) = W2 at hc hw2 ⊢
  have hcc : ∀ V, Later W2 V → V.cell? ⟨w.heap.size, 0, none⟩ = some (.string a0) ∧ V.cell? ⟨w.heap.size, 1, none⟩ = some (.string a1) ∧ V.cell? ⟨w.heap.size, 2, none⟩ = some (.string a2) ∧ V.cell? ⟨w.heap.size + 1, 0, none⟩ = some (.string b0) ∧ V.cell? ⟨w.heap.size + 1, 1, none⟩ = some (.string b1) ∧ V.cell? ⟨w.heap.size + 1, 2, none⟩ = some (.string b2) := fun V l => ⟨(hc V l).1 0 _ rfl, (hc V l).1 1 _ rfl, (hc V l).1 2 _ rfl, (hc V l).2 0 _ rfl, (hc V l).2 1 _ rfl, (hc V l).2 2 _ rfl⟩
  clear hc
  obtain ⟨p0, p1, p2, p3, p4, p5⟩ := hcc W2 (Later.refl _)
  by_cases h0 : x0 = 0
  · by_cases h1 : x1 = 0
    · have hr : Hid (x2 = R) := hid (by rw [← hR, if_pos h0, if_pos h1])
      subst h0
      subst h1
      clear hR
      go_wp2_with (first
        | (go_at_call 27; (with_reducible refine (c0 _).mono ?_); rintro e w3 ⟨rfl, l3⟩; obtain ⟨q0, q1, q2, q3, q4, q5⟩ := hcc _ l3)
        | (go_at_call 27; (with_reducible refine (c1 _).mono ?_); rintro e w4 ⟨rfl, l4⟩; obtain ⟨s0, s1, s2, s3, s4, s5⟩ := hcc _ (l3.next l4))
        | (go_at_call 27; (with_reducible refine (c2 _).mono ?_); rintro e w5 ⟨rfl, l5⟩))
      go_ret
      exact ⟨by rw [← hr.out]; rfl, hw2.next (l3.next (l4.next l5))⟩
    · have hr : Hid (x1 = R) := hid (by rw [← hR, if_pos h0, if_neg h1])
      have hb1 : (x1 == 0) = false := by simp [h1]
      subst h0
      clear hR
      go_wp2_with (first
        | (go_at_call 27; (with_reducible refine (c0 _).mono ?_); rintro e w3 ⟨rfl, l3⟩; obtain ⟨q0, q1, q2, q3, q4, q5⟩ := hcc _ l3)
        | (go_at_call 27; (with_reducible refine (c1 _).mono ?_); rintro e w4 ⟨rfl, l4⟩; obtain ⟨s0, s1, s2, s3, s4, s5⟩ := hcc _ (l3.next l4)))
      go_ret
      exact ⟨by rw [← hr.out]; rfl, hw2.next (l3.next l4)⟩
  · have hr : Hid (x0 = R) := hid (by rw [← hR, if_neg h0])
    have hb : (x0 == 0) = false := by simp [h0]
    clear hR
    go_wp2_with (first
      | (go_at_call 27; (with_reducible refine (c0 _).mono ?_); rintro e w3 ⟨rfl, l3⟩; obtain ⟨q0, q1, q2, q3, q4, q5⟩ := hcc _ l3))
    go_ret
    exact ⟨by rw [← hr.out]; rfl, hw2.next l3⟩
set_option maxHeartbeats 8000000 in
set_option maxRecDepth 100000 in
theorem rcompare_any (x y : TupV) (s t : Value) (hx : SZ x.t0 ∧ SZ x.t1 ∧ SZ x.t2 ∧ SZ x.t3 ∧ SZ x.t4 ∧ SZ x.t5) (w : World) : Calls Try.prog 14 #[x.v s, y.v t] w fun e w' => e = .returned (.int .i64 (keyC x y)) ∧ Later w w' := by
  obtain ⟨hw2, hcc⟩ := two_tuples x y s t w
  unfold keyC
  have c0 := fun W => robj_any x.t0 x.t1 y.t0 y.t1 hx.1 hx.2.1 W
  have c1 := fun W => texts_any x.t2 y.t2 hx.2.2.1 W
  have c2 := fun W => rsubj_any x.t3 x.t4 x.t5 y.t3 y.t4 y.t5 hx.2.2.2.1 hx.2.2.2.2.1 hx.2.2.2.2.2 W
  generalize orL [cmpS x.t0 y.t0, cmpS x.t1 y.t1] = x0 at c0 ⊢
  generalize orL [cmpS x.t3 y.t3, cmpS x.t4 y.t4, cmpS x.t5 y.t5] = x2 at c2 ⊢
  generalize cmpS x.t2 y.t2 = x1 at c1 ⊢
  rw [orL3]

  generalize hR : (if x0 = 0 then (if x1 = 0 then x2 else x1) else x0) = R
  go_enter Try.func14, Try.ntmps14
  go_upto_region 1 with fail
  generalize (w.alloc (x.o s)).alloc (y.o t) = W2 at hcc hw2 ⊢
  obtain ⟨⟨p0, p1, p2, p3, p4, p5, p6, p7⟩, p8, p9, p10, p11, p12, p13, p14, p15⟩ := hcc W2 (Later.refl _)
  by_cases h0 : x0 = 0
  · by_cases h1 : x1 = 0
    · have hr : Hid (x2 = R) := hid (by rw [← hR, if_pos h0, if_pos h1])
      subst h0
      subst h1
      clear hR
      go_wp2_with (first
        | (go_at_call 26; (with_reducible refine (c0 _).mono ?_); rintro e w3 ⟨rfl, l3⟩; obtain ⟨⟨q0, q1, q2, q3, q4, q5, q6, q7⟩, q8, q9, q10, q11, q12, q13, q14, q15⟩ := hcc _ l3)
        | (go_at_call 27; (with_reducible refine (c1 _).mono ?_); rintro e w4 ⟨rfl, l4⟩; obtain ⟨⟨n0, n1, n2, n3, n4, n5, n6, n7⟩, n8, n9, n10, n11, n12, n13, n14, n15⟩ := hcc _ (l3.next l4))
        | (go_at_call 28; (with_reducible refine (c2 _).mono ?_); rintro e w5 ⟨rfl, l5⟩))
      go_ret
      exact ⟨by rw [← hr.out]; rfl, hw2.next (l3.next (l4.next l5))⟩
    · have hr : Hid (x1 = R) := hid (by rw [← hR, if_pos h0, if_neg h1])
      have hb1 : (x1 == 0) = false := by simp [h1]
      subst h0
      clear hR
      go_wp2_with (first
        | (go_at_call 26; (with_reducible refine (c0 _).mono ?_); rintro e w3 ⟨rfl, l3⟩; obtain ⟨⟨q0, q1, q2, q3, q4, q5, q6, q7⟩, q8, q9, q10, q11, q12, q13, q14, q15⟩ := hcc _ l3)
        | (go_at_call 27; (with_reducible refine (c1 _).mono ?_); rintro e w4 ⟨rfl, l4⟩; obtain ⟨⟨n0, n1, n2, n3, n4, n5, n6, n7⟩, n8, n9, n10, n11, n12, n13, n14, n15⟩ := hcc _ (l3.next l4)))
      go_ret
      exact ⟨by rw [← hr.out]; rfl, hw2.next (l3.next l4)⟩
  · have hr : Hid (x0 = R) := hid (by rw [← hR, if_neg h0])
    have hb : (x0 == 0) = false := by simp [h0]
    clear hR
    go_wp2_with (first
      | (go_at_call 26; (with_reducible refine (c0 _).mono ?_); rintro e w3 ⟨rfl, l3⟩; obtain ⟨⟨q0, q1, q2, q3, q4, q5, q6, q7⟩, q8, q9, q10, q11, q12, q13, q14, q15⟩ := hcc _ l3))
    go_ret
    exact ⟨by rw [← hr.out]; rfl, hw2.next l3⟩
set_option maxHeartbeats 8000000 in
set_option maxRecDepth 100000 in
theorem rbackward_any (x y : TupV) (s t : Value) (hx : SZ x.t0 ∧ SZ x.t1 ∧ SZ x.t2 ∧ SZ x.t3 ∧ SZ x.t4 ∧ SZ x.t5) (w : World) : Calls Try.prog 15 #[x.v s, y.v t] w fun e w' => e = .returned (.int .i64 (keyB x y)) ∧ Later w w' := by
  obtain ⟨hw2, hcc⟩ := two_tuples x y s t w
  unfold keyB
  have c0 := fun W => rsubj_any x.t3 x.t4 x.t5 y.t3 y.t4 y.t5 hx.2.2.2.1 hx.2.2.2.2.1 hx.2.2.2.2.2 W
  have c1 := fun W => robj_any x.t0 x.t1 y.t0 y.t1 hx.1 hx.2.1 W
  have c2 := fun W => texts_any x.t2 y.t2 hx.2.2.1 W
  generalize orL [cmpS x.t0 y.t0, cmpS x.t1 y.t1] = x1 at c1 ⊢
  generalize orL [cmpS x.t3 y.t3, cmpS x.t4 y.t4, cmpS x.t5 y.t5] = x0 at c0 ⊢
  generalize cmpS x.t2 y.t2 = x2 at c2 ⊢
  rw [orL3]

  generalize hR : (if x0 = 0 then (if x1 = 0 then x2 else x1) else x0) = R
  go_enter Try.func15, Try.ntmps15
  go_upto_region 1 with fail
  generalize (w.alloc (x.o s)).alloc (y.o t) = W2 at hcc hw2 ⊢
  obtain ⟨⟨p0, p1, p2, p3, p4, p5, p6, p7⟩, p8, p9, p10, p11, p12, p13, p14, p15⟩ := hcc W2 (Later.refl _)
  by_cases h0 : x0 = 0
  · by_cases h1 : x1 = 0
    · have hr : Hid (x2 = R) := hid (by rw [← hR, if_pos h0, if_pos h1])
      subst h0
      subst h1
      clear hR
      go_wp2_with (first
        | (go_at_call 28; (with_reducible refine (c0 _).mono ?_); rintro e w3 ⟨rfl, l3⟩; obtain ⟨⟨q0, q1, q2, q3, q4, q5, q6, q7⟩, q8, q9, q10, q11, q12, q13, q14, q15⟩ := hcc _ l3)
        | (go_at_call 26; (with_reducible refine (c1 _).mono ?_); rintro e w4 ⟨rfl, l4⟩; obtain ⟨⟨n0, n1, n2, n3, n4, n5, n6, n7⟩, n8, n9, n10, n11, n12, n13, n14, n15⟩ := hcc _ (l3.next l4))
        | (go_at_call 27; (with_reducible refine (c2 _).mono ?_); rintro e w5 ⟨rfl, l5⟩))
      go_ret
      exact ⟨by rw [← hr.out]; rfl, hw2.next (l3.next (l4.next l5))⟩
    · have hr : Hid (x1 = R) := hid (by rw [← hR, if_pos h0, if_neg h1])
      have hb1 : (x1 == 0) = false := by simp [h1]
      subst h0
      clear hR
      go_wp2_with (first
        | (go_at_call 28; (with_reducible refine (c0 _).mono ?_); rintro e w3 ⟨rfl, l3⟩; obtain ⟨⟨q0, q1, q2, q3, q4, q5, q6, q7⟩, q8, q9, q10, q11, q12, q13, q14, q15⟩ := hcc _ l3)
        | (go_at_call 26; (with_reducible refine (c1 _).mono ?_); rintro e w4 ⟨rfl, l4⟩; obtain ⟨⟨n0, n1, n2, n3, n4, n5, n6, n7⟩, n8, n9, n10, n11, n12, n13, n14, n15⟩ := hcc _ (l3.next l4)))
      go_ret
      exact ⟨by rw [← hr.out]; rfl, hw2.next (l3.next l4)⟩
  · have hr : Hid (x0 = R) := hid (by rw [← hR, if_neg h0])
    have hb : (x0 == 0) = false := by simp [h0]
    clear hR
    go_wp2_with (first
      | (go_at_call 28; (with_reducible refine (c0 _).mono ?_); rintro e w3 ⟨rfl, l3⟩; obtain ⟨⟨q0, q1, q2, q3, q4, q5, q6, q7⟩, q8, q9, q10, q11, q12, q13, q14, q15⟩ := hcc _ l3))
    go_ret
    exact ⟨by rw [← hr.out]; rfl, hw2.next l3⟩
end Go.Proofs.Ytdifabacbhfbbaa.Tu
