import Derived.Test.YtlhhpdomiioeiaaGreatDoorOn
import Derived.Deep.AppendLies
namespace Go.Proofs.YtlhhpdomiioeiaaGreatDoor.Tu
open Go.RowKit Go.Lib Go.Proofs
set_option linter.unusedVariables false
set_option linter.unusedSimpArgs false
theorem same0 (W : World) : Calls Tryz.prog 8 #[t0V, t0V] W fun e w' => e = .returned (.bool true) ∧ Later W w' := by
  have h := sametup_any T0 T0 (L := []) (M := []) (w := W) (A := none) (B := none) (n := 0) (m := 0) (c := 0) (c' := 0) (fun i a h => by simp at h) (fun i a h => by simp at h) rfl rfl (by decide)
  have e : sameT T0 T0 (allA [] []) = true := by decide +kernel
  rw [e] at h
  exact h
set_option maxHeartbeats 8000000 in
set_option maxRecDepth 100000 in
theorem awake_c (w : World) (hm : MX w) : Calls Tryz.prog 5 #[] w fun e w' => e = .returned (.bool true) ∧ Later w w' := by
  have l1 : Later w (w.alloc t0O) := (Later.refl w).alloc _
  have h1 : (w.alloc t0O).heap[w.heap.size]? = some (.cells #[.string ⟨#[100]⟩, .string ⟨#[49]⟩, .string ⟨#[114]⟩, .string ⟨#[117]⟩, .string ⟨#[97]⟩, .string ⟨#[]⟩, .string ⟨#[]⟩, .slice none 0 0] 29 (0, 0)) := World.alloc_heap_new _ _
  have k1 := fun W (h : Later w W) => parse_c W (hm.later h)
  have k3 := fun W => same0 W
  go_enter Tryz.func5, Tryz.ntmps5
  go_upto_region 2 with fail
  generalize w.alloc t0O = W1 at l1 h1 ⊢
  obtain ⟨B1, hB1⟩ : ∃ B, w.heap.size = B := ⟨_, rfl⟩
  rw [hB1] at h1 ⊢
  clear hB1
  go_upto_region 3 with (go_at_call 7; refine (k1 _ l1).mono ?_; rintro e w2 ⟨rfl, l2⟩)
  have h2 : (w2.alloc t0O).heap[w2.heap.size]? = some (.cells #[.string ⟨#[100]⟩, .string ⟨#[49]⟩, .string ⟨#[114]⟩, .string ⟨#[117]⟩, .string ⟨#[97]⟩, .string ⟨#[]⟩, .string ⟨#[]⟩, .slice none 0 0] 29 (0, 0)) := World.alloc_heap_new _ _
  have la2 : Later w2 (w2.alloc t0O) := (Later.refl _).alloc _
  have m2 := (l1.next l2).next la2
  replace h1 := later_blk (l2.next la2) h1
  generalize w2.alloc t0O = W2 at h1 h2 la2 m2 ⊢
  obtain ⟨B2, hB2⟩ : ∃ B, w2.heap.size = B := ⟨_, rfl⟩
  rw [hB2] at h2 ⊢
  clear hB2 la2 l2 l1
  have hb : ∀ j u, LV[j]? = some u → (W2.alloc (.cells LV.toArray 5)).cell? ((⟨W2.heap.size, 0, none⟩ : Addr).add j) = some u := World.news_of_block (World.alloc_heap_new W2 (.cells LV.toArray 5))
  have la3 : Later W2 (W2.alloc (.cells LV.toArray 5)) := (Later.refl _).alloc _
  have kd := decode_c hb
  go_upto_region 4 with (go_at_call 13; refine kd.mono ?_; rintro e w4 ⟨rfl, l4⟩)
  have h4 : (w4.alloc t0O).heap[w4.heap.size]? = some (.cells #[.string ⟨#[100]⟩, .string ⟨#[49]⟩, .string ⟨#[114]⟩, .string ⟨#[117]⟩, .string ⟨#[97]⟩, .string ⟨#[]⟩, .string ⟨#[]⟩, .slice none 0 0] 29 (0, 0)) := World.alloc_heap_new _ _
  have la4 : Later w4 (w4.alloc t0O) := (Later.refl _).alloc _
  have m4 := ((m2.next la3).next l4).next la4
  replace h1 := later_blk ((la3.next l4).next la4) h1
  replace h2 := later_blk ((la3.next l4).next la4) h2
  generalize w4.alloc t0O = W4 at h1 h2 h4 m4 ⊢
  obtain ⟨B4, hB4⟩ : ∃ B, w4.heap.size = B := ⟨_, rfl⟩
  rw [hB4] at h4 ⊢
  clear hB4 hb la3 kd l4 la4 m2
  obtain ⟨p0, p1, p2, p3, p4, p5, p6, p7⟩ := (eight h1).1
  obtain ⟨q0, q1, q2, q3, q4, q5, q6, q7⟩ := (eight h2).1
  have c1 := fun V (l : Later W4 V) => (eight (later_blk l h1)).1
  have c4 := fun V (l : Later W4 V) => (eight (later_blk l h4)).1
  clear k1 h1 h2 h4
  go_wp2_with (first
    | (go_at_call 8; refine (k3 _).mono ?_; rintro e w5 ⟨rfl, l5⟩; clear p0 p1 p2 p3 p4 p5 p6 p7; obtain ⟨r0, r1, r2, r3, r4, r5, r6, r7⟩ := c1 _ l5; obtain ⟨s0, s1, s2, s3, s4, s5, s6, s7⟩ := c4 _ l5)
    | (go_at_call 8; refine (k3 _).mono ?_; rintro e w6 ⟨rfl, l6⟩))
  go_ret
  exact ⟨rfl, (m4.next l5).next l6⟩
set_option maxHeartbeats 8000000 in
set_option maxRecDepth 100000 in
theorem tkey_any (x y : TupV) (s t : Value) (w : World) : Calls Tryz.prog 11 #[x.v s, y.v t] w fun e w' => e = .returned (.bool (kEq x y)) ∧ Later w w' := by
  obtain ⟨R, hR⟩ : ∃ R, kEq x y = R := ⟨_, rfl⟩
  rw [hR]
  have hr : Hid (R = kEq x y) := hid hR.symm
  clear hR
  obtain ⟨hw2, hc⟩ := two_tuples x y s t w
  have e1 := fun W => eq27 x.t0 x.t1 y.t0 y.t1 W
  have e2 := fun W => eq23 x.t3 x.t4 x.t5 y.t3 y.t4 y.t5 W
  unfold kEq oEq rEq sEq at hr
  generalize (x.t0.toList == y.t0.toList && x.t1.toList == y.t1.toList) = b1 at e1 hr
  generalize (x.t3.toList == y.t3.toList && x.t4.toList == y.t4.toList && x.t5.toList == y.t5.toList) = b3 at e2 hr
  go_enter Tryz.func11, Tryz.ntmps11
  go_upto_region 1 with fail
  generalize (w.alloc (x.o s)).alloc (y.o t) = W2 at hc hw2 ⊢
  obtain ⟨⟨p0, p1, p2, p3, p4, p5, p6, p7⟩, ⟨q0, q1, q2, q3, q4, q5, q6, q7⟩⟩ := hc W2 (Later.refl _)
  clear hc
  cases b1 with
  | false =>
    have hr2 : Hid (R = false) := hid (by rw [hr.out]; simp)
    clear hr
    go_wp2_with fail
    go_ret
    exact ⟨by rw [hr2.out]; rfl, hw2⟩
  | true =>
    cases g2 : (x.t2.toList == y.t2.toList) with
    | false =>
      have hr2 : Hid (R = false) := hid (by rw [hr.out, g2]; simp)
      clear hr
      go_wp2_with fail
      go_ret
      exact ⟨by rw [hr2.out]; rfl, hw2⟩
    | true =>
      have hr2 : Hid (R = b3) := hid (by rw [hr.out, g2]; simp)
      clear hr
      go_wp2_with fail
      go_ret
      exact ⟨by rw [hr2.out]; rfl, hw2⟩
end Go.Proofs.YtlhhpdomiioeiaaGreatDoor.Tu
