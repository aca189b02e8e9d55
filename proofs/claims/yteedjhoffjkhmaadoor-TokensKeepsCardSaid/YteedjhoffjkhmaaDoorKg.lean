import Derived.Test.YteedjhoffjkhmaaDoorKf
namespace Go.Proofs.YteedjhoffjkhmaaDoor.Ka
open Go.RowKit Go.Lib Go.Proofs Go.Proofs.YteedjhoffjkhmaaDoor.PT Go.Proofs.YteedjhoffjkhmaaDoor.Q
set_option linter.unusedVariables false
set_option linter.unusedSimpArgs false
def x7 : S37 := ⟨3, ⟨#[55]⟩, 0, 0⟩
theorem wt_set (x : S37) : ∀ (l : List S37) (i : Nat), wt (l.set i x) ≤ wt l + x.f1.size
  | [], _ => by simp [wt]
  | y :: t, 0 => by simp only [List.set_cons_zero, wt]; omega
  | y :: t, i + 1 => by have := wt_set x t i; simp only [List.set_cons_succ, wt]; omega
theorem box3 {W : World} (a b c : Int) : ∀ V, Later (W.alloc (.cells #[.int .i64 a, .int .i64 b, .int .i64 c] 25)) V → V.cell? ⟨W.heap.size, 0, none⟩ = some (.int .i64 a) ∧ V.cell? ⟨W.heap.size, 1, none⟩ = some (.int .i64 b) ∧ V.cell? ⟨W.heap.size, 2, none⟩ = some (.int .i64 c) := fun V l => by
  have h' := World.alloc_heap_new W (.cells #[.int .i64 a, .int .i64 b, .int .i64 c] 25)
  refine ⟨l.cell ?_, l.cell ?_, l.cell ?_⟩ <;> (simp only [World.cell?, h']; rfl)
abbrev Btw (A : Option Addr) (lo hi : Nat) : Prop := ∀ b o p, A = some ⟨b, o, p⟩ → o = 0 ∧ p = none ∧ lo ≤ b ∧ b < hi
theorem Later.thensX {A B C : World} {X : Nat → Prop} (h : Later A B) (k : Chg X B C) (hg : ∀ b, X b → A.heap.size ≤ b) : Later A C :=
  ⟨k.os.trans h.os, k.tape.trans h.tape, k.output.trans h.output, Nat.le_trans h.size k.size, fun i hi => (k.block i (Nat.lt_of_lt_of_le hi h.size) (fun e => by have := hg i e; omega)).trans (h.block i hi)⟩
abbrev fA (A1 A2 A3 : Option Addr) : Nat → Option Addr := fun j => if j = 0 then A1 else if j = 1 then A2 else A3
abbrev fN (a b c : Nat) : Nat → Nat := fun j => if j = 0 then a else if j = 1 then b else c
theorem three_split {P : Nat → Prop} (h0 : P 0) (h1 : P 1) (h2 : P 2) : ∀ j, j < 3 → P j := fun j hj => by
  match j, hj with
  | 0, _ => exact h0
  | 1, _ => exact h1
  | 2, _ => exact h2
theorem apart_three {W : World} {A1 A2 A3 : Option Addr} {n1 n2 n3 c1 c2 c3 a1 e1 a2 e2 a3 e3 : Nat} {M1 M2 M3 : List Tk} (r1 : TR W (.slice A1 n1 c1) M1) (r2 : TR W (.slice A2 n2 c2) M2) (r3 : TR W (.slice A3 n3 c3) M3)
    (b1 : Btw A1 a1 e1) (b2 : Btw A2 a2 e2) (b3 : Btw A3 a3 e3) (h12 : e1 ≤ a2) (h23 : e2 ≤ a3) (h3 : e3 ≤ W.heap.size) (hz1 : n1 ≤ 1000000000000) (hz2 : n2 ≤ 1000000000000) (hz3 : n3 ≤ 1000000000000) (he2 : a2 ≤ e2) (he3 : a3 ≤ e3) :
    Calls Tryd.prog 27 #[.slice (some ⟨W.heap.size, 0, none⟩) 3 3] (W.alloc (.cells #[.slice A1 n1 c1, .slice A2 n2 c2, .slice A3 n3 c3] 22)) fun e V => e = .returned (.bool true) ∧ Chg (XB (fA A1 A2 A3)) (W.alloc (.cells #[.slice A1 n1 c1, .slice A2 n2 c2, .slice A3 n3 c3] 22)) V := by
  have la : Later W (W.alloc (.cells #[.slice A1 n1 c1, .slice A2 n2 c2, .slice A3 n3 c3] 22)) := (Later.refl _).alloc _
  have h' := World.alloc_heap_new W (.cells #[.slice A1 n1 c1, .slice A2 n2 c2, .slice A3 n3 c3] 22)
  have hl : ∀ {n c : Nat} {A : Option Addr} {M : List Tk}, TR W (.slice A n c) M → M.length = n := fun h => by
    obtain ⟨_, _, e, _⟩ := h.slice
    injection e with _ e _
    exact e.symm
  refine apart_tokens (A := fA A1 A2 A3) (n := fN n1 n2 n3) (c := fN c1 c2 c3) ⟨?_, ?_, ?_, ?_⟩ ?_
  · intro j b o p hj
    revert hj j
    refine three_split (fun e => ?_) (fun e => ?_) (fun e => ?_)
    · obtain ⟨q1, q2, q3, q4⟩ := b1 b o p e
      exact ⟨q1, q2, by omega, by rw [World.size_alloc]; omega⟩
    · obtain ⟨q1, q2, q3, q4⟩ := b2 b o p e
      exact ⟨q1, q2, by omega, by rw [World.size_alloc]; omega⟩
    · obtain ⟨q1, q2, q3, q4⟩ := b3 b o p e
      exact ⟨q1, q2, by omega, by rw [World.size_alloc]; omega⟩
  · have key : ∀ i, i < 3 → ∀ j, j < 3 → ∀ g, i ≠ j → fA A1 A2 A3 i = some ⟨g, 0, none⟩ → fA A1 A2 A3 j ≠ some ⟨g, 0, none⟩ := by
      refine three_split (three_split ?_ ?_ ?_) (three_split ?_ ?_ ?_) (three_split ?_ ?_ ?_)
      · exact fun g h => absurd rfl h
      · intro g _ e1 e2
        have := b1 g 0 none e1
        have := b2 g 0 none e2
        omega
      · intro g _ e1 e2
        have := b1 g 0 none e1
        have := b3 g 0 none e2
        omega
      · intro g _ e1 e2
        have := b2 g 0 none e1
        have := b1 g 0 none e2
        omega
      · exact fun g h => absurd rfl h
      · intro g _ e1 e2
        have := b2 g 0 none e1
        have := b3 g 0 none e2
        omega
      · intro g _ e1 e2
        have := b3 g 0 none e1
        have := b1 g 0 none e2
        omega
      · intro g _ e1 e2
        have := b3 g 0 none e1
        have := b2 g 0 none e2
        omega
      · exact fun g h => absurd rfl h
    exact fun i j g hi hj hij => key i hi j hj g hij
  · refine three_split ?_ ?_ ?_ <;> (simp only [World.cell?, h']; rfl)
  · exact three_split hz1 hz2 hz3
  · exact three_split ⟨M1, hl r1, r1.later la⟩ ⟨M2, hl r2, r2.later la⟩ ⟨M3, hl r3, r3.later la⟩
set_option maxRecDepth 100000 in
set_option maxHeartbeats 20000000 in
theorem keeps_walk (s t : ByteArray) {w : World} (hT : VT w) : Calls Tryd.prog 9 #[.string s, .string t] w fun e V => e = .returned (.bool true) ∧ Later w V := by
  have hs := fun W (l : Later w W) => scan_any s W (hT.on l)
  have ht := fun W (l : Later w W) => scan_any t W (hT.on l)
  have hwt := scanV_wt s
  have hlen := scanV_len s
  have hlen2 := scanV_len t
  rcases hS : scanV s with ⟨L, x1, x2, x3⟩
  rcases hS2 : scanV t with ⟨M, y1, y2, y3⟩
  simp only [hS] at hs hwt hlen
  simp only [hS2] at ht hlen2
  obtain ⟨n, hn⟩ : ∃ n, L.length = n := ⟨_, rfl⟩
  obtain ⟨m, hm⟩ : ∃ m, M.length = m := ⟨_, rfl⟩
  simp only [hn] at hs
  simp only [hm] at ht
  rw [hm] at hlen2
  have hn65 : n ≤ 65537 := by rw [← hn]; exact hlen
  clear hS hS2
  replace hn := hid hn
  replace hm := hid hm
  replace hlen := hid hlen
  replace hwt := hid hwt
  have hu37 := Tryd.underlying37
  go_enter Tryd.func9, Tryd.ntmps9
  go_upto_region 3 with (go_at_call 13; (with_reducible refine (awake_any _ hT).mono ?_); rintro e w0 ⟨rfl, l0⟩)
  go_upto_region 4 with (go_at_call 10; (with_reducible refine (hs _ l0).mono ?_); rintro e w1 ⟨A1, c1, rfl, r1, b1, l1⟩)
  have k1 := box3 (W := w1) x1 x2 x3
  have la1 : Later w1 (w1.alloc (.cells #[.int .i64 x1, .int .i64 x2, .int .i64 x3] 25)) := (Later.refl _).alloc _
  replace r1 := r1.later la1
  have lw1 := (l0.next l1).next la1
  have z1 := (l1.next la1).size
  have z1b := la1.size
  have nb1 : w1.heap.size < (w1.alloc (.cells #[.int .i64 x1, .int .i64 x2, .int .i64 x3] 25)).heap.size := by rw [World.size_alloc]; omega
  generalize w1.alloc (.cells #[.int .i64 x1, .int .i64 x2, .int .i64 x3] 25) = W1 at k1 r1 lw1 z1 z1b nb1 ⊢
  obtain ⟨N1, hN1⟩ : ∃ N, w1.heap.size = N := ⟨_, rfl⟩
  rw [hN1] at k1 b1 z1b nb1 ⊢
  clear la1 l1
  replace b1 := hid b1
  go_upto_region 5 with (go_at_call 10; (with_reducible refine (ht _ lw1).mono ?_); rintro e w2 ⟨A2, c2, rfl, r2, b2, l2⟩)
  have la2 : Later w2 (w2.alloc (.cells #[.int .i64 y1, .int .i64 y2, .int .i64 y3] 25)) := (Later.refl _).alloc _
  replace r2 := r2.later la2
  replace r1 := (r1.later l2).later la2
  have l12 := l2.next la2
  have z2a := l2.size
  have lw2 := lw1.next l12
  have z2b := la2.size
  generalize w2.alloc (.cells #[.int .i64 y1, .int .i64 y2, .int .i64 y3] 25) = W2 at r1 r2 l12 lw2 z2b ⊢
  obtain ⟨N2, hN2⟩ : ∃ N, w2.heap.size = N := ⟨_, rfl⟩
  rw [hN2] at b2 z2b z2a ⊢
  clear la2 l2
  replace b2 := hid b2
  go_upto_region 6 with (go_at_call 10; (with_reducible refine (hs _ lw2).mono ?_); rintro e w3 ⟨A3, c3, rfl, r3, b3, l3⟩)
  have k3 := box3 (W := w3) x1 x2 x3
  have la3 : Later w3 (w3.alloc (.cells #[.int .i64 x1, .int .i64 x2, .int .i64 x3] 25)) := (Later.refl _).alloc _
  replace r3 := r3.later la3
  replace r2 := (r2.later l3).later la3
  replace r1 := (r1.later l3).later la3
  have l13 := l12.next (l3.next la3)
  have z3a := l3.size
  have lw3 := lw2.next (l3.next la3)
  have z3b := la3.size
  generalize w3.alloc (.cells #[.int .i64 x1, .int .i64 x2, .int .i64 x3] 25) = W3 at k3 r1 r2 r3 l13 lw3 z3b ⊢
  obtain ⟨N3, hN3⟩ : ∃ N, w3.heap.size = N := ⟨_, rfl⟩
  rw [hN3] at k3 b3 z3b z3a ⊢
  clear la3 l3
  obtain ⟨p0, p1, p2⟩ := k1 W3 l13
  obtain ⟨q0, q1, q2⟩ := k3 W3 (Later.refl _)
  clear k1 k3
  replace b3 := hid b3
  go_upto_region 8 with (go_at_call 12; (with_reducible refine (same_any L (by rw [hn.out]; exact hn65) r1 r3).mono ?_); rintro e w4 ⟨rfl, l4⟩)
  replace r1 := r1.later l4
  replace r2 := r2.later l4
  replace r3 := r3.later l4
  replace lw3 := lw3.next l4
  have z4 : N3 ≤ w4.heap.size := Nat.le_trans z3b l4.size
  clear l4 l13 l12 p0 p1 p2 q0 q1 q2 ht lw1 lw2
  have hw0 : wt L ≤ 2147483647 := by have := hwt.out; omega
  have hcp := copy_any L hw0 r1
  rw [hn.out] at hcp
  go_upto_region 9 with (go_at_call 20; (with_reducible refine hcp.mono ?_); rintro e w5 ⟨B, d, rfl, r4, b4, l5⟩)
  clear hcp
  replace r1 := r1.later l5
  replace b4 := hid b4
  have hle := lent_any L hw0 r1
  rw [hn.out] at hle
  go_upto_region 10 with (go_at_call 15; (with_reducible refine hle.mono ?_); rintro e w6 ⟨g, d2, rfl, r5, g1, g2, l6⟩)
  clear hle
  replace r1 := r1.later l6
  replace r4 := r4.later l6
  have r5p : TR w6 (.slice (some ⟨g, 0, none⟩) n d2) (L.map tkOf) := by
    have h := r5
    rw [List.map_append] at h
    have h := h.prefix
    rw [List.length_map, hn.out] at h
    exact h
  have hp1 := print_any L hw0 r5p
  obtain ⟨P1, hP1⟩ : ∃ P, (printV L).1 = P := ⟨_, rfl⟩
  obtain ⟨P2, hP2⟩ : ∃ P, (printV L).2 = P := ⟨_, rfl⟩
  rw [hP1, hP2] at hp1
  go_upto_region 11 with (go_at_call 16; (with_reducible refine hp1.mono ?_); rintro e w7 ⟨rfl, l7⟩)
  clear hp1
  replace r1 := r1.later l7
  replace r4 := r4.later l7
  replace r5 := r5.later l7
  replace r5p := r5p.later l7
  have hke := kept_any L hw0 r5 r1
  rw [hn.out] at hke
  go_upto_region 13 with (go_at_call 18; (with_reducible refine hke.mono ?_); rintro e w8 ⟨rfl, l8⟩)
  clear hke r5
  replace r1 := r1.later l8
  replace r4 := r4.later l8
  replace r5p := r5p.later l8
  have l48 := ((l5.next l6).next l7).next l8
  replace r2 := r2.later l48
  replace r3 := r3.later l48
  have lw8 := lw3.next l48
  have g3 : g < w8.heap.size := Nat.lt_of_lt_of_le g2 (l7.next l8).size
  have z5 : w4.heap.size ≤ w5.heap.size := l5.size
  clear l5 l6 l7 l8 l48 lw3 g2
  go_wp2_with fail
  go_loopw [15] (fun i W' => ∃ (q : Nat) (l' : List S37), q ≤ n ∧ i = .int .i64 q ∧ Hid (l'.length = n ∧ wt l' ≤ 600000 + q) ∧ Hid (TR W' (.slice (some ⟨g, 0, none⟩) n d2) (l'.map tkOf)) ∧ Chg (only g) w8 W') (fun i _ => n - (RowKit.intOf i).toNat)
  case atStart => exact ⟨0, L, Nat.zero_le _, rfl, hid ⟨hn.out, hwt.out⟩, hid r5p, Chg.refl _ _⟩
  case round =>
    obtain ⟨q, l', hq, rfl, hl', rl, hc⟩ := hrel
    by_cases hlt : q + 1 < n
    · have hlm : (l'.map tkOf).length = n := by rw [List.length_map]; exact hl'.out.1
      obtain ⟨⟨u0, f0⟩, e0⟩ := rl.out.open (q * 4) (by rw [hlm]; omega)
      obtain ⟨⟨u1, f1⟩, e1⟩ := rl.out.open (q * 4 + 1) (by rw [hlm]; omega)
      obtain ⟨⟨u2, f2⟩, e2⟩ := rl.out.open (q * 4 + 2) (by rw [hlm]; omega)
      obtain ⟨⟨u3, f3⟩, e3⟩ := rl.out.open (q * 4 + 3) (by rw [hlm]; omega)
      replace hlm := hid hlm
      have hst : Hid (TR (setT wr g q (tkOf x7)) (.slice (some ⟨g, 0, none⟩) n d2) ((l'.set q x7).map tkOf)) := hid (by
        rw [List.map_set]
        exact rl.out.store (tkOf x7) (by rw [hlm.out]; omega))
      have hc2 : Chg (only g) w8 (setT wr g q (tkOf x7)) := hc.trans (setT_chg _ _ _ _)
      have hl2 : Hid ((l'.set q x7).length = n ∧ wt (l'.set q x7) ≤ 600000 + (q + 1)) := hid ⟨by rw [List.length_set]; exact hl'.out.1, by
        have h1 := wt_set x7 l' q
        have h2 := hl'.out.2
        have h3 : x7.f1.size = 1 := rfl
        omega⟩
      go_wp2_with fail
      go_roundw
      case rel => exact ⟨q + 1, l'.set q x7, by omega, by go_num, hl2, hst, hc2⟩
      case measure => simp [RowKit.intOf]; omega
    · have hng : ∀ {A : Option Addr} {k c lo hi : Nat} {l : List Tk}, TR w8 (.slice A k c) l → Btw A lo hi → hi ≤ g → TR wr (.slice A k c) l := fun {A k c lo hi l} h hb hh => h.chg hc (fun b e e2 => by
        obtain ⟨o, p, e3⟩ := own_of e
        have := hb b o p e3
        have e2 : b = g := e2
        omega)
      have r1' := hng r1 b1.out (by omega)
      have r2' := hng r2 b2.out (by omega)
      have r3' := hng r3 b3.out (by omega)
      have r4' := hng r4 b4.out g1
      have lwr : Later w wr := lw8.thens hc (by have := lw8.size; have := l0.size; omega)
      have hw1 : wt l' ≤ 2147483647 := by have := hl'.out.2; omega
      have hlq : Hid (l'.length = n) := hid hl'.out.1
      have rq := rl.out
      have zc := hc.size
      clear hng r1 r2 r3 r4 r5p rl hc hl'
      have hpq := print_any l' hw1 rq
      obtain ⟨Q1, hQ1⟩ : ∃ P, (printV l').1 = P := ⟨_, rfl⟩
      obtain ⟨Q2, hQ2⟩ : ∃ P, (printV l').2 = P := ⟨_, rfl⟩
      rw [hQ1, hQ2] at hpq
      go_upto_region 18 with (go_at_call 16; (with_reducible refine hpq.mono ?_); rintro e w10 ⟨rfl, l10⟩)
      clear hpq
      have hcp := copy_any l' hw1 (rq.later l10)
      rw [hlq.out] at hcp
      go_upto_region 19 with (first
        | (go_at_call 20; (with_reducible refine hcp.mono ?_); rintro e w11 ⟨D, dd, rfl, r7, b7, l11⟩; replace b7 := hid b7; have hpc := print_any l' hw1 r7; rw [hQ1, hQ2] at hpc)
        | (go_at_call 16; (with_reducible refine hpc.mono ?_); rintro e w12 ⟨rfl, l12⟩))
      clear hcp hpc r7 b7 rq
      have l82 := (l10.next l11).next l12
      have hpa := print_any L hw0 (r1'.later l82)
      rw [hP1, hP2] at hpa
      go_upto_region 20 with (go_at_call 16; (with_reducible refine hpa.mono ?_); rintro e w13 ⟨rfl, l13⟩)
      clear hpa
      replace l82 := l82.next l13
      clear l10 l11 l12 l13
      replace r1' := r1'.later l82
      replace r2' := r2'.later l82
      replace r3' := r3'.later l82
      replace r4' := r4'.later l82
      replace lwr := lwr.next l82
      have zw : w8.heap.size ≤ w13.heap.size := Nat.le_trans zc l82.size
      have hap := apart_three r1' r2' r3' b1.out b2.out b3.out (by omega) (by omega) (by omega) (by omega) (by omega) (by omega) (by omega) (by omega)
      go_upto_region 22 with (go_at_call 27; (with_reducible refine hap.mono ?_); rintro e w14 ⟨rfl, c14⟩)
      have la14 : Later w13 (w13.alloc (.cells #[.slice A1 n c1, .slice A2 m c2, .slice A3 n c3] 22)) := (Later.refl _).alloc _
      have hXB : ∀ b, XB (fA A1 A2 A3) b → w.heap.size ≤ b ∧ b < w4.heap.size := fun b ⟨j, hj, e⟩ => by
        have hw0 := l0.size
        revert e
        revert hj j
        refine three_split (fun e => ?_) (fun e => ?_) (fun e => ?_)
        · have := b1.out b 0 none e; omega
        · have := b2.out b 0 none e; omega
        · have := b3.out b 0 none e; omega
      have lw14 : Later w w14 := (lwr.next la14).thensX c14 (fun b e => (hXB b e).1)
      have r4w : TR w14 (.slice B n d) (L.map tkOf) := (r4'.later la14).chg c14 (fun b e hx => by
        obtain ⟨o, p, e2⟩ := own_of e
        have := (hXB b hx).2
        have := b4.out b o p e2
        omega)
      clear hap c14 la14 hXB r1' r2' r3' r4' lwr
      go_upto_region 23 with (go_at_call 10; (with_reducible refine (hs _ lw14).mono ?_); rintro e w15 ⟨A6, c6, rfl, r6, b6, l15⟩)
      replace b6 := hid b6
      have la15 : Later w15 (w15.alloc (.cells #[.int .i64 x1, .int .i64 x2, .int .i64 x3] 25)) := (Later.refl _).alloc _
      replace r6 := r6.later la15
      replace r4w := (r4w.later l15).later la15
      have lw15 := (lw14.next l15).next la15
      go_wp2_with (go_at_call 12; (with_reducible refine (same_any L (by rw [hn.out]; exact hn65) r6 r4w).mono ?_); rintro e w16 ⟨rfl, l16⟩)
      go_ret
      exact ⟨rfl, lw15.next l16⟩
end Go.Proofs.YteedjhoffjkhmaaDoor.Ka
