import Derived.Test.YteledidnhjioaaaSlI
namespace Go.Proofs.Yteledidnhjioaaa.Sh
open Go.RowKit Go.Lib Go.Proofs Go.Shelf
set_option linter.unusedVariables false
set_option linter.unusedSimpArgs false
attribute [local go_sem] Oper.semAt_some
theorem allAt_later {X : Nat → Prop} {W V : World} {bt : Nat} {T : Tr (Int × Int)} (h : AllAt X W bt T) (l : Later W V) : AllAt X V bt T := by
  obtain ⟨p, h1, h2⟩ := h.tree
  exact ⟨p, l.cell h1, h2.keep l.chg⟩
theorem wrap_is {x y : Int} (h : x = y) (hb : 0 ≤ x ∧ x ≤ 4611686018427387904) : wrap64 x = y := by subst h; unfold wrap64; omega
theorem wrap_add {a b c : Nat} (h : a + b = c) (hb : c ≤ 2000000000000) : wrap64 ((a : Int) + (b : Int)) = (c : Int) := wrap_is (by omega) (by omega)
theorem b2_later {W W' : World} {B : Nat} {u v : Value} (h : Boxed2 W B u v) (k : Later W W') : Boxed2 W' B u v := h.kept k.grown (fun e => by cases e)
theorem zero2_late {E W' : World} {u v : Value} (l : Later (E.alloc (.cells #[u, v] 27)) W') : Boxed2 W' E.heap.size u v := b2_later (Boxed2.new E u v) l
theorem zero2_late_d {E W' : World} {u v : Value} (l : Later (E.alloc (.cells #[u, v] 27)).drew W') : Boxed2 W' E.heap.size u v := zero2_late (E := E) ⟨l.os, l.tape, l.output, l.size, l.block⟩
theorem b2_set0 {W : World} {B : Nat} {u v : Value} (u' : Value) (h : Boxed2 W B u v) : Boxed2 (W.setCell ⟨B, 0, none⟩ u') B u' v := by
  obtain ⟨hlt, hk⟩ := Array.getElem?_eq_some_iff.1 h
  show (W.heap.modify B _)[B]? = _
  rw [Array.getElem?_eq_getElem (by rw [Array.size_modify]; exact hlt), Array.getElem_modify_self, hk]
  rfl
theorem b2_set1 {W : World} {B : Nat} {u v : Value} (v' : Value) (h : Boxed2 W B u v) : Boxed2 (W.setCell ⟨B, 1, none⟩ v') B u v' := by
  obtain ⟨hlt, hk⟩ := Array.getElem?_eq_some_iff.1 h
  show (W.heap.modify B _)[B]? = _
  rw [Array.getElem?_eq_getElem (by rw [Array.size_modify]; exact hlt), Array.getElem_modify_self, hk]
  rfl
theorem b2_set2 {W : World} {B : Nat} {u v : Value} (h : Boxed2 W B u v) (u' v' : Value) : Boxed2 ((W.setCell ⟨B, 0, none⟩ u').setCell ⟨B, 1, none⟩ v') B u' v' := b2_set1 v' (b2_set0 u' h)
theorem far2 {w V : World} {N : Nat} {u v : Value} (h : Later w V) (hN : w.heap.size ≤ N) : Later w ((V.setCell ⟨N, 0, none⟩ u).setCell ⟨N, 1, none⟩ v) := Later.far (Later.far h hN (Chg.set _ _ rfl)) hN (Chg.set _ _ rfl)
theorem three_new (W : World) (u v x : Value) (t : TypeId) : (W.alloc (.cells #[u, v, x] t)).cell? ⟨W.heap.size, 0, none⟩ = some u ∧ (W.alloc (.cells #[u, v, x] t)).cell? ⟨W.heap.size, 1, none⟩ = some v ∧ (W.alloc (.cells #[u, v, x] t)).cell? ⟨W.heap.size, 2, none⟩ = some x := by
  have h' := World.alloc_heap_new W (.cells #[u, v, x] t)
  simp only [World.cell?, h']
  exact ⟨rfl, rfl, rfl⟩
theorem wrapEq' (x : Int) : IntKind.i64.wrap x = wrap64 x := by rw [IntKind.wrap_i64]; unfold wrap64; omega
theorem near_set {R : Nat} {W V : World} (v : Value) (h : Later W V) : Near R W (V.setCell ⟨R, 0, none⟩ v) := Near.chg h.near (Chg.set (X := only R) _ _ rfl) (fun b hb => .inl hb)
theorem find_fn {X : Nat → Prop} {W : World} {sb : Nat} {T : Tr (Int × Int)} {x : Int × Int} (h : Shf X W sb 45 T) (hf : ∀ p, T.find cmpR p = findL cmpR p T.list) (h1 : firstK x.1 T.list = none) :
    Calls Try.prog 32 #[.pointer (some ⟨sb, 0, none⟩), .agg #[.int .i64 x.1, .int .i64 x.2]] W fun e w' => e = .returned (.tuple #[.agg #[.int .i64 0, .int .i64 0], .bool false]) ∧ Later W w' := find_none compR x h (by rw [hf, findL_first, h1])
theorem find_fs {X : Nat → Prop} {W : World} {sb : Nat} {T : Tr (Int × Int)} {x y : Int × Int} (h : Shf X W sb 45 T) (hf : ∀ p, T.find cmpR p = findL cmpR p T.list) (h1 : firstK x.1 T.list = some y) :
    Calls Try.prog 32 #[.pointer (some ⟨sb, 0, none⟩), .agg #[.int .i64 x.1, .int .i64 x.2]] W fun e w' => e = .returned (.tuple #[.agg #[.int .i64 y.1, .int .i64 y.2], .bool true]) ∧ Later W w' := find_some compR x h (by rw [hf, findL_first, h1])
set_option maxRecDepth 100000 in
set_option maxHeartbeats 40000000 in
theorem algebra_walk {a b c : List (Int × Int)} {w : World} {Aa Ab Ac : Option Addr} {ca cb cc : Nat} (ha : SliceAt w Aa ca a) (hb : SliceAt w Ab cb b) (hc : SliceAt w Ac cc c) (hz : a.length + b.length + c.length ≤ 2000000000000) :
    Calls Try.prog 10 #[.slice Aa a.length ca, .slice Ab b.length cb, .slice Ac c.length cc] w fun e w' => e = .returned (.bool true) ∧ Later w w' := by
  have hxl := Tr.size_list (madeT a)
  have hyl := Tr.size_list (madeT b)
  have hzl := Tr.size_list (madeT c)
  have hxm := madeT_size a
  have hym := madeT_size b
  have hzm := madeT_size c
  have hxr := (rises_iff _).1 (madeT_rises a)
  have hyr := (rises_iff _).1 (madeT_rises b)
  have hzr := (rises_iff _).1 (madeT_rises c)
  have fxa := fun p => find_list ordR p (madeT a) (madeT_rises a)
  have fya := fun p => find_list ordR p (madeT b) (madeT_rises b)
  have pa := fun W (h : Later w W) => made_any (ha.later h)
  have pb := fun W (h : Later w W) => made_any (hb.later h)
  have pc := fun W (h : Later w W) => made_any (hc.later h)
  obtain ⟨na, hna⟩ : ∃ n, a.length = n := ⟨_, rfl⟩
  obtain ⟨nb, hnb⟩ : ∃ n, b.length = n := ⟨_, rfl⟩
  obtain ⟨nc, hnc⟩ : ∃ n, c.length = n := ⟨_, rfl⟩
  rw [hna] at pa hz hxm
  rw [hnb] at pb hz hym
  rw [hnc] at pc hz hzm
  rw [hna, hnb, hnc]
  generalize madeT a = Ta at pa hxl hxm hxr fxa
  generalize madeT b = Tb at pb hyl hym hyr fya
  generalize madeT c = Tc at pc hzl hzm hzr
  have hJl0 : Hid ((joinR [Ta.list, Tb.list]).length ≤ na + nb) := hid (by have := join_len_le [Ta.list, Tb.list]; simp at this; omega)
  have hJz0 : Hid ((joinR [Ta.list, Tb.list]).length ≤ 2000000000000) := hid (by have := hJl0.out; omega)
  have hwn0 : Hid (wrap64 ((na : Int) + (nb : Int)) = (na : Int) + (nb : Int) ∧ wrap64 ((na : Int) + (nb : Int) + 1) = (na : Int) + (nb : Int) + 1 ∧ wrap64 ((na : Int) + (nb : Int) + (nc : Int)) = (na : Int) + (nb : Int) + (nc : Int) ∧ wrap64 ((na : Int) + (nb : Int) + (nc : Int) + 1) = (na : Int) + (nb : Int) + (nc : Int) + 1) := hid ⟨wrap_is rfl (by omega), wrap_is rfl (by omega), wrap_is rfl (by omega), wrap_is rfl (by omega)⟩
  have hcast : Hid (((na + nb + 1 : Nat) : Int) = (na : Int) + (nb : Int) + 1 ∧ ((na + nb + nc + 1 : Nat) : Int) = (na : Int) + (nb : Int) + (nc : Int) + 1) := hid ⟨by omega, by omega⟩
  have hTl0 : Hid (Ta.list.length ≤ 2000000000000 ∧ Tb.list.length ≤ 2000000000000 ∧ Tc.list.length ≤ 2000000000000) := hid ⟨by omega, by omega, by omega⟩
  have hJ3l0 : Hid ((joinR [Ta.list, Tb.list, Tc.list]).length ≤ na + nb + nc) := hid (by have := join_len_le [Ta.list, Tb.list, Tc.list]; simp at this; omega)
  have hJ2b : Hid ((joinR [Tb.list, Tc.list]).length ≤ 4000000000000) := hid (by have := join_len_le [Tb.list, Tc.list]; simp at this; omega)
  have hxlH := hid hxl
  replace hna := hid hna
  replace hnb := hid hnb
  replace hnc := hid hnc
  clear ha hb hc
  obtain ⟨RB, hRB⟩ : ∃ R, w.heap.size = R := ⟨_, rfl⟩
  have b0 := Boxed.new w 4 (.bool false)
  have l0 : Later w (w.alloc (.cells #[.bool false] 4)) := (Later.refl w).alloc _
  rw [hRB] at b0
  refine (callsIn_wide (n := 3)).1 ?_
  refine callsIn_of_wp_marks Try.func10 rfl trivial ?_ rfl
  simp only [Try.ntmps10, List.size_toArray, List.length_cons, List.length_nil, Nat.reduceAdd, Nat.reduceSub, Array.replicate_succ, Array.replicate_zero, List.push_toArray, List.append_toArray, List.nil_append, List.cons_append]
  refine wpIn_wide.2 ?_
  go_wp2_with fail
  go_at_call 16; refine (awake_any _).mono ?_; rintro e w1 ⟨rfl, l1⟩
  have l01 := l0.next l1
  have b1 := boxed_later b0 l1
  have hR1 := b1.lt
  clear l0 l1 b0
  go_wp2_with fail
  go_at_call 17; refine (pa _ l01).mono ?_; rintro e w2 ⟨rfl, s2, l2⟩
  have l02 := l01.next l2
  have b2 := boxed_later b1 l2
  obtain ⟨s, hs⟩ : ∃ s, w1.heap.size = s := ⟨_, rfl⟩
  rw [hs] at s2 ⊢
  clear b1 pa
  go_wp2_with fail
  go_at_call 17; refine (pb _ l02).mono ?_; rintro e w3 ⟨rfl, s3, l3⟩
  have l03 := l02.next l3
  have b3 := boxed_later b2 l3
  have s2' := s2.later l3
  obtain ⟨t, ht⟩ : ∃ s, w2.heap.size = s := ⟨_, rfl⟩
  rw [ht] at s3 ⊢
  clear b2 pb s2
  go_wp2_with fail
  go_at_call 17; refine (pc _ l03).mono ?_; rintro e w4 ⟨rfl, s4, l4⟩
  have l04 := l03.next l4
  have b4 := boxed_later b3 l4
  have s2 := s2'.later l4
  have s3' := s3.later l4
  obtain ⟨u, hu⟩ : ∃ s, w3.heap.size = s := ⟨_, rfl⟩
  rw [hu] at s4 ⊢
  rw [hs] at hR1
  clear b3 pc s2' s3
  have l45 : Later w4 ((w4.alloc (.cells #[.pointer (some ⟨s, 0, none⟩)] 37)).alloc (.cells #[.pointer (some ⟨t, 0, none⟩)] 37)) := ((Later.refl w4).alloc _).alloc _
  have bS := (Boxed.new w4 37 (.pointer (some ⟨s, 0, none⟩))).alloc (.cells #[.pointer (some ⟨t, 0, none⟩)] 37)
  have bT := Boxed.new (w4.alloc (.cells #[.pointer (some ⟨s, 0, none⟩)] 37)) 37 (.pointer (some ⟨t, 0, none⟩))
  rw [World.size_alloc] at bT
  obtain ⟨BS, hBS⟩ : ∃ N, w4.heap.size = N := ⟨_, rfl⟩
  rw [hBS] at bS bT
  have hsz5 : ((w4.alloc (.cells #[.pointer (some ⟨s, 0, none⟩)] 37)).alloc (.cells #[.pointer (some ⟨t, 0, none⟩)] 37)).heap.size = BS + 2 := by rw [World.size_alloc, World.size_alloc, hBS]
  obtain ⟨W5, hW5⟩ : ∃ W5, (w4.alloc (.cells #[.pointer (some ⟨s, 0, none⟩)] 37)).alloc (.cells #[.pointer (some ⟨t, 0, none⟩)] 37) = W5 := ⟨_, rfl⟩
  rw [hW5] at l45 bS bT hsz5
  have hRS : RB < BS := by have := b4.lt; omega
  have b5 := boxed_later b4 l45
  have s25 := s2.later l45
  have s35 := s3'.later l45
  have s45 := s4.later l45
  have l05 := l04.next l45
  have cS := bS.cell
  have cT := bT.cell
  replace hW5 := hid hW5
  clear l04 l45 b4 s2 s3' s4
  go_upto_region 6 with fail
  rw [hW5.out]
  have hcs : ∀ W', Later W5 W' → W'.cell? ⟨BS, 0, none⟩ = some (.pointer (some ⟨s, 0, none⟩)) ∧ W'.cell? ⟨BS + 1, 0, none⟩ = some (.pointer (some ⟨t, 0, none⟩)) := fun W' h => ⟨h.cell cS, h.cell cT⟩
  have qs : ∀ W', Later W5 W' → _ := fun W' h => all_any (s25.later h)
  have qt : ∀ W', Later W5 W' → _ := fun W' h => all_any (s35.later h)
  have qu : ∀ W', Later W5 W' → _ := fun W' h => all_any (s45.later h)
  clear hW5
  go_cut [10, 11, 12] from 53 to 58 (fun v10 v11 v12 wx => ∃ x1 x2 x3, v10 = allV x1 ∧ v11 = allV x2 ∧ v12 = allV x3 ∧ (AllAt (only s) wx x1 Ta ∧ AllAt (only t) wx x2 Tb ∧ AllAt (only u) wx x3 Tc) ∧ (BS + 2 ≤ x1 ∧ BS + 2 ≤ x2 ∧ BS + 2 ≤ x3) ∧ Later W5 wx)
  case first =>
    have hlr := Later.refl W5
    go_region_held3 (fun W' => Later W5 W') (first | assumption | exact Later.drew (Later.refl _)) (first
      | (go_at_call 19; (with_reducible refine (qs _ (by assumption)).mono ?_); rintro e w6 ⟨rfl, l6, a6⟩; rw [show W5.drew.heap.size = BS + 2 from hsz5] at a6; have lw6 : Later W5 w6 := Later.next (by assumption) l6)
      | (go_at_call 19; (with_reducible refine (qt _ (by assumption)).mono ?_); rintro e w7 ⟨rfl, l7, a7⟩; have lw7 : Later W5 w7 := Later.next (by assumption) l7)
      | (go_at_call 19; (with_reducible refine (qu _ (by assumption)).mono ?_); rintro e w8 ⟨rfl, l8, a8⟩; have lw8 : Later W5 w8 := Later.next (by assumption) l8))
    all_goals
      go_wp2_with fail
      go_meet
      have h6 := lw6.size
      have h7 := lw7.size
      refine ⟨_, _, _, rfl, rfl, rfl, ⟨allAt_later a6 (l7.next l8), allAt_later a7 l8, a8⟩, ⟨by omega, by omega, by omega⟩, lw8⟩
  case rest =>
    obtain ⟨x1, x2, x3, rfl, rfl, rfl, ⟨A1, A2, A3⟩, hx123, l5c⟩ := hcut
    rename World => W6
    have b6 := boxed_later b5 l5c
    have hb6 : W6.heap[RB]? = some (.cells #[.bool false] 4 (0, 0)) := b6
    have hR1n : W6.cell? ⟨RB, 1, none⟩ = none := by simp [World.cell?, hb6]
    replace A1 := A1.sans hR1n
    replace A2 := A2.sans hR1n
    replace A3 := A3.sans hR1n
    have s26 := s25.later l5c
    have s36 := s35.later l5c
    have bS6 := boxed_later bS l5c
    have bT6 := boxed_later bT l5c
    have l06 := l05.next l5c
    have hW6z : BS + 2 ≤ W6.heap.size := by have := l5c.size; omega
    clear hcs qs qt qu s25 s35 s45 bS bT l05 l5c cS cT hb6 hR1n b5
    go_wp2_with fail
    go_at_call 50; refine (meet_any (c := 31)).mono ?_; rintro e W7 ⟨rfl, l67, hB1⟩
    go_wp2_with fail
    go_at_call 51; refine (without_any (c := 31)).mono ?_; rintro e W8 ⟨rfl, l78, hB2⟩
    go_wp2_with fail
    go_at_call 51; refine (without_any (c := 31)).mono ?_; rintro e W9 ⟨rfl, l89, hB3⟩
    obtain ⟨B1, hB1e⟩ : ∃ N, W6.heap.size = N := ⟨_, rfl⟩
    obtain ⟨B2, hB2e⟩ : ∃ N, W7.heap.size = N := ⟨_, rfl⟩
    obtain ⟨B3, hB3e⟩ : ∃ N, W8.heap.size = N := ⟨_, rfl⟩
    rw [hB1e] at hB1 ⊢
    rw [hB2e] at hB2 ⊢
    rw [hB3e] at hB3 ⊢
    have hz67 := l67.size
    have hz78 := l78.size
    have hz89 := l89.size
    have l9a : Later W9 (W9.alloc (.cells #[allV x1, allV x2] 29)) := (Later.refl W9).alloc _
    have z9 := two_new W9 (allV x1) (allV x2) 29
    obtain ⟨g9, hg9⟩ : ∃ g, W9.heap.size = g := ⟨_, rfl⟩
    have hsa : (W9.alloc (.cells #[allV x1, allV x2] 29)).heap.size = g9 + 1 := by rw [World.size_alloc, hg9]
    rw [hg9] at z9
    generalize hWa : W9.alloc (.cells #[allV x1, allV x2] 29) = Wa at l9a z9 hsa
    have zx := lz_all A1 (show RB < x1 by omega)
    have zy := lz_all A2 (show RB < x2 by omega)
    have zz := lz_all A3 (show RB < x3 by omega)
    have l6a := l67.next (l78.next (l89.next l9a))
    have hj := join_lz2 (R := RB) (cap := 2) z9 (by omega) enters57 enters57 (zx.up l6a.near) (zy.up l6a.near) hxr hyr (by omega) (by omega)
    rw [hsa] at hj
    go_wp2_with fail
    try rw [hWa]
    clear hWa
    go_at_call 49; refine hj.mono ?_; rintro e Wb ⟨rfl, lab, zJ⟩
    have l9b := l9a.next lab
    have l6b := l67.next (l78.next (l89.next l9b))
    have bb := boxed_later b6 l6b
    have s2b := s26.later l6b
    have s3b := s36.later l6b
    have bSb := boxed_later bS6 l6b
    have bTb := boxed_later bT6 l6b
    have l0b := l06.next l6b
    have hWbz : g9 + 1 ≤ Wb.heap.size := by have := lab.size; omega
    have zB := lz_split (R := RB) (c := 31) compK signK (hB1.later (l78.next (l89.next l9b))) (by omega) enters57 enters57 (zx.up l6b.near) (zy.up l6b.near) (by omega) (by omega)
    have zR := lz_split (R := RB) (c := 31) compK signK (hB2.later (l89.next l9b)) (by omega) enters57 enters57 (zx.up l6b.near) (zy.up l6b.near) (by omega) (by omega)
    have zO := lz_split (R := RB) (c := 31) compK signK (hB3.later l9b) (by omega) enters57 enters57 (zy.up l6b.near) (zx.up l6b.near) (by omega) (by omega)
    rw [split_both hxr hyr] at zB
    rw [split_rest hxr hyr] at zR
    rw [split_rest hyr hxr] at zO
    replace zx := zx.up (l6b.near (R := RB))
    replace zy := zy.up (l6b.near (R := RB))
    replace zz := zz.up (l6b.near (R := RB))
    have hRg : RB < g9 := by omega
    have mB := fun p => both_mem (y := Tb.list) hxr (p := p)
    have mR := fun p => rest_mem (y := Tb.list) hxr (p := p)
    have pB := filter_parts (fun e => hasL cmpR e Tb.list) Ta.list
    have pO := other_parts hxr hyr
    have pJ := join_length hxr hyr
    obtain ⟨LB, hLB⟩ : ∃ L, (Ta.list.filter fun e => hasL cmpR e Tb.list) = L := ⟨_, rfl⟩
    obtain ⟨LR, hLR⟩ : ∃ L, (Ta.list.filter fun e => !hasL cmpR e Tb.list) = L := ⟨_, rfl⟩
    obtain ⟨LO, hLO⟩ : ∃ L, (Tb.list.filter fun e => !hasL cmpR e Ta.list) = L := ⟨_, rfl⟩
    rw [hLB] at zB mB pB pO
    rw [hLR] at zR mR pB
    rw [hLO] at zO pO pJ
    clear hLB hLR hLO hj z9 l67 l78 l89 l9a lab l9b l6a l6b hB1 hB2 hB3 b6 s26 s36 bS6 bT6 l06 A1 A2 A3 hx123 hW6z hB1e hB2e hB3e hz67 hz78 hz89 hsa
    have eF0 := eqF29 78 #[.pointer (some ⟨g9 + 1, 0, none⟩), .pointer (some ⟨g9 + 1 + 1, 0, none⟩)]
    have eF1 := fun B => eqF29 89 #[.pointer (some ⟨B, 0, none⟩), .pointer (some ⟨B + 1, 0, none⟩), .pointer (some ⟨B + 1 + 1, 0, none⟩), .pointer (some ⟨B + 1 + 1 + 1, 0, none⟩)]
    obtain ⟨WbS, hWbS⟩ : ∃ n, Wb.heap.size = n := ⟨_, rfl⟩
    have lbc : Later Wb (((Wb.alloc (.cells #[.int .i64 0] 3)).alloc (.cells #[.int .i64 0] 3)).alloc (.cells #[.int .i64 0] 3)) := (((Later.refl Wb).alloc _).alloc _).alloc _
    have n1 := ((Boxed.new Wb 3 (.int .i64 0)).alloc (.cells #[.int .i64 0] 3)).alloc (.cells #[.int .i64 0] 3)
    have n2 := (Boxed.new (Wb.alloc (.cells #[.int .i64 0] 3)) 3 (.int .i64 0)).alloc (.cells #[.int .i64 0] 3)
    have n3 := Boxed.new ((Wb.alloc (.cells #[.int .i64 0] 3)).alloc (.cells #[.int .i64 0] 3)) 3 (.int .i64 0)
    have hszc : (((Wb.alloc (.cells #[.int .i64 0] 3)).alloc (.cells #[.int .i64 0] 3)).alloc (.cells #[.int .i64 0] 3)).heap.size = WbS + 3 := by simp only [World.size_alloc, hWbS]
    simp only [World.size_alloc, hWbS] at n1 n2 n3
    obtain ⟨Wc, hWc⟩ : ∃ W, ((Wb.alloc (.cells #[.int .i64 0] 3)).alloc (.cells #[.int .i64 0] 3)).alloc (.cells #[.int .i64 0] 3) = W := ⟨_, rfl⟩
    rw [hWc] at lbc n1 n2 n3 hszc
    replace hWc := hid hWc
    go_upto_block 0 with fail
    rw [hWc.out]
    have hWcz : Wb.heap.size = WbS := hWbS
    have hDs1 : ∀ D ∈ ([] : List Nat), D < Wc.heap.size := fun D h => by cases h
    refine block_z (w0 := Wc) (X := fun b => b = RB ∨ Wb.heap.size ≤ b) (Z := fun _ => False) (xs := LB) (G := fun _ _ => True) 20 (by rfl) enters89 ((zB Wc lbc.near _ (fun _ h => h)).imp fun _ _ _ => trivial) (Later.refl _) (fun b h => .inr (by have := lbc.size; omega)) (fun b h => h.elim) (fun _ _ _ _ _ _ => trivial)
      (algM Wb (WbS) (WbS + 1) (WbS + 1 + 1) (.int .i64 0) (.int .i64 0) []) (algX LB) (fun hi => algM_own hi lbc.size hDs1) (fun hi c => (ownFrom_pure _ _ : OwnFrom _ (fun pre W => c = .ret ∧ ¬ pre <+: LB)))
      (fun hi s A B h c => algM_chg (S := Wc.heap.size) h c (fun b hb => hb.elim (fun h => h.elim) (fun h => by have := h.1; omega)) ⟨by omega, by omega, by omega⟩ lbc.size hDs1) (fun hi c s A B h _ => h)
      (fun hi V c h1 h2 => ?start1) (fun hi pre W h => h.1.2.2) ?assign1 ?body1 ?done1 ?stop1
    case start1 =>
      have h := algM_chg (S := Wc.heap.size) (pre := []) (hi := 0) (Ds := []) (N := WbS) (M1 := WbS + 1) (M2 := WbS + 1 + 1) ⟨⟨⟨⟨n1, n2⟩, n3⟩, lbc, Nat.zero_le _⟩, fun D h => by cases h⟩ c (fun b hb => hb.elim (fun h => h.elim) (fun h => by omega)) ⟨by omega, by omega, by omega⟩ lbc.size hDs1
      exact ⟨⟨h.1.1, h.1.2.1, h2⟩, h.2⟩
    case stop1 =>
      rintro hi D c pre V hhi hD hK hpre ⟨rfl, hn⟩ _
      exact absurd hpre hn
    case assign1 =>
      intro l' y W K hK
      simp only [inTmps, List.setIfInBounds_toArray, List.set_cons_zero, List.set_cons_succ] at hK ⊢
      gi_wp2
      exact hK
    case body1 =>
      rintro hi l' pre x Bx W hhi hI bX hBx hlt
      simp only [inTmps, List.setIfInBounds_toArray, List.set_cons_zero, List.set_cons_succ]
      have hL := hI.1.2.1
      have bN := hI.1.1.1.1
      have cS := (boxed_later bSb hL).cell
      have cT := (boxed_later bTb hL).cell
      have cN := bN.cell
      have fN := bN.frozen
      have bR := boxed_later bb hL
      obtain ⟨cX0, cX1, _, _⟩ := bX.cells
      obtain ⟨X', hX'⟩ : ∃ X' : Nat → Prop, (fun b => (b = RB ∨ Wb.heap.size ≤ b) ∧ ¬ priv (Wc.heap.size + 2) hi b) = X' := ⟨_, rfl⟩
      have hXR : X' RB := by rw [← hX']; exact ⟨.inl rfl, fun h => by have := h.1; omega⟩
      have hXN : X' (WbS) := by rw [← hX']; exact ⟨.inr (by omega), fun h => by have := h.1; omega⟩
      rw [hX']
      clear hX'
      have hpr : pre ++ [x] <+: LB → x ∈ LB := fun h => h.subset (by simp)
      have h32 : FW.fn 32 := trivial
      have h32' : (FW.inRound l').fn 32 := trivial
      have hwr : wrap64 ((pre.length : Int) + 1) = (pre.length : Int) + 1 := wrap_is rfl (by omega)
      have nM : WbS + 1 ≠ WbS ∧ WbS + 1 + 1 ≠ WbS := by omega
      have nS : Wb.heap.size ≤ WbS := by omega
      have eB := mB x
      have eR := mR x
      clear mB mR zB zR zO zJ zx zy zz pB pO pJ hxr hyr hzr eF0 eF1
      replace nS := hid nS
      replace nM := hid nM
      cases h1 : firstK x.1 Tb.list with
      | none =>
        have f1 := fun W' (h : Later Wb W') => find_fn (x := x) (s3b.later h) fya h1
        have hnp : ¬ pre ++ [x] <+: LB := fun h => by obtain ⟨⟨q, hq, _⟩, _⟩ := eB (hpr h); rw [h1] at hq; cases hq
        cases h2 : firstK x.1 Ta.list with
        | none =>
          have f2 := fun W' (h : Later Wb W') => find_fn (x := x) (s2b.later h) fxa h2
          clear h1 h2 eB eR hpr
          gi_wp2_with (first
            | (gi_at_call 32; (with_reducible refine (CallsIn.inRound l' (callsIn_wide.2 (f1 _ hL))).mono ?_); rintro e w6 ⟨rfl, l6⟩; have lq6 := (Later.refl w6).alloc (.cells #[.int .i64 0, .int .i64 0] 27); have l6a := l6.next lq6; have hL6 := hL.next l6a; have y6 := two_new w6 (.int .i64 0) (.int .i64 0) 27; have c6S := l6a.cell cS; have c6x0 := l6a.cell cX0; have c6x1 := l6a.cell cX1)
            | (gi_at_call 32; (with_reducible refine (CallsIn.inRound l' (callsIn_wide.2 (f2 _ hL6))).mono ?_); rintro e w7 ⟨rfl, l7⟩; have lq7 := (Later.refl w7).alloc (.cells #[.int .i64 0, .int .i64 0] 27); have l7a := l7.next lq7; have l67 := l6a.next l7a; have y7 := two_new w7 (.int .i64 0) (.int .i64 0) 27; have z60 := l7a.cell y6.1; have z61 := l7a.cell y6.2; have c7x0 := l67.cell cX0; have c7x1 := l67.cell cX1; have c7N := l67.cell cN; have f7N := (boxed_later bN l67).frozen; have f7R := (boxed_later bR l67).frozen; have c7R := (boxed_later bR l67).cell))
          exact ⟨kf_later_set l67 _ _, l67.chg.trans (Chg.set _ _ hXR), rfl, hnp⟩
        | some y2 =>
          have f2 := fun W' (h : Later Wb W') => find_fs (x := x) (s2b.later h) fxa h2
          clear h1 h2 eB eR hpr
          gi_wp2_with (first
            | (gi_at_call 32; (with_reducible refine (CallsIn.inRound l' (callsIn_wide.2 (f1 _ hL))).mono ?_); rintro e w6 ⟨rfl, l6⟩; have lq6 := (Later.refl w6).alloc (.cells #[.int .i64 0, .int .i64 0] 27); have l6a := l6.next lq6; have hL6 := hL.next l6a; have y6 := two_new w6 (.int .i64 0) (.int .i64 0) 27; have c6S := l6a.cell cS; have c6x0 := l6a.cell cX0; have c6x1 := l6a.cell cX1)
            | (gi_at_call 32; (with_reducible refine (CallsIn.inRound l' (callsIn_wide.2 (f2 _ hL6))).mono ?_); rintro e w7 ⟨rfl, l7⟩; have lq7 := (Later.refl w7).alloc (.cells #[.int .i64 y2.1, .int .i64 y2.2] 27); have l7a := l7.next lq7; have l67 := l6a.next l7a; have y7 := two_new w7 (.int .i64 y2.1) (.int .i64 y2.2) 27; have z60 := l7a.cell y6.1; have z61 := l7a.cell y6.2; have c7x0 := l67.cell cX0; have c7x1 := l67.cell cX1; have c7N := l67.cell cN; have f7N := (boxed_later bN l67).frozen; have f7R := (boxed_later bR l67).frozen; have c7R := (boxed_later bR l67).cell))
          exact ⟨kf_later_set l67 _ _, l67.chg.trans (Chg.set _ _ hXR), rfl, hnp⟩
      | some y1 =>
        have f1 := fun W' (h : Later Wb W') => find_fs (x := x) (s3b.later h) fya h1
        obtain ⟨v1, u1⟩ := y1
        obtain rfl : v1 = x.1 := (firstK_mem h1).2
        cases h2 : firstK x.1 Ta.list with
        | none =>
          have f2 := fun W' (h : Later Wb W') => find_fn (x := x) (s2b.later h) fxa h2
          have hnp : ¬ pre ++ [x] <+: LB := fun h => by have hq := (eB (hpr h)).2; rw [h2] at hq; cases hq
          clear h1 h2 eB eR hpr
          gi_wp2_with (first
            | (gi_at_call 32; (with_reducible refine (CallsIn.inRound l' (callsIn_wide.2 (f1 _ hL))).mono ?_); rintro e w6 ⟨rfl, l6⟩; have lq6 := (Later.refl w6).alloc (.cells #[.int .i64 x.1, .int .i64 u1] 27); have l6a := l6.next lq6; have hL6 := hL.next l6a; have y6 := two_new w6 (.int .i64 x.1) (.int .i64 u1) 27; have c6S := l6a.cell cS; have c6x0 := l6a.cell cX0; have c6x1 := l6a.cell cX1)
            | (gi_at_call 32; (with_reducible refine (CallsIn.inRound l' (callsIn_wide.2 (f2 _ hL6))).mono ?_); rintro e w7 ⟨rfl, l7⟩; have lq7 := (Later.refl w7).alloc (.cells #[.int .i64 0, .int .i64 0] 27); have l7a := l7.next lq7; have l67 := l6a.next l7a; have y7 := two_new w7 (.int .i64 0) (.int .i64 0) 27; have z60 := l7a.cell y6.1; have z61 := l7a.cell y6.2; have c7x0 := l67.cell cX0; have c7x1 := l67.cell cX1; have c7N := l67.cell cN; have f7N := (boxed_later bN l67).frozen; have f7R := (boxed_later bR l67).frozen; have c7R := (boxed_later bR l67).cell))
          exact ⟨kf_later_set l67 _ _, l67.chg.trans (Chg.set _ _ hXR), rfl, hnp⟩
        | some y2 =>
          have f2 := fun W' (h : Later Wb W') => find_fs (x := x) (s2b.later h) fxa h2
          obtain ⟨v2, u2⟩ := y2
          obtain rfl : v2 = x.1 := (firstK_mem h2).2
          by_cases hu : u2 = x.2
          · subst hu
            clear h1 h2 eB eR hpr
            gi_wp2_with (first
              | (gi_at_call 32; (with_reducible refine (CallsIn.inRound l' (callsIn_wide.2 (f1 _ hL))).mono ?_); rintro e w6 ⟨rfl, l6⟩; have lq6 := (Later.refl w6).alloc (.cells #[.int .i64 x.1, .int .i64 u1] 27); have l6a := l6.next lq6; have hL6 := hL.next l6a; have y6 := two_new w6 (.int .i64 x.1) (.int .i64 u1) 27; have c6S := l6a.cell cS; have c6x0 := l6a.cell cX0; have c6x1 := l6a.cell cX1)
              | (gi_at_call 32; (with_reducible refine (CallsIn.inRound l' (callsIn_wide.2 (f2 _ hL6))).mono ?_); rintro e w7 ⟨rfl, l7⟩; have lq7 := (Later.refl w7).alloc (.cells #[.int .i64 x.1, .int .i64 x.2] 27); have l7a := l7.next lq7; have l67 := l6a.next l7a; have y7 := two_new w7 (.int .i64 x.1) (.int .i64 x.2) 27; have z60 := l7a.cell y6.1; have z61 := l7a.cell y6.2; have c7x0 := l67.cell cX0; have c7x1 := l67.cell cX1; have c7N := l67.cell cN; have f7N := (boxed_later bN l67).frozen; have f7R := (boxed_later bR l67).frozen; have c7R := (boxed_later bR l67).cell))
            exact algM_next hI l67 hXN nS.out nM.out
          · have hnp : ¬ pre ++ [x] <+: LB := fun h => by
              have hq := (eB (hpr h)).2
              rw [h2] at hq
              injection hq with hq
              exact hu (congrArg Prod.snd hq)
            clear h1 h2 eB eR hpr
            gi_wp2_with (first
              | (gi_at_call 32; (with_reducible refine (CallsIn.inRound l' (callsIn_wide.2 (f1 _ hL))).mono ?_); rintro e w6 ⟨rfl, l6⟩; have lq6 := (Later.refl w6).alloc (.cells #[.int .i64 x.1, .int .i64 u1] 27); have l6a := l6.next lq6; have hL6 := hL.next l6a; have y6 := two_new w6 (.int .i64 x.1) (.int .i64 u1) 27; have c6S := l6a.cell cS; have c6x0 := l6a.cell cX0; have c6x1 := l6a.cell cX1)
              | (gi_at_call 32; (with_reducible refine (CallsIn.inRound l' (callsIn_wide.2 (f2 _ hL6))).mono ?_); rintro e w7 ⟨rfl, l7⟩; have lq7 := (Later.refl w7).alloc (.cells #[.int .i64 x.1, .int .i64 u2] 27); have l7a := l7.next lq7; have l67 := l6a.next l7a; have y7 := two_new w7 (.int .i64 x.1) (.int .i64 u2) 27; have z60 := l7a.cell y6.1; have z61 := l7a.cell y6.2; have c7x0 := l67.cell cX0; have c7x1 := l67.cell cX1; have c7N := l67.cell cN; have f7N := (boxed_later bN l67).frozen; have f7R := (boxed_later bR l67).frozen; have c7R := (boxed_later bR l67).cell))
            exact ⟨kf_later_set l67 _ _, l67.chg.trans (Chg.set _ _ hXR), rfl, hnp⟩
    case done1 =>
      rintro hi1 D1 V1 hhi1 hD1 hK1 hI1 _
      have lb1 := hI1.1.2.1
      have hz1 : Wc.heap.size < V1.heap.size := by have := hI1.1.2.2; omega
      have hDs2 : ∀ D ∈ [D1], D < V1.heap.size := fun D h => by simp only [List.mem_singleton] at h; rw [h]; exact (Array.getElem?_eq_some_iff.1 hK1).1
      dsimp only
      go_upto_block 2 with fail
      refine block_z (w0 := V1) (X := fun b => b = RB ∨ Wb.heap.size ≤ b) (Z := fun _ => False) (xs := LR) (G := fun _ _ => True) 25 (by rfl) enters89 ((zR V1 lb1.near _ (fun _ h => h)).imp fun _ _ _ => trivial) (Later.refl _) (fun b h => .inr (by have := lb1.size; omega)) (fun b h => h.elim) (fun _ _ _ _ _ _ => trivial)
        (algM Wb (WbS + 1) (WbS) (WbS + 1 + 1) (.int .i64 LB.length) (.int .i64 0) [D1]) (algX LR) (fun hi => algM_own hi lb1.size hDs2) (fun hi c => (ownFrom_pure _ _ : OwnFrom _ (fun pre W => c = .ret ∧ ¬ pre <+: LR)))
        (fun hi s A B h c => algM_chg (S := V1.heap.size) h c (fun b hb => hb.elim (fun h => h.elim) (fun h => by have := h.1; omega)) ⟨by omega, by omega, by omega⟩ lb1.size hDs2) (fun hi c s A B h _ => h)
        (fun hi V c h1 h2 => ?start2) (fun hi pre W h => h.1.2.2) ?assign2 ?body2 ?done2 ?stop2
      case start2 =>
        have h := algM_chg (S := V1.heap.size) (pre := []) (hi := 0) (Ds := [D1]) (N := WbS + 1) (M1 := WbS) (M2 := WbS + 1 + 1) ⟨⟨⟨⟨hI1.1.1.1.2, hI1.1.1.1.1⟩, hI1.1.1.2⟩, lb1, Nat.zero_le _⟩, fun D h => by simp only [List.mem_singleton] at h; rw [h]; exact hK1⟩ c (fun b hb => hb.elim (fun h => h.elim) (fun h => by omega)) ⟨by omega, by omega, by omega⟩ lb1.size hDs2
        exact ⟨⟨h.1.1, h.1.2.1, h2⟩, h.2⟩
      case stop2 =>
        rintro hi D c pre V hhi hD hK hpre ⟨rfl, hn⟩ _
        exact absurd hpre hn
      case assign2 =>
        intro l' y W K hK
        simp only [inTmps, List.setIfInBounds_toArray, List.set_cons_zero, List.set_cons_succ] at hK ⊢
        gi_wp2
        exact hK
      case body2 =>
        rintro hi l' pre x Bx W hhi hI bX hBx hlt
        simp only [inTmps, List.setIfInBounds_toArray, List.set_cons_zero, List.set_cons_succ]
        have hL := hI.1.2.1
        have bN := hI.1.1.1.1
        have cS := (boxed_later bSb hL).cell
        have cT := (boxed_later bTb hL).cell
        have cN := bN.cell
        have fN := bN.frozen
        have bR := boxed_later bb hL
        obtain ⟨cX0, cX1, _, _⟩ := bX.cells
        obtain ⟨X', hX'⟩ : ∃ X' : Nat → Prop, (fun b => (b = RB ∨ Wb.heap.size ≤ b) ∧ ¬ priv (V1.heap.size + 2) hi b) = X' := ⟨_, rfl⟩
        have hXR : X' RB := by rw [← hX']; exact ⟨.inl rfl, fun h => by have := h.1; omega⟩
        have hXN : X' (WbS + 1) := by rw [← hX']; exact ⟨.inr (by omega), fun h => by have := h.1; omega⟩
        rw [hX']
        clear hX'
        have hpr : pre ++ [x] <+: LR → x ∈ LR := fun h => h.subset (by simp)
        have h32 : FW.fn 32 := trivial
        have h32' : (FW.inRound l').fn 32 := trivial
        have hwr : wrap64 ((pre.length : Int) + 1) = (pre.length : Int) + 1 := wrap_is rfl (by omega)
        have nM : WbS ≠ WbS + 1 ∧ WbS + 1 + 1 ≠ WbS + 1 := by omega
        have nS : Wb.heap.size ≤ WbS + 1 := by omega
        have eB := mB x
        have eR := mR x
        clear mB mR zB zR zO zJ zx zy zz pB pO pJ hxr hyr hzr eF0 eF1
        replace nS := hid nS
        replace nM := hid nM
        cases h1 : firstK x.1 Tb.list with
        | some y1 =>
          have f1 := fun W' (h : Later Wb W') => find_fs (x := x) (s3b.later h) fya h1
          have hnp : ¬ pre ++ [x] <+: LR := fun h => by have hq := (eR (hpr h)).1; rw [h1] at hq; cases hq
          cases h2 : firstK x.1 Ta.list with
          | none =>
            have f2 := fun W' (h : Later Wb W') => find_fn (x := x) (s2b.later h) fxa h2
            clear h1 h2 eB eR hpr
            gi_wp2_with (first
              | (gi_at_call 32; (with_reducible refine (CallsIn.inRound l' (callsIn_wide.2 (f1 _ hL))).mono ?_); rintro e w6 ⟨rfl, l6⟩; have lq6 := (Later.refl w6).alloc (.cells #[.int .i64 y1.1, .int .i64 y1.2] 27); have l6a := l6.next lq6; have hL6 := hL.next l6a; have y6 := two_new w6 (.int .i64 y1.1) (.int .i64 y1.2) 27; have c6S := l6a.cell cS; have c6x0 := l6a.cell cX0; have c6x1 := l6a.cell cX1)
              | (gi_at_call 32; (with_reducible refine (CallsIn.inRound l' (callsIn_wide.2 (f2 _ hL6))).mono ?_); rintro e w7 ⟨rfl, l7⟩; have lq7 := (Later.refl w7).alloc (.cells #[.int .i64 0, .int .i64 0] 27); have l7a := l7.next lq7; have l67 := l6a.next l7a; have y7 := two_new w7 (.int .i64 0) (.int .i64 0) 27; have z60 := l7a.cell y6.1; have z61 := l7a.cell y6.2; have c7x0 := l67.cell cX0; have c7x1 := l67.cell cX1; have c7N := l67.cell cN; have f7N := (boxed_later bN l67).frozen; have f7R := (boxed_later bR l67).frozen; have c7R := (boxed_later bR l67).cell))
            exact ⟨kf_later_set l67 _ _, l67.chg.trans (Chg.set _ _ hXR), rfl, hnp⟩
          | some y2 =>
            have f2 := fun W' (h : Later Wb W') => find_fs (x := x) (s2b.later h) fxa h2
            clear h1 h2 eB eR hpr
            gi_wp2_with (first
              | (gi_at_call 32; (with_reducible refine (CallsIn.inRound l' (callsIn_wide.2 (f1 _ hL))).mono ?_); rintro e w6 ⟨rfl, l6⟩; have lq6 := (Later.refl w6).alloc (.cells #[.int .i64 y1.1, .int .i64 y1.2] 27); have l6a := l6.next lq6; have hL6 := hL.next l6a; have y6 := two_new w6 (.int .i64 y1.1) (.int .i64 y1.2) 27; have c6S := l6a.cell cS; have c6x0 := l6a.cell cX0; have c6x1 := l6a.cell cX1)
              | (gi_at_call 32; (with_reducible refine (CallsIn.inRound l' (callsIn_wide.2 (f2 _ hL6))).mono ?_); rintro e w7 ⟨rfl, l7⟩; have lq7 := (Later.refl w7).alloc (.cells #[.int .i64 y2.1, .int .i64 y2.2] 27); have l7a := l7.next lq7; have l67 := l6a.next l7a; have y7 := two_new w7 (.int .i64 y2.1) (.int .i64 y2.2) 27; have z60 := l7a.cell y6.1; have z61 := l7a.cell y6.2; have c7x0 := l67.cell cX0; have c7x1 := l67.cell cX1; have c7N := l67.cell cN; have f7N := (boxed_later bN l67).frozen; have f7R := (boxed_later bR l67).frozen; have c7R := (boxed_later bR l67).cell))
            exact ⟨kf_later_set l67 _ _, l67.chg.trans (Chg.set _ _ hXR), rfl, hnp⟩
        | none =>
          have f1 := fun W' (h : Later Wb W') => find_fn (x := x) (s3b.later h) fya h1
          cases h2 : firstK x.1 Ta.list with
          | none =>
            have f2 := fun W' (h : Later Wb W') => find_fn (x := x) (s2b.later h) fxa h2
            have hnp : ¬ pre ++ [x] <+: LR := fun h => by have hq := (eR (hpr h)).2; rw [h2] at hq; cases hq
            clear h1 h2 eB eR hpr
            gi_wp2_with (first
              | (gi_at_call 32; (with_reducible refine (CallsIn.inRound l' (callsIn_wide.2 (f1 _ hL))).mono ?_); rintro e w6 ⟨rfl, l6⟩; have lq6 := (Later.refl w6).alloc (.cells #[.int .i64 0, .int .i64 0] 27); have l6a := l6.next lq6; have hL6 := hL.next l6a; have y6 := two_new w6 (.int .i64 0) (.int .i64 0) 27; have c6S := l6a.cell cS; have c6x0 := l6a.cell cX0; have c6x1 := l6a.cell cX1)
              | (gi_at_call 32; (with_reducible refine (CallsIn.inRound l' (callsIn_wide.2 (f2 _ hL6))).mono ?_); rintro e w7 ⟨rfl, l7⟩; have lq7 := (Later.refl w7).alloc (.cells #[.int .i64 0, .int .i64 0] 27); have l7a := l7.next lq7; have l67 := l6a.next l7a; have y7 := two_new w7 (.int .i64 0) (.int .i64 0) 27; have z60 := l7a.cell y6.1; have z61 := l7a.cell y6.2; have c7x0 := l67.cell cX0; have c7x1 := l67.cell cX1; have c7N := l67.cell cN; have f7N := (boxed_later bN l67).frozen; have f7R := (boxed_later bR l67).frozen; have c7R := (boxed_later bR l67).cell))
            exact ⟨kf_later_set l67 _ _, l67.chg.trans (Chg.set _ _ hXR), rfl, hnp⟩
          | some y2 =>
            have f2 := fun W' (h : Later Wb W') => find_fs (x := x) (s2b.later h) fxa h2
            obtain ⟨v2, u2⟩ := y2
            obtain rfl : v2 = x.1 := (firstK_mem h2).2
            by_cases hu : u2 = x.2
            · subst hu
              clear h1 h2 eB eR hpr
              gi_wp2_with (first
                | (gi_at_call 32; (with_reducible refine (CallsIn.inRound l' (callsIn_wide.2 (f1 _ hL))).mono ?_); rintro e w6 ⟨rfl, l6⟩; have lq6 := (Later.refl w6).alloc (.cells #[.int .i64 0, .int .i64 0] 27); have l6a := l6.next lq6; have hL6 := hL.next l6a; have y6 := two_new w6 (.int .i64 0) (.int .i64 0) 27; have c6S := l6a.cell cS; have c6x0 := l6a.cell cX0; have c6x1 := l6a.cell cX1)
                | (gi_at_call 32; (with_reducible refine (CallsIn.inRound l' (callsIn_wide.2 (f2 _ hL6))).mono ?_); rintro e w7 ⟨rfl, l7⟩; have lq7 := (Later.refl w7).alloc (.cells #[.int .i64 x.1, .int .i64 x.2] 27); have l7a := l7.next lq7; have l67 := l6a.next l7a; have y7 := two_new w7 (.int .i64 x.1) (.int .i64 x.2) 27; have z60 := l7a.cell y6.1; have z61 := l7a.cell y6.2; have c7x0 := l67.cell cX0; have c7x1 := l67.cell cX1; have c7N := l67.cell cN; have f7N := (boxed_later bN l67).frozen; have f7R := (boxed_later bR l67).frozen; have c7R := (boxed_later bR l67).cell))
              exact algM_next hI l67 hXN nS.out nM.out
            · have hnp : ¬ pre ++ [x] <+: LR := fun h => by
                have hq := (eR (hpr h)).2
                rw [h2] at hq
                injection hq with hq
                exact hu (congrArg Prod.snd hq)
              clear h1 h2 eB eR hpr
              gi_wp2_with (first
                | (gi_at_call 32; (with_reducible refine (CallsIn.inRound l' (callsIn_wide.2 (f1 _ hL))).mono ?_); rintro e w6 ⟨rfl, l6⟩; have lq6 := (Later.refl w6).alloc (.cells #[.int .i64 0, .int .i64 0] 27); have l6a := l6.next lq6; have hL6 := hL.next l6a; have y6 := two_new w6 (.int .i64 0) (.int .i64 0) 27; have c6S := l6a.cell cS; have c6x0 := l6a.cell cX0; have c6x1 := l6a.cell cX1)
                | (gi_at_call 32; (with_reducible refine (CallsIn.inRound l' (callsIn_wide.2 (f2 _ hL6))).mono ?_); rintro e w7 ⟨rfl, l7⟩; have lq7 := (Later.refl w7).alloc (.cells #[.int .i64 x.1, .int .i64 u2] 27); have l7a := l7.next lq7; have l67 := l6a.next l7a; have y7 := two_new w7 (.int .i64 x.1) (.int .i64 u2) 27; have z60 := l7a.cell y6.1; have z61 := l7a.cell y6.2; have c7x0 := l67.cell cX0; have c7x1 := l67.cell cX1; have c7N := l67.cell cN; have f7N := (boxed_later bN l67).frozen; have f7R := (boxed_later bR l67).frozen; have c7R := (boxed_later bR l67).cell))
              exact ⟨kf_later_set l67 _ _, l67.chg.trans (Chg.set _ _ hXR), rfl, hnp⟩
      case done2 =>
        rintro hi2 D2 V2 hhi2 hD2 hK2 hI2 _
        have lb2 := hI2.1.2.1
        have hz2 : V1.heap.size < V2.heap.size := by have := hI2.1.2.2; omega
        have hDs3 : ∀ D ∈ [D2, D1], D < V2.heap.size := fun D h => by
          simp only [List.mem_cons, List.not_mem_nil, or_false] at h
          rcases h with rfl | rfl
          · exact (Array.getElem?_eq_some_iff.1 hK2).1
          · have := hDs2 D (by simp); omega
        dsimp only
        go_upto_block 4 with fail
        refine block_zs (w0 := V2) (X := fun b => b = RB ∨ Wb.heap.size ≤ b) (Z := fun _ => False) (xs := LO) (G := fun _ _ => True) (by rfl) enters89 ((zO V2 lb2.near _ (fun _ h => h)).imp fun _ _ _ => trivial) (Later.refl _) (fun b h => .inr (by have := lb2.size; omega)) (fun b h => h.elim) (fun _ _ _ _ _ _ => trivial)
          (algM Wb (WbS + 1 + 1) (WbS) (WbS + 1) (.int .i64 LB.length) (.int .i64 LR.length) [D2, D1]) (algX LO) (fun hi => algM_own hi lb2.size hDs3) (fun hi c => (ownFrom_pure _ _ : OwnFrom _ (fun pre W => c = .ret ∧ ¬ pre <+: LO)))
          (fun hi s A B h c => algM_chg (S := V2.heap.size) h c (fun b hb => hb.elim (fun h => h.elim) (fun h => by have := h.1; omega)) ⟨by omega, by omega, by omega⟩ lb2.size hDs3) (fun hi c s A B h _ => h)
          (fun hi V c h1 h2 => ?start3) (fun hi pre W h => h.1.2.2) ?assign3 ?body3 ?done3 ?stop3
        case start3 =>
          have h := algM_chg (S := V2.heap.size) (pre := []) (hi := 0) (Ds := [D2, D1]) (N := WbS + 1 + 1) (M1 := WbS) (M2 := WbS + 1) ⟨⟨⟨⟨hI2.1.1.2, hI2.1.1.1.2⟩, hI2.1.1.1.1⟩, lb2, Nat.zero_le _⟩, fun D h => by simp only [List.mem_cons, List.not_mem_nil, or_false] at h; rcases h with rfl | rfl; exact hK2; exact hI2.2 _ (by simp)⟩ c (fun b hb => hb.elim (fun h => h.elim) (fun h => by omega)) ⟨by omega, by omega, by omega⟩ lb2.size hDs3
          exact ⟨⟨h.1.1, h.1.2.1, h2⟩, h.2⟩
        case stop3 =>
          rintro hi D c pre V hhi hD hK hpre ⟨rfl, hn⟩ _
          exact absurd hpre hn
        case assign3 =>
          intro l' y W K hK
          simp only [inTmps, List.setIfInBounds_toArray, List.set_cons_zero, List.set_cons_succ] at hK ⊢
          gi_wp2
          exact hK
        case body3 =>
          rintro hi l' pre x W hhi hI hlt
          simp only [inTmps, List.setIfInBounds_toArray, List.set_cons_zero, List.set_cons_succ]
          have hL := hI.1.2.1
          have bN := hI.1.1.1.1
          have cS := (boxed_later bSb hL).cell
          have cT := (boxed_later bTb hL).cell
          have cN := bN.cell
          have fN := bN.frozen
          have bR := boxed_later bb hL
          obtain ⟨X', hX'⟩ : ∃ X' : Nat → Prop, (fun b => (b = RB ∨ Wb.heap.size ≤ b) ∧ ¬ priv (V2.heap.size + 2) hi b) = X' := ⟨_, rfl⟩
          have hXR : X' RB := by rw [← hX']; exact ⟨.inl rfl, fun h => by have := h.1; omega⟩
          have hXN : X' (WbS + 1 + 1) := by rw [← hX']; exact ⟨.inr (by omega), fun h => by have := h.1; omega⟩
          rw [hX']
          clear hX'
          have hpr : pre ++ [x] <+: LO → x ∈ LO := fun h => h.subset (by simp)
          have h32 : FW.fn 32 := trivial
          have h32' : (FW.inRound l').fn 32 := trivial
          have hwr : wrap64 ((pre.length : Int) + 1) = (pre.length : Int) + 1 := wrap_is rfl (by omega)
          have nM : WbS ≠ WbS + 1 + 1 ∧ WbS + 1 ≠ WbS + 1 + 1 := by omega
          have nS : Wb.heap.size ≤ WbS + 1 + 1 := by omega
          have eB := mB x
          have eR := mR x
          clear mB mR zB zR zO zJ zx zy zz pB pO pJ hxr hyr hzr eF0 eF1
          replace nS := hid nS
          replace nM := hid nM
          gi_wp2
          exact algM_next hI (Later.refl W) hXN nS.out nM.out
        case done3 =>
          rintro hi3 D3 V3 hhi3 hD3 hK3 hI3 _
          have lb3 := hI3.1.2.1
          dsimp only
          have bN3 := hI3.1.1.1.1
          have bN1 := hI3.1.1.1.2
          have bN2 := hI3.1.1.2
          obtain ⟨kB, hkB⟩ : ∃ n, LB.length = n := ⟨_, rfl⟩
          obtain ⟨kR, hkR⟩ : ∃ n, LR.length = n := ⟨_, rfl⟩
          obtain ⟨kO, hkO⟩ : ∃ n, LO.length = n := ⟨_, rfl⟩
          obtain ⟨zA, hzA⟩ : ∃ n, Ta.size = n := ⟨_, rfl⟩
          obtain ⟨zT, hzT⟩ : ∃ n, Tb.size = n := ⟨_, rfl⟩
          rw [hkB] at bN1 pB pO
          rw [hkR] at bN2 pB
          rw [hkO] at bN3 pO pJ
          have hmarks : ∀ D ∈ [D3, D2, D1], V3.heap[D]? = some (.deferred (some [])) := fun D h => by
            rcases List.mem_cons.1 h with rfl | h
            · exact hK3
            · exact hI3.2 D h
          have hnd : [D3, D2, D1].Nodup := by
            have e1 := (hDs2 D1 (by simp))
            have e2 := (hDs3 D2 (by simp))
            simp only [List.nodup_cons, List.mem_cons, List.not_mem_nil, or_false, not_or, List.nodup_nil, and_true, not_false_eq_true]
            omega
          have hge : ∀ D ∈ [D3, D2, D1], Wc.heap.size ≤ D ∧ D < V3.heap.size := fun D h => ⟨by simp only [List.mem_cons, List.not_mem_nil, or_false] at h; rcases h with rfl | rfl | rfl <;> omega, (Array.getElem?_eq_some_iff.1 (hmarks D h)).1⟩
          replace hmarks := hid hmarks
          replace hnd := hid hnd
          replace hge := hid hge
          clear hI1 hI2 hI3 hK1 hK2 hK3 hDs1 hDs2 hDs3 hD1 hD2 hD3 hhi1 hhi2 hhi3 lb1 lb2 zB zR zO mB mR n1 n2 n3
          have hAb : Ta.size ≤ 2000000000000 := Nat.le_trans hxm (by clear pJ pB pO; omega)
          have hTb : Tb.size ≤ 2000000000000 := Nat.le_trans hym (by clear pJ pB pO; omega)
          have hw1 : wrap64 ((kB : Int) + (kR : Int)) = (zA : Int) := wrap_add (pB.trans (hxl.trans hzA)) (hzA ▸ hAb)
          have hw2 : wrap64 ((kB : Int) + (kO : Int)) = (zT : Int) := wrap_add (pO.trans (hyl.trans hzT)) (hzT ▸ hTb)
          have hG0 := Later.drew (Later.refl V3)
          obtain ⟨Good, hGd⟩ : ∃ G : World → Prop, ∀ W', G W' ↔ Later V3 W' := ⟨_, fun _ => Iff.rfl⟩
          replace hG0 := (hGd _).2 hG0
          have hne : Nonempty (InG Good) := ⟨⟨_, hG0⟩⟩
          have q1 : ∀ p : InG Good, Calls Try.prog 26 #[.pointer (some ⟨s, 0, none⟩)] p.W fun e w'' => e = .returned (.int .i64 zA) ∧ ∃ p' : InG Good, w'' = p'.W := fun p => (len_is (s2b.later (lb3.next ((hGd _).1 p.h))) hzA.symm).mono fun e w'' hh => ⟨hh.1, p, hh.2.symm⟩
          have q2 : ∀ p : InG Good, Calls Try.prog 26 #[.pointer (some ⟨t, 0, none⟩)] p.W fun e w'' => e = .returned (.int .i64 zT) ∧ ∃ p' : InG Good, w'' = p'.W := fun p => (len_is (s3b.later (lb3.next ((hGd _).1 p.h))) hzT.symm).mono fun e w'' hh => ⟨hh.1, p, hh.2.symm⟩
          have g0 : ∀ p : InG Good, p.W.cell? ⟨WbS, 0, none⟩ = some (.int .i64 kB) ∧ p.W.cell? ⟨WbS + 1, 0, none⟩ = some (.int .i64 kR) ∧ p.W.cell? ⟨WbS + 1 + 1, 0, none⟩ = some (.int .i64 kO) ∧ p.W.cell? ⟨BS, 0, none⟩ = some (.pointer (some ⟨s, 0, none⟩)) ∧ p.W.cell? ⟨BS + 1, 0, none⟩ = some (.pointer (some ⟨t, 0, none⟩)) := fun p => by
            have lp := (hGd _).1 p.h
            exact ⟨lp.cell bN1.cell, lp.cell bN2.cell, lp.cell bN3.cell, (boxed_later bSb (lb3.next lp)).cell, (boxed_later bTb (lb3.next lp)).cell⟩
          replace hGd := hid hGd
          replace pB := hid pB
          replace pO := hid pO
          replace pJ := hid pJ
          replace hzA := hid hzA
          replace hzT := hid hzT
          go_wp2_with fail
          refine region_in Good (by kernel_rfl) (by kernel_rfl) hG0 ?_
          repeat (go_big_quiet_step (first | (go_at_call 26; with_reducible exact q1 _) | (go_at_call 26; with_reducible exact q2 _)))
          refine wpQuiet_nil ?_
          intro V4 hw7
          have l34 := (hGd.out _).1 hw7
          clear hGd hne hG0 hw7 g0 q1 q2 hw1 hw2 Good
          have lb4 := lb3.next l34
          have hgJ := gathered_lz (na + nb + 1) (zJ.up lb4.near) enters78 (Nat.le_trans hJz0.out (by decide))
          rw [List.take_of_length_le (Nat.le_succ_of_le hJl0.out), hcast.out.1] at hgJ
          have hz' := hz
          clear hxm hym hzm hxl hyl hzl hz'
          go_wp2_with fail
          go_at_call 18; refine hgJ.mono ?_; rintro e V5 ⟨v, rfl, row5, l45⟩
          obtain ⟨kJ, hkJ⟩ : ∃ n, (joinR [Ta.list, Tb.list]).length = n := ⟨_, rfl⟩
          obtain ⟨Al, cl, rfl, sl5, _⟩ := row_slice2 row5 (Nat.le_trans hJz0.out (by decide)) hkJ
          have lb5 := lb4.next l45
          have hjm := fun p => join_mem (x := Ta.list) (y := Tb.list) (p := p)
          have hjr := join_rises [Ta.list, Tb.list]
          obtain ⟨LJ, hLJ⟩ : ∃ L, joinR [Ta.list, Tb.list] = L := ⟨_, rfl⟩
          rw [hLJ] at hkJ sl5 hjm hjr pJ zJ
          replace hLJ := hid hLJ
          have l35 := l34.next l45
          clear hgJ row5 lb4 l45 l34 bN1 bN2 lb3
          have hcl := sl5.1
          rw [hkJ] at hcl
          go_wp2_with fail
          go_loopw [31] (fun i wr => ∃ k : Nat, k ≤ kJ ∧ i = .int .i64 k ∧ Later V5 wr) (fun i _ => kJ - (intOf i).toNat)
          case atStart => exact ⟨0, Nat.zero_le _, rfl, Later.refl _⟩
          case round =>
            obtain ⟨k, hk, rfl, lk⟩ := hrel
            by_cases hlt : k < kJ
            · obtain ⟨p, hp⟩ : ∃ p, LJ[k]? = some p := ⟨_, List.getElem?_eq_getElem (by omega)⟩
              obtain ⟨b2, o2, rfl, _, _⟩ := (sl5.later lk).2.2 k p hp
              have hcp : ∀ W', Later V5 W' → W'.cell? ⟨b2, o2 + k * 2, none⟩ = some (.int .i64 p.1) ∧ W'.cell? ⟨b2, o2 + k * 2 + 1, none⟩ = some (.int .i64 p.2) := fun W' c => by
                obtain ⟨b', o', e, k1, k2⟩ := (sl5.later c).2.2 k p hp
                cases e
                exact ⟨k1, k2⟩
              have hcS : ∀ W', Later V5 W' → W'.cell? ⟨BS, 0, none⟩ = some (.pointer (some ⟨s, 0, none⟩)) := fun W' c => (boxed_later bSb (lb5.next c)).cell
              have hcT : ∀ W', Later V5 W' → W'.cell? ⟨BS + 1, 0, none⟩ = some (.pointer (some ⟨t, 0, none⟩)) := fun W' c => (boxed_later bTb (lb5.next c)).cell
              have hj := hjm p (List.mem_of_getElem? hp)
              have s2k : ∀ W', Later V5 W' → Shf _ W' s 45 Ta := fun W' c => s2b.later (lb5.next c)
              have s3k : ∀ W', Later V5 W' → Shf _ W' t 45 Tb := fun W' c => s3b.later (lb5.next c)
              clear zx zy zz zJ pJ
              rcases hj with hj1 | ⟨hj0, hj1⟩
              · have f1 := fun W' (h : Later V5 W') => find_fs (x := p) (s2k W' h) fxa hj1
                go_wp2_with fail
                go_cut [32, 33] from 178 to 186 (fun v32 v33 wx => ∃ xb, v32 = .pointer (some ⟨xb, 0, none⟩) ∧ v33 = .bool true ∧ V5.heap.size ≤ xb ∧ Boxed2 wx xb (.int .i64 p.1) (.int .i64 p.2) ∧ Later V5 wx)
                case first =>
                  clear hjm hjr hj1 hcT s3k
                  have lk' := Later.drew lk
                  have hk5 := lk.size
                  go_region_held3 (fun W' => Later V5 W') (first | assumption | exact Later.drew (by assumption) | exact Later.alloc (by assumption) _ | exact far2 (by assumption) hk5 | exact far2 (by assumption) (by exact lw6.size) | exact far2 (Later.drew (by assumption)) hk5 | exact far2 (Later.drew (by assumption)) (by exact lw6.size)) (first
                    | (go_at_call 32; (with_reducible refine (f1 _ (by assumption)).mono ?_); rintro e w6 ⟨rfl, l6⟩; have lw6 : Later V5 w6 := Later.next (by assumption) l6; (try ((first | have q2 := zero2_late l6 | have q2 := zero2_late_d l6); have q2c := q2.cells; obtain ⟨q2a, q2b, q2d, q2e⟩ := q2c))))
                  all_goals
                    go_wp2_with fail
                    go_meet
                    first
                    | exact ⟨_, rfl, rfl, lw6.size, Boxed2.new _ _ _, Later.alloc (by assumption) _⟩
                    | exact ⟨_, rfl, rfl, hk5, b2_set2 q2 _ _, far2 lw6 hk5⟩
                case rest =>
                  obtain ⟨xb, rfl, rfl, hxb, b6x, l56⟩ := hcut
                  rename World => V6
                  have hG0 := Later.drew (Later.refl V6)
                  obtain ⟨Good, hGd⟩ : ∃ G : World → Prop, ∀ W', G W' ↔ Later V6 W' := ⟨_, fun _ => Iff.rfl⟩
                  replace hG0 := (hGd _).2 hG0
                  have hne : Nonempty (InG Good) := ⟨⟨_, hG0⟩⟩
                  have f0 : ∀ q : InG Good, q.W.cell? ⟨xb, 0, none⟩ = some (.int .i64 p.1) ∧ q.W.cell? ⟨xb, 1, none⟩ = some (.int .i64 p.2) ∧ q.W.cell? ⟨b2, o2 + k * 2, none⟩ = some (.int .i64 p.1) ∧ q.W.cell? ⟨b2, o2 + k * 2 + 1, none⟩ = some (.int .i64 p.2) := fun q => by
                    have lq := (hGd _).1 q.h
                    have c2 := (b2_later b6x lq).cells
                    exact ⟨c2.1, c2.2.1, hcp _ (l56.next lq)⟩
                  have hkb : kJ ≤ 2000000000000 := by rw [← hkJ, ← hLJ.out]; exact hJz0.out
                  rcases k with _ | j
                  · replace hGd := hid hGd
                    simp only [Nat.zero_mul, Nat.add_zero] at f0
                    clear hjm hjr hj1 hcp hp hcS hcT s2k s3k lk
                    go_wp2_with fail
                    refine region_in Good (by kernel_rfl) (by kernel_rfl) hG0 ?_
                    repeat (go_big_quiet_step (fail))
                    refine wpQuiet_nil ?_
                    intro V8 hw8
                    have l68 := (hGd.out _).1 hw8
                    clear hG0 hGd hne f0 hw8 Good
                    go_wp2_with fail
                    go_roundw
                    case rel => exact ⟨0 + 1, by omega, by go_num, l56.next l68⟩
                    case measure => simp [intOf]; omega
                  · obtain ⟨y', hy'⟩ : ∃ y', LJ[j]? = some y' := ⟨_, List.getElem?_eq_getElem (by omega)⟩
                    have f3 : ∀ q : InG Good, q.W.cell? ⟨b2, o2 + j * 2, none⟩ = some (.int .i64 y'.1) := fun q => by
                      obtain ⟨b', o', e, k1, k2⟩ := (sl5.later (l56.next ((hGd _).1 q.h))).2.2 j y' hy'
                      cases e
                      exact k1
                    have hlty : decide (p.1 ≤ y'.1) = false := by
                      have := List.pairwise_iff_getElem.1 hjr j (j + 1) (by omega) (by omega) (Nat.lt_succ_self j)
                      rw [(List.getElem?_eq_some_iff.1 hy').2, (List.getElem?_eq_some_iff.1 hp).2] at this
                      simp
                      omega
                    replace hGd := hid hGd
                    clear hjm hjr hj1 hcp hp hcS hcT s2k s3k lk hy'
                    go_wp2_with fail
                    refine region_in Good (by kernel_rfl) (by kernel_rfl) hG0 ?_
                    repeat (go_big_quiet_step (fail))
                    refine wpQuiet_nil ?_
                    intro V8 hw8
                    have l68 := (hGd.out _).1 hw8
                    clear hG0 hGd hne f0 hw8 f3 hlty Good
                    go_wp2_with fail
                    go_roundw
                    case rel => exact ⟨j + 1 + 1, by omega, by go_num, l56.next l68⟩
                    case measure => simp [intOf]; omega
              · have f1 := fun W' (h : Later V5 W') => find_fn (x := p) (s2k W' h) fxa hj0
                have f2 := fun W' (h : Later V5 W') => find_fs (x := p) (s3k W' h) fya hj1
                go_wp2_with fail
                go_cut [32, 33] from 178 to 186 (fun v32 v33 wx => ∃ xb, v32 = .pointer (some ⟨xb, 0, none⟩) ∧ v33 = .bool false ∧ V5.heap.size ≤ xb ∧ Boxed2 wx xb (.int .i64 0) (.int .i64 0) ∧ Later V5 wx)
                case first =>
                  clear hjm hjr hj0 hj1 hcT s3k
                  have lk' := Later.drew lk
                  have hk5 := lk.size
                  go_region_held3 (fun W' => Later V5 W') (first | assumption | exact Later.drew (by assumption) | exact Later.alloc (by assumption) _ | exact far2 (by assumption) hk5 | exact far2 (by assumption) (by exact lw6.size) | exact far2 (Later.drew (by assumption)) hk5 | exact far2 (Later.drew (by assumption)) (by exact lw6.size)) (first
                    | (go_at_call 32; (with_reducible refine (f1 _ (by assumption)).mono ?_); rintro e w6 ⟨rfl, l6⟩; have lw6 : Later V5 w6 := Later.next (by assumption) l6; (try ((first | have q2 := zero2_late l6 | have q2 := zero2_late_d l6); have q2c := q2.cells; obtain ⟨q2a, q2b, q2d, q2e⟩ := q2c))))
                  all_goals
                    go_wp2_with fail
                    go_meet
                    first
                    | exact ⟨_, rfl, rfl, lw6.size, Boxed2.new _ _ _, Later.alloc (by assumption) _⟩
                    | exact ⟨_, rfl, rfl, hk5, b2_set2 q2 _ _, far2 lw6 hk5⟩
                case rest =>
                  obtain ⟨xb, rfl, rfl, hxb, b6x, l56⟩ := hcut
                  rename World => V6
                  go_wp2_with fail
                  go_cut [33] from 189 to 197 (fun v33 wx => v33 = .bool true ∧ Boxed2 wx xb (.int .i64 p.1) (.int .i64 p.2) ∧ Later V5 wx)
                  case first =>
                    clear hjm hjr hj1
                    have lk' := Later.drew l56
                    go_region_held3 (fun W' => Later V5 W') (first | assumption | exact Later.drew (by assumption) | exact far2 (by assumption) hxb) (first
                      | (go_at_call 32; (with_reducible refine (f2 _ (by assumption)).mono ?_); rintro e w6 ⟨rfl, l6⟩; have lw6 : Later V5 w6 := Later.next (by assumption) l6; have q2 := b2_later (W := V6.drew) b6x l6; have q2c := q2.cells; obtain ⟨q2a, q2b, q2d, q2e⟩ := q2c))
                    all_goals
                      go_wp2_with fail
                      go_meet
                      exact ⟨rfl, b2_set2 q2 _ _, far2 lw6 hxb⟩
                  case rest =>
                    obtain ⟨rfl, b7x, l57⟩ := hcut
                    rename World => V7
                    clear b6x l56 V6
                    have hG0 := Later.drew (Later.refl V7)
                    obtain ⟨Good, hGd⟩ : ∃ G : World → Prop, ∀ W', G W' ↔ Later V7 W' := ⟨_, fun _ => Iff.rfl⟩
                    replace hG0 := (hGd _).2 hG0
                    have hne : Nonempty (InG Good) := ⟨⟨_, hG0⟩⟩
                    have f0 : ∀ q : InG Good, q.W.cell? ⟨xb, 0, none⟩ = some (.int .i64 p.1) ∧ q.W.cell? ⟨xb, 1, none⟩ = some (.int .i64 p.2) ∧ q.W.cell? ⟨b2, o2 + k * 2, none⟩ = some (.int .i64 p.1) ∧ q.W.cell? ⟨b2, o2 + k * 2 + 1, none⟩ = some (.int .i64 p.2) := fun q => by
                      have lq := (hGd _).1 q.h
                      have c2 := (b2_later b7x lq).cells
                      exact ⟨c2.1, c2.2.1, hcp _ (l57.next lq)⟩
                    have hkb : kJ ≤ 2000000000000 := by rw [← hkJ, ← hLJ.out]; exact hJz0.out
                    rcases k with _ | j
                    · replace hGd := hid hGd
                      simp only [Nat.zero_mul, Nat.add_zero] at f0
                      clear hjm hjr hj1 hcp hp hcS hcT s2k s3k lk
                      go_wp2_with fail
                      refine region_in Good (by kernel_rfl) (by kernel_rfl) hG0 ?_
                      repeat (go_big_quiet_step (fail))
                      refine wpQuiet_nil ?_
                      intro V8 hw8
                      have l68 := (hGd.out _).1 hw8
                      clear hG0 hGd hne f0 hw8 Good
                      go_wp2_with fail
                      go_roundw
                      case rel => exact ⟨0 + 1, by omega, by go_num, l57.next l68⟩
                      case measure => simp [intOf]; omega
                    · obtain ⟨y', hy'⟩ : ∃ y', LJ[j]? = some y' := ⟨_, List.getElem?_eq_getElem (by omega)⟩
                      have f3 : ∀ q : InG Good, q.W.cell? ⟨b2, o2 + j * 2, none⟩ = some (.int .i64 y'.1) := fun q => by
                        obtain ⟨b', o', e, k1, k2⟩ := (sl5.later (l57.next ((hGd _).1 q.h))).2.2 j y' hy'
                        cases e
                        exact k1
                      have hlty : decide (p.1 ≤ y'.1) = false := by
                        have := List.pairwise_iff_getElem.1 hjr j (j + 1) (by omega) (by omega) (Nat.lt_succ_self j)
                        rw [(List.getElem?_eq_some_iff.1 hy').2, (List.getElem?_eq_some_iff.1 hp).2] at this
                        simp
                        omega
                      replace hGd := hid hGd
                      clear hjm hjr hj1 hcp hp hcS hcT s2k s3k lk hy'
                      go_wp2_with fail
                      refine region_in Good (by kernel_rfl) (by kernel_rfl) hG0 ?_
                      repeat (go_big_quiet_step (fail))
                      refine wpQuiet_nil ?_
                      intro V8 hw8
                      have l68 := (hGd.out _).1 hw8
                      clear hG0 hGd hne f0 hw8 f3 hlty Good
                      go_wp2_with fail
                      go_roundw
                      case rel => exact ⟨j + 1 + 1, by omega, by go_num, l57.next l68⟩
                      case measure => simp [intOf]; omega
            · obtain rfl : k = kJ := by omega
              have lb6 := lb5.next lk
              have l36 := l35.next lk
              have hkb : k ≤ 2000000000000 := by rw [← hkJ, ← hLJ.out]; exact hJz0.out
              clear hjm sl5 hlt hk lk l35 lb5
              obtain ⟨g6, hg6⟩ : ∃ g, wr.heap.size = g := ⟨_, rfl⟩
              have z3 := three_new wr (allV x1) (allV x2) (allV x3) 29
              have l6c : Later wr (wr.alloc (.cells #[allV x1, allV x2, allV x3] 29)) := (Later.refl wr).alloc _
              have hsz6 : (wr.alloc (.cells #[allV x1, allV x2, allV x3] 29)).heap.size = g6 + 1 := by rw [World.size_alloc, hg6]
              have hRg6 : RB < g6 + 1 := by have := lb6.size; omega
              obtain ⟨Wd, hWd⟩ : ∃ W, wr.alloc (.cells #[allV x1, allV x2, allV x3] 29) = W := ⟨_, rfl⟩
              rw [hWd] at z3 l6c hsz6
              rw [hg6] at z3
              have lbd := lb6.next l6c
              have l3d := l36.next l6c
              have hj3 := join_lz3 (R := RB) (cap := 3) z3 (by rw [hsz6]; exact hRg6) enters57 enters57 enters57 (zx.up lbd.near) (zy.up lbd.near) (zz.up lbd.near) hxr hyr hzr hTl0.out.1 hTl0.out.2.1 hTl0.out.2.2
              rw [hsz6] at hj3
              replace hWd := hid hWd
              replace hg6 := hid hg6
              go_wp2_with fail
              rw [hg6.out, hWd.out]
              go_at_call 49; refine hj3.mono ?_; rintro e We ⟨rfl, lde, zJ3⟩
              have lbe := lbd.next lde
              have l3e := l3d.next lde
              have hg3 := gathered_lz (na + nb + nc + 1) zJ3 enters78 (Nat.le_trans hJ3l0.out (Nat.le_trans hz (by decide)))
              rw [List.take_of_length_le (Nat.le_succ_of_le hJ3l0.out), hcast.out.2] at hg3
              clear hj3 lbd l3d l6c lde z3 lb6 l36
              go_wp2_with fail
              go_at_call 18; refine hg3.mono ?_; rintro e Vg ⟨v, rfl, rowA, leg⟩
              obtain ⟨kA, hkA⟩ : ∃ n, (joinR [Ta.list, Tb.list, Tc.list]).length = n := ⟨_, rfl⟩
              obtain ⟨AA, cA, rfl, slA, _⟩ := row_slice2 rowA (Nat.le_trans hJ3l0.out (Nat.le_trans hz (by decide))) hkA
              have lbg := lbe.next leg
              have l3g := l3e.next leg
              have hLJA : joinR [LJ, Tc.list] = joinR [Ta.list, Tb.list, Tc.list] := by rw [← hLJ.out]; exact join_left _ _ _
              have hLJB : joinR [Ta.list, joinR [Tb.list, Tc.list]] = joinR [Ta.list, Tb.list, Tc.list] := join_right _ _ _
              have hjr2 := join_rises [Tb.list, Tc.list]
              have hLAz : (joinR [Ta.list, Tb.list, Tc.list]).length ≤ 4611686018427387904 := Nat.le_trans hJ3l0.out (Nat.le_trans hz (by decide))
              have hJz4 : LJ.length ≤ 4000000000000 := by rw [hkJ]; exact Nat.le_trans hkb (by decide)
              obtain ⟨LA, hLA⟩ : ∃ L, joinR [Ta.list, Tb.list, Tc.list] = L := ⟨_, rfl⟩
              rw [hLA] at slA hkA hLJA hLJB hLAz
              have hT1 : Ta.list.length ≤ 4000000000000 := Nat.le_trans hTl0.out.1 (by decide)
              have hT2 : Tb.list.length ≤ 4000000000000 := Nat.le_trans hTl0.out.2.1 (by decide)
              have hT3 : Tc.list.length ≤ 4000000000000 := Nat.le_trans hTl0.out.2.2 (by decide)
              have hRVg : RB < Vg.heap.size := by have := lbg.size; omega
              have jn1 : ∀ W', Later Vg W' → Calls Try.prog 49 #[.func (.func 31) #[] #[], .slice (some ⟨W'.heap.size, 0, none⟩) 2 2] (W'.alloc (.cells #[joinV (g9 + 1), allV x3] 29)).drew fun e V => e = .returned (joinV (W'.heap.size + 1)) ∧ Later Vg V ∧ Lz RB V 78 #[.pointer (some ⟨W'.heap.size + 1, 0, none⟩), .pointer (some ⟨W'.heap.size + 1 + 1, 0, none⟩)] LA := fun W' l => by
                have la : Later Vg (W'.alloc (.cells #[joinV (g9 + 1), allV x3] 29)).drew := (l.alloc _).drew
                have hs : (W'.alloc (.cells #[joinV (g9 + 1), allV x3] 29)).drew.heap.size = W'.heap.size + 1 := World.size_alloc ..
                have h := join_lz2 (R := RB) (cap := 2) (w := (W'.alloc (.cells #[joinV (g9 + 1), allV x3] 29)).drew) (two_new W' (joinV (g9 + 1)) (allV x3) 29) (Nat.lt_of_lt_of_le hRVg la.size) enters78 enters57 (zJ.up (lbg.next la).near) (zz.up (lbg.next la).near) hjr hzr hJz4 hT3
                rw [hs, hLJA] at h
                exact h.mono fun e V hh => ⟨hh.1, la.next hh.2.1, hh.2.2⟩
              have jn2 : ∀ W', Later Vg W' → Calls Try.prog 49 #[.func (.func 31) #[] #[], .slice (some ⟨W'.heap.size, 0, none⟩) 2 2] (W'.alloc (.cells #[allV x2, allV x3] 29)) fun e V => e = .returned (joinV (W'.heap.size + 1)) ∧ Later Vg V ∧ Lz RB V 78 #[.pointer (some ⟨W'.heap.size + 1, 0, none⟩), .pointer (some ⟨W'.heap.size + 1 + 1, 0, none⟩)] (joinR [Tb.list, Tc.list]) := fun W' l => by
                have la : Later Vg (W'.alloc (.cells #[allV x2, allV x3] 29)) := l.alloc _
                have hs : (W'.alloc (.cells #[allV x2, allV x3] 29)).heap.size = W'.heap.size + 1 := World.size_alloc ..
                have h := join_lz2 (R := RB) (cap := 2) (two_new W' (allV x2) (allV x3) 29) (Nat.lt_of_lt_of_le hRVg la.size) enters57 enters57 (zy.up (lbg.next la).near) (zz.up (lbg.next la).near) hyr hzr hT2 hT3
                rw [hs] at h
                exact h.mono fun e V hh => ⟨hh.1, la.next hh.2.1, hh.2.2⟩
              have jn3 : ∀ W' m, Later Vg W' → Lz RB W' 78 #[.pointer (some ⟨m, 0, none⟩), .pointer (some ⟨m + 1, 0, none⟩)] (joinR [Tb.list, Tc.list]) → Calls Try.prog 49 #[.func (.func 31) #[] #[], .slice (some ⟨W'.heap.size, 0, none⟩) 2 2] (W'.alloc (.cells #[allV x1, joinV m] 29)) fun e V => e = .returned (joinV (W'.heap.size + 1)) ∧ Later Vg V ∧ Lz RB V 78 #[.pointer (some ⟨W'.heap.size + 1, 0, none⟩), .pointer (some ⟨W'.heap.size + 1 + 1, 0, none⟩)] LA := fun W' m l zm => by
                have l1 : Later W' (W'.alloc (.cells #[allV x1, joinV m] 29)) := (Later.refl W').alloc _
                have la := l.next l1
                have hs : (W'.alloc (.cells #[allV x1, joinV m] 29)).heap.size = W'.heap.size + 1 := World.size_alloc ..
                have h := join_lz2 (R := RB) (cap := 2) (two_new W' (allV x1) (joinV m) 29) (Nat.lt_of_lt_of_le hRVg la.size) enters57 enters78 (zx.up (lbg.next la).near) (zm.up l1.near) hxr hjr2 hT1 hJ2b.out
                rw [hs, hLJB] at h
                exact h.mono fun e V hh => ⟨hh.1, la.next hh.2.1, hh.2.2⟩
              have td : ∀ W' m, Later Vg W' → Lz RB W' 78 #[.pointer (some ⟨m, 0, none⟩), .pointer (some ⟨m + 1, 0, none⟩)] LA → Calls Try.prog 25 #[joinV m, .slice AA kA cA] W' fun e V => e = .returned (.bool true) ∧ Later Vg V ∧ V.cell? ⟨RB, 0, none⟩ = some (.bool false) ∧ V.frozen? ⟨RB, 0, none⟩ = false := fun W' m l zm => by
                have h := told_lz zm enters78 (slA.later l) hLAz
                rw [hkA] at h
                refine h.mono fun e V hh => ?_
                have lv := l.next hh.2
                have bv := boxed_later bb (lbg.next lv)
                exact ⟨by rw [hh.1]; simp, lv, bv.cell, bv.frozen⟩
              have hcs : ∀ W', Near RB Vg W' → W'.cell? ⟨BS, 0, none⟩ = some (.pointer (some ⟨s, 0, none⟩)) ∧ W'.cell? ⟨WbS + 1 + 1, 0, none⟩ = some (.int .i64 kO) := fun W' h => ⟨h.cell ((boxed_later bSb lbg).cell) (by omega), h.cell ((boxed_later bN3 l3g).cell) (by omega)⟩
              have qs : ∀ W', Later Vg W' → _ := fun W' h => len_is (s2b.later (lbg.next h)) hzA.out.symm
              have hw3 : wrap64 ((zA : Int) + (kO : Int)) = (k : Int) := wrap_add (by rw [← hzA.out, ← hxlH.out, ← hkJ]; exact pJ.out.symm) hkb
              have hw4 : IntKind.i64.wrap ((zA : Int) + (kO : Int)) = (k : Int) := (wrapEq' _).trans hw3
              clear zx zy zz zJ zJ3 hg3 rowA hLJA hLJB hjr hjr2 hLAz hJz4 hT1 hT2 hT3 hxr hyr hzr fxa fya leg lbe l3e
              go_wp2_with fail
              go_cut [] from 241 to 266 (fun wx => ∃ V, Later Vg V ∧ wx = V.setCell ⟨RB, 0, none⟩ (.bool true))
              case first =>
                have hd := Later.refl Vg
                have hd2 := Later.drew hd
                go_region_held3 (fun W' => Near RB Vg W') (first | assumption | exact Later.near (by assumption) | exact Later.near (Later.drew (Later.alloc (by assumption) _)) | exact near_set _ (by assumption) | exact Later.near (Later.alloc (by assumption) _)) (first
                  | (go_at_call 26; (with_reducible refine (qs _ (by assumption)).mono ?_); rintro e w6 ⟨rfl, rfl⟩)
                  | (go_at_call 49; (with_reducible refine (jn1 _ (by assumption)).mono ?_); rintro e wj ⟨rfl, nj, zj⟩)
                  | (go_at_call 25; (with_reducible refine (td _ _ (by assumption) zj).mono ?_); rintro e wt ⟨rfl, nt, ct, ft⟩)
                  | (go_at_call 49; (with_reducible refine (jn2 _ (by assumption)).mono ?_); rintro e wk ⟨rfl, nk, zk⟩)
                  | (go_at_call 49; (with_reducible refine (jn3 _ _ (by assumption) zk).mono ?_); rintro e wl ⟨rfl, nl, zl⟩)
                  | (go_at_call 25; (with_reducible refine (td _ _ (by assumption) zl).mono ?_); rintro e wu ⟨rfl, nu, cu, fu⟩))
                all_goals
                  go_wp2_with fail
                  go_meet
                  exact ⟨_, nu, rfl⟩
              case rest =>
                obtain ⟨Vh, lgh, rfl⟩ := hcut
                clear jn1 jn2 jn3 td hcs qs hw3
                go_wp2_with fail
                have lF : Later w (Vh.setCell ⟨RB, 0, none⟩ (.bool true)) := Below.setCell (p := ⟨RB, 0, none⟩) (l0b.next (lbg.next lgh)) (by show w.heap.size ≤ RB; omega) _
                have bF := (boxed_later bb (lbg.next lgh)).set (.bool true)
                have hm : ∀ D ∈ [D3, D2, D1], priv Wc.heap.size V3.heap.size D ∧ (Vh.setCell ⟨RB, 0, none⟩ (.bool true)).heap[D]? = some (.deferred (some [])) := fun D h => by
                  obtain ⟨h1, h2⟩ := hge.out D h
                  exact ⟨⟨h1, h2⟩, (KeepsOthers.setCell _ _ _).same D _ (((l3g.next lgh).block D h2).trans (hmarks.out D h)) rfl⟩
                have hRW : w.heap.size ≤ RB ∧ RB < Wc.heap.size := by omega
                generalize Vh.setCell ⟨RB, 0, none⟩ (.bool true) = Wf at lF bF hm ⊢
                refine leaves_marks (lo := Wc.heap.size) (hi := V3.heap.size) (Q := fun U => Boxed U RB 4 (.bool true) ∧ Later w U) (fun U V hq c => ⟨boxed_turn hq.1 c (fun e => by have := e.1; omega), Below.trans hq.2 (Chg.below c hq.2.size (fun b e => by have := e.1; omega))⟩) (fun V' hq' => ?_) [D3, D2, D1] Wf hnd.out hm ⟨bF, lF⟩
                have b2 := hq'.1.cell
                exact ⟨_, by simp [results, Try.results10, go_sem, b2], rfl, hq'.2⟩
end Go.Proofs.Yteledidnhjioaaa.Sh
