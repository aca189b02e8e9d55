import Derived.Test.YtdifabacbhfbbaaTy
namespace Go.Proofs.Ytdifabacbhfbbaa.Tu
open Go.RowKit Go.Lib Go.Proofs
set_option linter.unusedVariables false
set_option linter.unusedSimpArgs false
/-- the reference's way -/
def sameQ (x y : ValV) (l m : List ByteArray) : Bool :=
  x.ok l && (y.ok m && (x.kind == y.kind && (x.b == y.b && (x.i == y.i && (x.text.toList == y.text.toList && (l.length == m.length && ((!(x.kind == 3) || sameR x.r y.r) && decide (l = m))))))))
theorem eq_of_pre {l m : List ByteArray} {n : Nat} (h1 : l.length = n) (h2 : m.length = n) (h : l.take n = m.take n) : l = m := by
  rw [List.take_of_length_le (by omega), List.take_of_length_le (by omega)] at h
  exact h
set_option maxHeartbeats 16000000 in
set_option maxRecDepth 100000 in
theorem sameval_ref (x y : ValV) {l m : List ByteArray} {w : World} {A B : Option Addr} {n1 n2 c c' : Nat} (hx : x.r < 4294967296) (hy : y.r < 4294967296) (hA : TxtAt w A l) (hB : TxtAt w B m) (hn1 : l.length = n1) (hn2 : m.length = n2) (hz1 : n1 ≤ 8796093022080) (hz2 : n2 ≤ 8796093022080) :
    Calls Try.prog 37 #[x.v (.slice A n1 c), y.v (.slice B n2 c')] w fun e w' => e = .returned (.bool (sameQ x y l m)) ∧ Later w w' := by
  obtain ⟨R, hR⟩ : ∃ R, sameQ x y l m = R := ⟨_, rfl⟩
  rw [hR]
  have hr : Hid (R = sameQ x y l m) := hid hR.symm
  clear hR
  obtain ⟨hw2, hc⟩ := two_boxes (x.ls (.slice A n1 c)) (y.ls (.slice B n2 c')) 48 w
  have k1 := fun W (h : Later w W) => mayref_any x.kind x.b x.i x.r x.text (c := c) (hA.later h) hn1 hz1
  have k2 := fun W (h : Later w W) => mayref_any y.kind y.b y.i y.r y.text (c := c') (hB.later h) hn2 hz2
  have k3 := fun W => sameref_any hx hy W
  unfold sameQ ValV.ok at hr
  rw [hn1, hn2] at hr
  generalize okV x.kind x.b x.i x.r x.text l = o1 at k1 hr
  generalize okV y.kind y.b y.i y.r y.text m = o2 at k2 hr
  generalize sameR x.r y.r = qr at k3 hr
  go_enter Try.func37, Try.ntmps37
  go_upto_region 1 with fail
  generalize (w.alloc (.cells (x.ls (.slice A n1 c)).toArray 48)).alloc (.cells (y.ls (.slice B n2 c')).toArray 48) = W2 at hc hw2 ⊢
  have hcc : ∀ V, Later W2 V → (V.cell? ⟨w.heap.size, 0, none⟩ = some (.int .i64 x.kind) ∧ V.cell? ⟨w.heap.size, 1, none⟩ = some (.bool x.b) ∧ V.cell? ⟨w.heap.size, 2, none⟩ = some (.int .i64 x.i) ∧ V.cell? ⟨w.heap.size, 3, none⟩ = some (.float .f32 x.r) ∧ V.cell? ⟨w.heap.size, 4, none⟩ = some (.string x.text) ∧ V.cell? ⟨w.heap.size, 5, none⟩ = some (.slice A n1 c)) ∧ (V.cell? ⟨w.heap.size + 1, 0, none⟩ = some (.int .i64 y.kind) ∧ V.cell? ⟨w.heap.size + 1, 1, none⟩ = some (.bool y.b) ∧ V.cell? ⟨w.heap.size + 1, 2, none⟩ = some (.int .i64 y.i) ∧ V.cell? ⟨w.heap.size + 1, 3, none⟩ = some (.float .f32 y.r) ∧ V.cell? ⟨w.heap.size + 1, 4, none⟩ = some (.string y.text) ∧ V.cell? ⟨w.heap.size + 1, 5, none⟩ = some (.slice B n2 c')) := fun V l =>
    ⟨⟨(hc V l).1 0 _ rfl, (hc V l).1 1 _ rfl, (hc V l).1 2 _ rfl, (hc V l).1 3 _ rfl, (hc V l).1 4 _ rfl, (hc V l).1 5 _ rfl⟩, ⟨(hc V l).2 0 _ rfl, (hc V l).2 1 _ rfl, (hc V l).2 2 _ rfl, (hc V l).2 3 _ rfl, (hc V l).2 4 _ rfl, (hc V l).2 5 _ rfl⟩⟩
  clear hc
  obtain ⟨⟨p0, p1, p2, p3, p4, p5⟩, ⟨q0, q1, q2, q3, q4, q5⟩⟩ := hcc W2 (Later.refl _)
  cases o1 with
  | false =>
    have hr2 : Hid (R = false) := hid (by rw [hr.out]; simp)
    clear hr
    go_wp2_with (first | (go_at_call 45; (with_reducible refine (k1 _ hw2).mono ?_); rintro e w3 ⟨rfl, l3⟩; obtain ⟨⟨s0, s1, s2, s3, s4, s5⟩, ⟨t0, t1, t2, t3, t4, t5⟩⟩ := hcc _ l3) | (go_at_call 45; (with_reducible refine (k2 _ (hw2.next l3)).mono ?_); rintro e w4 ⟨rfl, l4⟩; obtain ⟨⟨ua0, ua1, ua2, ua3, ua4, ua5⟩, ⟨va0, va1, va2, va3, va4, va5⟩⟩ := hcc _ (l3.next l4)))
    go_ret
    exact ⟨by rw [hr2.out]; rfl, hw2.next l3⟩
  | true =>
    cases o2 with
    | false =>
      have hr2 : Hid (R = false) := hid (by rw [hr.out]; simp)
      clear hr
      go_wp2_with (first | (go_at_call 45; (with_reducible refine (k1 _ hw2).mono ?_); rintro e w3 ⟨rfl, l3⟩; obtain ⟨⟨s0, s1, s2, s3, s4, s5⟩, ⟨t0, t1, t2, t3, t4, t5⟩⟩ := hcc _ l3) | (go_at_call 45; (with_reducible refine (k2 _ (hw2.next l3)).mono ?_); rintro e w4 ⟨rfl, l4⟩; obtain ⟨⟨ua0, ua1, ua2, ua3, ua4, ua5⟩, ⟨va0, va1, va2, va3, va4, va5⟩⟩ := hcc _ (l3.next l4)))
      go_ret
      exact ⟨by rw [hr2.out]; rfl, hw2.next (l3.next l4)⟩
    | true =>
      cases g1 : (x.kind == y.kind) with
      | false =>
        have g1n : (x.kind != y.kind) = true := by simp only [bne, g1]; rfl
        have hr2 : Hid (R = false) := hid (by rw [hr.out, g1]; simp)
        clear hr
        go_wp2_with (first | (go_at_call 45; (with_reducible refine (k1 _ hw2).mono ?_); rintro e w3 ⟨rfl, l3⟩; obtain ⟨⟨s0, s1, s2, s3, s4, s5⟩, ⟨t0, t1, t2, t3, t4, t5⟩⟩ := hcc _ l3) | (go_at_call 45; (with_reducible refine (k2 _ (hw2.next l3)).mono ?_); rintro e w4 ⟨rfl, l4⟩; obtain ⟨⟨ua0, ua1, ua2, ua3, ua4, ua5⟩, ⟨va0, va1, va2, va3, va4, va5⟩⟩ := hcc _ (l3.next l4)))
        go_ret
        exact ⟨by rw [hr2.out]; rfl, hw2.next (l3.next l4)⟩
      | true =>
        have g1n : (x.kind != y.kind) = false := by simp only [bne, g1]; rfl
        cases g2 : (x.b == y.b) with
        | false =>
          have g2n : (x.b != y.b) = true := by simp only [bne, g2]; rfl
          have hr2 : Hid (R = false) := hid (by rw [hr.out, g1, g2]; simp)
          clear hr
          go_wp2_with (first | (go_at_call 45; (with_reducible refine (k1 _ hw2).mono ?_); rintro e w3 ⟨rfl, l3⟩; obtain ⟨⟨s0, s1, s2, s3, s4, s5⟩, ⟨t0, t1, t2, t3, t4, t5⟩⟩ := hcc _ l3) | (go_at_call 45; (with_reducible refine (k2 _ (hw2.next l3)).mono ?_); rintro e w4 ⟨rfl, l4⟩; obtain ⟨⟨ua0, ua1, ua2, ua3, ua4, ua5⟩, ⟨va0, va1, va2, va3, va4, va5⟩⟩ := hcc _ (l3.next l4)))
          go_ret
          exact ⟨by rw [hr2.out]; rfl, hw2.next (l3.next l4)⟩
        | true =>
          have g2n : (x.b != y.b) = false := by simp only [bne, g2]; rfl
          cases g3 : (x.i == y.i) with
          | false =>
            have g3n : (x.i != y.i) = true := by simp only [bne, g3]; rfl
            have hr2 : Hid (R = false) := hid (by rw [hr.out, g1, g2, g3]; simp)
            clear hr
            go_wp2_with (first | (go_at_call 45; (with_reducible refine (k1 _ hw2).mono ?_); rintro e w3 ⟨rfl, l3⟩; obtain ⟨⟨s0, s1, s2, s3, s4, s5⟩, ⟨t0, t1, t2, t3, t4, t5⟩⟩ := hcc _ l3) | (go_at_call 45; (with_reducible refine (k2 _ (hw2.next l3)).mono ?_); rintro e w4 ⟨rfl, l4⟩; obtain ⟨⟨ua0, ua1, ua2, ua3, ua4, ua5⟩, ⟨va0, va1, va2, va3, va4, va5⟩⟩ := hcc _ (l3.next l4)))
            go_ret
            exact ⟨by rw [hr2.out]; rfl, hw2.next (l3.next l4)⟩
          | true =>
            have g3n : (x.i != y.i) = false := by simp only [bne, g3]; rfl
            cases g4 : (x.text.toList == y.text.toList) with
            | false =>
              have hr2 : Hid (R = false) := hid (by rw [hr.out, g1, g2, g3, g4]; simp)
              clear hr
              go_wp2_with (first | (go_at_call 45; (with_reducible refine (k1 _ hw2).mono ?_); rintro e w3 ⟨rfl, l3⟩; obtain ⟨⟨s0, s1, s2, s3, s4, s5⟩, ⟨t0, t1, t2, t3, t4, t5⟩⟩ := hcc _ l3) | (go_at_call 45; (with_reducible refine (k2 _ (hw2.next l3)).mono ?_); rintro e w4 ⟨rfl, l4⟩; obtain ⟨⟨ua0, ua1, ua2, ua3, ua4, ua5⟩, ⟨va0, va1, va2, va3, va4, va5⟩⟩ := hcc _ (l3.next l4)))
              go_ret
              exact ⟨by rw [hr2.out]; rfl, hw2.next (l3.next l4)⟩
            | true =>
              cases g5 : (n1 == n2) with
              | false =>
                have g5x : ((n1 : Int) == (n2 : Int)) = false := by simp at g5 ⊢; omega
                have g5n : ((n1 : Int) != (n2 : Int)) = true := by simp at g5 ⊢; omega
                have hr2 : Hid (R = false) := hid (by rw [hr.out, g1, g2, g3, g4, g5]; simp)
                clear hr
                go_wp2_with (first | (go_at_call 45; (with_reducible refine (k1 _ hw2).mono ?_); rintro e w3 ⟨rfl, l3⟩; obtain ⟨⟨s0, s1, s2, s3, s4, s5⟩, ⟨t0, t1, t2, t3, t4, t5⟩⟩ := hcc _ l3) | (go_at_call 45; (with_reducible refine (k2 _ (hw2.next l3)).mono ?_); rintro e w4 ⟨rfl, l4⟩; obtain ⟨⟨ua0, ua1, ua2, ua3, ua4, ua5⟩, ⟨va0, va1, va2, va3, va4, va5⟩⟩ := hcc _ (l3.next l4)))
                go_ret
                exact ⟨by rw [hr2.out]; rfl, hw2.next (l3.next l4)⟩
              | true =>
                have g5x : ((n1 : Int) == (n2 : Int)) = true := by simp at g5 ⊢; omega
                have g5n : ((n1 : Int) != (n2 : Int)) = false := by simp at g5 ⊢; omega
                have hr2 : Hid (R = ((!(x.kind == 3) || qr) && decide (l = m))) := hid (by rw [hr.out, g1, g2, g3, g4, g5]; simp)
                clear hr
                go_upto_region 3 with (first | (go_at_call 45; (with_reducible refine (k1 _ hw2).mono ?_); rintro e w3 ⟨rfl, l3⟩; obtain ⟨⟨s0, s1, s2, s3, s4, s5⟩, ⟨t0, t1, t2, t3, t4, t5⟩⟩ := hcc _ l3) | (go_at_call 45; (with_reducible refine (k2 _ (hw2.next l3)).mono ?_); rintro e w4 ⟨rfl, l4⟩; obtain ⟨⟨ua0, ua1, ua2, ua3, ua4, ua5⟩, ⟨va0, va1, va2, va3, va4, va5⟩⟩ := hcc _ (l3.next l4)))
                have l34 := Later.next l3 l4
                clear p0 p1 p2 p3 p4 p5 q0 q1 q2 q3 q4 q5 s0 s1 s2 s3 s4 s5 t0 t1 t2 t3 t4 t5 k1 k2
                obtain rfl : n1 = n2 := by simpa using g5
                have hlen : l.length = m.length := by rw [hn1, hn2]
                clear g1 g2 g3 g4 g5 g1n g2n g3n g5n g5x hlen
                cases h3 : (x.kind == 3) with
                | false =>
                  have hr3 : Hid (R = decide (l = m)) := hid (by rw [hr2.out, h3]; simp)
                  clear hr2
                  go_wp2_with fail
                  go_loopw [5] (fun i wr => ∃ k : Nat, k ≤ n1 ∧ i = .int .i64 k ∧ Hid (l.take k = m.take k) ∧ Later W2 wr) (fun i _ => n1 - (intOf i).toNat)
                  case atStart => exact ⟨0, Nat.zero_le _, rfl, hid rfl, l34⟩
                  case round =>
                    obtain ⟨k, hk, rfl, hp, lk⟩ := hrel
                    clear ua0 ua1 ua2 ua3 ua4 ua5 va0 va1 va2 va3 va4 va5
                    by_cases hlt : k < n1
                    · cases hs : l[k]? with
                      | none => exact absurd (List.getElem?_eq_none_iff.1 hs) (by omega)
                      | some s =>
                        cases ht : m[k]? with
                        | none => exact absurd (List.getElem?_eq_none_iff.1 ht) (by omega)
                        | some t =>
                          obtain ⟨b, o, rfl, _⟩ := hA k s hs
                          obtain ⟨b', o', rfl, _⟩ := hB k t ht
                          have hG0 := Later.drew (Later.refl wr)
                          obtain ⟨Good, hGd⟩ : ∃ G : World → Prop, ∀ W', G W' ↔ Later wr W' := ⟨_, fun _ => Iff.rfl⟩
                          replace hG0 := (hGd _).2 hG0
                          have hne : Nonempty (InG Good) := ⟨⟨_, hG0⟩⟩
                          have f0 : ∀ q : InG Good, q.W.cell? ⟨b, o + k, none⟩ = some (.string s) ∧ q.W.cell? ⟨b', o' + k, none⟩ = some (.string t) := fun q => by
                            have lq := hw2.next (lk.next ((hGd _).1 q.h))
                            obtain ⟨b1, o1, e1, c1⟩ := hA.later lq k s hs
                            obtain ⟨b2, o2, e2, c2⟩ := hB.later lq k t ht
                            cases e1; cases e2
                            exact ⟨c1, c2⟩
                          have f1 : ∀ q : InG Good, q.W.cell? ⟨w.heap.size, 5, none⟩ = some (.slice (some ⟨b, o, none⟩) n1 c) ∧ q.W.cell? ⟨w.heap.size + 1, 5, none⟩ = some (.slice (some ⟨b', o', none⟩) n1 c') := fun q => by
                            obtain ⟨⟨_, _, _, _, _, z1⟩, ⟨_, _, _, _, _, z2⟩⟩ := hcc _ (lk.next ((hGd _).1 q.h))
                            exact ⟨z1, z2⟩
                          obtain ⟨⟨_, _, _, _, _, z1⟩, ⟨_, _, _, _, _, z2⟩⟩ := hcc _ lk
                          replace hGd := hid hGd
                          have hsn : Hid (s = t → l.take (k + 1) = m.take (k + 1)) := hid (fun e => by rw [take_snoc hs, take_snoc ht, hp.out, e])
                          have hsx : Hid (s ≠ t → R = false) := hid (fun e => by
                            rw [hr3.out]
                            refine decide_eq_false (fun h => e ?_)
                            rw [h, ht] at hs
                            injection hs with hs
                            exact hs.symm)
                          clear hs ht
                          by_cases hst : s = t
                          · have hb : (s.toList == t.toList) = true := by simp [hst]
                            have hp2 := hid (hsn.out hst)
                            clear hsn hsx
                            replace hst := hid hst
                            go_wp2_with fail
                            refine region_in Good (by kernel_rfl) (by kernel_rfl) hG0 ?_
                            repeat (go_big_quiet_step (fail))
                            refine wpQuiet_nil ?_
                            intro V8 hw8
                            have l68 := (hGd.out _).1 hw8
                            clear hG0 hGd hne f0 f1 hw8 Good
                            go_wp2_with fail
                            go_roundw
                            case rel => exact ⟨k + 1, by omega, by go_num, hp2, lk.next l68⟩
                            case measure => simp [intOf]; omega
                          · have hb : (s.toList == t.toList) = false := by
                              rw [beq_eq_false_iff_ne]
                              exact fun e => hst (bytes_ext e)
                            have hr4 := hid (hsx.out hst)
                            clear hsn hsx
                            replace hst := hid hst
                            go_wp2_with fail
                            refine region_in Good (by kernel_rfl) (by kernel_rfl) hG0 ?_
                            repeat (go_big_quiet_step (fail))
                            refine wpQuiet_nil ?_
                            intro V8 hw8
                            have l68 := (hGd.out _).1 hw8
                            clear hG0 hGd hne f0 f1 hw8 Good
                            go_wp2_with fail
                            go_ret
                            exact ⟨by rw [hr4.out]; rfl, hw2.next (lk.next l68)⟩
                    · obtain rfl : k = n1 := by omega
                      have hr4 : Hid (R = true) := hid (by
                        rw [hr3.out]
                        exact decide_eq_true (eq_of_pre hn1 hn2 hp.out))
                      obtain ⟨⟨_, _, _, _, _, z1⟩, ⟨_, _, _, _, _, z2⟩⟩ := hcc _ lk
                      go_wp2_with fail
                      go_ret
                      exact ⟨by rw [hr4.out]; rfl, hw2.next lk⟩
                | true =>
                  cases qr with
                  | false =>
                    have hr3 : Hid (R = false) := hid (by rw [hr2.out, h3]; simp)
                    clear hr2
                    go_wp2_with (go_at_call 46; (with_reducible refine (k3 _).mono ?_); rintro e w5 ⟨rfl, rfl⟩)
                    go_ret
                    exact ⟨by rw [hr3.out]; rfl, hw2.next l34⟩
                  | true =>
                    have hr3 : Hid (R = decide (l = m)) := hid (by rw [hr2.out, h3]; simp)
                    clear hr2
                    go_wp2_with (go_at_call 46; (with_reducible refine (k3 _).mono ?_); rintro e w5 ⟨rfl, rfl⟩)
                    go_loopw [5] (fun i wr => ∃ k : Nat, k ≤ n1 ∧ i = .int .i64 k ∧ Hid (l.take k = m.take k) ∧ Later W2 wr) (fun i _ => n1 - (intOf i).toNat)
                    case atStart => exact ⟨0, Nat.zero_le _, rfl, hid rfl, l34⟩
                    case round =>
                      obtain ⟨k, hk, rfl, hp, lk⟩ := hrel
                      clear ua0 ua1 ua2 ua3 ua4 ua5 va0 va1 va2 va3 va4 va5
                      by_cases hlt : k < n1
                      · cases hs : l[k]? with
                        | none => exact absurd (List.getElem?_eq_none_iff.1 hs) (by omega)
                        | some s =>
                          cases ht : m[k]? with
                          | none => exact absurd (List.getElem?_eq_none_iff.1 ht) (by omega)
                          | some t =>
                            obtain ⟨b, o, rfl, _⟩ := hA k s hs
                            obtain ⟨b', o', rfl, _⟩ := hB k t ht
                            have hG0 := Later.drew (Later.refl wr)
                            obtain ⟨Good, hGd⟩ : ∃ G : World → Prop, ∀ W', G W' ↔ Later wr W' := ⟨_, fun _ => Iff.rfl⟩
                            replace hG0 := (hGd _).2 hG0
                            have hne : Nonempty (InG Good) := ⟨⟨_, hG0⟩⟩
                            have f0 : ∀ q : InG Good, q.W.cell? ⟨b, o + k, none⟩ = some (.string s) ∧ q.W.cell? ⟨b', o' + k, none⟩ = some (.string t) := fun q => by
                              have lq := hw2.next (lk.next ((hGd _).1 q.h))
                              obtain ⟨b1, o1, e1, c1⟩ := hA.later lq k s hs
                              obtain ⟨b2, o2, e2, c2⟩ := hB.later lq k t ht
                              cases e1; cases e2
                              exact ⟨c1, c2⟩
                            have f1 : ∀ q : InG Good, q.W.cell? ⟨w.heap.size, 5, none⟩ = some (.slice (some ⟨b, o, none⟩) n1 c) ∧ q.W.cell? ⟨w.heap.size + 1, 5, none⟩ = some (.slice (some ⟨b', o', none⟩) n1 c') := fun q => by
                              obtain ⟨⟨_, _, _, _, _, z1⟩, ⟨_, _, _, _, _, z2⟩⟩ := hcc _ (lk.next ((hGd _).1 q.h))
                              exact ⟨z1, z2⟩
                            obtain ⟨⟨_, _, _, _, _, z1⟩, ⟨_, _, _, _, _, z2⟩⟩ := hcc _ lk
                            replace hGd := hid hGd
                            have hsn : Hid (s = t → l.take (k + 1) = m.take (k + 1)) := hid (fun e => by rw [take_snoc hs, take_snoc ht, hp.out, e])
                            have hsx : Hid (s ≠ t → R = false) := hid (fun e => by
                              rw [hr3.out]
                              refine decide_eq_false (fun h => e ?_)
                              rw [h, ht] at hs
                              injection hs with hs
                              exact hs.symm)
                            clear hs ht
                            by_cases hst : s = t
                            · have hb : (s.toList == t.toList) = true := by simp [hst]
                              have hp2 := hid (hsn.out hst)
                              clear hsn hsx
                              replace hst := hid hst
                              go_wp2_with fail
                              refine region_in Good (by kernel_rfl) (by kernel_rfl) hG0 ?_
                              repeat (go_big_quiet_step (fail))
                              refine wpQuiet_nil ?_
                              intro V8 hw8
                              have l68 := (hGd.out _).1 hw8
                              clear hG0 hGd hne f0 f1 hw8 Good
                              go_wp2_with fail
                              go_roundw
                              case rel => exact ⟨k + 1, by omega, by go_num, hp2, lk.next l68⟩
                              case measure => simp [intOf]; omega
                            · have hb : (s.toList == t.toList) = false := by
                                rw [beq_eq_false_iff_ne]
                                exact fun e => hst (bytes_ext e)
                              have hr4 := hid (hsx.out hst)
                              clear hsn hsx
                              replace hst := hid hst
                              go_wp2_with fail
                              refine region_in Good (by kernel_rfl) (by kernel_rfl) hG0 ?_
                              repeat (go_big_quiet_step (fail))
                              refine wpQuiet_nil ?_
                              intro V8 hw8
                              have l68 := (hGd.out _).1 hw8
                              clear hG0 hGd hne f0 f1 hw8 Good
                              go_wp2_with fail
                              go_ret
                              exact ⟨by rw [hr4.out]; rfl, hw2.next (lk.next l68)⟩
                      · obtain rfl : k = n1 := by omega
                        have hr4 : Hid (R = true) := hid (by
                          rw [hr3.out]
                          exact decide_eq_true (eq_of_pre hn1 hn2 hp.out))
                        obtain ⟨⟨_, _, _, _, _, z1⟩, ⟨_, _, _, _, _, z2⟩⟩ := hcc _ lk
                        go_wp2_with fail
                        go_ret
                        exact ⟨by rw [hr4.out]; rfl, hw2.next lk⟩
end Go.Proofs.Ytdifabacbhfbbaa.Tu
