import Derived.Test.YtdifabacbhfbbaaTx
import Derived.Test.YtdifabacbhfbbaaTv
namespace Go.Proofs.Ytdifabacbhfbbaa.Tu
open Go.RowKit Go.Lib Go.Proofs
set_option linter.unusedVariables false
set_option linter.unusedSimpArgs false
/-! ### are two values the same? -/
/-- the program's way -/
def sameP (x y : ValV) (l m : List ByteArray) : Bool :=
  (x.ok l && y.ok m) && x.kind == y.kind && (if x.kind = 1 then x.b == y.b else if x.kind = 2 then x.i == y.i else if x.kind = 3 then keyR x.r == keyR y.r else if x.kind = 4 then x.text.toList == y.text.toList else decide (l = m))
set_option maxHeartbeats 8000000 in
set_option maxRecDepth 100000 in
theorem same_any (x y : ValV) {l m : List ByteArray} {w : World} {A B : Option Addr} {n1 n2 c c' : Nat} (hA : TxtAt w A l) (hB : TxtAt w B m) (hn1 : l.length = n1) (hn2 : m.length = n2) (hz1 : n1 ≤ 8796093022080) (hz2 : n2 ≤ 8796093022080) :
    Calls Try.prog 35 #[x.v (.slice A n1 c), y.v (.slice B n2 c')] w fun e w' => e = .returned (.bool (sameP x y l m)) ∧ Later w w' := by
  obtain ⟨R, hR⟩ : ∃ R, sameP x y l m = R := ⟨_, rfl⟩
  rw [hR]
  have hr : Hid (R = sameP x y l m) := hid hR.symm
  clear hR
  obtain ⟨hw2, hc⟩ := two_boxes (x.ls (.slice A n1 c)) (y.ls (.slice B n2 c')) 48 w
  have k1 := fun W (h : Later w W) => may_any x y (c := c) (c' := c') (hA.later h) (hB.later h) hn1 hn2 hz1 hz2
  have k2 := fun W (h : Later w W) => eq_texts (c := c) (c' := c') (hA.later h) (hB.later h) hn1 hn2 hz1
  have k3 := fun W => reals_same x.r y.r W
  unfold sameP at hr
  generalize (x.ok l && y.ok m) = o at k1 hr
  generalize decide (l = m) = qt at k2 hr
  generalize (keyR x.r == keyR y.r) = qr at k3 hr
  go_enter Try.func35, Try.ntmps35
  go_upto_region 1 with fail
  generalize (w.alloc (.cells (x.ls (.slice A n1 c)).toArray 48)).alloc (.cells (y.ls (.slice B n2 c')).toArray 48) = W2 at hc hw2 ⊢
  have hcc : ∀ V, Later W2 V → (V.cell? ⟨w.heap.size, 0, none⟩ = some (.int .i64 x.kind) ∧ V.cell? ⟨w.heap.size, 1, none⟩ = some (.bool x.b) ∧ V.cell? ⟨w.heap.size, 2, none⟩ = some (.int .i64 x.i) ∧ V.cell? ⟨w.heap.size, 3, none⟩ = some (.float .f32 x.r) ∧ V.cell? ⟨w.heap.size, 4, none⟩ = some (.string x.text) ∧ V.cell? ⟨w.heap.size, 5, none⟩ = some (.slice A n1 c)) ∧ (V.cell? ⟨w.heap.size + 1, 0, none⟩ = some (.int .i64 y.kind) ∧ V.cell? ⟨w.heap.size + 1, 1, none⟩ = some (.bool y.b) ∧ V.cell? ⟨w.heap.size + 1, 2, none⟩ = some (.int .i64 y.i) ∧ V.cell? ⟨w.heap.size + 1, 3, none⟩ = some (.float .f32 y.r) ∧ V.cell? ⟨w.heap.size + 1, 4, none⟩ = some (.string y.text) ∧ V.cell? ⟨w.heap.size + 1, 5, none⟩ = some (.slice B n2 c')) := fun V l =>
    ⟨⟨(hc V l).1 0 _ rfl, (hc V l).1 1 _ rfl, (hc V l).1 2 _ rfl, (hc V l).1 3 _ rfl, (hc V l).1 4 _ rfl, (hc V l).1 5 _ rfl⟩, ⟨(hc V l).2 0 _ rfl, (hc V l).2 1 _ rfl, (hc V l).2 2 _ rfl, (hc V l).2 3 _ rfl, (hc V l).2 4 _ rfl, (hc V l).2 5 _ rfl⟩⟩
  clear hc
  obtain ⟨⟨p0, p1, p2, p3, p4, p5⟩, ⟨q0, q1, q2, q3, q4, q5⟩⟩ := hcc W2 (Later.refl _)
  cases o with
  | false =>
    have hr2 : Hid (R = false) := hid (by rw [hr.out]; rfl)
    clear hr
    go_wp2_with (go_at_call 42; (with_reducible refine (k1 _ hw2).mono ?_); rintro e w3 ⟨rfl, l3⟩)
    go_ret
    exact ⟨by rw [hr2.out]; rfl, hw2.next l3⟩
  | true =>
    by_cases hk : x.kind = y.kind
    · have hk1 : (x.kind != y.kind) = false := by simp [hk]
      replace hk := hid hk
      go_upto_region 3 with (go_at_call 42; (with_reducible refine (k1 _ hw2).mono ?_); rintro e w3 ⟨rfl, l3⟩; obtain ⟨⟨s0, s1, s2, s3, s4, s5⟩, ⟨t0, t1, t2, t3, t4, t5⟩⟩ := hcc _ l3)
      clear p0 p1 p2 p3 p4 p5 q0 q1 q2 q3 q4 q5 hcc k1
      have hr2 : Hid (R = (if x.kind = 1 then x.b == y.b else if x.kind = 2 then x.i == y.i else if x.kind = 3 then qr else if x.kind = 4 then x.text.toList == y.text.toList else qt)) := hid (by rw [hr.out, hk.out]; simp)
      clear hr hk hk1 t0
      by_cases e1 : x.kind = 1
      · have g1 : (x.kind == 1) = true := by simp [e1]
        have hr3 : Hid (R = (x.b == y.b)) := hid (by rw [hr2.out, if_pos e1])
        clear hr2
        replace e1 := hid e1
        go_wp2_with fail
        go_ret
        exact ⟨by rw [hr3.out]; rfl, hw2.next l3⟩
      · have g1 : (x.kind == 1) = false := by simp [e1]
        by_cases e2 : x.kind = 2
        · have g2 : (x.kind == 2) = true := by simp [e2]
          have hr3 : Hid (R = (x.i == y.i)) := hid (by rw [hr2.out, if_neg e1, if_pos e2])
          clear hr2
          replace e1 := hid e1
          replace e2 := hid e2
          go_wp2_with fail
          go_ret
          exact ⟨by rw [hr3.out]; rfl, hw2.next l3⟩
        · have g2 : (x.kind == 2) = false := by simp [e2]
          by_cases e3 : x.kind = 3
          · have g3 : (x.kind == 3) = true := by simp [e3]
            have hr3 : Hid (R = qr) := hid (by rw [hr2.out, if_neg e1, if_neg e2, if_pos e3])
            clear hr2
            replace e1 := hid e1
            replace e2 := hid e2
            replace e3 := hid e3
            go_wp2_with (go_at_call 43; (with_reducible refine (k3 _).mono ?_); rintro e w4 ⟨rfl, rfl⟩)
            go_ret
            exact ⟨by rw [hr3.out]; rfl, hw2.next l3⟩
          · have g3 : (x.kind == 3) = false := by simp [e3]
            by_cases e4 : x.kind = 4
            · have g4 : (x.kind == 4) = true := by simp [e4]
              have hr3 : Hid (R = (x.text.toList == y.text.toList)) := hid (by rw [hr2.out, if_neg e1, if_neg e2, if_neg e3, if_pos e4])
              clear hr2
              replace e1 := hid e1
              replace e2 := hid e2
              replace e3 := hid e3
              replace e4 := hid e4
              go_wp2_with fail
              go_ret
              exact ⟨by rw [hr3.out]; rfl, hw2.next l3⟩
            · have g4 : (x.kind == 4) = false := by simp [e4]
              have hr3 : Hid (R = qt) := hid (by rw [hr2.out, if_neg e1, if_neg e2, if_neg e3, if_neg e4])
              clear hr2
              replace e1 := hid e1
              replace e2 := hid e2
              replace e3 := hid e3
              replace e4 := hid e4
              go_wp2_with (go_at_call 44; (with_reducible refine (k2 _ (hw2.next l3)).mono ?_); rintro e w4 ⟨rfl, l4⟩)
              go_ret
              exact ⟨by rw [hr3.out]; rfl, (hw2.next l3).next l4⟩
    · have hk1 : (x.kind != y.kind) = true := by simp [hk]
      have hr2 : Hid (R = false) := hid (by rw [hr.out]; simp [hk])
      clear hr
      replace hk := hid hk
      go_wp2_with (go_at_call 42; (with_reducible refine (k1 _ hw2).mono ?_); rintro e w3 ⟨rfl, l3⟩; obtain ⟨⟨s0, s1, s2, s3, s4, s5⟩, ⟨t0, t1, t2, t3, t4, t5⟩⟩ := hcc _ l3)
      go_ret
      exact ⟨by rw [hr2.out]; rfl, hw2.next l3⟩
end Go.Proofs.Ytdifabacbhfbbaa.Tu
