import Derived.Test.YtdifabacbhfbbaaTzd
import Derived.Laws.StructEq
namespace Go.Proofs.Ytdifabacbhfbbaa.Tu
open Go.RowKit Go.Lib Go.Proofs
set_option linter.unusedVariables false
set_option linter.unusedSimpArgs false
theorem eq27 (a b c d : ByteArray) (w : World) : (binOp .eql 27 (.agg #[.string a, .string b]) (.agg #[.string c, .string d])).run Try.prog w = .ok (.bool (a.toList == c.toList && b.toList == d.toList)) w := by
  simp [go_sem]
  by_cases h1 : a.toList = c.toList <;> by_cases h2 : b.toList = d.toList <;> simp [h1, h2]
theorem eq23 (a b c d e f : ByteArray) (w : World) : (binOp .eql 23 (.agg #[.string a, .string b, .string c]) (.agg #[.string d, .string e, .string f])).run Try.prog w = .ok (.bool (a.toList == d.toList && b.toList == e.toList && c.toList == f.toList)) w := by
  simp [go_sem]
  by_cases h1 : a.toList = d.toList <;> by_cases h2 : b.toList = e.toList <;> by_cases h3 : c.toList = f.toList <;> simp [h1, h2, h3]
def sameT (x y : TupV) (s : Bool) : Bool := (x.t0.toList == y.t0.toList && x.t1.toList == y.t1.toList) && ((x.t2.toList == y.t2.toList) && ((x.t3.toList == y.t3.toList && x.t4.toList == y.t4.toList && x.t5.toList == y.t5.toList) && ((x.t6.toList == y.t6.toList) && s)))
set_option maxHeartbeats 8000000 in
set_option maxRecDepth 100000 in
theorem sametup_any (x y : TupV) {L M : List Arg} {w : World} {A B : Option Addr} {n m c c' : Nat} (hA : ArgsAt w A L) (hB : ArgsAt w B M) (hn : L.length = n) (hm : M.length = m) (hz : n ≤ 2000000000000) :
    Calls Try.prog 10 #[x.v (.slice A n c), y.v (.slice B m c')] w fun e w' => e = .returned (.bool (sameT x y (allA L M))) ∧ Later w w' := by
  obtain ⟨R, hR⟩ : ∃ R, sameT x y (allA L M) = R := ⟨_, rfl⟩
  rw [hR]
  have hr : Hid (R = sameT x y (allA L M)) := hid hR.symm
  clear hR
  obtain ⟨hw2, hc⟩ := two_tuples x y (.slice A n c) (.slice B m c') w
  have k1 := fun W (h : Later w W) => sameargs_any (c := c) (c' := c') (hA.later h) (hB.later h) hn hm hz
  have e1 := fun W => eq27 x.t0 x.t1 y.t0 y.t1 W
  have e2 := fun W => eq23 x.t3 x.t4 x.t5 y.t3 y.t4 y.t5 W
  unfold sameT at hr
  generalize allA L M = o at k1 hr
  generalize (x.t0.toList == y.t0.toList && x.t1.toList == y.t1.toList) = b1 at e1 hr
  generalize (x.t3.toList == y.t3.toList && x.t4.toList == y.t4.toList && x.t5.toList == y.t5.toList) = b3 at e2 hr
  go_enter Try.func10, Try.ntmps10
  go_upto_region 1 with fail
  generalize (w.alloc (x.o (.slice A n c))).alloc (y.o (.slice B m c')) = W2 at hc hw2 ⊢
  obtain ⟨⟨p0, p1, p2, p3, p4, p5, p6, p7⟩, ⟨q0, q1, q2, q3, q4, q5, q6, q7⟩⟩ := hc W2 (Later.refl _)
  clear hc
  cases b1 with
  | false =>
    have hr2 : Hid (R = false) := hid (by rw [hr.out]; simp)
    clear hr
    go_wp2_with fail
    go_ret
    exact ⟨by rw [hr2.out]; rfl, hw2⟩
  | true =>
    cases g2 : (x.t2.toList == y.t2.toList) with
    | false =>
      have hr2 : Hid (R = false) := hid (by rw [hr.out, g2]; simp)
      clear hr
      go_wp2_with fail
      go_ret
      exact ⟨by rw [hr2.out]; rfl, hw2⟩
    | true =>
      cases b3 with
      | false =>
        have hr2 : Hid (R = false) := hid (by rw [hr.out, g2]; simp)
        clear hr
        go_wp2_with fail
        go_ret
        exact ⟨by rw [hr2.out]; rfl, hw2⟩
      | true =>
        cases g6 : (x.t6.toList == y.t6.toList) with
        | false =>
          have hr2 : Hid (R = false) := hid (by rw [hr.out, g2, g6]; simp)
          clear hr
          go_wp2_with fail
          go_ret
          exact ⟨by rw [hr2.out]; rfl, hw2⟩
        | true =>
          have hr2 : Hid (R = o) := hid (by rw [hr.out, g2, g6]; simp)
          clear hr
          go_wp2_with (go_at_call 20; (with_reducible refine (k1 _ hw2).mono ?_); rintro e w3 ⟨rfl, l3⟩)
          go_ret
          exact ⟨by rw [hr2.out]; rfl, hw2.next l3⟩
set_option maxHeartbeats 8000000 in
set_option maxRecDepth 100000 in
theorem sametup_ref (x y : TupV) {L M : List Arg} {w : World} {A B : Option Addr} {n m c c' : Nat} (hL : ∀ a ∈ L, a.x.r < 4294967296) (hM : ∀ a ∈ M, a.x.r < 4294967296) (hA : ArgsAt w A L) (hB : ArgsAt w B M) (hn : L.length = n) (hm : M.length = m) (hz : n ≤ 2000000000000) :
    Calls Try.prog 13 #[x.v (.slice A n c), y.v (.slice B m c')] w fun e w' => e = .returned (.bool (sameT x y (allA L M))) ∧ Later w w' := by
  obtain ⟨R, hR⟩ : ∃ R, sameT x y (allA L M) = R := ⟨_, rfl⟩
  rw [hR]
  have hr : Hid (R = sameT x y (allA L M)) := hid hR.symm
  clear hR
  obtain ⟨hw2, hc⟩ := two_tuples x y (.slice A n c) (.slice B m c') w
  have k1 := fun W (h : Later w W) => sameargs_ref (c := c) (c' := c') hL hM (hA.later h) (hB.later h) hn hm hz
  have e1 := fun W => eq27 x.t0 x.t1 y.t0 y.t1 W
  have e2 := fun W => eq23 x.t3 x.t4 x.t5 y.t3 y.t4 y.t5 W
  unfold sameT at hr
  generalize allA L M = o at k1 hr
  generalize (x.t0.toList == y.t0.toList && x.t1.toList == y.t1.toList) = b1 at e1 hr
  generalize (x.t3.toList == y.t3.toList && x.t4.toList == y.t4.toList && x.t5.toList == y.t5.toList) = b3 at e2 hr
  go_enter Try.func13, Try.ntmps13
  go_upto_region 1 with fail
  generalize (w.alloc (x.o (.slice A n c))).alloc (y.o (.slice B m c')) = W2 at hc hw2 ⊢
  obtain ⟨⟨p0, p1, p2, p3, p4, p5, p6, p7⟩, ⟨q0, q1, q2, q3, q4, q5, q6, q7⟩⟩ := hc W2 (Later.refl _)
  clear hc
  cases b1 with
  | false =>
    have hr2 : Hid (R = false) := hid (by rw [hr.out]; simp)
    clear hr
    go_wp2_with fail
    go_ret
    exact ⟨by rw [hr2.out]; rfl, hw2⟩
  | true =>
    cases g2 : (x.t2.toList == y.t2.toList) with
    | false =>
      have hr2 : Hid (R = false) := hid (by rw [hr.out, g2]; simp)
      clear hr
      go_wp2_with fail
      go_ret
      exact ⟨by rw [hr2.out]; rfl, hw2⟩
    | true =>
      cases b3 with
      | false =>
        have hr2 : Hid (R = false) := hid (by rw [hr.out, g2]; simp)
        clear hr
        go_wp2_with fail
        go_ret
        exact ⟨by rw [hr2.out]; rfl, hw2⟩
      | true =>
        cases g6 : (x.t6.toList == y.t6.toList) with
        | false =>
          have hr2 : Hid (R = false) := hid (by rw [hr.out, g2, g6]; simp)
          clear hr
          go_wp2_with fail
          go_ret
          exact ⟨by rw [hr2.out]; rfl, hw2⟩
        | true =>
          have hr2 : Hid (R = o) := hid (by rw [hr.out, g2, g6]; simp)
          clear hr
          go_wp2_with (go_at_call 25; (with_reducible refine (k1 _ hw2).mono ?_); rintro e w3 ⟨rfl, l3⟩)
          go_ret
          exact ⟨by rw [hr2.out]; rfl, hw2.next l3⟩
end Go.Proofs.Ytdifabacbhfbbaa.Tu
