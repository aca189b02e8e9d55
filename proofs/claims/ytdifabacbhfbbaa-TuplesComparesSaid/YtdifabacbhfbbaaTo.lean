import Derived.Test.YtdifabacbhfbbaaTn
namespace Go.Proofs.Ytdifabacbhfbbaa.Tu
open Go.RowKit Go.Lib Go.Proofs
set_option linter.unusedVariables false
set_option linter.unusedSimpArgs false
/-- two lists of bytes -/
def cmpL (s t : List UInt8) : Int := if Op.bytesLess s t = true then -1 else if (s == t) = true then 0 else 1
theorem cmpL_cons (x y : UInt8) (s t : List UInt8) : cmpL (x :: s) (y :: t) = if x.toNat < y.toNat then -1 else if y.toNat < x.toNat then 1 else cmpL s t := by
  rcases Nat.lt_trichotomy x.toNat y.toNat with h | h | h
  · have h1 : x < y := UInt8.lt_iff_toNat_lt.2 h
    have e : (if x.toNat < y.toNat then (-1 : Int) else if y.toNat < x.toNat then 1 else cmpL s t) = -1 := if_pos h
    rw [e]
    unfold cmpL
    exact if_pos (by simp [Op.bytesLess, h1])
  · obtain rfl : x = y := UInt8.toNat_inj.1 h
    have e1 : ¬ x.toNat < x.toNat := Nat.lt_irrefl _
    have e : (if x.toNat < x.toNat then (-1 : Int) else if x.toNat < x.toNat then 1 else cmpL s t) = cmpL s t := by rw [if_neg e1, if_neg e1]
    rw [e]
    have h1 : ¬ x < x := fun e => e1 (UInt8.lt_iff_toNat_lt.1 e)
    unfold cmpL
    simp [Op.bytesLess, h1]
  · have h0 : ¬ x.toNat < y.toNat := by omega
    have h1 : ¬ x < y := fun e => h0 (UInt8.lt_iff_toNat_lt.1 e)
    have h2 : x ≠ y := fun e => by subst e; omega
    have e : (if x.toNat < y.toNat then (-1 : Int) else if y.toNat < x.toNat then 1 else cmpL s t) = 1 := by rw [if_neg h0, if_pos h]
    rw [e]
    unfold cmpL
    have e3 : Op.bytesLess (x :: s) (y :: t) = false := by
      show (decide (x < y) || (x == y && Op.bytesLess s t)) = false
      rw [decide_eq_false h1, beq_false_of_ne h2]
      rfl
    rw [e3]
    simp [h2]
theorem cmpL_nil (t : List UInt8) : cmpL [] t = if t = [] then 0 else -1 := by
  cases t with
  | nil => rfl
  | cons y t => rfl
theorem cmpL_right (x : UInt8) (s : List UInt8) : cmpL (x :: s) [] = 1 := by
  cases s <;> rfl
theorem drop_byte (a : ByteArray) (k : Nat) (h : k < a.size) : a.toList.drop k = a[k] :: a.toList.drop (k + 1) := by
  rw [Lib.toList_data]
  rw [List.drop_eq_getElem_cons (by rw [Array.length_toList]; exact h)]
  rfl
theorem drop_end (a : ByteArray) : a.toList.drop a.size = [] := by
  rw [Lib.toList_data]
  exact List.drop_eq_nil_of_le (by rw [Array.length_toList]; exact Nat.le_refl _)
set_option maxHeartbeats 8000000 in
set_option maxRecDepth 100000 in
theorem texts_any (a b : ByteArray) (hz : a.size ≤ 4611686018427387904) (w : World) : Calls Try.prog 27 #[.string a, .string b] w fun e w' => e = .returned (.int .i64 (cmpS a b)) ∧ Later w w' := by
  obtain ⟨R, hR⟩ : ∃ R, cmpS a b = R := ⟨_, rfl⟩
  rw [hR]
  have hR0 : Hid (cmpL (a.toList.drop 0) (b.toList.drop 0) = R) := hid (by rw [List.drop_zero, List.drop_zero]; exact hR)
  clear hR
  go_enter Try.func27, Try.ntmps27
  go_wp2_with fail
  go_loopw [5] (fun i wr => ∃ k : Nat, k ≤ a.size ∧ k ≤ b.size ∧ i = .int .i64 k ∧ Hid (cmpL (a.toList.drop k) (b.toList.drop k) = R) ∧ Later w wr) (fun i _ => a.size - (intOf i).toNat)
  case atStart => exact ⟨0, Nat.zero_le _, Nat.zero_le _, rfl, hR0, Later.refl _⟩
  case round =>
    clear hR0
    obtain ⟨k, hk1, hk2, rfl, hk3, lk⟩ := hrel
    by_cases h1 : k < a.size
    · by_cases h2 : k < b.size
      · have hs : Hid ((if a[k].toNat < b[k].toNat then (-1 : Int) else if b[k].toNat < a[k].toNat then 1 else cmpL (a.toList.drop (k + 1)) (b.toList.drop (k + 1))) = R) := hid (by rw [← cmpL_cons, ← drop_byte a k h1, ← drop_byte b k h2]; exact hk3.out)
        clear hk3
        go_upto_region 4 with fail
        go_quiet (fail)
        have lk1 : Later w (wr.drewN nq) := Below.trans lk (below_drewN (Below.refl _ _) _)
        generalize wr.drewN nq = W1 at lk1 ⊢
        by_cases hlt : a[k].toNat < b[k].toNat
        · have hr : Hid (R = -1) := hid (by rw [← hs.out, if_pos hlt])
          clear hs
          go_wp2_with fail
          go_ret
          exact ⟨by rw [hr.out]; rfl, lk1⟩
        · go_upto_region 6 with fail
          go_quiet (fail)
          have lk2 : Later w (W1.drewN nq) := Below.trans lk1 (below_drewN (Below.refl _ _) _)
          generalize W1.drewN nq = W2 at lk2 ⊢
          by_cases hgt : b[k].toNat < a[k].toNat
          · have hr : Hid (R = 1) := hid (by rw [← hs.out, if_neg hlt, if_pos hgt])
            clear hs
            go_wp2_with fail
            go_ret
            exact ⟨by rw [hr.out]; rfl, lk2⟩
          · have hr : Hid (cmpL (a.toList.drop (k + 1)) (b.toList.drop (k + 1)) = R) := hid (by rw [← hs.out, if_neg hlt, if_neg hgt])
            clear hs
            go_wp2_with fail
            go_roundw
            case rel => exact ⟨k + 1, by omega, by omega, by go_num, hr, lk2⟩
            case measure => simp [intOf]; omega
      · obtain rfl : k = b.size := by omega
        have hr : Hid (R = 1) := hid (by
          have := hk3.out
          rw [drop_end, drop_byte a b.size h1, cmpL_right] at this
          exact this.symm)
        clear hk3
        go_wp2_with fail
        go_ret
        exact ⟨by rw [hr.out]; rfl, lk⟩
    · obtain rfl : k = a.size := by omega
      by_cases h2 : a.size < b.size
      · have hr : Hid (R = -1) := hid (by
          have := hk3.out
          rw [drop_end, drop_byte b a.size h2, cmpL_nil] at this
          exact this.symm)
        clear hk3
        go_wp2_with fail
        go_ret
        exact ⟨by rw [hr.out]; rfl, lk⟩
      · have hab : b.size = a.size := by omega
        have hr : Hid (R = 0) := hid (by
          have := hk3.out
          rw [drop_end, ← hab, drop_end, cmpL_nil] at this
          exact this.symm)
        clear hk3
        go_wp2_with fail
        go_ret
        exact ⟨by rw [hr.out]; rfl, lk⟩
abbrev SZ (a : ByteArray) : Prop := a.size ≤ 4611686018427387904
/-- the cells of two boxes of texts -/
theorem two_boxes (vs us : List Value) (t : TypeId) (w : World) : Later w ((w.alloc (.cells vs.toArray t)).alloc (.cells us.toArray t)) ∧ ∀ V, Later ((w.alloc (.cells vs.toArray t)).alloc (.cells us.toArray t)) V →
    (∀ j u, vs[j]? = some u → V.cell? ⟨w.heap.size, j, none⟩ = some u) ∧ (∀ j u, us[j]? = some u → V.cell? ⟨w.heap.size + 1, j, none⟩ = some u) := by
  have a := cells_at w vs t
  have b := cells_at (w.alloc (.cells vs.toArray t)) us t
  have hw1 : Later (w.alloc (.cells vs.toArray t)) ((w.alloc (.cells vs.toArray t)).alloc (.cells us.toArray t)) := (Later.refl _).alloc _
  rw [World.size_alloc] at b
  exact ⟨((Later.refl w).alloc _).next hw1, fun V l => ⟨fun j u h => l.cell (hw1.cell (a j u h)), fun j u h => l.cell (b j u h)⟩⟩
set_option maxHeartbeats 8000000 in
set_option maxRecDepth 100000 in
theorem robj_any (a0 a1 b0 b1 : ByteArray) (z0 : SZ a0) (z1 : SZ a1) (w : World) : Calls Try.prog 26 #[.agg #[.string a0, .string a1], .agg #[.string b0, .string b1]] w fun e w' => e = .returned (.int .i64 (orL [cmpS a0 b0, cmpS a1 b1])) ∧ Later w w' := by
  obtain ⟨hw2, hc⟩ := two_boxes [.string a0, .string a1] [.string b0, .string b1] 27 w
  have c0 := fun W => texts_any a0 b0 z0 W
  have c1 := fun W => texts_any a1 b1 z1 W
  obtain ⟨R, hR⟩ : ∃ R, orL [cmpS a0 b0, cmpS a1 b1] = R := ⟨_, rfl⟩
  rw [hR]
  unfold orL orL orL at hR
  generalize cmpS a0 b0 = x0 at c0 hR
  generalize cmpS a1 b1 = x1 at c1 hR
  go_enter Try.func26, Try.ntmps26
  go_upto_region 1 with fail
  generalize (w.alloc (.cells [Value.string a0, .string a1].toArray 27)).alloc (.cells [Value.string b0, .string b1].toArray 27) = W2 at hc hw2 ⊢
  have hcc : ∀ V, Later W2 V → V.cell? ⟨w.heap.size, 0, none⟩ = some (.string a0) ∧ V.cell? ⟨w.heap.size, 1, none⟩ = some (.string a1) ∧ V.cell? ⟨w.heap.size + 1, 0, none⟩ = some (.string b0) ∧ V.cell? ⟨w.heap.size + 1, 1, none⟩ = some (.string b1) := fun V l => ⟨(hc V l).1 0 _ rfl, (hc V l).1 1 _ rfl, (hc V l).2 0 _ rfl, (hc V l).2 1 _ rfl⟩
  clear hc
  obtain ⟨p0, p1, p2, p3⟩ := hcc W2 (Later.refl _)
  by_cases h0 : x0 = 0
  · have hr : Hid (x1 = R) := hid (by rw [← hR, if_pos h0]; by_cases h1 : x1 = 0 <;> simp [h1])
    subst h0
    clear hR
    go_wp2_with (first
      | (go_at_call 27; (with_reducible refine (c0 _).mono ?_); rintro e w3 ⟨rfl, l3⟩; obtain ⟨q0, q1, q2, q3⟩ := hcc _ l3)
      | (go_at_call 27; (with_reducible refine (c1 _).mono ?_); rintro e w4 ⟨rfl, l4⟩))
    go_ret
    exact ⟨by rw [← hr.out]; rfl, hw2.next (l3.next l4)⟩
  · have hr : Hid (x0 = R) := hid (by rw [← hR, if_neg h0])
    have hb : (x0 == 0) = false := by simp [h0]
    clear hR
    go_wp2_with (first
      | (go_at_call 27; (with_reducible refine (c0 _).mono ?_); rintro e w3 ⟨rfl, l3⟩; obtain ⟨q0, q1, q2, q3⟩ := hcc _ l3))
    go_ret
    exact ⟨by rw [← hr.out]; rfl, hw2.next l3⟩
end Go.Proofs.Ytdifabacbhfbbaa.Tu
