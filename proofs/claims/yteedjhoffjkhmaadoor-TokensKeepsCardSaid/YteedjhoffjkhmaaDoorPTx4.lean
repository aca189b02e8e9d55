import Derived.Test.YteedjhoffjkhmaaDoorPTx0
import Derived.Test.YteedjhoffjkhmaaDoorPTx3
namespace Go.Proofs.YteedjhoffjkhmaaDoor.PT
open Go.RowKit Go.Proofs.YteedjhoffjkhmaaDoorW.PrintWords Go.Proofs.YteedjhoffjkhmaaDoorW.PrintLast Go.Proofs.YteedjhoffjkhmaaDoorW.PrintMore
attribute [local go_sem] max2_int min2_int max_two min_two max_three min_three max_four min_four
set_option linter.unusedVariables false
set_option linter.unusedSimpArgs false
def tokens_word.f (a0 : ByteArray) : Option (Bool) := if a0.toList = ([116, 121, 112, 101] : List UInt8) then (some true) else (if a0.toList = ([114, 101, 108, 97, 116, 105, 111, 110] : List UInt8) then (some true) else (if a0.toList = ([99, 111, 110, 100] : List UInt8) then (some true) else (if a0.toList = ([111, 114] : List UInt8) then (some true) else (if a0.toList = ([97, 110, 100] : List UInt8) then (some true) else (if a0.toList = ([110, 111, 116] : List UInt8) then (some true) else (if a0.toList = ([102, 114, 111, 109] : List UInt8) then (some true) else (if a0.toList = ([119, 105, 116, 104] : List UInt8) then (some true) else (if a0.toList = ([105, 110] : List UInt8) then (some true) else (if a0.toList = ([116, 114, 117, 101] : List UInt8) then (some true) else (if a0.toList = ([102, 97, 108, 115, 101] : List UInt8) then (some true) else (if a0.toList = ([110, 97, 110] : List UInt8) then (some true) else (if a0.toList = ([105, 110, 102] : List UInt8) then (some true) else (some false)))))))))))))
set_option maxHeartbeats 8000000 in
set_option maxRecDepth 100000 in
theorem tokens_word.calls (a0 : ByteArray) (r : Bool) (w : World) (h : tokens_word.f a0 = some r) :
  Calls Tryd.prog 47 #[.string a0] w fun e w' => e = .returned (.bool r) ∧ Drawn0 w w' := by
 have H : (if a0.toList = ([116, 121, 112, 101] : List UInt8) then (some true) else (if a0.toList = ([114, 101, 108, 97, 116, 105, 111, 110] : List UInt8) then (some true) else (if a0.toList = ([99, 111, 110, 100] : List UInt8) then (some true) else (if a0.toList = ([111, 114] : List UInt8) then (some true) else (if a0.toList = ([97, 110, 100] : List UInt8) then (some true) else (if a0.toList = ([110, 111, 116] : List UInt8) then (some true) else (if a0.toList = ([102, 114, 111, 109] : List UInt8) then (some true) else (if a0.toList = ([119, 105, 116, 104] : List UInt8) then (some true) else (if a0.toList = ([105, 110] : List UInt8) then (some true) else (if a0.toList = ([116, 114, 117, 101] : List UInt8) then (some true) else (if a0.toList = ([102, 97, 108, 115, 101] : List UInt8) then (some true) else (if a0.toList = ([110, 97, 110] : List UInt8) then (some true) else (if a0.toList = ([105, 110, 102] : List UInt8) then (some true) else (some false)))))))))))))) = some r := h
 clear h
 by_cases c2 : a0.toList = ([116, 121, 112, 101] : List UInt8)
 ·
  rw [if_pos c2] at H
  have c2b0 : (a0.toList == ([116, 121, 112, 101] : List UInt8)) = true := beq_iff_eq.mpr c2
  have c2b1 : (a0.toList != ([116, 121, 112, 101] : List UInt8)) = false := bne_eq_false_iff_eq.mpr c2
  clear c2
  obtain rfl := Option.some.inj H
  go_enter Tryd.func47, Tryd.ntmps47
  go_wp2
  go_ret
  exact ⟨by first | rfl | (simp; done) | (simp [*]; done), g1q⟩
 ·
  rw [if_neg c2] at H
  have c2b0 : (a0.toList == ([116, 121, 112, 101] : List UInt8)) = false := beq_eq_false_iff_ne.mpr c2
  have c2b1 : (a0.toList != ([116, 121, 112, 101] : List UInt8)) = true := bne_iff_ne.mpr c2
  by_cases c3 : a0.toList = ([114, 101, 108, 97, 116, 105, 111, 110] : List UInt8)
  ·
   rw [if_pos c3] at H
   have c3b0 : (a0.toList == ([114, 101, 108, 97, 116, 105, 111, 110] : List UInt8)) = true := beq_iff_eq.mpr c3
   have c3b1 : (a0.toList != ([114, 101, 108, 97, 116, 105, 111, 110] : List UInt8)) = false := bne_eq_false_iff_eq.mpr c3
   clear c3
   obtain rfl := Option.some.inj H
   go_enter Tryd.func47, Tryd.ntmps47
   go_wp2
   go_ret
   exact ⟨by first | rfl | (simp; done) | (simp [*]; done), g1q⟩
  ·
   rw [if_neg c3] at H
   have c3b0 : (a0.toList == ([114, 101, 108, 97, 116, 105, 111, 110] : List UInt8)) = false := beq_eq_false_iff_ne.mpr c3
   have c3b1 : (a0.toList != ([114, 101, 108, 97, 116, 105, 111, 110] : List UInt8)) = true := bne_iff_ne.mpr c3
   by_cases c4 : a0.toList = ([99, 111, 110, 100] : List UInt8)
   ·
    rw [if_pos c4] at H
    have c4b0 : (a0.toList == ([99, 111, 110, 100] : List UInt8)) = true := beq_iff_eq.mpr c4
    have c4b1 : (a0.toList != ([99, 111, 110, 100] : List UInt8)) = false := bne_eq_false_iff_eq.mpr c4
    clear c4
    obtain rfl := Option.some.inj H
    go_enter Tryd.func47, Tryd.ntmps47
    go_wp2
    go_ret
    exact ⟨by first | rfl | (simp; done) | (simp [*]; done), g1q⟩
   ·
    rw [if_neg c4] at H
    have c4b0 : (a0.toList == ([99, 111, 110, 100] : List UInt8)) = false := beq_eq_false_iff_ne.mpr c4
    have c4b1 : (a0.toList != ([99, 111, 110, 100] : List UInt8)) = true := bne_iff_ne.mpr c4
    by_cases c5 : a0.toList = ([111, 114] : List UInt8)
    ·
     rw [if_pos c5] at H
     have c5b0 : (a0.toList == ([111, 114] : List UInt8)) = true := beq_iff_eq.mpr c5
     have c5b1 : (a0.toList != ([111, 114] : List UInt8)) = false := bne_eq_false_iff_eq.mpr c5
     clear c5
     obtain rfl := Option.some.inj H
     go_enter Tryd.func47, Tryd.ntmps47
     go_wp2
     go_ret
     exact ⟨by first | rfl | (simp; done) | (simp [*]; done), g1q⟩
    ·
     rw [if_neg c5] at H
     have c5b0 : (a0.toList == ([111, 114] : List UInt8)) = false := beq_eq_false_iff_ne.mpr c5
     have c5b1 : (a0.toList != ([111, 114] : List UInt8)) = true := bne_iff_ne.mpr c5
     by_cases c6 : a0.toList = ([97, 110, 100] : List UInt8)
     ·
      rw [if_pos c6] at H
      have c6b0 : (a0.toList == ([97, 110, 100] : List UInt8)) = true := beq_iff_eq.mpr c6
      have c6b1 : (a0.toList != ([97, 110, 100] : List UInt8)) = false := bne_eq_false_iff_eq.mpr c6
      clear c6
      obtain rfl := Option.some.inj H
      go_enter Tryd.func47, Tryd.ntmps47
      go_wp2
      go_ret
      exact ⟨by first | rfl | (simp; done) | (simp [*]; done), g1q⟩
     ·
      rw [if_neg c6] at H
      have c6b0 : (a0.toList == ([97, 110, 100] : List UInt8)) = false := beq_eq_false_iff_ne.mpr c6
      have c6b1 : (a0.toList != ([97, 110, 100] : List UInt8)) = true := bne_iff_ne.mpr c6
      by_cases c7 : a0.toList = ([110, 111, 116] : List UInt8)
      ·
       rw [if_pos c7] at H
       have c7b0 : (a0.toList == ([110, 111, 116] : List UInt8)) = true := beq_iff_eq.mpr c7
       have c7b1 : (a0.toList != ([110, 111, 116] : List UInt8)) = false := bne_eq_false_iff_eq.mpr c7
       clear c7
       obtain rfl := Option.some.inj H
       go_enter Tryd.func47, Tryd.ntmps47
       go_wp2
       go_ret
       exact ⟨by first | rfl | (simp; done) | (simp [*]; done), g1q⟩
      ·
       rw [if_neg c7] at H
       have c7b0 : (a0.toList == ([110, 111, 116] : List UInt8)) = false := beq_eq_false_iff_ne.mpr c7
       have c7b1 : (a0.toList != ([110, 111, 116] : List UInt8)) = true := bne_iff_ne.mpr c7
       by_cases c8 : a0.toList = ([102, 114, 111, 109] : List UInt8)
       ·
        rw [if_pos c8] at H
        have c8b0 : (a0.toList == ([102, 114, 111, 109] : List UInt8)) = true := beq_iff_eq.mpr c8
        have c8b1 : (a0.toList != ([102, 114, 111, 109] : List UInt8)) = false := bne_eq_false_iff_eq.mpr c8
        clear c8
        obtain rfl := Option.some.inj H
        go_enter Tryd.func47, Tryd.ntmps47
        go_wp2
        go_ret
        exact ⟨by first | rfl | (simp; done) | (simp [*]; done), g1q⟩
       ·
        rw [if_neg c8] at H
        have c8b0 : (a0.toList == ([102, 114, 111, 109] : List UInt8)) = false := beq_eq_false_iff_ne.mpr c8
        have c8b1 : (a0.toList != ([102, 114, 111, 109] : List UInt8)) = true := bne_iff_ne.mpr c8
        by_cases c9 : a0.toList = ([119, 105, 116, 104] : List UInt8)
        ·
         rw [if_pos c9] at H
         have c9b0 : (a0.toList == ([119, 105, 116, 104] : List UInt8)) = true := beq_iff_eq.mpr c9
         have c9b1 : (a0.toList != ([119, 105, 116, 104] : List UInt8)) = false := bne_eq_false_iff_eq.mpr c9
         clear c9
         obtain rfl := Option.some.inj H
         go_enter Tryd.func47, Tryd.ntmps47
         go_wp2
         go_ret
         exact ⟨by first | rfl | (simp; done) | (simp [*]; done), g1q⟩
        ·
         rw [if_neg c9] at H
         have c9b0 : (a0.toList == ([119, 105, 116, 104] : List UInt8)) = false := beq_eq_false_iff_ne.mpr c9
         have c9b1 : (a0.toList != ([119, 105, 116, 104] : List UInt8)) = true := bne_iff_ne.mpr c9
         by_cases c10 : a0.toList = ([105, 110] : List UInt8)
         ·
          rw [if_pos c10] at H
          have c10b0 : (a0.toList == ([105, 110] : List UInt8)) = true := beq_iff_eq.mpr c10
          have c10b1 : (a0.toList != ([105, 110] : List UInt8)) = false := bne_eq_false_iff_eq.mpr c10
          clear c10
          obtain rfl := Option.some.inj H
          go_enter Tryd.func47, Tryd.ntmps47
          go_wp2
          go_ret
          exact ⟨by first | rfl | (simp; done) | (simp [*]; done), g1q⟩
         ·
          rw [if_neg c10] at H
          have c10b0 : (a0.toList == ([105, 110] : List UInt8)) = false := beq_eq_false_iff_ne.mpr c10
          have c10b1 : (a0.toList != ([105, 110] : List UInt8)) = true := bne_iff_ne.mpr c10
          by_cases c11 : a0.toList = ([116, 114, 117, 101] : List UInt8)
          ·
           rw [if_pos c11] at H
           have c11b0 : (a0.toList == ([116, 114, 117, 101] : List UInt8)) = true := beq_iff_eq.mpr c11
           have c11b1 : (a0.toList != ([116, 114, 117, 101] : List UInt8)) = false := bne_eq_false_iff_eq.mpr c11
           clear c11
           obtain rfl := Option.some.inj H
           go_enter Tryd.func47, Tryd.ntmps47
           go_wp2
           go_ret
           exact ⟨by first | rfl | (simp; done) | (simp [*]; done), g1q⟩
          ·
           rw [if_neg c11] at H
           have c11b0 : (a0.toList == ([116, 114, 117, 101] : List UInt8)) = false := beq_eq_false_iff_ne.mpr c11
           have c11b1 : (a0.toList != ([116, 114, 117, 101] : List UInt8)) = true := bne_iff_ne.mpr c11
           by_cases c12 : a0.toList = ([102, 97, 108, 115, 101] : List UInt8)
           ·
            rw [if_pos c12] at H
            have c12b0 : (a0.toList == ([102, 97, 108, 115, 101] : List UInt8)) = true := beq_iff_eq.mpr c12
            have c12b1 : (a0.toList != ([102, 97, 108, 115, 101] : List UInt8)) = false := bne_eq_false_iff_eq.mpr c12
            clear c12
            obtain rfl := Option.some.inj H
            go_enter Tryd.func47, Tryd.ntmps47
            go_wp2
            go_ret
            exact ⟨by first | rfl | (simp; done) | (simp [*]; done), g1q⟩
           ·
            rw [if_neg c12] at H
            have c12b0 : (a0.toList == ([102, 97, 108, 115, 101] : List UInt8)) = false := beq_eq_false_iff_ne.mpr c12
            have c12b1 : (a0.toList != ([102, 97, 108, 115, 101] : List UInt8)) = true := bne_iff_ne.mpr c12
            by_cases c13 : a0.toList = ([110, 97, 110] : List UInt8)
            ·
             rw [if_pos c13] at H
             have c13b0 : (a0.toList == ([110, 97, 110] : List UInt8)) = true := beq_iff_eq.mpr c13
             have c13b1 : (a0.toList != ([110, 97, 110] : List UInt8)) = false := bne_eq_false_iff_eq.mpr c13
             clear c13
             obtain rfl := Option.some.inj H
             go_enter Tryd.func47, Tryd.ntmps47
             go_wp2
             go_ret
             exact ⟨by first | rfl | (simp; done) | (simp [*]; done), g1q⟩
            ·
             rw [if_neg c13] at H
             have c13b0 : (a0.toList == ([110, 97, 110] : List UInt8)) = false := beq_eq_false_iff_ne.mpr c13
             have c13b1 : (a0.toList != ([110, 97, 110] : List UInt8)) = true := bne_iff_ne.mpr c13
             by_cases c14 : a0.toList = ([105, 110, 102] : List UInt8)
             ·
              rw [if_pos c14] at H
              have c14b0 : (a0.toList == ([105, 110, 102] : List UInt8)) = true := beq_iff_eq.mpr c14
              have c14b1 : (a0.toList != ([105, 110, 102] : List UInt8)) = false := bne_eq_false_iff_eq.mpr c14
              clear c14
              obtain rfl := Option.some.inj H
              go_enter Tryd.func47, Tryd.ntmps47
              go_wp2
              go_ret
              exact ⟨by first | rfl | (simp; done) | (simp [*]; done), g1q⟩
             ·
              rw [if_neg c14] at H
              have c14b0 : (a0.toList == ([105, 110, 102] : List UInt8)) = false := beq_eq_false_iff_ne.mpr c14
              have c14b1 : (a0.toList != ([105, 110, 102] : List UInt8)) = true := bne_iff_ne.mpr c14
              obtain rfl := Option.some.inj H
              go_enter Tryd.func47, Tryd.ntmps47
              go_wp2
              go_ret
              exact ⟨by first | rfl | (simp; done) | (simp [*]; done), g1q⟩
def tokens_digits.f (a0 : ByteArray) : Option Int := some (digN a0)
set_option maxHeartbeats 2000000 in
set_option maxRecDepth 100000 in
theorem tokens_digits.calls (a0 : ByteArray) (r : Int) (w : World) (h : tokens_digits.f a0 = some r) :
  Calls Tryd.prog 69 #[.string a0] w fun e w' => e = .returned (.int .i64 r) ∧ Below w.heap.size w w' := by
 have hr : (digN a0 : Int) = r := Option.some.inj h
 clear h
 have HR := Lib.hid hr
 clear hr
 go_enter Tryd.func69, Tryd.ntmps69
 go_wp2
 go_loopw [] (fun w' => ∃ pos : Nat, w'.heap[w.heap.size]? = some (.stringIter a0 pos) ∧ Below w.heap.size w w' ∧ pos ≤ a0.size ∧ Hid (∀ i, i < pos → ∃ x, a0.data.toList[i]? = some x ∧ digB x = true)) (fun w' => a0.size - w'.iterPos w.heap.size)
 case atStart => exact ⟨0, World.iter_heap w a0 0, (Below.refl _ _).alloc (Nat.le_refl _) _, Nat.zero_le _, Lib.hid (fun i hi => by omega)⟩
 case round =>
  obtain ⟨pos, hit0, hb, hle, hall⟩ := hrel
  have hit := Lib.hid hit0
  clear hit0
  by_cases hp : pos < a0.size
  ·
   have hnx : ∀ ty, (Instr.next (.pointer (some ⟨w.heap.size, 0, none⟩)) true ty).run Tryd.prog wr = _ := fun ty => Lib.run_next_any_at wr w.heap.size a0 pos ty hit.out hp
   by_cases hd : digB (a0[pos]'hp) = true
   ·
    have hru : 48 ≤ (Utf8.decode a0 pos).1 ∧ (Utf8.decode a0 pos).1 ≤ 57 ∧ (Utf8.decode a0 pos).2 = 1 := by
     simp only [digB, Bool.and_eq_true, decide_eq_true_eq] at hd
     rcases rune_at a0 pos hp with ⟨h1, h2⟩ | ⟨h1, _⟩
     ·
      rw [h2]; exact ⟨hd.1, hd.2, rfl⟩
     ·
      omega
    have hall2 : Hid (∀ i, i < pos + 1 → ∃ x, a0.data.toList[i]? = some x ∧ digB x = true) := Lib.hid (fun i hi => by
     by_cases hi2 : i < pos
     ·
      exact hall.out i hi2
     ·
      obtain rfl : i = pos := by omega
      exact ⟨_, bytes_at a0 i hp, hd⟩)
    obtain ⟨hr0, hr1, hw1⟩ := hru
    have HW := Lib.hid hw1
    clear hw1 hall hd
    have hdt := Lib.hid (digit_true (a := ((Utf8.decode a0 pos).1 : Int)) (by omega) (by omega))
    go_wp2_with (go_at_call 61; (with_reducible refine (tokens_digit.calls _ true _ hdt.out).mono ?_); rintro e w' ⟨rfl, ⟨nd, rfl⟩⟩)
    go_roundw
    case rel => exact ⟨pos + 1, by rw [drewN_heap, ← HW.out]; exact Lib.iterAt_heap _ _ _ _ _ hit.out, below_drewN' (Lib.below_iterAt hb (Nat.le_refl _) _ _) _, by omega, hall2⟩
    case measure =>
     rw [iterPos_of hit.out, iterPos_of (w := ((wr.iterAt w.heap.size a0 (pos + (Utf8.decode a0 pos).2)).drewN nd)) (p := pos + 1) (by rw [drewN_heap, ← HW.out]; exact Lib.iterAt_heap _ _ _ _ _ hit.out)]
     omega
   ·
    have hd2 : digB (a0[pos]'hp) = false := by simpa using hd
    have hn : (digN a0 : Nat) = pos := takeWhile_stop digB _ pos hall.out (fun x hx => by rw [bytes_at a0 pos hp] at hx; cases hx; exact hd2)
    have HN : Hid ((pos : Int) = r) := Lib.hid (by rw [← HR.out, hn])
    have hru : ¬ (48 ≤ ((Utf8.decode a0 pos).1 : Int) ∧ ((Utf8.decode a0 pos).1 : Int) ≤ 57) := by
     simp only [digB, Bool.and_eq_true, decide_eq_true_eq] at hd
     rcases rune_at a0 pos hp with ⟨h1, h2⟩ | ⟨_, h1, _⟩
     ·
      rw [h2]; intro ⟨u1, u2⟩; exact hd ⟨Int.ofNat_le.mp u1, Int.ofNat_le.mp u2⟩
     ·
      omega
    have hdf := Lib.hid (digit_false hru)
    clear hn hd hd2 hru
    go_wp2_with (go_at_call 61; (with_reducible refine (tokens_digit.calls _ false _ hdf.out).mono ?_); rintro e w' ⟨rfl, ⟨nd, rfl⟩⟩)
    go_ret
    exact ⟨by rw [HN.out]; rfl, below_drewN' (Lib.below_iterAt hb (Nat.le_refl _) _ _) _⟩
  ·
   have hnx : ∀ ty, (Instr.next (.pointer (some ⟨w.heap.size, 0, none⟩)) true ty).run Tryd.prog wr = _ := fun ty => Lib.run_next_end_at wr w.heap.size a0 pos ty hit.out hp
   have hn : (digN a0 : Nat) = a0.size := takeWhile_stop digB _ _ (fun i hi => hall.out i (by omega)) (fun x hx => by rw [bytes_none a0 a0.size (by omega)] at hx; cases hx)
   have HN : Hid ((a0.size : Int) = r) := Lib.hid (by rw [← HR.out, hn])
   clear hn
   go_wp2
   go_ret
   exact ⟨by rw [HN.out]; rfl, hb⟩
def dl (L : List UInt8) : Nat := (L.takeWhile digB).length
theorem dl_le (L : List UInt8) : dl L ≤ L.length := by
 unfold dl
 exact (List.takeWhile_sublist _).length_le
theorem dl_drop_le (L : List UInt8) (n : Nat) (h : n ≤ L.length) : n + dl (L.drop n) ≤ L.length := by
 have := dl_le (L.drop n)
 rw [List.length_drop] at this
 omega
theorem digN_tail (s : ByteArray) (n : Nat) : digN (s.extract n s.size) = dl (s.data.toList.drop n) := by
 unfold digN dl
 rw [Lib.extract_to_end]
def smallB (c : UInt8) : Bool := decide (97 ≤ c.toNat) && decide (c.toNat ≤ 122)
def numEnd (L : List UInt8) (n : Nat) : Bool := match L[n]? with
 | none => true
 | some c => !(smallB c) && !(c.toNat == 95)
def numF (L : List UInt8) : Nat × Nat × Bool :=
 if L[dl L]? = some 46 then
  (if dl (L.drop (dl L + 1)) = 0 then (dl L + 1, 4, false) else
   if L[dl L + (1 + dl (L.drop (dl L + 1)))]? = some 101 then
    (if L[dl L + (1 + dl (L.drop (dl L + 1))) + 1]? = some 45 then
     (if dl (L.drop (dl L + (1 + dl (L.drop (dl L + 1))) + 1 + 1)) = 0 then (dl L + (1 + dl (L.drop (dl L + 1))) + 1 + 1, 4, false)
      else (dl L + (1 + dl (L.drop (dl L + 1))) + 1 + 1 + dl (L.drop (dl L + (1 + dl (L.drop (dl L + 1))) + 1 + 1)), 4, numEnd L (dl L + (1 + dl (L.drop (dl L + 1))) + 1 + 1 + dl (L.drop (dl L + (1 + dl (L.drop (dl L + 1))) + 1 + 1)))))
    else
     (if dl (L.drop (dl L + (1 + dl (L.drop (dl L + 1))) + 1)) = 0 then (dl L + (1 + dl (L.drop (dl L + 1))) + 1, 4, false)
      else (dl L + (1 + dl (L.drop (dl L + 1))) + 1 + dl (L.drop (dl L + (1 + dl (L.drop (dl L + 1))) + 1)), 4, numEnd L (dl L + (1 + dl (L.drop (dl L + 1))) + 1 + dl (L.drop (dl L + (1 + dl (L.drop (dl L + 1))) + 1))))))
   else (dl L + (1 + dl (L.drop (dl L + 1))), 4, numEnd L (dl L + (1 + dl (L.drop (dl L + 1))))))
 else (dl L, 3, numEnd L (dl L))
def tokens_number.f (a0 : ByteArray) : Option (Int × Int × Bool) :=
 if a0.size ≤ 140737488351232 then some (((numF a0.data.toList).1 : Int), ((numF a0.data.toList).2.1 : Int), (numF a0.data.toList).2.2) else none
theorem small_quiet {a : Int} {r : Bool} (h : tokens_small.f a = some r) (w : World) (n : Nat) : Calls Tryd.prog 68 #[.int .i32 a] (w.drewN n) fun e w' => e = .returned (.bool r) ∧ ∃ m, w' = w.drewN m :=
 Calls.quiet_of ((tokens_small.calls a r _ h).mono fun e w' ⟨he, ⟨m, hm⟩⟩ => ⟨he, m, hm⟩)
theorem numEnd_size {a0 : ByteArray} : numEnd a0.data.toList a0.size = true := by
 unfold numEnd
 rw [bytes_none a0 a0.size (by omega)]
theorem numEnd_at {a0 : ByteArray} {n : Nat} (h : n < a0.size) : numEnd a0.data.toList n = (!(smallB (a0[n]'h)) && !((a0[n]'h).toNat == 95)) := by
 unfold numEnd
 rw [bytes_at a0 n h]
theorem at_eq {a0 : ByteArray} {n : Nat} {c : UInt8} (h : n < a0.size) (hc : (a0[n]'h).toNat = c.toNat) : a0.data.toList[n]? = some c := by
 rw [bytes_at a0 n h, UInt8.toNat_inj.mp hc]
theorem at_out {a0 : ByteArray} {n : Nat} {c : UInt8} (h : ¬ n < a0.size) : ¬ a0.data.toList[n]? = some c := by
 rw [bytes_none a0 n h]
 simp
set_option maxHeartbeats 8000000 in
set_option maxRecDepth 100000 in
theorem tokens_number.calls (a0 : ByteArray) (r1 : Int) (r2 : Int) (r3 : Bool) (w : World) (h : tokens_number.f a0 = some (r1, r2, r3)) :
  Calls Tryd.prog 48 #[.string a0] w fun e w' => e = .returned (.tuple #[.int .i64 r1, .int .i64 r2, .bool r3]) ∧ Below w.heap.size w w' := by
 have hsz : a0.size ≤ 140737488351232 := by
  unfold tokens_number.f at h
  split at h
  ·
   assumption
  ·
   cases h
 have hr : (((numF a0.data.toList).1 : Int), ((numF a0.data.toList).2.1 : Int), (numF a0.data.toList).2.2) = (r1, r2, r3) := by
  unfold tokens_number.f at h
  rw [if_pos hsz] at h
  exact Option.some.inj h
 clear h
 simp only [Prod.mk.injEq] at hr
 have HR : Hid ((((numF a0.data.toList).1 : Nat) : Int) = r1 ∧ (((numF a0.data.toList).2.1 : Nat) : Int) = r2 ∧ (numF a0.data.toList).2.2 = r3) := Lib.hid hr
 clear hr
 have hl := len_toList a0
 have hd := dl_le a0.data.toList
 have hk := dl_drop_le a0.data.toList (dl a0.data.toList + 1)
 have hk2 := dl_drop_le a0.data.toList (dl a0.data.toList + (1 + dl (a0.data.toList.drop (dl a0.data.toList + 1))) + 1)
 have hk3 := dl_drop_le a0.data.toList (dl a0.data.toList + (1 + dl (a0.data.toList.drop (dl a0.data.toList + 1))) + 1 + 1)
 rw [hl] at hd hk hk2 hk3
 clear hl
 unfold numF at HR
 have c0 : ∀ w1, Calls Tryd.prog 69 #[.string a0] w1 fun e w' => e = .returned (.int .i64 (dl a0.data.toList : Nat)) ∧ Below w1.heap.size w1 w' := fun w1 => tokens_digits.calls _ _ _ rfl
 have c1 : ∀ n w1, Calls Tryd.prog 69 #[.string (a0.extract n a0.size)] w1 fun e w' => e = .returned (.int .i64 (dl (a0.data.toList.drop n) : Nat)) ∧ Below w1.heap.size w1 w' := fun n w1 => by rw [← digN_tail]; exact tokens_digits.calls _ _ _ rfl
 have C0 := Lib.hid c0
 have C1 := Lib.hid (c1 (dl a0.data.toList + 1))
 have C2 := Lib.hid (c1 (dl a0.data.toList + (1 + dl (a0.data.toList.drop (dl a0.data.toList + 1))) + 1))
 have C3 := Lib.hid (c1 (dl a0.data.toList + (1 + dl (a0.data.toList.drop (dl a0.data.toList + 1))) + 1 + 1))
 clear c0 c1
 generalize hD : dl a0.data.toList = d at *
 generalize hK : dl (a0.data.toList.drop (d + 1)) = k at *
 generalize hK2 : dl (a0.data.toList.drop (d + (1 + k) + 1)) = k2 at *
 generalize hK3 : dl (a0.data.toList.drop (d + (1 + k) + 1 + 1)) = k3 at *
 have HD := Lib.hid (And.intro hD (And.intro hK (And.intro hK2 hK3)))
 clear hD hK hK2 hK3
 by_cases hd0 : d < a0.size
 ·
  go_enter Tryd.func48, Tryd.ntmps48
  go_upto_if 19 with (go_at_call 69; (with_reducible refine (C0.out _).mono ?_); rintro e w1 ⟨rfl, hb1⟩)
  go_cut [5, 6] (fun s5 s6 wx => ∃ n kd : Nat, s5 = .int .i64 n ∧ s6 = .int .i64 kd ∧ n ≤ a0.size ∧ Hid (((n : Nat) : Int) = r1 ∧ ((kd : Nat) : Int) = r2 ∧ numEnd a0.data.toList n = r3) ∧ Below w.heap.size w wx)
  case first =>
   by_cases p0 : a0.data.toList[d]? = some 46
   ·
    obtain ⟨hn0, hc0⟩ := byte_of p0
    have q0 : ((((a0[d]'hn0).toNat : Nat) : Int) == 46) = true := by rw [hc0]; rfl
    have HR1 := HR
    rw [if_pos p0] at HR1
    clear hc0 HR
    by_cases k0 : k = 0
    ·
     have qk : ((k : Int) == 0) = true := by simp; omega
     rw [if_pos k0] at HR1
     go_wp2_with ((go_at_call 69; first | ((with_reducible refine (C1.out _).mono ?_); rintro e w2 ⟨rfl, hb2⟩) | ((with_reducible refine (C3.out _).mono ?_); rintro e w3 ⟨rfl, hb3⟩) | ((with_reducible refine (C2.out _).mono ?_); rintro e w3 ⟨rfl, hb3⟩)))
     go_ret3
     exact ⟨by rw [← HR1.out.1, ← HR1.out.2.1, ← HR1.out.2.2]; subst k0; rfl, hb1.trans (hb2.mono hb1.size)⟩
    ·
     have qk : ((k : Int) == 0) = false := by simp; omega
     rw [if_neg k0] at HR1
     by_cases p1 : a0.data.toList[d + (1 + k)]? = some 101
     ·
      obtain ⟨hn1, hc1⟩ := byte_of p1
      have q1 : ((((a0[d + (1 + k)]'hn1).toNat : Nat) : Int) == 101) = true := by rw [hc1]; rfl
      rw [if_pos p1] at HR1
      clear hc1
      by_cases p2 : a0.data.toList[d + (1 + k) + 1]? = some 45
      ·
       obtain ⟨hn2, hc2⟩ := byte_of p2
       have q2 : ((((a0[d + (1 + k) + 1]'hn2).toNat : Nat) : Int) == 45) = true := by rw [hc2]; rfl
       rw [if_pos p2] at HR1
       clear hc2
       by_cases z : k3 = 0
       ·
        have qz : ((k3 : Int) == 0) = true := by simp; omega
        rw [if_pos z] at HR1
        go_wp2_with ((go_at_call 69; first | ((with_reducible refine (C1.out _).mono ?_); rintro e w2 ⟨rfl, hb2⟩) | ((with_reducible refine (C3.out _).mono ?_); rintro e w3 ⟨rfl, hb3⟩) | ((with_reducible refine (C2.out _).mono ?_); rintro e w3 ⟨rfl, hb3⟩)))
        go_ret3
        exact ⟨by rw [← HR1.out.1, ← HR1.out.2.1, ← HR1.out.2.2]; subst z; rfl, (hb1.trans (hb2.mono hb1.size)).trans (hb3.mono (hb1.trans (hb2.mono hb1.size)).size)⟩
       ·
        have qz : ((k3 : Int) == 0) = false := by simp; omega
        rw [if_neg z] at HR1
        go_wp2_with ((go_at_call 69; first | ((with_reducible refine (C1.out _).mono ?_); rintro e w2 ⟨rfl, hb2⟩) | ((with_reducible refine (C3.out _).mono ?_); rintro e w3 ⟨rfl, hb3⟩) | ((with_reducible refine (C2.out _).mono ?_); rintro e w3 ⟨rfl, hb3⟩)))
        go_meet
        exact ⟨d + (1 + k) + 1 + 1 + k3, 4, by go_num, rfl, by omega, HR1, (hb1.trans (hb2.mono hb1.size)).trans (hb3.mono (hb1.trans (hb2.mono hb1.size)).size)⟩
      ·
       rw [if_neg p2] at HR1
       by_cases h2 : d + (1 + k) + 1 < a0.size
       ·
        have q2 : ((((a0[d + (1 + k) + 1]'h2).toNat : Nat) : Int) == 45) = false := by
         have : (a0[d + (1 + k) + 1]'h2).toNat ≠ 45 := fun e => p2 (at_eq (c := 45) h2 e)
         simp
         omega
        by_cases z : k2 = 0
        ·
         have qz : ((k2 : Int) == 0) = true := by simp; omega
         rw [if_pos z] at HR1
         go_wp2_with ((go_at_call 69; first | ((with_reducible refine (C1.out _).mono ?_); rintro e w2 ⟨rfl, hb2⟩) | ((with_reducible refine (C3.out _).mono ?_); rintro e w3 ⟨rfl, hb3⟩) | ((with_reducible refine (C2.out _).mono ?_); rintro e w3 ⟨rfl, hb3⟩)))
         go_ret3
         exact ⟨by rw [← HR1.out.1, ← HR1.out.2.1, ← HR1.out.2.2]; subst z; rfl, (hb1.trans (hb2.mono hb1.size)).trans (hb3.mono (hb1.trans (hb2.mono hb1.size)).size)⟩
        ·
         have qz : ((k2 : Int) == 0) = false := by simp; omega
         rw [if_neg z] at HR1
         go_wp2_with ((go_at_call 69; first | ((with_reducible refine (C1.out _).mono ?_); rintro e w2 ⟨rfl, hb2⟩) | ((with_reducible refine (C3.out _).mono ?_); rintro e w3 ⟨rfl, hb3⟩) | ((with_reducible refine (C2.out _).mono ?_); rintro e w3 ⟨rfl, hb3⟩)))
         go_meet
         exact ⟨d + (1 + k) + 1 + k2, 4, by go_num, rfl, by omega, HR1, (hb1.trans (hb2.mono hb1.size)).trans (hb3.mono (hb1.trans (hb2.mono hb1.size)).size)⟩
       ·
        have zz : k2 = 0 := by omega
        have qz : ((k2 : Int) == 0) = true := by simp; omega
        rw [if_pos zz] at HR1
        go_wp2_with ((go_at_call 69; first | ((with_reducible refine (C1.out _).mono ?_); rintro e w2 ⟨rfl, hb2⟩) | ((with_reducible refine (C3.out _).mono ?_); rintro e w3 ⟨rfl, hb3⟩) | ((with_reducible refine (C2.out _).mono ?_); rintro e w3 ⟨rfl, hb3⟩)))
        go_ret3
        exact ⟨by rw [← HR1.out.1, ← HR1.out.2.1, ← HR1.out.2.2]; subst zz; rfl, (hb1.trans (hb2.mono hb1.size)).trans (hb3.mono (hb1.trans (hb2.mono hb1.size)).size)⟩
     ·
      rw [if_neg p1] at HR1
      by_cases h1 : d + (1 + k) < a0.size
      ·
       have q1 : ((((a0[d + (1 + k)]'h1).toNat : Nat) : Int) == 101) = false := by
        have : (a0[d + (1 + k)]'h1).toNat ≠ 101 := fun e => p1 (at_eq (c := 101) h1 e)
        simp
        omega
       go_wp2_with ((go_at_call 69; first | ((with_reducible refine (C1.out _).mono ?_); rintro e w2 ⟨rfl, hb2⟩) | ((with_reducible refine (C3.out _).mono ?_); rintro e w3 ⟨rfl, hb3⟩) | ((with_reducible refine (C2.out _).mono ?_); rintro e w3 ⟨rfl, hb3⟩)))
       go_meet
       exact ⟨d + (1 + k), 4, by go_num, rfl, by omega, HR1, hb1.trans (hb2.mono hb1.size)⟩
      ·
       go_wp2_with ((go_at_call 69; first | ((with_reducible refine (C1.out _).mono ?_); rintro e w2 ⟨rfl, hb2⟩) | ((with_reducible refine (C3.out _).mono ?_); rintro e w3 ⟨rfl, hb3⟩) | ((with_reducible refine (C2.out _).mono ?_); rintro e w3 ⟨rfl, hb3⟩)))
       go_meet
       exact ⟨d + (1 + k), 4, by go_num, rfl, by omega, HR1, hb1.trans (hb2.mono hb1.size)⟩
   ·
    have HR1 : Hid (((d : Nat) : Int) = r1 ∧ ((3 : Nat) : Int) = r2 ∧ numEnd a0.data.toList d = r3) := by
     rw [if_neg p0] at HR
     exact HR
    have q0 : ((((a0[d]'hd0).toNat : Nat) : Int) == 46) = false := by
     have : (a0[d]'hd0).toNat ≠ 46 := fun e => p0 (at_eq (c := 46) hd0 e)
     simp
     omega
    go_wp2
    go_meet
    exact ⟨d, 3, rfl, rfl, hd, HR1, hb1⟩
  case rest =>
   obtain ⟨n, kd, rfl, rfl, hn, HE, hb⟩ := hcut
   by_cases hlt : n < a0.size
   ·
    have hne : ((n : Int) == (a0.size : Int)) = false := by simp; omega
    have he := numEnd_at hlt
    cases hs : smallB (a0[n]'hlt)
    ·
     have h1 : tokens_small.f (wrap32 (((a0[n]'hlt).toNat : Nat) : Int)) = some false := small_false (by
      have := (a0[n]'hlt).toNat_lt
      simp only [smallB, Bool.and_eq_false_iff, decide_eq_false_iff_not] at hs
      unfold wrap32
      omega)
     have H1 := Lib.hid h1
     by_cases h95 : (a0[n]'hlt).toNat = 95
     ·
      have q95 : ((((a0[n]'hlt).toNat : Nat) : Int) != 95) = false := by rw [h95]; rfl
      have HE2 : Hid (numEnd a0.data.toList n = false) := Lib.hid (by rw [he, hs, h95]; rfl)
      clear he h1 hs h95
      go_wp2
      go_big_quiet ((go_at_call 68; exact small_quiet H1.out _ _))
      go_wp2
      go_ret3
      exact ⟨by rw [← HE.out.1, ← HE.out.2.1, ← HE.out.2.2, HE2.out]; rfl, below_drewN' hb _⟩
     ·
      have q95 : ((((a0[n]'hlt).toNat : Nat) : Int) != 95) = true := by simp; omega
      have HE2 : Hid (numEnd a0.data.toList n = true) := Lib.hid (by rw [he, hs]; simpa using h95)
      clear he h1 hs h95
      go_wp2
      go_big_quiet ((go_at_call 68; exact small_quiet H1.out _ _))
      go_wp2
      go_ret3
      exact ⟨by rw [← HE.out.1, ← HE.out.2.1, ← HE.out.2.2, HE2.out]; rfl, below_drewN' hb _⟩
    ·
     have h1 : tokens_small.f (wrap32 (((a0[n]'hlt).toNat : Nat) : Int)) = some true := small_true (by
      simp only [smallB, Bool.and_eq_true, decide_eq_true_eq] at hs
      unfold wrap32
      omega) (by
      simp only [smallB, Bool.and_eq_true, decide_eq_true_eq] at hs
      unfold wrap32
      omega)
     have H1 := Lib.hid h1
     have HE2 : Hid (numEnd a0.data.toList n = false) := Lib.hid (by rw [he, hs]; rfl)
     clear he h1 hs
     go_wp2
     go_big_quiet ((go_at_call 68; exact small_quiet H1.out _ _))
     go_wp2
     go_ret3
     exact ⟨by rw [← HE.out.1, ← HE.out.2.1, ← HE.out.2.2, HE2.out]; rfl, below_drewN' hb _⟩
   ·
    have hne : ((n : Int) == (a0.size : Int)) = true := by simp; omega
    have HE2 : Hid (numEnd a0.data.toList n = true) := Lib.hid (by
     obtain rfl : n = a0.size := by omega
     exact numEnd_size)
    go_wp2
    go_big_quiet ((go_at_call 68; exact small_quiet H1.out _ _))
    go_wp2
    go_ret3
    exact ⟨by rw [← HE.out.1, ← HE.out.2.1, ← HE.out.2.2, HE2.out]; rfl, below_drewN' hb _⟩
 ·
  have p0 : ¬ a0.data.toList[d]? = some 46 := at_out hd0
  have HR1 : Hid (((d : Nat) : Int) = r1 ∧ ((3 : Nat) : Int) = r2 ∧ numEnd a0.data.toList d = r3) := by
   rw [if_neg p0] at HR
   exact HR
  have hne : ((d : Int) == (a0.size : Int)) = true := by simp; omega
  have HE2 : Hid (numEnd a0.data.toList d = true) := Lib.hid (by
   obtain rfl : d = a0.size := by omega
   exact numEnd_size)
  clear p0 HR
  go_enter Tryd.func48, Tryd.ntmps48
  go_wp2_with (go_at_call 69; (with_reducible refine (C0.out _).mono ?_); rintro e w1 ⟨rfl, hb1⟩)
  go_big_quiet ((go_at_call 68; exact small_quiet H1.out _ _))
  go_wp2
  go_ret3
  exact ⟨by rw [← HR1.out.1, ← HR1.out.2.1, ← HR1.out.2.2, HE2.out]; rfl, below_drewN' hb1 _⟩
mutual
def tokens_hex.j0 : Nat → Int → Bool → Option (Int × Bool)
 | 0, _, _ => none
 | k + 1, x0, x4 => if x4 = true then (some ((x0 - 48) % 256, true)) else (if x0 ≥ 97 then (tokens_hex.j1 k x0 (decide (x0 ≤ 102))) else (tokens_hex.j1 k x0 false))
def tokens_hex.j1 : Nat → Int → Bool → Option (Int × Bool)
 | 0, _, _ => none
 | k + 1, x0, x13 => if x13 = true then (some ((((x0 - 97) % 256) + 10) % 256, true)) else (if x0 ≥ 65 then (if x0 ≤ 70 then (some ((((x0 - 65) % 256) + 10) % 256, true)) else (some (0, false))) else (some (0, false)))
end
def tokens_hex.f (k : Nat) (a0 : Int) : Option (Int × Bool) := if a0 ≥ 48 then (tokens_hex.j0 k a0 (decide (a0 ≤ 57))) else (tokens_hex.j0 k a0 false)
theorem tokens_hex.mono_l : ∀ k, (∀ y0 y1, LeO (tokens_hex.j0 k y0 y1) (tokens_hex.j0 (k + 1) y0 y1)) ∧ (∀ y0 y1, LeO (tokens_hex.j1 k y0 y1) (tokens_hex.j1 (k + 1) y0 y1))
 | 0 => ⟨fun _ _ r h => by simp [tokens_hex.j0] at h, fun _ _ r h => by simp [tokens_hex.j1] at h⟩
 | k + 1 => by
  obtain ⟨ih0, ih1⟩ := tokens_hex.mono_l k
  refine ⟨?_, ?_⟩
  ·
   intro y0 y1
   unfold tokens_hex.j0
   repeat' first
   | (with_reducible exact ih0 _ _)
   | (with_reducible exact ih1 _ _)
   | (with_reducible exact LeO.refl _)
   | (with_reducible exact LeO.none _)
   | (with_reducible refine LeO.ite ?_ ?_)
   | (with_reducible refine LeO.bind ?_ (fun _ => ?_))
   | exact ih0 _ _
   | exact ih1 _ _
   | exact LeO.none _
   | refine LeO.ite ?_ ?_
   | refine LeO.bind ?_ (fun _ => ?_)
  ·
   intro y0 y1
   unfold tokens_hex.j1
   repeat' first
   | (with_reducible exact ih0 _ _)
   | (with_reducible exact ih1 _ _)
   | (with_reducible exact LeO.refl _)
   | (with_reducible exact LeO.none _)
   | (with_reducible refine LeO.ite ?_ ?_)
   | (with_reducible refine LeO.bind ?_ (fun _ => ?_))
   | exact ih0 _ _
   | exact ih1 _ _
   | exact LeO.none _
   | refine LeO.ite ?_ ?_
   | refine LeO.bind ?_ (fun _ => ?_)
theorem tokens_hex.mono : ∀ a0 k, LeO (tokens_hex.f k a0) (tokens_hex.f (k + 1) a0) := by
 intro a0 k
 obtain ⟨ih0, ih1⟩ := tokens_hex.mono_l k
 unfold tokens_hex.f
 repeat' first
   | (with_reducible exact ih0 _ _)
   | (with_reducible exact ih1 _ _)
   | (with_reducible exact LeO.refl _)
   | (with_reducible exact LeO.none _)
   | (with_reducible refine LeO.ite ?_ ?_)
   | (with_reducible refine LeO.bind ?_ (fun _ => ?_))
   | exact ih0 _ _
   | exact ih1 _ _
   | exact LeO.none _
   | refine LeO.ite ?_ ?_
   | refine LeO.bind ?_ (fun _ => ?_)
set_option maxHeartbeats 8000000 in
set_option maxRecDepth 100000 in
theorem tokens_hex.calls (k : Nat) (a0 : Int) (r1 : Int) (r2 : Bool) (w : World) (h : tokens_hex.f k a0 = some (r1, r2)) :
  Calls Tryd.prog 80 #[.int .u8 a0] w fun e w' => e = .returned (.tuple #[.int .u8 r1, .bool r2]) ∧ Drawn0 w w' := by
 have H : (if a0 ≥ 48 then (tokens_hex.j0 k a0 (decide (a0 ≤ 57))) else (tokens_hex.j0 k a0 false)) = some (r1, r2) := h
 clear h
 have HC2 := Aside0.mk H
 clear H
 go_enter Tryd.func80, Tryd.ntmps80
 go_upto_region 1 with (fail)
 go_cut [4] (fun v4 wc => ∃ (kq : Nat) (x4_1 : Bool), v4 = .bool x4_1 ∧ Aside0 (tokens_hex.j0 kq a0 x4_1 = some (r1, r2)) ∧ Aside0 (kq ≤ k) ∧ Drawn0 w wc)
 case first =>
  have H := HC2.out
  clear HC2
  by_cases c3 : a0 ≥ 48
  ·
   rw [if_pos c3] at H
   have c3b0 : decide (48 ≤ a0) = true := decide_eq_true c3
   clear c3
   (first | rw [c3b0] | (simp only [i64_w, i32_w]; rw [c3b0]) | skip)
   have H' := Aside0.mk H
   clear H
   go_wp2
   go_meet
   case rel => exact ⟨_, (decide (a0 ≤ 57)), (by first | rfl | (simp; done) | (simp [*]; done)), H', ⟨by first | omega | exact Nat.le_refl _⟩, g1q⟩
  ·
   rw [if_neg c3] at H
   have c3b0 : decide (48 ≤ a0) = false := decide_eq_false c3
   clear c3
   (first | rw [c3b0] | (simp only [i64_w, i32_w]; rw [c3b0]) | skip)
   have H' := Aside0.mk H
   clear H
   go_wp2
   go_meet
   case rel => exact ⟨_, (false), (by first | rfl | (simp; done) | (simp [*]; done)), H', ⟨by first | omega | exact Nat.le_refl _⟩, g1q⟩
 case rest =>
  clear HC2
  (try clear p2); (try clear c3); (try clear c3b0)
  obtain ⟨kq, x4_1, rfl, HA, HJ1, ⟨mc1, rfl⟩⟩ := hcut
  cases kq with
  | zero => exact absurd HA.out (by simp [tokens_hex.j0])
  | succ kj1 =>
   have H := HA.out
   clear HA
   simp only [tokens_hex.j0] at H
   by_cases c4 : x4_1 = true
   ·
    subst c4
    have H1 : (some ((a0 - 48) % 256, true)) = some (r1, r2) := by rw [if_pos rfl] at H; exact H
    clear H
    have H := H1
    clear H1
    simp only [Option.some.injEq, Prod.mk.injEq] at H
    obtain ⟨rfl, rfl⟩ := H
    go_wp2
    go_ret2
    exact ⟨by first | rfl | (simp; done) | (simp [*]; done), g1q⟩
   ·
    replace c4 := Bool.eq_false_iff.mpr c4
    subst c4
    have H1 : (if a0 ≥ 97 then (tokens_hex.j1 kj1 a0 (decide (a0 ≤ 102))) else (tokens_hex.j1 kj1 a0 false)) = some (r1, r2) := by rw [if_neg (show ¬ (false = true) by decide)] at H; exact H
    clear H
    have H := H1
    clear H1
    have HC5 := Aside0.mk H
    clear H
    go_upto_region 3 with (fail)
    go_cut [13] (fun v13 wc => ∃ (kq : Nat) (x13_4 : Bool), v13 = .bool x13_4 ∧ Aside0 (tokens_hex.j1 kq a0 x13_4 = some (r1, r2)) ∧ Aside0 (kq ≤ kj1) ∧ Drawn0 w wc)
    case first =>
     have H := HC5.out
     clear HC5
     by_cases c6 : a0 ≥ 97
     ·
      rw [if_pos c6] at H
      have c6b0 : decide (97 ≤ a0) = true := decide_eq_true c6
      clear c6
      (first | rw [c6b0] | (simp only [i64_w, i32_w]; rw [c6b0]) | skip)
      have H' := Aside0.mk H
      clear H
      go_wp2
      go_meet
      case rel => exact ⟨_, (decide (a0 ≤ 102)), (by first | rfl | (simp; done) | (simp [*]; done)), H', ⟨by have := HJ1.out; first | omega | exact Nat.le_refl _⟩, g1q⟩
     ·
      rw [if_neg c6] at H
      have c6b0 : decide (97 ≤ a0) = false := decide_eq_false c6
      clear c6
      (first | rw [c6b0] | (simp only [i64_w, i32_w]; rw [c6b0]) | skip)
      have H' := Aside0.mk H
      clear H
      go_wp2
      go_meet
      case rel => exact ⟨_, (false), (by first | rfl | (simp; done) | (simp [*]; done)), H', ⟨by have := HJ1.out; first | omega | exact Nat.le_refl _⟩, g1q⟩
    case rest =>
     clear HC5
     (try clear c1); (try clear p2); (try clear c3); (try clear c3b0); (try clear c4); (try clear c6); (try clear c6b0); (try clear p2)
     obtain ⟨kq, x13_4, rfl, HA, HJ4, ⟨mc4, rfl⟩⟩ := hcut
     cases kq with
     | zero => exact absurd HA.out (by simp [tokens_hex.j1])
     | succ kj4 =>
      have H := HA.out
      clear HA
      simp only [tokens_hex.j1] at H
      by_cases c7 : x13_4 = true
      ·
       subst c7
       have H1 : (some ((((a0 - 97) % 256) + 10) % 256, true)) = some (r1, r2) := by rw [if_pos rfl] at H; exact H
       clear H
       have H := H1
       clear H1
       simp only [Option.some.injEq, Prod.mk.injEq] at H
       obtain ⟨rfl, rfl⟩ := H
       go_wp2
       go_ret2
       exact ⟨by first | rfl | (simp; done) | (simp [*]; done), g1q⟩
      ·
       replace c7 := Bool.eq_false_iff.mpr c7
       subst c7
       have H1 : (if a0 ≥ 65 then (if a0 ≤ 70 then (some ((((a0 - 65) % 256) + 10) % 256, true)) else (some (0, false))) else (some (0, false))) = some (r1, r2) := by rw [if_neg (show ¬ (false = true) by decide)] at H; exact H
       clear H
       have H := H1
       clear H1
       by_cases c8 : a0 ≥ 65
       ·
        rw [if_pos c8] at H
        have c8b0 : decide (65 ≤ a0) = true := decide_eq_true c8
        clear c8
        by_cases c9 : a0 ≤ 70
        ·
         rw [if_pos c9] at H
         have c9b0 : decide (a0 ≤ 70) = true := decide_eq_true c9
         clear c9
         simp only [Option.some.injEq, Prod.mk.injEq] at H
         obtain ⟨rfl, rfl⟩ := H
         go_wp2
         go_ret2
         exact ⟨by first | rfl | (simp; done) | (simp [*]; done), g1q⟩
        ·
         rw [if_neg c9] at H
         have c9b0 : decide (a0 ≤ 70) = false := decide_eq_false c9
         clear c9
         simp only [Option.some.injEq, Prod.mk.injEq] at H
         obtain ⟨rfl, rfl⟩ := H
         go_wp2
         go_ret2
         exact ⟨by first | rfl | (simp; done) | (simp [*]; done), g1q⟩
       ·
        rw [if_neg c8] at H
        have c8b0 : decide (65 ≤ a0) = false := decide_eq_false c8
        clear c8
        simp only [Option.some.injEq, Prod.mk.injEq] at H
        obtain ⟨rfl, rfl⟩ := H
        go_wp2
        go_ret2
        exact ⟨by first | rfl | (simp; done) | (simp [*]; done), g1q⟩
end Go.Proofs.YteedjhoffjkhmaaDoor.PT
