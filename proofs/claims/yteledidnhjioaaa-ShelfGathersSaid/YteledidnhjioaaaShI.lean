import Derived.Test.YteledidnhjioaaaShH
namespace Go.Proofs.Yteledidnhjioaaa.Sh
open Go.RowKit Go.Lib Go.Proofs
set_option linter.unusedVariables false
set_option linter.unusedSimpArgs false
def nthV (T : Tr (Int × Int)) (i : Int) : Option (Int × Int) := if i < 0 then none else T.nth i.toNat
theorem nth_none (T : Tr (Int × Int)) (i : Nat) (h : T.size ≤ i) : T.nth i = none := by
  rw [nth_list, List.getElem?_eq_none]; rw [Tr.size_list]; exact h
set_option maxRecDepth 100000 in
set_option maxHeartbeats 8000000 in
theorem nth_out {X : Nat → Prop} {c : Nat} (i : Int) {w : World} {sb : Nat} {T : Tr (Int × Int)} (h : Shf X w sb c T) (hi : i < 0 ∨ (T.size : Int) ≤ i) :
    Calls Try.prog 33 #[.pointer (some ⟨sb, 0, none⟩), .int .i64 i] w fun e w' => e = .returned (opt none) ∧ Later w w' := by
  have how := Own2.new w (.int .i64 0) (.int .i64 0)
  have hB := Later.two (W := w) (x := .int .i64 0) (y := .int .i64 0) (t := 27)
  have hlen := len_any (h.later hB)
  obtain ⟨W0, hW0⟩ : ∃ W0, w.alloc (.cells #[.int .i64 0, .int .i64 0] 27) = W0 := ⟨_, rfl⟩
  obtain ⟨N, hN⟩ : ∃ N, w.heap.size = N := ⟨_, rfl⟩
  rw [hW0] at how hB hlen
  rw [hN] at how
  have hwa : ∀ o, (W0.alloc o).cell? ⟨N, 0, none⟩ = some (val (W0.alloc o) N 0) ∧ (W0.alloc o).cell? ⟨N, 1, none⟩ = some (val (W0.alloc o) N 1) ∧ (W0.alloc o).frozen? ⟨N, 0, none⟩ = false ∧ (W0.alloc o).frozen? ⟨N, 1, none⟩ = false := fun o => (how.below ((Later.refl W0).alloc o)).cells
  have h2 := how.below ((Later.refl W0).alloc (.cells #[.int .i64 0, .int .i64 0] 27))
  obtain ⟨hf0, hf1⟩ := own2_both h2 (.int .i64 0) (.int .i64 0)
  have hlf : Later w (((W0.alloc (.cells #[.int .i64 0, .int .i64 0] 27)).setCell ⟨N, 0, none⟩ (.int .i64 0)).setCell ⟨N, 1, none⟩ (.int .i64 0)) := Below.setCell (Below.setCell (hB.alloc _) (p := ⟨N, 0, none⟩) (by simp; omega) _) (p := ⟨N, 1, none⟩) (by simp; omega) _
  obtain ⟨Wf, hWf⟩ : ∃ Wf, ((W0.alloc (.cells #[.int .i64 0, .int .i64 0] 27)).setCell ⟨N, 0, none⟩ (.int .i64 0)).setCell ⟨N, 1, none⟩ (.int .i64 0) = Wf := ⟨_, rfl⟩
  rw [hWf] at hf0 hf1 hlf
  have HW := hid hWf
  clear hWf h2
  by_cases hi0 : i < 0
  · clear hi
    go_enter Try.func33, Try.ntmps33
    go_wp2_with (go_at_call 26; (with_reducible refine hlen.mono ?_); rintro e w' ⟨rfl, rfl⟩)
    rw [HW.out]
    refine bodyPost_ret (v := .tuple #[.agg #[.int .i64 0, .int .i64 0], .bool false]) (by simp [results, Try.results33, go_sem, hf0, hf1]) rfl ?_
    exact ⟨rfl, hlf⟩
  · have hi1 : (T.size : Int) ≤ i := by omega
    clear hi
    go_enter Try.func33, Try.ntmps33
    go_wp2_with (go_at_call 26; (with_reducible refine hlen.mono ?_); rintro e w' ⟨rfl, rfl⟩)
    rw [HW.out]
    refine bodyPost_ret (v := .tuple #[.agg #[.int .i64 0, .int .i64 0], .bool false]) (by simp [results, Try.results33, go_sem, hf0, hf1]) rfl ?_
    exact ⟨rfl, hlf⟩
set_option maxRecDepth 100000 in
set_option maxHeartbeats 8000000 in
theorem nth_in {X : Nat → Prop} {c : Nat} (i : Nat) {w : World} {sb : Nat} {T : Tr (Int × Int)} (h : Shf X w sb c T) (hi : i < T.size) (hz : T.size ≤ 4611686018427387904) :
    Calls Try.prog 33 #[.pointer (some ⟨sb, 0, none⟩), .int .i64 i] w fun e w' => e = .returned (opt (T.nth i)) ∧ Later w w' := by
  have how := Own2.new w (.int .i64 0) (.int .i64 0)
  have hB := Later.two (W := w) (x := .int .i64 0) (y := .int .i64 0) (t := 27)
  have hlen := len_any (h.later hB)
  obtain ⟨p, hs, ok, ht, hx⟩ := h.later hB
  have hcs := hs.cells
  obtain ⟨W0, hW0⟩ : ∃ W0, w.alloc (.cells #[.int .i64 0, .int .i64 0] 27) = W0 := ⟨_, rfl⟩
  obtain ⟨N, hN⟩ : ∃ N, w.heap.size = N := ⟨_, rfl⟩
  rw [hW0] at how hB hlen hcs ht
  rw [hN] at how
  have hwa := how.cells
  obtain ⟨R, hR⟩ : ∃ R, T.nth i = R := ⟨_, rfl⟩
  rw [hR]
  have HR := hid hR
  clear hR h hs
  have hi' : decide (T.size ≤ i) = false := by simp; omega
  have hi2 : ¬ ((i : Int) < 0) := by omega
  go_enter Try.func33, Try.ntmps33
  go_wp2_with (go_at_call 26; (with_reducible refine hlen.mono ?_); rintro e w' ⟨rfl, rfl⟩)
  go_loopg [1, 6] T.size (fun k u v wr => ∃ (T' : Tr (Int × Int)) (pp : Option Addr) (j : Nat), u = .int .i64 j ∧ v = .pointer pp ∧ IsT ok W0 pp T' ∧ Hid (T'.nth j = R) ∧ W0 = wr ∧ j < T'.size ∧ T'.size ≤ k ∧ T'.size ≤ 4611686018427387904)
  case atStart => exact ⟨T, p, i, rfl, rfl, ht, HR, rfl, hi, Nat.le_refl _, hz⟩
  case round =>
    obtain ⟨T', pp, j, rfl, rfl, ht, hf, rfl, hj, hk, hz⟩ := hrel
    cases T' with
    | leaf => exact absurd hj (by simp [Tr.size])
    | node l y r =>
      obtain ⟨b, pl, pr, rfl, hb, hcn0, hlt0, hrt0⟩ := IsT.node ht
      have hcn := hcn0 _ (Later.refl _)
      have hlt := hlt0 _ (Later.refl _)
      have hrt := hrt0 _ (Later.refl _)
      have hs2 : l.size + r.size + 1 ≤ gk := hk
      have hs3 : j < l.size + r.size + 1 := hj
      have hs4 : l.size + r.size + 1 ≤ 4611686018427387904 := hz
      clear hcn0 hlt0 hrt0 ht hk hj hz
      by_cases h1 : j < l.size
      · have hf' : Hid (l.nth j = R) := hid (by rw [← hf.out]; simp only [Tr.nth]; rw [if_pos h1])
        clear hf HR
        go_wp2_with (go_at_call 62; (with_reducible refine (count_any hlt).mono ?_); rintro e w' ⟨rfl, rfl⟩)
        go_roundg l.size
        case measure => omega
        case rel => exact ⟨l, pl, j, rfl, rfl, hlt, hf', rfl, h1, Nat.le_refl _, by omega⟩
      · by_cases h2 : j = l.size
        · have hf' : Hid (some y = R) := hid (by rw [← hf.out]; simp only [Tr.nth]; rw [if_neg h1, if_pos h2])
          subst h2
          clear hf HR h1
          go_wp2_with (go_at_call 62; (with_reducible refine (count_any hlt).mono ?_); rintro e w' ⟨rfl, rfl⟩)
          obtain ⟨hf0, hf1⟩ := own2_both how (.int .i64 y.1) (.int .i64 y.2)
          have hlf : Later w ((W0.setCell ⟨N, 0, none⟩ (.int .i64 y.1)).setCell ⟨N, 1, none⟩ (.int .i64 y.2)) := Below.setCell (Below.setCell hB (p := ⟨N, 0, none⟩) (by simp; omega) _) (p := ⟨N, 1, none⟩) (by simp; omega) _
          generalize (W0.setCell ⟨N, 0, none⟩ (.int .i64 y.1)).setCell ⟨N, 1, none⟩ (.int .i64 y.2) = Wf at hf0 hf1 hlf ⊢
          refine bodyPost_ret (v := .tuple #[.agg #[.int .i64 y.1, .int .i64 y.2], .bool true]) (by simp [results, Try.results33, go_sem, hf0, hf1]) rfl ?_
          exact ⟨by rw [← hf'.out]; rfl, hlf⟩
        · have hf' : Hid (r.nth (j - l.size - 1) = R) := hid (by rw [← hf.out]; simp only [Tr.nth]; rw [if_neg h1, if_neg h2])
          have h3 : l.size < j := by omega
          clear hf HR h1 h2
          go_wp2_with (go_at_call 62; (with_reducible refine (count_any hlt).mono ?_); rintro e w' ⟨rfl, rfl⟩)
          go_roundg r.size
          case measure => omega
          case rel => exact ⟨r, pr, j - l.size - 1, by congr 1; omega, rfl, hrt, hf', rfl, by omega, Nat.le_refl _, by omega⟩
theorem nth_any {X : Nat → Prop} {c : Nat} (i : Int) {w : World} {sb : Nat} {T : Tr (Int × Int)} (h : Shf X w sb c T) (hz : T.size ≤ 4611686018427387904) :
    Calls Try.prog 33 #[.pointer (some ⟨sb, 0, none⟩), .int .i64 i] w fun e w' => e = .returned (opt (nthV T i)) ∧ Later w w' := by
  unfold nthV
  by_cases h0 : i < 0
  · rw [if_pos h0]; exact nth_out i h (.inl h0)
  · rw [if_neg h0]
    by_cases h1 : (T.size : Int) ≤ i
    · rw [nth_none T _ (by omega)]; exact nth_out i h (.inr h1)
    · obtain ⟨j, rfl⟩ : ∃ j : Nat, i = j := ⟨i.toNat, by omega⟩
      exact nth_in j h (by omega) hz
end Go.Proofs.Yteledidnhjioaaa.Sh
