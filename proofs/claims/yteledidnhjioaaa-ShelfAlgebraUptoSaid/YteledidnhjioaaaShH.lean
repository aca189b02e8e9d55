import Derived.Test.YteledidnhjioaaaShG
namespace Go.Proofs.Yteledidnhjioaaa.Sh
open Go.RowKit Go.Lib Go.Proofs
set_option linter.unusedVariables false
set_option linter.unusedSimpArgs false
theorem len_any {X : Nat → Prop} {c : Nat} {w : World} {sb : Nat} {T : Tr (Int × Int)} (h : Shf X w sb c T) :
    Calls Try.prog 26 #[.pointer (some ⟨sb, 0, none⟩)] w fun e w' => e = .returned (.int .i64 T.size) ∧ w = w' := by
  obtain ⟨p, hs, ok, ht, hx⟩ := h
  have hcs := hs.cells
  go_enter Try.func26, Try.ntmps26
  go_wp2_with (go_at_call 62; (with_reducible refine (count_any ht).mono ?_); rintro e w' ⟨rfl, rfl⟩)
  go_ret
  exact ⟨rfl, rfl⟩
theorem len_nil (w : World) : Calls Try.prog 26 #[.pointer none] w fun e w' => e = .returned (.int .i64 0) ∧ w = w' := by
  go_enter Try.func26, Try.ntmps26
  go_wp2
  go_ret
  exact ⟨rfl, rfl⟩
def opt (y : Option (Int × Int)) : Value := .tuple #[.agg #[.int .i64 (y.getD (0, 0)).1, .int .i64 (y.getD (0, 0)).2], .bool y.isSome]
set_option maxRecDepth 100000 in
set_option maxHeartbeats 8000000 in
theorem find_any {X : Nat → Prop} {c : Nat} {f : (Int × Int) → (Int × Int) → Int} (hc : Comp c f) (x : Int × Int) {w : World} {sb : Nat} {T : Tr (Int × Int)} (h : Shf X w sb c T) :
    Calls Try.prog 32 #[.pointer (some ⟨sb, 0, none⟩), .agg #[.int .i64 x.1, .int .i64 x.2]] w fun e w' => e = .returned (opt (T.find f x)) ∧ Later w w' := by
  obtain ⟨p, hs, ok, ht, hx⟩ := h
  have hB : Later w ((w.alloc (.cells #[.int .i64 x.1, .int .i64 x.2] 27)).alloc (.cells #[.int .i64 0, .int .i64 0] 27)) := Later.two.alloc _
  have hxx := two_new w (.int .i64 x.1) (.int .i64 x.2) 27
  have hla := Later.two (W := w.alloc (.cells #[.int .i64 x.1, .int .i64 x.2] 27)) (x := .int .i64 0) (y := .int .i64 0) (t := 27)
  have hxx0 := hla.cell hxx.1
  have hxx1 := hla.cell hxx.2
  have how := Own2.new (w.alloc (.cells #[.int .i64 x.1, .int .i64 x.2] 27)) (.int .i64 0) (.int .i64 0)
  rw [World.size_alloc] at how
  obtain ⟨R, hR⟩ : ∃ R, opt (T.find f x) = R := ⟨_, rfl⟩
  obtain ⟨W0, hW0⟩ : ∃ W0, (w.alloc (.cells #[.int .i64 x.1, .int .i64 x.2] 27)).alloc (.cells #[.int .i64 0, .int .i64 0] 27) = W0 := ⟨_, rfl⟩
  obtain ⟨N, hN⟩ : ∃ N, w.heap.size = N := ⟨_, rfl⟩
  rw [hW0] at hxx0 hxx1 hB how
  rw [hN] at hxx0 hxx1 how
  rw [hR]
  have HR := hid hR
  have hsc : ∀ W', Later W0 W' → W'.cell? ⟨sb, 0, none⟩ = some (.func (.func c) #[] #[]) ∧ W'.cell? ⟨sb, 1, none⟩ = some (.pointer p) := fun W' k => ⟨((hs.later hB).later k).cells.1, ((hs.later hB).later k).cells.2.1⟩
  have hbox : ∀ W', Later W0 W' → W'.cell? ⟨N, 0, none⟩ = some (.int .i64 x.1) ∧ W'.cell? ⟨N, 1, none⟩ = some (.int .i64 x.2) := fun W' k => ⟨k.cell hxx0, k.cell hxx1⟩
  have hen := hc.enters
  have hcc := hc.calls
  have hb0 := Later.refl W0
  have h0 := ht.later hB
  clear hxx hxx0 hxx1 ht hla hR
  go_enter Try.func32, Try.ntmps32
  go_wp2_with fail
  clear hW0
  go_loopg [6] (T.size + 1) (fun k v wr => ∃ T' pp, v = .pointer pp ∧ IsT ok wr pp T' ∧ Hid (T.find f x = T'.find f x) ∧ Later W0 wr ∧ T'.size < k)
  case atStart => exact ⟨T, p, rfl, h0, hid rfl, hb0, Nat.lt_succ_self _⟩
  case round =>
    obtain ⟨T', pp, rfl, ht, hf, hl, hk⟩ := hrel
    cases T' with
    | leaf =>
      obtain rfl : pp = none := ht
      have hre : R = opt none := by rw [← HR.out, hf.out]; rfl
      have hwa : ∀ o, (wr.alloc o).cell? ⟨N + 1, 0, none⟩ = some (val (wr.alloc o) (N + 1) 0) ∧ (wr.alloc o).cell? ⟨N + 1, 1, none⟩ = some (val (wr.alloc o) (N + 1) 1) ∧ (wr.alloc o).frozen? ⟨N + 1, 0, none⟩ = false ∧ (wr.alloc o).frozen? ⟨N + 1, 1, none⟩ = false := fun o => ((how.below hl).below ((Later.refl wr).alloc o)).cells
      have HRE := hid hre
      clear hf hk hre HR
      go_wp2_with fail
      have h2 := (how.below hl).below ((Later.refl wr).alloc (.cells #[.int .i64 0, .int .i64 0] 27))
      obtain ⟨hf0, hf1⟩ := own2_both h2 (.int .i64 0) (.int .i64 0)
      have hlf : Later w (((wr.alloc (.cells #[.int .i64 0, .int .i64 0] 27)).setCell ⟨N + 1, 0, none⟩ (.int .i64 0)).setCell ⟨N + 1, 1, none⟩ (.int .i64 0)) := Below.setCell (Below.setCell ((hB.next hl).alloc _) (p := ⟨N + 1, 0, none⟩) (by simp; omega) _) (p := ⟨N + 1, 1, none⟩) (by simp; omega) _
      generalize ((wr.alloc (.cells #[.int .i64 0, .int .i64 0] 27)).setCell ⟨N + 1, 0, none⟩ (.int .i64 0)).setCell ⟨N + 1, 1, none⟩ (.int .i64 0) = Wf at hf0 hf1 hlf ⊢
      refine bodyPost_ret (v := .tuple #[.agg #[.int .i64 0, .int .i64 0], .bool false]) (by simp [results, Try.results32, go_sem, hf0, hf1]) rfl ?_
      exact ⟨by rw [HRE.out]; rfl, hlf⟩
    | node l y r =>
      obtain ⟨b, pl, pr, rfl, hb, hcn, hlt, hrt⟩ := IsT.node ht
      have hsc' : ∀ W', Later wr W' → W'.cell? ⟨sb, 0, none⟩ = some (.func (.func c) #[] #[]) := fun W' k => (hsc W' (hl.next k)).1
      have hbox' : ∀ W', Later wr W' → W'.cell? ⟨N, 0, none⟩ = some (.int .i64 x.1) ∧ W'.cell? ⟨N, 1, none⟩ = some (.int .i64 x.2) := fun W' k => hbox W' (hl.next k)
      have hbr := Later.refl wr
      have hk2 : l.size + r.size + 1 < gk := hk
      clear hsc hbox hb0 hk ht
      by_cases h1 : f x y < 0
      · have hf' : Hid (T.find f x = l.find f x) := hid (by rw [hf.out]; simp only [Tr.find]; rw [if_pos h1])
        clear hf
        go_wp2_with fail
        go_region_held3 (fun W' => Later wr W') (first | assumption | exact Later.drew (by assumption) | exact Later.next (by assumption) hb1) (first | ((with_reducible refine (hcc _ _ _).mono ?_); rintro e w1 ⟨rfl, hb1⟩))
        go_wp2_with fail
        go_roundg (l.size + 1)
        case measure => omega
        case rel => exact ⟨l, pl, rfl, hlt _ (by assumption), hf', hl.next (by assumption), Nat.lt_succ_self _⟩
      · by_cases h2 : 0 < f x y
        · have hf' : Hid (T.find f x = r.find f x) := hid (by rw [hf.out]; simp only [Tr.find]; rw [if_neg h1, if_pos h2])
          clear hf
          go_wp2_with fail
          go_region_held3 (fun W' => Later wr W') (first | assumption | exact Later.drew (by assumption) | exact Later.next (by assumption) hb1) (first | ((with_reducible refine (hcc _ _ _).mono ?_); rintro e w1 ⟨rfl, hb1⟩))
          go_wp2_with fail
          go_roundg (r.size + 1)
          case measure => omega
          case rel => exact ⟨r, pr, rfl, hrt _ (by assumption), hf', hl.next (by assumption), Nat.lt_succ_self _⟩
        · have hf' : Hid (R = opt (some y)) := hid (by rw [← HR.out, hf.out]; simp only [Tr.find]; rw [if_neg h1, if_neg h2])
          clear hf HR
          go_wp2_with fail
          go_region_held3 (fun W' => Later wr W') (first | assumption | exact Later.drew (by assumption) | exact Later.next (by assumption) hb1) (first | ((with_reducible refine (hcc _ _ _).mono ?_); rintro e w1 ⟨rfl, hb1⟩))
          have how1 : ∀ W', Later wr W' → W'.cell? ⟨N + 1, 0, none⟩ = some (val W' (N + 1) 0) ∧ W'.cell? ⟨N + 1, 1, none⟩ = some (val W' (N + 1) 1) ∧ W'.frozen? ⟨N + 1, 0, none⟩ = false ∧ W'.frozen? ⟨N + 1, 1, none⟩ = false := fun W' k => ((how.below hl).below k).cells
          go_wp2_with fail
          have hlw : Later wr w1 := by assumption
          obtain ⟨hf0, hf1⟩ := own2_both ((how.below hl).below hlw) (.int .i64 y.1) (.int .i64 y.2)
          have hlf : Later w ((w1.setCell ⟨N + 1, 0, none⟩ (.int .i64 y.1)).setCell ⟨N + 1, 1, none⟩ (.int .i64 y.2)) := Below.setCell (Below.setCell ((hB.next hl).next hlw) (p := ⟨N + 1, 0, none⟩) (by simp; omega) _) (p := ⟨N + 1, 1, none⟩) (by simp; omega) _
          clear how1 hcn hsc' hbox'
          generalize (w1.setCell ⟨N + 1, 0, none⟩ (.int .i64 y.1)).setCell ⟨N + 1, 1, none⟩ (.int .i64 y.2) = Wf at hf0 hf1 hlf ⊢
          refine bodyPost_ret (v := .tuple #[.agg #[.int .i64 y.1, .int .i64 y.2], .bool true]) (by simp [results, Try.results32, go_sem, hf0, hf1]) rfl ?_
          exact ⟨by rw [hf'.out]; rfl, hlf⟩
end Go.Proofs.Yteledidnhjioaaa.Sh
namespace Go.Proofs.Yteledidnhjioaaa.Sh
open Go.RowKit Go.Lib Go.Proofs
set_option linter.unusedVariables false
set_option linter.unusedSimpArgs false
def nthV (T : Tr (Int × Int)) (i : Int) : Option (Int × Int) := if i < 0 then none else T.nth i.toNat
theorem nth_none (T : Tr (Int × Int)) (i : Nat) (h : T.size ≤ i) : T.nth i = none := by
  rw [nth_list, List.getElem?_eq_none]; rw [Tr.size_list]; exact h
set_option maxRecDepth 100000 in
set_option maxHeartbeats 8000000 in
theorem nth_out {X : Nat → Prop} {c : Nat} (i : Int) {w : World} {sb : Nat} {T : Tr (Int × Int)} (h : Shf X w sb c T) (hi : i < 0 ∨ (T.size : Int) ≤ i) :
    Calls Try.prog 33 #[.pointer (some ⟨sb, 0, none⟩), .int .i64 i] w fun e w' => e = .returned (opt none) ∧ Later w w' := by
  have how := Own2.new w (.int .i64 0) (.int .i64 0)
  have hB := Later.two (W := w) (x := .int .i64 0) (y := .int .i64 0) (t := 27)
  have hlen := len_any (h.later hB)
  obtain ⟨W0, hW0⟩ : ∃ W0, w.alloc (.cells #[.int .i64 0, .int .i64 0] 27) = W0 := ⟨_, rfl⟩
  obtain ⟨N, hN⟩ : ∃ N, w.heap.size = N := ⟨_, rfl⟩
  rw [hW0] at how hB hlen
  rw [hN] at how
  have hwa : ∀ o, (W0.alloc o).cell? ⟨N, 0, none⟩ = some (val (W0.alloc o) N 0) ∧ (W0.alloc o).cell? ⟨N, 1, none⟩ = some (val (W0.alloc o) N 1) ∧ (W0.alloc o).frozen? ⟨N, 0, none⟩ = false ∧ (W0.alloc o).frozen? ⟨N, 1, none⟩ = false := fun o => (how.below ((Later.refl W0).alloc o)).cells
  have h2 := how.below ((Later.refl W0).alloc (.cells #[.int .i64 0, .int .i64 0] 27))
  obtain ⟨hf0, hf1⟩ := own2_both h2 (.int .i64 0) (.int .i64 0)
  have hlf : Later w (((W0.alloc (.cells #[.int .i64 0, .int .i64 0] 27)).setCell ⟨N, 0, none⟩ (.int .i64 0)).setCell ⟨N, 1, none⟩ (.int .i64 0)) := Below.setCell (Below.setCell (hB.alloc _) (p := ⟨N, 0, none⟩) (by simp; omega) _) (p := ⟨N, 1, none⟩) (by simp; omega) _
  obtain ⟨Wf, hWf⟩ : ∃ Wf, ((W0.alloc (.cells #[.int .i64 0, .int .i64 0] 27)).setCell ⟨N, 0, none⟩ (.int .i64 0)).setCell ⟨N, 1, none⟩ (.int .i64 0) = Wf := ⟨_, rfl⟩
  rw [hWf] at hf0 hf1 hlf
  have HW := hid hWf
  clear hWf h2
  by_cases hi0 : i < 0
  · clear hi
    go_enter Try.func33, Try.ntmps33
    go_wp2_with (go_at_call 26; (with_reducible refine hlen.mono ?_); rintro e w' ⟨rfl, rfl⟩)
    rw [HW.out]
    refine bodyPost_ret (v := .tuple #[.agg #[.int .i64 0, .int .i64 0], .bool false]) (by simp [results, Try.results33, go_sem, hf0, hf1]) rfl ?_
    exact ⟨rfl, hlf⟩
  · have hi1 : (T.size : Int) ≤ i := by omega
    clear hi
    go_enter Try.func33, Try.ntmps33
    go_wp2_with (go_at_call 26; (with_reducible refine hlen.mono ?_); rintro e w' ⟨rfl, rfl⟩)
    rw [HW.out]
    refine bodyPost_ret (v := .tuple #[.agg #[.int .i64 0, .int .i64 0], .bool false]) (by simp [results, Try.results33, go_sem, hf0, hf1]) rfl ?_
    exact ⟨rfl, hlf⟩
set_option maxRecDepth 100000 in
set_option maxHeartbeats 8000000 in
theorem nth_in {X : Nat → Prop} {c : Nat} (i : Nat) {w : World} {sb : Nat} {T : Tr (Int × Int)} (h : Shf X w sb c T) (hi : i < T.size) (hz : T.size ≤ 4611686018427387904) :
    Calls Try.prog 33 #[.pointer (some ⟨sb, 0, none⟩), .int .i64 i] w fun e w' => e = .returned (opt (T.nth i)) ∧ Later w w' := by
  have how := Own2.new w (.int .i64 0) (.int .i64 0)
  have hB := Later.two (W := w) (x := .int .i64 0) (y := .int .i64 0) (t := 27)
  have hlen := len_any (h.later hB)
  obtain ⟨p, hs, ok, ht, hx⟩ := h.later hB
  have hcs := hs.cells
  obtain ⟨W0, hW0⟩ : ∃ W0, w.alloc (.cells #[.int .i64 0, .int .i64 0] 27) = W0 := ⟨_, rfl⟩
  obtain ⟨N, hN⟩ : ∃ N, w.heap.size = N := ⟨_, rfl⟩
  rw [hW0] at how hB hlen hcs ht
  rw [hN] at how
  have hwa := how.cells
  obtain ⟨R, hR⟩ : ∃ R, T.nth i = R := ⟨_, rfl⟩
  rw [hR]
  have HR := hid hR
  clear hR h hs
  have hi' : decide (T.size ≤ i) = false := by simp; omega
  have hi2 : ¬ ((i : Int) < 0) := by omega
  go_enter Try.func33, Try.ntmps33
  go_wp2_with (go_at_call 26; (with_reducible refine hlen.mono ?_); rintro e w' ⟨rfl, rfl⟩)
  go_loopg [1, 6] T.size (fun k u v wr => ∃ (T' : Tr (Int × Int)) (pp : Option Addr) (j : Nat), u = .int .i64 j ∧ v = .pointer pp ∧ IsT ok W0 pp T' ∧ Hid (T'.nth j = R) ∧ W0 = wr ∧ j < T'.size ∧ T'.size ≤ k ∧ T'.size ≤ 4611686018427387904)
  case atStart => exact ⟨T, p, i, rfl, rfl, ht, HR, rfl, hi, Nat.le_refl _, hz⟩
  case round =>
    obtain ⟨T', pp, j, rfl, rfl, ht, hf, rfl, hj, hk, hz⟩ := hrel
    cases T' with
    | leaf => exact absurd hj (by simp [Tr.size])
    | node l y r =>
      obtain ⟨b, pl, pr, rfl, hb, hcn0, hlt0, hrt0⟩ := IsT.node ht
      have hcn := hcn0 _ (Later.refl _)
      have hlt := hlt0 _ (Later.refl _)
      have hrt := hrt0 _ (Later.refl _)
      have hs2 : l.size + r.size + 1 ≤ gk := hk
      have hs3 : j < l.size + r.size + 1 := hj
      have hs4 : l.size + r.size + 1 ≤ 4611686018427387904 := hz
      clear hcn0 hlt0 hrt0 ht hk hj hz
      by_cases h1 : j < l.size
      · have hf' : Hid (l.nth j = R) := hid (by rw [← hf.out]; simp only [Tr.nth]; rw [if_pos h1])
        clear hf HR
        go_wp2_with (go_at_call 62; (with_reducible refine (count_any hlt).mono ?_); rintro e w' ⟨rfl, rfl⟩)
        go_roundg l.size
        case measure => omega
        case rel => exact ⟨l, pl, j, rfl, rfl, hlt, hf', rfl, h1, Nat.le_refl _, by omega⟩
      · by_cases h2 : j = l.size
        · have hf' : Hid (some y = R) := hid (by rw [← hf.out]; simp only [Tr.nth]; rw [if_neg h1, if_pos h2])
          subst h2
          clear hf HR h1
          go_wp2_with (go_at_call 62; (with_reducible refine (count_any hlt).mono ?_); rintro e w' ⟨rfl, rfl⟩)
          obtain ⟨hf0, hf1⟩ := own2_both how (.int .i64 y.1) (.int .i64 y.2)
          have hlf : Later w ((W0.setCell ⟨N, 0, none⟩ (.int .i64 y.1)).setCell ⟨N, 1, none⟩ (.int .i64 y.2)) := Below.setCell (Below.setCell hB (p := ⟨N, 0, none⟩) (by simp; omega) _) (p := ⟨N, 1, none⟩) (by simp; omega) _
          generalize (W0.setCell ⟨N, 0, none⟩ (.int .i64 y.1)).setCell ⟨N, 1, none⟩ (.int .i64 y.2) = Wf at hf0 hf1 hlf ⊢
          refine bodyPost_ret (v := .tuple #[.agg #[.int .i64 y.1, .int .i64 y.2], .bool true]) (by simp [results, Try.results33, go_sem, hf0, hf1]) rfl ?_
          exact ⟨by rw [← hf'.out]; rfl, hlf⟩
        · have hf' : Hid (r.nth (j - l.size - 1) = R) := hid (by rw [← hf.out]; simp only [Tr.nth]; rw [if_neg h1, if_neg h2])
          have h3 : l.size < j := by omega
          clear hf HR h1 h2
          go_wp2_with (go_at_call 62; (with_reducible refine (count_any hlt).mono ?_); rintro e w' ⟨rfl, rfl⟩)
          go_roundg r.size
          case measure => omega
          case rel => exact ⟨r, pr, j - l.size - 1, by congr 1; omega, rfl, hrt, hf', rfl, by omega, Nat.le_refl _, by omega⟩
theorem nth_any {X : Nat → Prop} {c : Nat} (i : Int) {w : World} {sb : Nat} {T : Tr (Int × Int)} (h : Shf X w sb c T) (hz : T.size ≤ 4611686018427387904) :
    Calls Try.prog 33 #[.pointer (some ⟨sb, 0, none⟩), .int .i64 i] w fun e w' => e = .returned (opt (nthV T i)) ∧ Later w w' := by
  unfold nthV
  by_cases h0 : i < 0
  · rw [if_pos h0]; exact nth_out i h (.inl h0)
  · rw [if_neg h0]
    by_cases h1 : (T.size : Int) ≤ i
    · rw [nth_none T _ (by omega)]; exact nth_out i h (.inr h1)
    · obtain ⟨j, rfl⟩ : ∃ j : Nat, i = j := ⟨i.toNat, by omega⟩
      exact nth_in j h (by omega) hz
end Go.Proofs.Yteledidnhjioaaa.Sh
namespace Go.Proofs.Yteledidnhjioaaa.Sh
open Go.RowKit Go.Lib Go.Proofs
set_option linter.unusedVariables false
set_option linter.unusedSimpArgs false
theorem rank_le {f : (Int × Int) → (Int × Int) → Int} {x : Int × Int} : ∀ T : Tr (Int × Int), T.rank f x ≤ T.size
  | .leaf => Nat.le_refl _
  | .node l y r => by
    have h1 := rank_le (f := f) (x := x) l
    have h2 := rank_le (f := f) (x := x) r
    simp only [Tr.rank, Tr.size]
    split <;> omega
set_option maxRecDepth 100000 in
set_option maxHeartbeats 8000000 in
theorem rank_any {X : Nat → Prop} {c : Nat} {f : (Int × Int) → (Int × Int) → Int} (hc : Comp c f) (x : Int × Int) {w : World} {sb : Nat} {T : Tr (Int × Int)} (h : Shf X w sb c T) (hz : T.size ≤ 4611686018427387904) :
    Calls Try.prog 34 #[.pointer (some ⟨sb, 0, none⟩), .agg #[.int .i64 x.1, .int .i64 x.2]] w fun e w' => e = .returned (.int .i64 (T.rank f x : Nat)) ∧ Later w w' := by
  obtain ⟨p, hs, ok, ht, hx⟩ := h
  have hB : Later w (w.alloc (.cells #[.int .i64 x.1, .int .i64 x.2] 27)) := Later.two
  have hxx := two_new w (.int .i64 x.1) (.int .i64 x.2) 27
  obtain ⟨R, hR⟩ : ∃ R, T.rank f x = R := ⟨_, rfl⟩
  obtain ⟨W0, hW0⟩ : ∃ W0, w.alloc (.cells #[.int .i64 x.1, .int .i64 x.2] 27) = W0 := ⟨_, rfl⟩
  obtain ⟨N, hN⟩ : ∃ N, w.heap.size = N := ⟨_, rfl⟩
  rw [hW0] at hxx hB
  rw [hN] at hxx
  rw [hR]
  have HR := hid hR
  have hsc : ∀ W', Later W0 W' → W'.cell? ⟨sb, 0, none⟩ = some (.func (.func c) #[] #[]) ∧ W'.cell? ⟨sb, 1, none⟩ = some (.pointer p) := fun W' k => ⟨((hs.later hB).later k).cells.1, ((hs.later hB).later k).cells.2.1⟩
  have hbox : ∀ W', Later W0 W' → W'.cell? ⟨N, 0, none⟩ = some (.int .i64 x.1) ∧ W'.cell? ⟨N, 1, none⟩ = some (.int .i64 x.2) := fun W' k => ⟨k.cell hxx.1, k.cell hxx.2⟩
  have hen := hc.enters
  have hcc := hc.calls
  have hb0 := Later.refl W0
  have h0 := ht.later hB
  clear hxx ht hR
  go_enter Try.func34, Try.ntmps34
  go_wp2_with fail
  clear hW0
  go_loopg [5, 6] (T.size + 1) (fun k u v wr => ∃ (T' : Tr (Int × Int)) (pp : Option Addr) (j : Nat), u = .int .i64 j ∧ v = .pointer pp ∧ IsT ok wr pp T' ∧ Hid (R = j + T'.rank f x) ∧ Later W0 wr ∧ T'.size < k ∧ j + T'.size ≤ 4611686018427387904)
  case atStart => exact ⟨T, p, 0, rfl, rfl, h0, hid (by rw [← HR.out, Nat.zero_add]), hb0, Nat.lt_succ_self _, by omega⟩
  case round =>
    obtain ⟨T', pp, j, rfl, rfl, ht, hf, hl, hk, hj⟩ := hrel
    cases T' with
    | leaf =>
      obtain rfl : pp = none := ht
      have hre : Hid (R = j) := hid (by rw [hf.out]; rfl)
      clear hf hk HR
      go_wp2_with fail
      go_ret
      exact ⟨by rw [hre.out]; rfl, hB.next hl⟩
    | node l y r =>
      obtain ⟨b, pl, pr, rfl, hb, hcn, hlt, hrt⟩ := IsT.node ht
      have hsc' : ∀ W', Later wr W' → W'.cell? ⟨sb, 0, none⟩ = some (.func (.func c) #[] #[]) := fun W' k => (hsc W' (hl.next k)).1
      have hbox' : ∀ W', Later wr W' → W'.cell? ⟨N, 0, none⟩ = some (.int .i64 x.1) ∧ W'.cell? ⟨N, 1, none⟩ = some (.int .i64 x.2) := fun W' k => hbox W' (hl.next k)
      have hbr := Later.refl wr
      have hk2 : l.size + r.size + 1 < gk := hk
      have hj2 : j + (l.size + r.size + 1) ≤ 4611686018427387904 := hj
      clear hsc hbox hb0 hk ht hj
      by_cases h1 : f y x < 0
      · have hf' : Hid (R = j + (l.size + 1) + r.rank f x) := hid (by rw [hf.out]; simp only [Tr.rank]; rw [if_pos h1]; omega)
        clear hf HR
        go_wp2_with fail
        go_region_held3 (fun W' => Later wr W') (first | assumption | exact Later.drew (by assumption) | exact Later.next (by assumption) hb1) (first | ((with_reducible refine (hcc _ _ _).mono ?_); rintro e w1 ⟨rfl, hb1⟩))
        go_wp2_with (go_at_call 62; (with_reducible refine (count_any (hlt _ (by assumption))).mono ?_); rintro e w' ⟨rfl, rfl⟩)
        go_roundg (r.size + 1)
        case measure => omega
        case rel => exact ⟨r, pr, j + (l.size + 1), by congr 1, rfl, hrt _ (by assumption), hf', hl.next (by assumption), Nat.lt_succ_self _, by omega⟩
      · have hf' : Hid (R = j + l.rank f x) := hid (by rw [hf.out]; simp only [Tr.rank]; rw [if_neg h1])
        clear hf HR
        go_wp2_with fail
        go_region_held3 (fun W' => Later wr W') (first | assumption | exact Later.drew (by assumption) | exact Later.next (by assumption) hb1) (first | ((with_reducible refine (hcc _ _ _).mono ?_); rintro e w1 ⟨rfl, hb1⟩))
        go_wp2_with fail
        go_roundg (l.size + 1)
        case measure => omega
        case rel => exact ⟨l, pl, j, rfl, rfl, hlt _ (by assumption), hf', hl.next (by assumption), Nat.lt_succ_self _, by omega⟩
/-- a copy: a block of its own, the same tree -/
theorem freeze_any {X : Nat → Prop} {c : Nat} {w : World} {sb : Nat} {T : Tr (Int × Int)} (h : Shf X w sb c T) :
    Calls Try.prog 20 #[.pointer (some ⟨sb, 0, none⟩)] w fun e w' => ∃ nb, e = .returned (.pointer (some ⟨nb, 0, none⟩)) ∧ w.heap.size ≤ nb ∧ Later w w' ∧ Shf X w' nb c T := by
  obtain ⟨p, hs, ht⟩ := h
  have hsc : ∀ W', Later w W' → W'.cell? ⟨sb, 0, none⟩ = some (.func (.func c) #[] #[]) ∧ W'.cell? ⟨sb, 1, none⟩ = some (.pointer p) := fun W' k => ⟨(hs.later k).cells.1, (hs.later k).cells.2.1⟩
  have hb0 := Later.refl w
  go_enter Try.func20, Try.ntmps20
  go_wp2_with fail
  go_region_held3 (fun W' => Later w W') (first | assumption | exact Later.drew (by assumption) | exact Later.alloc (by assumption) _ | exact Later.next (by assumption) hb1) (fail)
  go_wp2_with fail
  go_ret
  have hl : Later w (w.alloc (.cells #[.func (.func c) #[] #[], .pointer p] 91)).drew := ((Later.refl w).alloc _).drew
  exact ⟨w.heap.size, rfl, Nat.le_refl _, hl, p, World.alloc_heap_new w _, ht.keep hl.chg⟩
end Go.Proofs.Yteledidnhjioaaa.Sh
