import Derived.Test.YteledidnhjioaaaShI
namespace Go.Proofs.Yteledidnhjioaaa.Sh
open Go.RowKit Go.Lib Go.Proofs
set_option linter.unusedVariables false
set_option linter.unusedSimpArgs false
theorem rank_le {f : (Int × Int) → (Int × Int) → Int} {x : Int × Int} : ∀ T : Tr (Int × Int), T.rank f x ≤ T.size
  | .leaf => Nat.le_refl _
  | .node l y r => by
    have h1 := rank_le (f := f) (x := x) l
    have h2 := rank_le (f := f) (x := x) r
    simp only [Tr.rank, Tr.size]
    split <;> omega
set_option maxRecDepth 100000 in
set_option maxHeartbeats 8000000 in
theorem rank_any {X : Nat → Prop} {c : Nat} {f : (Int × Int) → (Int × Int) → Int} (hc : Comp c f) (x : Int × Int) {w : World} {sb : Nat} {T : Tr (Int × Int)} (h : Shf X w sb c T) (hz : T.size ≤ 4611686018427387904) :
    Calls Try.prog 34 #[.pointer (some ⟨sb, 0, none⟩), .agg #[.int .i64 x.1, .int .i64 x.2]] w fun e w' => e = .returned (.int .i64 (T.rank f x : Nat)) ∧ Later w w' := by
  obtain ⟨p, hs, ok, ht, hx⟩ := h
  have hB : Later w (w.alloc (.cells #[.int .i64 x.1, .int .i64 x.2] 27)) := Later.two
  have hxx := two_new w (.int .i64 x.1) (.int .i64 x.2) 27
  obtain ⟨R, hR⟩ : ∃ R, T.rank f x = R := ⟨_, rfl⟩
  obtain ⟨W0, hW0⟩ : ∃ W0, w.alloc (.cells #[.int .i64 x.1, .int .i64 x.2] 27) = W0 := ⟨_, rfl⟩
  obtain ⟨N, hN⟩ : ∃ N, w.heap.size = N := ⟨_, rfl⟩
  rw [hW0] at hxx hB
  rw [hN] at hxx
  rw [hR]
  have HR := hid hR
  have hsc : ∀ W', Later W0 W' → W'.cell? ⟨sb, 0, none⟩ = some (.func (.func c) #[] #[]) ∧ W'.cell? ⟨sb, 1, none⟩ = some (.pointer p) := fun W' k => ⟨((hs.later hB).later k).cells.1, ((hs.later hB).later k).cells.2.1⟩
  have hbox : ∀ W', Later W0 W' → W'.cell? ⟨N, 0, none⟩ = some (.int .i64 x.1) ∧ W'.cell? ⟨N, 1, none⟩ = some (.int .i64 x.2) := fun W' k => ⟨k.cell hxx.1, k.cell hxx.2⟩
  have hen := hc.enters
  have hcc := hc.calls
  have hb0 := Later.refl W0
  have h0 := ht.later hB
  clear hxx ht hR
  go_enter Try.func34, Try.ntmps34
  go_wp2_with fail
  clear hW0
  go_loopg [5, 6] (T.size + 1) (fun k u v wr => ∃ (T' : Tr (Int × Int)) (pp : Option Addr) (j : Nat), u = .int .i64 j ∧ v = .pointer pp ∧ IsT ok wr pp T' ∧ Hid (R = j + T'.rank f x) ∧ Later W0 wr ∧ T'.size < k ∧ j + T'.size ≤ 4611686018427387904)
  case atStart => exact ⟨T, p, 0, rfl, rfl, h0, hid (by rw [← HR.out, Nat.zero_add]), hb0, Nat.lt_succ_self _, by omega⟩
  case round =>
    obtain ⟨T', pp, j, rfl, rfl, ht, hf, hl, hk, hj⟩ := hrel
    cases T' with
    | leaf =>
      obtain rfl : pp = none := ht
      have hre : Hid (R = j) := hid (by rw [hf.out]; rfl)
      clear hf hk HR
      go_wp2_with fail
      go_ret
      exact ⟨by rw [hre.out]; rfl, hB.next hl⟩
    | node l y r =>
      obtain ⟨b, pl, pr, rfl, hb, hcn, hlt, hrt⟩ := IsT.node ht
      have hsc' : ∀ W', Later wr W' → W'.cell? ⟨sb, 0, none⟩ = some (.func (.func c) #[] #[]) := fun W' k => (hsc W' (hl.next k)).1
      have hbox' : ∀ W', Later wr W' → W'.cell? ⟨N, 0, none⟩ = some (.int .i64 x.1) ∧ W'.cell? ⟨N, 1, none⟩ = some (.int .i64 x.2) := fun W' k => hbox W' (hl.next k)
      have hbr := Later.refl wr
      have hk2 : l.size + r.size + 1 < gk := hk
      have hj2 : j + (l.size + r.size + 1) ≤ 4611686018427387904 := hj
      clear hsc hbox hb0 hk ht hj
      by_cases h1 : f y x < 0
      · have hf' : Hid (R = j + (l.size + 1) + r.rank f x) := hid (by rw [hf.out]; simp only [Tr.rank]; rw [if_pos h1]; omega)
        clear hf HR
        go_wp2_with fail
        go_region_held3 (fun W' => Later wr W') (first | assumption | exact Later.drew (by assumption) | exact Later.next (by assumption) hb1) (first | ((with_reducible refine (hcc _ _ _).mono ?_); rintro e w1 ⟨rfl, hb1⟩))
        go_wp2_with (go_at_call 62; (with_reducible refine (count_any (hlt _ (by assumption))).mono ?_); rintro e w' ⟨rfl, rfl⟩)
        go_roundg (r.size + 1)
        case measure => omega
        case rel => exact ⟨r, pr, j + (l.size + 1), by congr 1, rfl, hrt _ (by assumption), hf', hl.next (by assumption), Nat.lt_succ_self _, by omega⟩
      · have hf' : Hid (R = j + l.rank f x) := hid (by rw [hf.out]; simp only [Tr.rank]; rw [if_neg h1])
        clear hf HR
        go_wp2_with fail
        go_region_held3 (fun W' => Later wr W') (first | assumption | exact Later.drew (by assumption) | exact Later.next (by assumption) hb1) (first | ((with_reducible refine (hcc _ _ _).mono ?_); rintro e w1 ⟨rfl, hb1⟩))
        go_wp2_with fail
        go_roundg (l.size + 1)
        case measure => omega
        case rel => exact ⟨l, pl, j, rfl, rfl, hlt _ (by assumption), hf', hl.next (by assumption), Nat.lt_succ_self _, by omega⟩
/-- a copy: a block of its own, the same tree -/
theorem freeze_any {X : Nat → Prop} {c : Nat} {w : World} {sb : Nat} {T : Tr (Int × Int)} (h : Shf X w sb c T) :
    Calls Try.prog 20 #[.pointer (some ⟨sb, 0, none⟩)] w fun e w' => ∃ nb, e = .returned (.pointer (some ⟨nb, 0, none⟩)) ∧ w.heap.size ≤ nb ∧ Later w w' ∧ Shf X w' nb c T := by
  obtain ⟨p, hs, ht⟩ := h
  have hsc : ∀ W', Later w W' → W'.cell? ⟨sb, 0, none⟩ = some (.func (.func c) #[] #[]) ∧ W'.cell? ⟨sb, 1, none⟩ = some (.pointer p) := fun W' k => ⟨(hs.later k).cells.1, (hs.later k).cells.2.1⟩
  have hb0 := Later.refl w
  go_enter Try.func20, Try.ntmps20
  go_wp2_with fail
  go_region_held3 (fun W' => Later w W') (first | assumption | exact Later.drew (by assumption) | exact Later.alloc (by assumption) _ | exact Later.next (by assumption) hb1) (fail)
  go_wp2_with fail
  go_ret
  have hl : Later w (w.alloc (.cells #[.func (.func c) #[] #[], .pointer p] 91)).drew := ((Later.refl w).alloc _).drew
  exact ⟨w.heap.size, rfl, Nat.le_refl _, hl, p, World.alloc_heap_new w _, ht.keep hl.chg⟩
end Go.Proofs.Yteledidnhjioaaa.Sh
