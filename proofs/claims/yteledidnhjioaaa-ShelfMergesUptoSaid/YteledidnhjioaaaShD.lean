import Derived.Test.YteledidnhjioaaaShC
namespace Go.Proofs.Yteledidnhjioaaa.Sh
open Go.RowKit Go.Lib Go.Proofs
set_option linter.unusedVariables false
set_option linter.unusedSimpArgs false
/-- a block of two cells of the call's own -/
def Own2 (W : World) (N : Nat) : Prop := ∃ u v, W.heap[N]? = some (.cells #[u, v] 27 (0, 0))
def val (W : World) (N o : Nat) : Value := (W.cell? ⟨N, o, none⟩).getD undef
theorem Own2.cells {W : World} {N : Nat} (h : Own2 W N) : W.cell? ⟨N, 0, none⟩ = some (val W N 0) ∧ W.cell? ⟨N, 1, none⟩ = some (val W N 1) ∧ W.frozen? ⟨N, 0, none⟩ = false ∧ W.frozen? ⟨N, 1, none⟩ = false := by
  obtain ⟨u, v, h⟩ := h
  unfold val
  simp [World.cell?, World.frozen?, h]
theorem Own2.new (W : World) (u v : Value) : Own2 (W.alloc (.cells #[u, v] 27)) W.heap.size := ⟨u, v, by show (W.heap.push _)[W.heap.size]? = _; rw [Array.getElem?_push, if_pos rfl]⟩
theorem Own2.below {W W' : World} {N : Nat} (h : Own2 W N) (hb : Later W W') : Own2 W' N := by
  obtain ⟨u, v, h⟩ := h
  exact ⟨u, v, (hb.block N (Array.getElem?_eq_some_iff.1 h).1).trans h⟩
theorem Own2.set0 {W : World} {N : Nat} (h : Own2 W N) (x : Value) : Own2 (W.setCell ⟨N, 0, none⟩ x) N := by
  obtain ⟨u, v, h⟩ := h
  exact ⟨x, v, by simp [World.setCell, Array.getElem?_modify, h]⟩
theorem Own2.set1 {W : World} {N : Nat} (h : Own2 W N) (x : Value) : Own2 (W.setCell ⟨N, 1, none⟩ x) N := by
  obtain ⟨u, v, h⟩ := h
  exact ⟨u, x, by simp [World.setCell, Array.getElem?_modify, h]⟩
theorem own2_both {W : World} {N : Nat} (h : Own2 W N) (x y : Value) : ((W.setCell ⟨N, 0, none⟩ x).setCell ⟨N, 1, none⟩ y).cell? ⟨N, 0, none⟩ = some x ∧ ((W.setCell ⟨N, 0, none⟩ x).setCell ⟨N, 1, none⟩ y).cell? ⟨N, 1, none⟩ = some y := by
  have h1 := (h.set0 x).cells.2.1
  constructor
  · rw [World.cell?_setCell_other _ _ _ _ (by simp)]
    exact World.cell?_setCell_same _ _ _ h.cells.1
  · exact World.cell?_setCell_same _ _ _ h1
def firstPost (ok : Nat → Prop) (w : World) (l : Tr (Int × Int)) (x : Int × Int) (r : Tr (Int × Int)) (e : Ending) (w' : World) : Prop :=
  ∃ q, e = .returned (.tuple #[.agg #[.int .i64 (Tr.first l x r).1.1, .int .i64 (Tr.first l x r).1.2], .pointer q]) ∧ IsT ok w' q (Tr.first l x r).2 ∧ Later w w'
set_option maxRecDepth 100000 in
set_option maxHeartbeats 8000000 in
theorem first_any : ∀ (l : Tr (Int × Int)) (x : Int × Int) (r : Tr (Int × Int)) (w : World) (p : Option Addr) (ok : Nat → Prop), Up ok w.heap.size → IsT ok w p (.node l x r) → l.size + r.size + 1 ≤ 4611686018427387904 → Calls Try.prog 85 #[.pointer p] w (firstPost ok w l x r)
  | .leaf, x, r, w, p, ok, hu, h, hs => by
    obtain ⟨b, pl, pr, rfl, hb, hc, hl, hr⟩ := IsT.node h
    obtain rfl : pl = none := hl w (Later.refl _)
    have hla : ∀ v, Later w (w.alloc v) := fun v => (Later.refl _).alloc v
    have hn0 : ∀ v, (w.alloc v).cell? ⟨b, 0, none⟩ = some (.int .i64 x.1) := fun v => (hc _ (hla v)).1
    have hn1 : ∀ v, (w.alloc v).cell? ⟨b, 1, none⟩ = some (.int .i64 x.2) := fun v => (hc _ (hla v)).2.1
    have hn2 : ∀ v, (w.alloc v).cell? ⟨b, 2, none⟩ = some (.pointer none) := fun v => (hc _ (hla v)).2.2.1
    have hn3 : ∀ v, (w.alloc v).cell? ⟨b, 3, none⟩ = some (.pointer pr) := fun v => (hc _ (hla v)).2.2.2
    clear hc hl h hla
    go_enter Try.func85, Try.ntmps85
    go_wp2
    go_region
    all_goals go_wp2
    all_goals
      refine bodyPost_ret (v := .tuple #[.agg #[.int .i64 x.1, .int .i64 x.2], .pointer pr]) (by simp [results, Try.results85, go_sem]) rfl ?_
      have hla : Later w (w.alloc (.cells #[.int .i64 x.1, .int .i64 x.2] 27)).drew := Later.two.drew
      exact ⟨pr, rfl, hr _ hla, hla⟩
  | .node ll lx lr, x, r, w, p, ok, hu, h, hs => by
    have h1 : IsT (fun b => ok b ∧ b ≠ w.heap.size) w p (.node (.node ll lx lr) x r) := h.mono (fun b hb k => ⟨k, by omega⟩)
    have hu1 : Up (fun b => ok b ∧ b ≠ w.heap.size) (w.heap.size + 1) := fun b hb => ⟨hu b (by omega), by omega⟩
    obtain ⟨b, pl, pr, rfl, hb, hc, hl, hr⟩ := IsT.node h1
    have hs2 := hs
    simp only [Tr.size] at hs2
    obtain ⟨bl, pll, plr, hpl, _⟩ := IsT.node (hl w (Later.refl _))
    subst hpl
    have hla : ∀ v, Later w (w.alloc v) := fun v => (Later.refl _).alloc v
    have hn2 : ∀ v, (w.alloc v).cell? ⟨b, 2, none⟩ = some (.pointer (some ⟨bl, 0, none⟩)) := fun v => (hc _ (hla v)).2.2.1
    have ih : ∀ v, Calls Try.prog 85 #[.pointer (some ⟨bl, 0, none⟩)] (w.alloc v) (firstPost (fun b => ok b ∧ b ≠ w.heap.size) (w.alloc v) ll lx lr) := fun v => first_any ll lx lr _ _ _ (by rw [World.size_alloc]; exact hu1) (hl _ (hla v)) (by omega)
    have hsz := Tr.first_size ll lx lr
    go_enter Try.func85, Try.ntmps85
    go_wp2_with (go_at_call 85; refine (ih _).mono ?_; rintro e w1 ⟨q, rfl, ht, hb1⟩)
    obtain ⟨y, hy⟩ : ∃ y, (Tr.first ll lx lr).1 = y := ⟨_, rfl⟩
    obtain ⟨T', hT⟩ : ∃ T', (Tr.first ll lx lr).2 = T' := ⟨_, rfl⟩
    rw [hT] at ht hsz
    rw [hy]
    have hg : Tr.first (.node ll lx lr) x r = (y, Tr.even T' x r) := by simp only [Tr.first]; rw [hy, hT]
    clear ih hn2
    have how : Own2 w1 w.heap.size := (Own2.new w (.int .i64 0) (.int .i64 0)).below hb1
    have hyy := two_new w1 (.int .i64 y.1) (.int .i64 y.2) 27
    have hz1 := hb1.size
    rw [World.size_alloc] at hz1
    have hl1 : Later w w1 := (hla _).next hb1
    have hW2 : Later w1 (w1.alloc (.cells #[.int .i64 y.1, .int .i64 y.2] 27)) := Later.two
    obtain ⟨W2, hW2e⟩ : ∃ W2, w1.alloc (.cells #[.int .i64 y.1, .int .i64 y.2] 27) = W2 := ⟨_, rfl⟩
    rw [hW2e] at hW2 hyy ⊢
    obtain ⟨M, hM⟩ : ∃ M, w1.heap.size = M := ⟨_, rfl⟩
    rw [hM] at hyy hz1 ⊢
    have hMN : w.heap.size ≠ M := by omega
    replace how := how.below hW2
    have hl2 := hl1.next hW2
    have hu2 : Up (fun b => ok b ∧ b ≠ w.heap.size) W2.drew.heap.size := hu1.mono (by rw [World.size_drew]; have := hW2.size; omega)
    have hq2 : IsT (fun b => ok b ∧ b ≠ w.heap.size) W2.drew q T' := ht.later hW2.drew
    have hr2 : IsT (fun b => ok b ∧ b ≠ w.heap.size) W2.drew pr r := hr _ hl2.drew
    have hsE : T'.size + r.size + 1 ≤ 4611686018427387904 := by omega
    clear hz1 hM hb1 ht hW2e hW2 hl1 hla hl hr h h1 hu1 hsz hs2 hs
    have hS0 : Later w W2.drew ∧ Own2 W2.drew w.heap.size ∧ W2.drew.cell? ⟨M, 0, none⟩ = some (.int .i64 y.1) ∧ W2.drew.cell? ⟨M, 1, none⟩ = some (.int .i64 y.2) := ⟨hl2.drew, how, hyy.1, hyy.2⟩
    have hS1 : ∀ A B : World, (Later w A ∧ Own2 A w.heap.size ∧ A.cell? ⟨M, 0, none⟩ = some (.int .i64 y.1) ∧ A.cell? ⟨M, 1, none⟩ = some (.int .i64 y.2)) → Later A B → (Later w B ∧ Own2 B w.heap.size ∧ B.cell? ⟨M, 0, none⟩ = some (.int .i64 y.1) ∧ B.cell? ⟨M, 1, none⟩ = some (.int .i64 y.2)) :=
      fun A B h k => ⟨h.1.next k, h.2.1.below k, k.cell h.2.2.1, k.cell h.2.2.2⟩
    have hS2 : ∀ (A : World) (u v : Value), (Later w A ∧ Own2 A w.heap.size ∧ A.cell? ⟨M, 0, none⟩ = some (.int .i64 y.1) ∧ A.cell? ⟨M, 1, none⟩ = some (.int .i64 y.2)) → (Later w ((A.setCell ⟨w.heap.size, 0, none⟩ u).setCell ⟨w.heap.size, 1, none⟩ v) ∧ Own2 ((A.setCell ⟨w.heap.size, 0, none⟩ u).setCell ⟨w.heap.size, 1, none⟩ v) w.heap.size ∧ ((A.setCell ⟨w.heap.size, 0, none⟩ u).setCell ⟨w.heap.size, 1, none⟩ v).cell? ⟨M, 0, none⟩ = some (.int .i64 y.1) ∧ ((A.setCell ⟨w.heap.size, 0, none⟩ u).setCell ⟨w.heap.size, 1, none⟩ v).cell? ⟨M, 1, none⟩ = some (.int .i64 y.2)) :=
      fun A u v h => ⟨Below.setCell (Below.setCell h.1 (p := ⟨w.heap.size, 0, none⟩) (Nat.le_refl _) u) (p := ⟨w.heap.size, 1, none⟩) (Nat.le_refl _) v, (h.2.1.set0 u).set1 v,
        by rw [World.cell?_setCell_other _ _ _ _ (by simp [hMN]), World.cell?_setCell_other _ _ _ _ (by simp [hMN])]; exact h.2.2.1,
        by rw [World.cell?_setCell_other _ _ _ _ (by simp [hMN]), World.cell?_setCell_other _ _ _ _ (by simp [hMN])]; exact h.2.2.2⟩
    have hfa : ∀ W', (Later w W' ∧ Own2 W' w.heap.size ∧ W'.cell? ⟨M, 0, none⟩ = some (.int .i64 y.1) ∧ W'.cell? ⟨M, 1, none⟩ = some (.int .i64 y.2)) → W'.cell? ⟨b, 0, none⟩ = some (.int .i64 x.1) ∧ W'.cell? ⟨b, 1, none⟩ = some (.int .i64 x.2) ∧ W'.cell? ⟨b, 2, none⟩ = some (.pointer (some ⟨bl, 0, none⟩)) ∧ W'.cell? ⟨b, 3, none⟩ = some (.pointer pr) := fun W' h => hc _ h.1
    have hfw : ∀ W', (Later w W' ∧ Own2 W' w.heap.size ∧ W'.cell? ⟨M, 0, none⟩ = some (.int .i64 y.1) ∧ W'.cell? ⟨M, 1, none⟩ = some (.int .i64 y.2)) → W'.cell? ⟨w.heap.size, 0, none⟩ = some (val W' w.heap.size 0) ∧ W'.cell? ⟨w.heap.size, 1, none⟩ = some (val W' w.heap.size 1) ∧ W'.frozen? ⟨w.heap.size, 0, none⟩ = false ∧ W'.frozen? ⟨w.heap.size, 1, none⟩ = false := fun W' h => h.2.1.cells
    clear hc hl2 hyy
    go_region_held3 (fun W' => (Later w W' ∧ Own2 W' w.heap.size ∧ W'.cell? ⟨M, 0, none⟩ = some (.int .i64 y.1) ∧ W'.cell? ⟨M, 1, none⟩ = some (.int .i64 y.2))) (first | assumption | exact hS1 _ _ (by assumption) hb3 | exact hS2 _ _ _ (by assumption)) (first | (go_at_call 84; (with_reducible refine (even_any x hu2 hq2 hr2 hsE).mono ?_); rintro e w3 ⟨p3, rfl, ht3, hb3⟩))
    go_wp2
    obtain ⟨hf0, hf1⟩ := own2_both ((show Own2 W2.drew w.heap.size from how).below hb3) (.int .i64 y.1) (.int .i64 y.2)
    have hlf := (hS2 _ (.int .i64 y.1) (.int .i64 y.2) (hS1 _ _ hS0 hb3)).1
    have hkp : Keeps (fun b => ok b ∧ b ≠ w.heap.size) w3 ((w3.setCell ⟨w.heap.size, 0, none⟩ (.int .i64 y.1)).setCell ⟨w.heap.size, 1, none⟩ (.int .i64 y.2)) := (Keeps.set _ _ (fun h => h.2 rfl)).trans (Keeps.set _ _ (fun h => h.2 rfl))
    clear hS1 hS2 hfa hfw
    generalize (w3.setCell ⟨w.heap.size, 0, none⟩ (.int .i64 y.1)).setCell ⟨w.heap.size, 1, none⟩ (.int .i64 y.2) = Wf at hf0 hf1 hlf hkp ⊢
    refine bodyPost_ret (v := .tuple #[.agg #[.int .i64 y.1, .int .i64 y.2], .pointer p3]) (by simp [results, Try.results85, go_sem, hf0, hf1]) rfl ?_
    refine ⟨p3, by rw [hg], ?_, hlf⟩
    rw [hg]
    exact (ht3.keep hkp).mono (fun _ _ h => h.1)
end Go.Proofs.Yteledidnhjioaaa.Sh
