import Derived.Test.YtlhhpdomiioeiaaGreatDoorOk
namespace Go.Proofs.YtlhhpdomiioeiaaGreatDoor.Tu
open Go.RowKit Go.Lib Go.Proofs
set_option linter.unusedVariables false
set_option linter.unusedSimpArgs false
theorem snd_set {W : World} {B t : Nat} {a b : Value} (x : Value) (h : W.heap[B]? = some (.cells #[a, b] t (0, 0))) : (W.setCell ⟨B, 1, none⟩ x).heap[B]? = some (.cells #[a, x] t (0, 0)) := by
  simp [World.setCell, Array.getElem?_modify, h]
theorem bytes_other {W : World} {r g o q : Nat} {L : List Int} (v : Value) (h : BytesAt W (some ⟨g, o, none⟩) L) (hg : g ≠ r) : BytesAt (W.setCell ⟨r, q, none⟩ v) (some ⟨g, o, none⟩) L := fun i z hi => by
  obtain ⟨g', o', e, c⟩ := h i z hi
  cases e
  exact ⟨g, o, rfl, (cell_other v hg).trans c⟩
set_option maxHeartbeats 8000000 in
set_option maxRecDepth 100000 in
theorem ruint_0 {w : World} {r : Nat} {L : List Int} (h : Rd w r (0 :: L)) (hz : L.length ≤ 900) : Calls Tryz.prog 31 #[.pointer (some ⟨r, 0, none⟩)] w fun e w' => e = .returned (.int .u64 0) ∧ Rd w' r L ∧ Chg (only r) w w' := by
  obtain ⟨A, c, hR, hc, hb, hlt⟩ := h.r
  have hne : ∀ g o, A = some ⟨g, o, none⟩ → g ≠ r := fun g o e => Nat.ne_of_lt (hlt g o e)
  obtain ⟨g, o, rfl, c0⟩ := hb 0 0 rfl
  obtain ⟨n, hn⟩ : ∃ n, (0 :: L).length = n := ⟨_, rfl⟩
  have hn2 : n = L.length + 1 := by rw [← hn]; simp
  rw [hn] at hR hc
  have k1 := ask_c hR (by omega) hc
  have k2 := short_0 (c := c) hb hn (by omega)
  obtain ⟨⟨p0, p1⟩, g0, g1⟩ := two_f hR
  rw [Nat.add_zero] at c0
  have hz2 : n ≤ 1000 := by omega
  have hn3 : 1 ≤ n := by omega
  replace hn := hid hn
  replace hn2 := hid hn2
  clear hz
  go_enter Tryz.func31, Tryz.ntmps31
  go_upto_region 6 with (first
    | (go_at_call 54; refine k1.mono ?_; rintro e w3 ⟨v, rfl, rfl⟩)
    | (go_at_call 55; refine k2.mono ?_; rintro e w3 ⟨rfl, rfl⟩))
  have hR2 := snd_set (.int .i64 0) hR
  have hb2 := bytes_other (r := r) (q := 1) (.int .i64 0) hb (hne g o rfl)
  have hch : Chg (only r) w (w.setCell ⟨r, 1, none⟩ (.int .i64 0)) := Chg.set (X := only r) _ _ rfl
  generalize w.setCell ⟨r, 1, none⟩ (.int .i64 0) = W2 at hR2 hb2 hch ⊢
  clear p0 p1 g0 g1
  obtain ⟨⟨p0, p1⟩, g0, g1⟩ := two_f hR2
  have i1 : (1 : Int) ≤ (c : Int) := by omega
  have i4 : (1 : Int) ≤ (n : Int) := by omega
  go_wp2_with fail
  · have hL : n - 1 = L.length := by rw [hn2.out]; omega
    have hL0 : L = [] := List.length_eq_zero_iff.1 (by omega)
    go_ret
    exact ⟨rfl, ⟨⟨some ⟨g, o, none⟩, 0, by rw [← hL]; exact one_set _ hR2, by omega, by rw [hL0]; exact fun i x h => by simp at h, fun g' o' e => hlt g' o' e⟩⟩, hch.trans (Chg.set (X := only r) _ _ rfl)⟩
  · have hL : n - 1 = L.length := by rw [hn2.out]; omega
    go_ret
    exact ⟨rfl, ⟨⟨some ⟨g, o + 1, none⟩, c - 1, by rw [← hL]; exact one_set _ hR2, by omega, bytes_drop1 _ hb2 (hne g o rfl), fun g' o' e => by cases e; exact hlt g o rfl⟩⟩, hch.trans (Chg.set (X := only r) _ _ rfl)⟩
set_option maxHeartbeats 8000000 in
set_option maxRecDepth 100000 in
theorem rend_c {w : World} {r : Nat} (h : Rd w r []) : Calls Tryz.prog 33 #[.pointer (some ⟨r, 0, none⟩)] w fun e w' => e = .returned (.int .i64 0) ∧ w = w' := by
  obtain ⟨A, c, hR, hc, hb, hlt⟩ := h.r
  have hne : ∀ g o, A = some ⟨g, o, none⟩ → g ≠ r := fun g o e => Nat.ne_of_lt (hlt g o e)
  change w.heap[r]? = some (.cells #[.slice A 0 c, .int .i64 0] 104 (0, 0)) at hR
  obtain ⟨⟨p0, p1⟩, g0, g1⟩ := two_f hR
  go_enter Tryz.func33, Tryz.ntmps33
  go_wp2_with fail
  go_ret
  exact ⟨rfl, rfl⟩
theorem info5 : (Tryz.prog.info? 5).map (fun i => (i.zero, i.size, i.bytes)) = some (some (.int .u8 0), 1, 1) := by kernel_rfl
theorem info_parts2 {P : Program} {t : TypeId} {z : Value} {s b : Nat} (h : (P.info? t).map (fun i => (i.zero, i.size, i.bytes)) = some (some z, s, b)) : ∃ i, P.info? t = some i ∧ i.zero = some z ∧ i.size = s ∧ i.bytes = b := by
  obtain ⟨i, h1, h2⟩ := Option.map_eq_some_iff.1 h
  simp only [Prod.mk.injEq] at h2
  exact ⟨i, h1, h2.1, h2.2.1, h2.2.2⟩
theorem row13 {W : World} {base : Nat} {v : Value} {xs : List Value} (h : W.ownsRow base 5 1 v (0 + 13) xs) : ∃ q cap, v = .slice (some ⟨q, 0, none⟩) 13 cap ∧ base ≤ q ∧ q < W.heap.size ∧ 13 ≤ cap := by
  rcases h.2 with ⟨_, h0⟩ | ⟨q, cap, cur, rfl, h1, h2, h3, _⟩
  · cases h0
  · exact ⟨q, cap, rfl, h1, (Array.getElem?_eq_some_iff.1 h2).1, h3⟩
abbrev LB : List Int := [1, 100, 1, 49, 1, 114, 1, 117, 1, 97, 0, 0, 0]
abbrev LV : List Value := [.int .u8 1, .int .u8 100, .int .u8 1, .int .u8 49, .int .u8 1, .int .u8 114, .int .u8 1, .int .u8 117, .int .u8 1, .int .u8 97, .int .u8 0, .int .u8 0, .int .u8 0]
theorem lv_at : ∀ (i : Nat) (x : Int), LB[i]? = some x → LV[i]? = some (.int .u8 x) := by
  intro i x h
  have e : LV = LB.map (fun x => Value.int .u8 x) := rfl
  rw [e, List.getElem?_map, h]; rfl
set_option maxHeartbeats 8000000 in
set_option maxRecDepth 100000 in
theorem rmake_c {w : World} {g : Nat} (hb : ∀ j u, LV[j]? = some u → w.cell? ((⟨g, 0, none⟩ : Addr).add j) = some u) : Calls Tryz.prog 29 #[.slice (some ⟨g, 0, none⟩) 13 13] w fun e w' => ∃ r, e = .returned (.pointer (some ⟨r, 0, none⟩)) ∧ Rd w' r LB ∧ Later w w' ∧ w.heap.size ≤ r := by
  obtain ⟨i0, hi, hz0, hz1, hz2⟩ := info_parts2 info5
  go_enter Tryz.func29, Tryz.ntmps29
  go_wp2_with (at_builtin; refine wpList_append_own_wide _ rfl _ _ 41 rfl w.heap.size 5 i0 (.int .u8 0) 1 1 Tryz.underlying41 hi hz0 hz1 hz2 rfl (by decide) _ 0 _ rfl (World.ownsRow_nil ..) ⟨g, 0, none⟩ 13 13 LV rfl rfl hb (by simp [Value.oneCell']) (by decide) (by decide) (Nat.le_refl _) ?_; intro v' w1 hown' hgrow _; obtain ⟨q, cap, rfl, hq, hq2, hcap⟩ := row13 hown')
  replace hgrow : w.grownBy w1 (Value.slice none 0 0).ownBlock := hgrow
  have l1 : Later w w1 := ⟨hgrow.os, hgrow.tape, hgrow.output, hgrow.size, fun k hk => hgrow.block k hk (by simp [Value.ownBlock])⟩
  have hcell : ∀ (i : Nat) (x : Int), LB[i]? = some x → w1.cell? ⟨q, i, none⟩ = some (.int .u8 x) := fun i x hx => by
    have hl := (List.getElem?_eq_some_iff.1 hx).1
    have h := hown'.cellAt i (by simpa using hl)
    rw [h]
    exact lv_at i x hx
  go_ret
  have la : Later w1 (w1.alloc (.cells #[.slice (some ⟨q, 0, none⟩) 13 cap, .int .i64 0] 104)) := (Later.refl _).alloc _
  refine ⟨w1.heap.size, rfl, ⟨⟨some ⟨q, 0, none⟩, cap, World.alloc_heap_new _ _, hcap, fun i x hx => ⟨q, 0, rfl, ?_⟩, fun g' o' e => by cases e; omega⟩⟩, l1.next la, hgrow.size⟩
  rw [Nat.zero_add]
  exact la.cell (hcell i x hx)
end Go.Proofs.YtlhhpdomiioeiaaGreatDoor.Tu
