import Derived.Test.YteledidnhjioaaaSiL
import Derived.Test.YteledidnhjioaaaShP
import Derived.Deep.DeepCutAuto
import Derived.Deep.CutBlock
namespace Go.Proofs.Yteledidnhjioaaa.Sh
open Go.RowKit Go.Lib Go.Proofs Go.Shelf
set_option linter.unusedVariables false
set_option linter.unusedSimpArgs false
theorem slice_keep {X : Nat → Prop} {W V : World} {A : Option Addr} {cap : Nat} {l : List (Int × Int)} (h : SliceAt W A cap l) (c : Chg X W V) (hx : ∀ f o, A = some ⟨f, o, none⟩ → l ≠ [] → ¬ X f) : SliceAt V A cap l :=
  ⟨h.1, h.2.1, fun i y hi => by
    obtain ⟨b, o, e, c0, c1⟩ := h.2.2 i y hi
    have h0 : l ≠ [] := fun e0 => by rw [e0] at hi; simp at hi
    exact ⟨b, o, e, c.cell c0 (hx b o e h0), c.cell c1 (hx b o e h0)⟩⟩
set_option maxRecDepth 100000 in
set_option maxHeartbeats 20000000 in
theorem gathers_walk {l : List (Int × Int)} (most : Int) {w : World} {A : Option Addr} {cap : Nat} (hl : SliceAt w A cap l) (hz : l.length ≤ 8796093022080) :
    Calls Try.prog 3 #[.slice A l.length cap, .int .i64 most] w fun e w' => e = .returned (.bool true) ∧ Later w w' := by
  obtain ⟨n, hn⟩ : ∃ n, l.length = n := ⟨_, rfl⟩
  have hs0 : Seen (w.alloc (.cells #[.int .i64 0, .int .i64 0, .int .i64 0] 23)) w.heap.size 0 0 0 := by show (w.heap.push _)[w.heap.size]? = _; exact Array.getElem?_push_size
  have l0 : Later w (w.alloc (.cells #[.int .i64 0, .int .i64 0, .int .i64 0] 23)) := (Later.refl w).alloc _
  have hA : ∀ f o, A = some ⟨f, o, none⟩ → l.length ≠ 0 → f < w.heap.size := fun f o e hne => by
    obtain ⟨x, hx⟩ : ∃ x, l[0]? = some x := ⟨_, List.getElem?_eq_getElem (by omega)⟩
    obtain ⟨b, o', e', c0, _⟩ := hl.2.2 0 x hx
    rw [e] at e'; injection e' with e'; injection e' with e1 _ _
    rw [e1]; exact cell_lt c0
  rw [hn]
  go_enter Try.func3, Try.ntmps3
  go_wp2_with fail
  go_at_call 13; refine list_any.mono ?_; rintro e W2 ⟨rfl, l1, b1, b2⟩
  rw [World.size_alloc] at b1 b2
  have hs2 := hs0.later l1
  have hlA : ∀ f o, A = some ⟨f, o, none⟩ → l ≠ [] → f < W2.heap.size → ¬ fresh W2 f ∧ f ≠ w.heap.size := fun f o e h0 hf => ⟨fun h => by have : W2.heap.size ≤ f := h; omega, fun h => by have := hA f o e (fun e => h0 (List.length_eq_zero_iff.1 e)); omega⟩
  rw [← hn] at b1
  have hq := list_seq (X := fresh W2) (hl.later (l0.next l1)) b1 b2 hs2 (fun h => by have : W2.heap.size ≤ _ := h; have := b1.lt; omega) (fun h => by have : W2.heap.size ≤ _ := h; have := b2.lt; omega) (fun h => by have : W2.heap.size ≤ _ := h; have := hs2.lt; omega) hlA (by decide) (by decide) (by decide) (by omega)
  have hg1 := gather_any most hq enters55 hs2.lt (fun k A V h c => h.chg c (fun h => by have : W2.heap.size ≤ _ := h; have := hs2.lt; omega)) (by omega)
  go_wp2_with fail
  go_at_call 12; refine hg1.mono ?_; rintro e W3 ⟨v1, rfl, r1, c1, s1⟩
  obtain ⟨m, hm⟩ : ∃ m : Nat, m = min most.toNat n := ⟨_, rfl⟩
  have hmn : m ≤ n := by omega
  have hnz : n ≤ 8796093022080 := by omega
  have hmc : m ≤ cap := by have := hl.1; omega
  have hbool : decide (most.toNat < l.length) = decide ((m : Int) < (n : Int)) := by rw [hn]; exact decide_eq_decide.2 (by omega)
  have htk : l.take most.toNat = l.take m := by
    rw [hm, hn.symm]
    by_cases h : most.toNat ≤ l.length
    · rw [Nat.min_eq_left h]
    · rw [Nat.min_eq_right (by omega), List.take_of_length_le (by omega), List.take_of_length_le (by omega)]
  have hlen : (l.take m).length = m := by rw [List.length_take, hn]; omega
  have hseen : min (most.toNat + 1) l.length = min (m + 1) n := by omega
  rw [hbool]
  rw [htk] at r1
  rw [hseen] at s1
  replace hm := hid hm
  replace hbool := hid hbool
  replace htk := hid htk
  replace hlen := hid hlen
  replace hseen := hid hseen
  have hn0 := hid hn
  clear hg1 hq hs0 hs2 hn
  go_upto_region 3 with fail
  go_cut [8] (fun v wx => v = .int .i64 m ∧ W3 = wx)
  case first =>
    go_wp2_with fail
    all_goals (go_meet; exact ⟨by have hm0 := hm.out; congr 1; omega, rfl⟩)
  case rest =>
    obtain ⟨rfl, rfl⟩ := hcut
    rw [hlen.out] at r1
    obtain ⟨A1, cap1, rfl, sl1, hb1⟩ := row_slice2 (l := l.take m) (by rw [hlen.out]; exact r1) (by rw [hlen.out]; omega) hlen.out
    have slm : ∀ V, SliceAt V A cap l → SliceAt V A cap (l.take m) := fun V h => ⟨by rw [hlen.out]; exact hmc, by rw [hlen.out]; omega, fun i x hx => h.2.2 i x (by rw [List.getElem?_take] at hx; split at hx <;> first | exact hx | cases hx)⟩
    have hsl3 : SliceAt W3 A cap l := slice_keep (hl.later (l0.next l1)) c1 (fun f o e h0 h => by have : f = w.heap.size := h; have := hA f o e (fun e => h0 (List.length_eq_zero_iff.1 e)); omega)
    have hsm := same_ref sl1 (slm _ hsl3)
    rw [hlen.out, decide_eq_true rfl] at hsm
    go_upto_region 4 with fail
    go_cut [7, 58] (fun v7 v wx => v = .bool false ∧ Later W3 wx)
    case first =>
      have hn1 := hn0
      by_cases hlt : m < n
      · have hd : decide ((m : Int) < (n : Int)) = true := decide_eq_true (by omega)
        have s2 : Seen W3 w.heap.size 1 1 ((m : Int) + 1) := by rw [show min (m + 1) n = m + 1 by omega] at s1; simpa using s1
        clear s1 l0 l1 hlA c1 b1 b2 slm hA
        go_wp2_with fail
        go_at_call 14; refine hsm.mono ?_; rintro e W4 ⟨rfl, l4⟩
        obtain ⟨q0, q1, q2, f0, f1, f2⟩ := (s2.later l4).cells
        go_wp2_with fail
        all_goals (go_meet; exact ⟨by simp, l4⟩)
      · obtain rfl : n = m := by omega
        have hd : decide ((n : Int) < (n : Int)) = false := decide_eq_false (by omega)
        have s2 : Seen W3 w.heap.size 1 1 (n : Int) := by rw [show min (n + 1) n = n by omega] at s1; simpa using s1
        clear s1 l0 l1 hlA c1 b1 b2 slm hA
        go_wp2_with fail
        go_at_call 14; refine hsm.mono ?_; rintro e W4 ⟨rfl, l4⟩
        obtain ⟨q0, q1, q2, f0, f1, f2⟩ := (s2.later l4).cells
        go_wp2_with fail
        all_goals (go_meet; exact ⟨by simp, l4⟩)
    case rest =>
      obtain ⟨rfl, l3⟩ := hcut
      obtain ⟨r, hr⟩ : ∃ r : Nat, min (m + 1) n = r := ⟨_, rfl⟩
      have hrz : r ≤ n := by omega
      rw [hr, show (0 : Int) + 1 = 1 from rfl, Int.zero_add] at s1
      replace hr := hid hr
      clear hsm
      have hn1 := hn0.out
      go_wp2_with fail
      go_at_call 13; refine list_any.mono ?_; rintro e W5 ⟨rfl, l5, b3, b4⟩
      have l35 := l3.next l5
      have s5 := s1.later l35
      have hsl5 := hsl3.later l35
      rw [← hn1] at b3
      have hSN : w.heap.size < W2.heap.size := by have := b1.lt; omega
      have hq := list_seq (X := fresh W5) hsl5 b3 b4 s5 (fun h => by have : W5.heap.size ≤ _ := h; have := b3.lt; omega) (fun h => by have : W5.heap.size ≤ _ := h; have := b4.lt; omega) (fun h => by have : W5.heap.size ≤ _ := h; have := s5.lt; omega) (fun f o e h0 hf => ⟨fun h => by have : W5.heap.size ≤ f := h; omega, fun h => by have := hA f o e (fun e => h0 (List.length_eq_zero_iff.1 e)); omega⟩) (by decide) (by decide) (by omega) (by omega)
      have hg2 := gather_any most hq enters55 s5.lt (fun k A V h c => h.chg c (fun h => by have : W5.heap.size ≤ _ := h; have := s5.lt; omega)) (by omega)
      rw [htk.out] at hg2
      clear hq hn1
      go_wp2_with fail
      go_at_call 12; refine hg2.mono ?_; rintro e W6 ⟨v2, rfl, r2, c2, s6⟩
      have z1 : W2.heap.size ≤ W3.heap.size := c1.size
      have z2 : W3.heap.size ≤ W5.heap.size := l35.size
      have z3 : W5.heap.size ≤ W6.heap.size := c2.size
      obtain ⟨A2, cap2, rfl, _, hb2⟩ := row_slice2 r2 (by rw [hlen.out]; omega) hlen.out
      have r1' := own_chg (own_chg r1 (X := fun _ => False) l35.chg (fun _ _ h => h)) c2 (fun b hb h => by have h1 := own_ge r1 b hb; have : b = w.heap.size := h; omega)
      have hsl6 := slice_keep hsl5 c2 (fun f o e h0 h => by have : f = w.heap.size := h; have := hA f o e (fun e => h0 (List.length_eq_zero_iff.1 e)); omega)
      have hap := apart_any (w := W6) (base := W2.heap.size) hlen.out (by rw [hlen.out]; exact r1') (own_lower r2 (by omega)) (fun b e1 e2 => by have h1 := own_lt r1 b e1; have h2 := own_ge r2 b e2; omega)
        (fun V c => slm V (slice_keep hsl6 c (fun f o e h0 h => by have : W2.heap.size ≤ f := h; have := hA f o e (fun e => h0 (List.length_eq_zero_iff.1 e)); omega))) (by omega) (by omega)
      have hall : Chg (upb w.heap.size) w W6 := (((l0.next l1).chg.trans (c1.mono (fun b h => by have : b = w.heap.size := h; show w.heap.size ≤ b; omega))).trans l35.chg).trans (c2.mono (fun b h => by have : b = w.heap.size := h; show w.heap.size ≤ b; omega))
      clear hg2 r1 r2 r1' hsl6 hsl5 s5 s6 hb1 hb2 sl1 hA hlA slm
      go_wp2_with fail
      go_at_call 15; refine hap.mono ?_; rintro e W7 ⟨rfl, c7⟩
      go_wp2_with fail
      go_at_call 16; refine (awake_any W7).mono ?_; rintro e W8 ⟨rfl, l8⟩
      go_wp2_with fail
      go_ret
      have h8 := (hall.trans (c7.mono (fun b h => by have : W2.heap.size ≤ b := h; show w.heap.size ≤ b; omega))).trans l8.chg
      exact ⟨by simp, h8.os, h8.tape, h8.output, h8.size, fun b hb => h8.block b hb (fun h => by have : w.heap.size ≤ b := h; omega)⟩
end Go.Proofs.Yteledidnhjioaaa.Sh
