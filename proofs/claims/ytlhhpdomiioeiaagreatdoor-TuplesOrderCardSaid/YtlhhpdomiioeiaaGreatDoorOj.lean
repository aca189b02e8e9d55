import Derived.Test.YtlhhpdomiioeiaaGreatDoorOi
namespace Go.Proofs.YtlhhpdomiioeiaaGreatDoor.Tu
open Go.RowKit Go.Lib Go.Proofs
set_option linter.unusedVariables false
set_option linter.unusedSimpArgs false
set_option maxHeartbeats 8000000 in
set_option maxRecDepth 100000 in
theorem ask_c {w : World} {r : Nat} {A : Option Addr} {n c : Nat} (hR : w.heap[r]? = some (.cells #[.slice A n c, .int .i64 0] 104 (0, 0))) (hn : n ≤ 1000) (hc : n ≤ c) : Calls Tryz.prog 54 #[.pointer (some ⟨r, 0, none⟩), .int .i64 0] w fun e w' => ∃ v, e = .returned (.tuple #[v, .bool true]) ∧ w = w' := by
  obtain ⟨⟨p0, p1⟩, g0, g1⟩ := two_f hR
  have q1 : (0 : Int) ≤ (c : Int) := by omega
  have d1 : decide ((n : Int) < 0) = false := by simp
  go_enter Tryz.func54, Tryz.ntmps54
  go_wp2_with fail
  go_ret2
  exact ⟨_, rfl, rfl⟩
/-- what is not of X lies as it lay -/
structure Chg (X : Nat → Prop) (W W' : World) : Prop where
  os : W'.os = W.os
  tape : W'.tape = W.tape
  output : W'.output = W.output
  size : W.heap.size ≤ W'.heap.size
  block : ∀ k, k < W.heap.size → ¬ X k → W'.heap[k]? = W.heap[k]?
theorem Chg.refl (X : Nat → Prop) (W : World) : Chg X W W := ⟨rfl, rfl, rfl, Nat.le_refl _, fun _ _ _ => rfl⟩
theorem Chg.trans {X : Nat → Prop} {A B C : World} (h : Chg X A B) (k : Chg X B C) : Chg X A C :=
  ⟨k.os.trans h.os, k.tape.trans h.tape, k.output.trans h.output, Nat.le_trans h.size k.size, fun i hi hx => (k.block i (Nat.lt_of_lt_of_le hi h.size) hx).trans (h.block i hi hx)⟩
theorem Later.chg {X : Nat → Prop} {A B : World} (h : Later A B) : Chg X A B := ⟨h.os, h.tape, h.output, h.size, fun k hk _ => h.block k hk⟩
theorem Chg.mono {X Y : Nat → Prop} {A B : World} (h : Chg X A B) (k : ∀ b, X b → Y b) : Chg Y A B := ⟨h.os, h.tape, h.output, h.size, fun i hi hy => h.block i hi (fun hx => hy (k i hx))⟩
theorem Chg.set {X : Nat → Prop} (W : World) {N o : Nat} (v : Value) (h : X N) : Chg X W (W.setCell ⟨N, o, none⟩ v) :=
  ⟨rfl, rfl, rfl, by simp, fun k hk hx => Below.heap_setCell _ _ _ _ (fun e => hx (by rw [e]; exact h))⟩
abbrev only (g : Nat) : Nat → Prop := fun b => b = g
theorem Later.thensX {A B C : World} {X : Nat → Prop} (h : Later A B) (k : Chg X B C) (hg : ∀ b, X b → A.heap.size ≤ b) : Later A C :=
  ⟨k.os.trans h.os, k.tape.trans h.tape, k.output.trans h.output, Nat.le_trans h.size k.size, fun i hi => (k.block i (Nat.lt_of_lt_of_le hi h.size) (fun e => by have := hg i e; omega)).trans (h.block i hi)⟩
theorem one_set {W : World} {B t : Nat} {a b : Value} (x : Value) (h : W.heap[B]? = some (.cells #[a, b] t (0, 0))) : (W.setCell ⟨B, 0, none⟩ x).heap[B]? = some (.cells #[x, b] t (0, 0)) := by
  simp [World.setCell, Array.getElem?_modify, h]
theorem cell_other {W : World} {r g o q : Nat} (v : Value) (h : g ≠ r) : (W.setCell ⟨r, q, none⟩ v).cell? ⟨g, o, none⟩ = W.cell? ⟨g, o, none⟩ :=
  World.cell?_of_block (Below.heap_setCell W ⟨r, q, none⟩ v g h)
theorem bytes_drop1 {W : World} {r g o q : Nat} {x : Int} {L : List Int} (v : Value) (h : BytesAt W (some ⟨g, o, none⟩) (x :: L)) (hg : g ≠ r) : BytesAt (W.setCell ⟨r, q, none⟩ v) (some ⟨g, o + 1, none⟩) L := fun i y hi => by
  obtain ⟨g', o', e, c⟩ := h (i + 1) y (by simpa using hi)
  cases e
  refine ⟨g, o + 1, rfl, ?_⟩
  rw [cell_other v hg, show o + 1 + i = o + (i + 1) by omega]
  exact c
theorem bytes_drop2 {W : World} {r g o q : Nat} {x y : Int} {L : List Int} (v : Value) (h : BytesAt W (some ⟨g, o, none⟩) (x :: y :: L)) (hg : g ≠ r) : BytesAt (W.setCell ⟨r, q, none⟩ v) (some ⟨g, o + 2, none⟩) L := fun i z hi => by
  obtain ⟨g', o', e, c⟩ := h (i + 2) z (by simpa using hi)
  cases e
  refine ⟨g, o + 2, rfl, ?_⟩
  rw [cell_other v hg, show o + 2 + i = o + (i + 2) by omega]
  exact c
/-- what is left to be read -/
structure Rd (W : World) (r : Nat) (L : List Int) : Prop where
  r : ∃ A c, W.heap[r]? = some (.cells #[.slice A L.length c, .int .i64 0] 104 (0, 0)) ∧ L.length ≤ c ∧ BytesAt W A L ∧ ∀ g o, A = some ⟨g, o, none⟩ → g < r
set_option maxHeartbeats 8000000 in
set_option maxRecDepth 100000 in
theorem rtext_1 {w : World} {r : Nat} {x : Int} {L : List Int} (most : Int) (h : Rd w r (1 :: x :: L)) (hz : L.length ≤ 900) (hm : 1 ≤ most) (hm2 : most ≤ 1000) : Calls Tryz.prog 30 #[.pointer (some ⟨r, 0, none⟩), .int .i64 most] w fun e w' => e = .returned (.string (strOfNums [x])) ∧ Rd w' r L ∧ Chg (only r) w w' := by
  obtain ⟨A, c, hR, hc, hb, hlt⟩ := h.r
  have hne : ∀ g o, A = some ⟨g, o, none⟩ → g ≠ r := fun g o e => Nat.ne_of_lt (hlt g o e)
  obtain ⟨g, o, rfl, c0⟩ := hb 0 1 rfl
  obtain ⟨g', o', e', c1⟩ := hb 1 x rfl
  injection e' with e'
  injection e' with e1 e2 _
  subst e1 e2
  obtain ⟨n, hn⟩ : ∃ n, (1 :: x :: L).length = n := ⟨_, rfl⟩
  have hn2 : n = L.length + 2 := by rw [← hn]; simp
  rw [hn] at hR hc
  have k1 := ask_c hR (by omega) hc
  have k2 := short_1 (c := c) hb hn (by omega)
  obtain ⟨⟨p0, p1⟩, g0, g1⟩ := two_f hR
  rw [Nat.add_zero] at c0
  have hz2 : n ≤ 1000 := by omega
  have hn3 : 2 ≤ n := by omega
  replace hn := hid hn
  replace hn2 := hid hn2
  clear hz
  have d1 : decide (most < 0) = false := by simp; omega
  go_enter Tryz.func30, Tryz.ntmps30
  go_upto_region 8 with (first
    | (go_at_call 54; refine k1.mono ?_; rintro e w3 ⟨v, rfl, rfl⟩)
    | (go_at_call 55; refine k2.mono ?_; rintro e w3 ⟨rfl, rfl⟩))
  have hcv : (convert 41 9 (.slice (some ⟨g, o + 1, none⟩) 1 (c - 1))).run Tryz.prog w = .ok (.string (strOfNums [x])) w := by
    refine run_convert_bytes_arg _ 41 5 Tryz.underlying41 Tryz.underlying5 g (o + 1) 1 (c - 1) [x] rfl (fun j hj => ?_) 9 Tryz.underlying9
    match j, hj with
    | 0, _ => exact c1
    | j + 1, hj => exact absurd hj (by simp)
  have i1 : (1 : Int) ≤ (c : Int) := by omega
  have i2 : (2 : Int) ≤ (c : Int) := by omega
  have i3 : (2 : Int) ≤ (n : Int) := by omega
  have i4 : (1 : Int) ≤ (n : Int) := by omega
  go_wp2_with fail
  · have hL : n - 2 = L.length := by rw [hn2.out]; omega
    have hL0 : L = [] := List.length_eq_zero_iff.1 (by omega)
    go_ret
    exact ⟨rfl, ⟨⟨some ⟨g, o, none⟩, 0, by rw [← hL]; exact one_set _ hR, by omega, by rw [hL0]; exact fun i x h => by simp at h, fun g' o' e => hlt g' o' e⟩⟩, Chg.set (X := only r) _ _ rfl⟩
  · have hL : n - 2 = L.length := by rw [hn2.out]; omega
    go_ret
    exact ⟨rfl, ⟨⟨some ⟨g, o + 2, none⟩, c - 2, by rw [← hL]; exact one_set _ hR, by omega, bytes_drop2 _ hb (hne g o rfl), fun g' o' e => by cases e; exact hlt g o rfl⟩⟩, Chg.set (X := only r) _ _ rfl⟩
end Go.Proofs.YtlhhpdomiioeiaaGreatDoor.Tu
