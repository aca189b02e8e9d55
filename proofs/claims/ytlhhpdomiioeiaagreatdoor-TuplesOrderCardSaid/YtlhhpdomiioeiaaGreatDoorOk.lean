import Derived.Test.YtlhhpdomiioeiaaGreatDoorOj
namespace Go.Proofs.YtlhhpdomiioeiaaGreatDoor.Tu
open Go.RowKit Go.Lib Go.Proofs
set_option linter.unusedVariables false
set_option linter.unusedSimpArgs false
theorem conv_none (g o c : Nat) (w : World) : (convert 41 9 (.slice (some ⟨g, o, none⟩) 0 c)).run Tryz.prog w = .ok (.string (⟨#[]⟩ : ByteArray)) w := by
  have h := run_convert_bytes_arg w 41 5 Tryz.underlying41 Tryz.underlying5 g o 0 c [] rfl (fun j hj => absurd hj (by simp)) 9 Tryz.underlying9
  exact h
set_option maxHeartbeats 8000000 in
set_option maxRecDepth 100000 in
theorem rtext_0 {w : World} {r : Nat} {L : List Int} (most : Int) (h : Rd w r (0 :: L)) (hz : L.length ≤ 900) (hm : 1 ≤ most) (hm2 : most ≤ 1000) : Calls Tryz.prog 30 #[.pointer (some ⟨r, 0, none⟩), .int .i64 most] w fun e w' => e = .returned (.string (⟨#[]⟩ : ByteArray)) ∧ Rd w' r L ∧ Chg (only r) w w' := by
  obtain ⟨A, c, hR, hc, hb, hlt⟩ := h.r
  have hne : ∀ g o, A = some ⟨g, o, none⟩ → g ≠ r := fun g o e => Nat.ne_of_lt (hlt g o e)
  obtain ⟨g, o, rfl, c0⟩ := hb 0 0 rfl
  obtain ⟨n, hn⟩ : ∃ n, (0 :: L).length = n := ⟨_, rfl⟩
  have hn2 : n = L.length + 1 := by rw [← hn]; simp
  rw [hn] at hR hc
  have k1 := ask_c hR (by omega) hc
  have k2 := short_0 (c := c) hb hn (by omega)
  obtain ⟨⟨p0, p1⟩, g0, g1⟩ := two_f hR
  rw [Nat.add_zero] at c0
  have hz2 : n ≤ 1000 := by omega
  have hn3 : 1 ≤ n := by omega
  replace hn := hid hn
  replace hn2 := hid hn2
  clear hz
  have d1 : decide (most < 0) = false := by simp; omega
  have hcv := fun o c => conv_none g o c w
  go_enter Tryz.func30, Tryz.ntmps30
  go_upto_region 8 with (first
    | (go_at_call 54; refine k1.mono ?_; rintro e w3 ⟨v, rfl, rfl⟩)
    | (go_at_call 55; refine k2.mono ?_; rintro e w3 ⟨rfl, rfl⟩))
  have i1 : (1 : Int) ≤ (c : Int) := by omega
  have i4 : (1 : Int) ≤ (n : Int) := by omega
  go_wp2_with fail
  · have hL : n - 1 = L.length := by rw [hn2.out]; omega
    have hL0 : L = [] := List.length_eq_zero_iff.1 (by omega)
    go_ret
    exact ⟨rfl, ⟨⟨some ⟨g, o, none⟩, 0, by rw [← hL]; exact one_set _ hR, by omega, by rw [hL0]; exact fun i x h => by simp at h, fun g' o' e => hlt g' o' e⟩⟩, Chg.set (X := only r) _ _ rfl⟩
  · have hL : n - 1 = L.length := by rw [hn2.out]; omega
    go_ret
    exact ⟨rfl, ⟨⟨some ⟨g, o + 1, none⟩, c - 1, by rw [← hL]; exact one_set _ hR, by omega, bytes_drop1 _ hb (hne g o rfl), fun g' o' e => by cases e; exact hlt g o rfl⟩⟩, Chg.set (X := only r) _ _ rfl⟩
end Go.Proofs.YtlhhpdomiioeiaaGreatDoor.Tu
