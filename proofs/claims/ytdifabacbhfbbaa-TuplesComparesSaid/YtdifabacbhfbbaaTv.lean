import Derived.Test.YtdifabacbhfbbaaTu
import Derived.Test.YtdifabacbhfbbaaTt
namespace Go.Proofs.Ytdifabacbhfbbaa.Tu
open Go.RowKit Go.Lib Go.Proofs
set_option linter.unusedVariables false
set_option linter.unusedSimpArgs false
set_option maxHeartbeats 8000000 in
set_option maxRecDepth 100000 in
theorem mayref_any (kind : Int) (b : Bool) (i : Int) (r : Nat) (text : ByteArray) {l : List ByteArray} {w : World} {A : Option Addr} {n c : Nat} (hA : TxtAt w A l) (hn : l.length = n) (hz : n ≤ 8796093022080) :
    Calls Try.prog 45 #[.agg #[.int .i64 kind, .bool b, .int .i64 i, .float .f32 r, .string text, .slice A n c]] w fun e w' => e = .returned (.bool (okV kind b i r text l)) ∧ Later w w' := by
  obtain ⟨R, hR⟩ : ∃ R, okV kind b i r text l = R := ⟨_, rfl⟩
  rw [hR]
  have hw1 : Later w (w.alloc (.cells #[.int .i64 kind, .bool b, .int .i64 i, .float .f32 r, .string text, .slice A n c] 48)) := (Later.refl w).alloc _
  have hcl := cells_at w [.int .i64 kind, .bool b, .int .i64 i, .float .f32 r, .string text, .slice A n c] 48
  have hc : ∀ V, Later (w.alloc (.cells #[.int .i64 kind, .bool b, .int .i64 i, .float .f32 r, .string text, .slice A n c] 48)) V → V.cell? ⟨w.heap.size, 0, none⟩ = some (.int .i64 kind) ∧ V.cell? ⟨w.heap.size, 1, none⟩ = some (.bool b) ∧ V.cell? ⟨w.heap.size, 2, none⟩ = some (.int .i64 i) ∧ V.cell? ⟨w.heap.size, 3, none⟩ = some (.float .f32 r) ∧ V.cell? ⟨w.heap.size, 4, none⟩ = some (.string text) ∧ V.cell? ⟨w.heap.size, 5, none⟩ = some (.slice A n c) := fun V l =>
    ⟨l.cell (hcl 0 _ rfl), l.cell (hcl 1 _ rfl), l.cell (hcl 2 _ rfl), l.cell (hcl 3 _ rfl), l.cell (hcl 4 _ rfl), l.cell (hcl 5 _ rfl)⟩
  clear hcl
  go_enter Try.func45, Try.ntmps45
  go_upto_region 1 with fail
  generalize w.alloc (.cells #[.int .i64 kind, .bool b, .int .i64 i, .float .f32 r, .string text, .slice A n c] 48) = W1 at hc hw1 ⊢
  obtain ⟨p0, p1, p2, p3, p4, p5⟩ := hc W1 (Later.refl _)
  by_cases hk : 1 ≤ kind ∧ kind ≤ 5
  · have k1 : decide (kind < 1) = false := by simp; omega
    have k2 : decide (5 < kind) = false := by simp; omega
    have hz51 := fun W => zero_any kind b i r text (A := A) (c := c) (w := W) hk hn
    obtain ⟨z, hzz⟩ : ∃ z, kindV kind b (nB i) (rB r) (tB text) (lB l) = z := ⟨_, rfl⟩
    rw [hzz] at hz51
    have hRz : okV kind b i r text l = (smallV text l && z) := by rw [← hzz]; rfl
    replace hzz := hid hzz
    replace hk := hid hk
    cases z with
    | false =>
      have hr : Hid (R = false) := hid (by rw [← hR, hRz, Bool.and_false])
      clear hR hRz
      go_wp2_with (go_at_call 51; (with_reducible refine (hz51 _).mono ?_); rintro e w3 ⟨rfl, l3⟩; obtain ⟨s0, s1, s2, s3, s4, s5⟩ := hc _ l3)
      go_ret
      exact ⟨by rw [hr.out]; rfl, hw1.next l3⟩
    | true =>
      by_cases h1 : text.size ≤ 256
      · have d1 : decide (256 < text.size) = false := by simp; omega
        by_cases h2 : n ≤ 32
        · have d2 : decide (32 < n) = false := by simp; omega
          go_wp2_with (go_at_call 51; (with_reducible refine (hz51 _).mono ?_); rintro e w3 ⟨rfl, l3⟩; obtain ⟨s0, s1, s2, s3, s4, s5⟩ := hc _ l3)
          go_loopw [3] (fun i' wr => ∃ k : Nat, k ≤ n ∧ i' = .int .i64 k ∧ Hid (∀ j s, j < k → l[j]? = some s → s.size ≤ 256) ∧ Later W1 wr) (fun i' _ => n - (intOf i').toNat)
          case atStart => exact ⟨0, Nat.zero_le _, rfl, hid (fun j s hj => by omega), l3⟩
          case round =>
            obtain ⟨k, hk', rfl, hsm, lk⟩ := hrel
            obtain ⟨q0, q1, q2, q3, q4, q5⟩ := hc _ lk
            by_cases hlt : k < n
            · cases hs : l[k]? with
              | none => exact absurd (List.getElem?_eq_none_iff.1 hs) (by omega)
              | some s =>
                obtain ⟨bb, oo, rfl, c0⟩ := hA.later (hw1.next lk) k s hs
                have hs' : Hid (l[k]? = some s) := hid hs
                clear hs
                by_cases h3 : s.size ≤ 256
                · have d3 : decide (256 < s.size) = false := by simp; omega
                  have hn2 : Hid (∀ j s, j < k + 1 → l[j]? = some s → s.size ≤ 256) := hid (fun j s' hj hj2 => by
                    by_cases hjk : j < k
                    · exact hsm.out j s' hjk hj2
                    · obtain rfl : j = k := by omega
                      rw [hs'.out] at hj2
                      injection hj2 with hj2
                      rw [← hj2]
                      exact h3)
                  go_wp2_with fail
                  go_roundw
                  case rel => exact ⟨k + 1, by omega, by go_num, hn2, lk⟩
                  case measure => simp [intOf]; omega
                · have hr : Hid (R = false) := hid (by
                    rw [← hR, hRz]
                    have : smallV text l = false := by
                      unfold smallV
                      rw [Bool.and_eq_false_iff]
                      right
                      rw [List.all_eq_false]
                      exact ⟨s, List.mem_of_getElem? hs'.out, by simp; omega⟩
                    rw [this]; rfl)
                  have d3 : decide (256 < s.size) = true := by simp; omega
                  clear hR hRz
                  go_wp2_with fail
                  go_ret
                  exact ⟨by rw [hr.out]; rfl, hw1.next lk⟩
            · obtain rfl : k = n := by omega
              have hr : Hid (R = true) := hid (by
                rw [← hR, hRz]
                have : smallV text l = true := by
                  unfold smallV
                  rw [Bool.and_eq_true, Bool.and_eq_true]
                  refine ⟨⟨decide_eq_true h1, decide_eq_true (by omega)⟩, List.all_eq_true.2 fun s hs => ?_⟩
                  obtain ⟨j, hj⟩ := List.mem_iff_getElem?.1 hs
                  exact decide_eq_true (hsm.out j s (by have := (List.getElem?_eq_some_iff.1 hj).1; omega) hj)
                rw [this]; rfl)
              clear hR hRz hsm
              go_wp2_with fail
              go_ret
              exact ⟨by rw [hr.out]; rfl, hw1.next lk⟩
        · have d2 : decide (32 < n) = true := by simp; omega
          have hr : Hid (R = false) := hid (by rw [← hR, hRz]; simp [smallV, hn, h2])
          clear hR hRz
          go_wp2_with (go_at_call 51; (with_reducible refine (hz51 _).mono ?_); rintro e w3 ⟨rfl, l3⟩; obtain ⟨s0, s1, s2, s3, s4, s5⟩ := hc _ l3)
          go_ret
          exact ⟨by rw [hr.out]; rfl, hw1.next l3⟩
      · have d1 : decide (256 < text.size) = true := by simp; omega
        have hr : Hid (R = false) := hid (by rw [← hR, hRz]; simp [smallV, h1])
        clear hR hRz
        go_wp2_with (go_at_call 51; (with_reducible refine (hz51 _).mono ?_); rintro e w3 ⟨rfl, l3⟩; obtain ⟨s0, s1, s2, s3, s4, s5⟩ := hc _ l3)
        go_ret
        exact ⟨by rw [hr.out]; rfl, hw1.next l3⟩
  · have hr : Hid (R = false) := hid (by
      rw [← hR]
      have : kindV kind b (nB i) (rB r) (tB text) (lB l) = false := by
        unfold kindV
        repeat rw [if_neg (by omega)]
      unfold okV
      rw [this, Bool.and_false])
    clear hR
    by_cases k1 : kind < 1
    · have d1 : decide (kind < 1) = true := by simpa using k1
      replace hk := hid hk
      go_wp2_with fail
      go_ret
      exact ⟨by rw [hr.out]; rfl, hw1⟩
    · have d1 : decide (kind < 1) = false := by simpa using k1
      have d2 : decide (5 < kind) = true := by simp; omega
      replace hk := hid hk
      go_wp2_with fail
      go_ret
      exact ⟨by rw [hr.out]; rfl, hw1⟩
end Go.Proofs.Ytdifabacbhfbbaa.Tu
