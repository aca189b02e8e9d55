import Derived.Test.YtdifabacbhfbbaaTz
namespace Go.Proofs.Ytdifabacbhfbbaa.Tu
open Go.RowKit Go.Lib Go.Proofs
set_option linter.unusedVariables false
set_option linter.unusedSimpArgs false
theorem nB_false {i : Int} (h : nB i = false) : i = 0 := by simpa [nB] using h
theorem tB_false {t : ByteArray} (h : tB t = false) : t.toList = [] := by simpa [tB] using h
theorem lB_false {l : List ByteArray} (h : lB l = false) : l = [] := by simpa [lB] using h
theorem text_beq (s t : ByteArray) : (s.toList == t.toList) = decide (s.toList = t.toList) := by
  by_cases h : s.toList = t.toList <;> simp [h]
/-- both ways say the same -/
theorem same_ways (x y : ValV) (l m : List ByteArray) (hx : x.r < 4294967296) (hy : y.r < 4294967296) : sameP x y l m = sameQ x y l m := by
  unfold sameP sameQ
  have hk := keys_same hx hy
  cases h1 : x.ok l with
  | false => rfl
  | true =>
    cases h2 : y.ok m with
    | false => rfl
    | true =>
      by_cases hkk : x.kind = y.kind
      · unfold ValV.ok okV at h1 h2
        rw [Bool.and_eq_true] at h1 h2
        have g1 := h1.2
        have g2 := h2.2
        rw [← hkk] at g2
        unfold kindV at g1 g2
        rw [hk, hkk]
        rw [hkk] at g1 g2
        by_cases e1 : y.kind = 1
        · rw [if_pos e1] at g1 g2
          simp only [Bool.not_eq_true', Bool.or_eq_false_iff] at g1 g2
          rw [nB_false g1.1.1.1, nB_false g2.1.1.1, tB_false g1.1.2, tB_false g2.1.2, lB_false g1.2, lB_false g2.2]
          simp [e1]
        · rw [if_neg e1] at g1 g2
          by_cases e2 : y.kind = 2
          · rw [if_pos e2] at g1 g2
            simp only [Bool.not_eq_true', Bool.or_eq_false_iff] at g1 g2
            rw [g1.1.1.1, g2.1.1.1, tB_false g1.1.2, tB_false g2.1.2, lB_false g1.2, lB_false g2.2]
            simp [e2]
          · rw [if_neg e2] at g1 g2
            by_cases e3 : y.kind = 3
            · rw [if_pos e3] at g1 g2
              simp only [Bool.not_eq_true', Bool.or_eq_false_iff] at g1 g2
              rw [g1.1.1.1, g2.1.1.1, nB_false g1.1.1.2, nB_false g2.1.1.2, tB_false g1.1.2, tB_false g2.1.2, lB_false g1.2, lB_false g2.2]
              simp [e3]
            · rw [if_neg e3] at g1 g2
              by_cases e4 : y.kind = 4
              · rw [if_pos e4] at g1 g2
                simp only [Bool.not_eq_true', Bool.or_eq_false_iff] at g1 g2
                rw [g1.1.1.1, g2.1.1.1, nB_false g1.1.1.2, nB_false g2.1.1.2, lB_false g1.2, lB_false g2.2]
                simp [e4]
              · rw [if_neg e4] at g1 g2
                by_cases e5 : y.kind = 5
                · rw [if_pos e5] at g1 g2
                  simp only [Bool.not_eq_true', Bool.or_eq_false_iff] at g1 g2
                  rw [g1.1.1.1, g2.1.1.1, nB_false g1.1.1.2, nB_false g2.1.1.2, tB_false g1.2, tB_false g2.2]
                  by_cases hlm : l = m
                  · simp [e5, hlm]
                  · simp [e5, hlm]
                · rw [if_neg e5] at g1
                  exact absurd g1 (by decide)
      · have : (x.kind == y.kind) = false := by simp [hkk]
        rw [this]
        simp
end Go.Proofs.Ytdifabacbhfbbaa.Tu
