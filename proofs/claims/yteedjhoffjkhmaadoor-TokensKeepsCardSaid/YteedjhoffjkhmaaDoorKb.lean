import Derived.Test.YteedjhoffjkhmaaDoorKa
namespace Go.Proofs.YteedjhoffjkhmaaDoor.Ka
open Go.RowKit Go.Lib Go.Proofs
set_option linter.unusedVariables false
set_option linter.unusedSimpArgs false
def tk (j q : Nat) : Tk := ⟨-7, mk (j : Int) (q : Int), 0, 0⟩
structure Three (w : World) (O : Nat) (A : Nat → Option Addr) (n c : Nat → Nat) : Prop where
  form : ∀ j b o p, j < 3 → A j = some ⟨b, o, p⟩ → o = 0 ∧ p = none ∧ b ≠ O ∧ b < w.heap.size
  dis : ∀ i j g, i < 3 → j < 3 → i ≠ j → A i = some ⟨g, 0, none⟩ → A j ≠ some ⟨g, 0, none⟩
  box : ∀ j, j < 3 → w.cell? ⟨O, j, none⟩ = some (.slice (A j) (n j) (c j))
  bd : ∀ j, j < 3 → n j ≤ 1000000000000
abbrev XB (A : Nat → Option Addr) : Nat → Prop := fun b => ∃ j, j < 3 ∧ A j = some ⟨b, 0, none⟩
structure Mks (w W : World) (A : Nat → Option Addr) (n c : Nat → Nat) (k i : Nat) : Prop where
  row : ∃ M : Nat → List Tk, (∀ j, j < 3 → (M j).length = n j ∧ TR W (.slice (A j) (n j) (c j)) (M j)) ∧ ∀ j q, j < 3 → (j < k ∨ j = k ∧ q < i) → q < n j → (M j)[q]? = some (tk j q)
  chg : Chg (XB A) w W
theorem Three.notO {w : World} {O : Nat} {A : Nat → Option Addr} {n c : Nat → Nat} (h : Three w O A n c) : ¬ XB A O := fun ⟨j, hj, e⟩ => (h.form j O 0 none hj e).2.2.1 rfl
theorem own_of {A : Option Addr} {n c b : Nat} (h : (Value.slice A n c).ownBlock = some b) : ∃ o p, A = some ⟨b, o, p⟩ := by
  cases A with
  | none => cases h
  | some a => cases h; exact ⟨a.off, a.spot, rfl⟩
theorem Mks.step {w W W2 : World} {O : Nat} {A : Nat → Option Addr} {n c : Nat → Nat} {k i g : Nat} (h3 : Three w O A n c) (h : Mks w W A n c k i) (hk : k < 3) (hi : i < n k) (hg : A k = some ⟨g, 0, none⟩) (l : Later W W2) : Mks w (setT W2 g i (tk k i)) A n c k (i + 1) := by
  obtain ⟨M, hM, hm⟩ := h.row
  have hx := setT_chg W2 g i (tk k i)
  refine ⟨⟨fun j => if j = k then (M j).set i (tk k i) else M j, fun j hj => ?_, fun j q hj hq hqn => ?_⟩, (h.chg.trans l.chg).trans (hx.mono (fun b e => ⟨k, hk, by rw [e]; exact hg⟩))⟩
  · have h2 := (hM j hj).2.later l
    by_cases e : j = k
    · subst e
      rw [hg] at h2 ⊢
      simp only [if_true]
      exact ⟨by rw [List.length_set]; exact (hM j hj).1, h2.store (tk j i) (by rw [(hM j hj).1]; exact hi)⟩
    · simp only [if_neg e]
      refine ⟨(hM j hj).1, h2.chg hx (fun b hb hbg => ?_)⟩
      obtain ⟨o, p, ho⟩ := own_of hb
      obtain ⟨rfl, rfl, _⟩ := h3.form j b o p hj ho
      have : b = g := hbg
      subst this
      exact h3.dis j k b hj hk e ho hg
  · by_cases e : j = k
    · subst e
      simp only [if_true]
      by_cases e2 : q = i
      · subst e2
        rw [List.getElem?_set_self (by rw [(hM j hj).1]; exact hqn)]
      · rw [List.getElem?_set_ne (fun h => e2 h.symm)]
        exact hm j q hj (by omega) hqn
    · simp only [if_neg e]
      exact hm j q hj (by omega) hqn
theorem Mks.next {w W : World} {A : Nat → Option Addr} {n c : Nat → Nat} {k i : Nat} (h : Mks w W A n c k i) (hi : n k ≤ i) : Mks w W A n c (k + 1) 0 := by
  obtain ⟨M, hM, hm⟩ := h.row
  exact ⟨⟨M, hM, fun j q hj hq hqn => hm j q hj (by
    by_cases e : j = k
    · subst e; exact .inr ⟨rfl, by omega⟩
    · exact .inl (by omega)) hqn⟩, h.chg⟩
theorem Mks.at {w W : World} {O : Nat} {A : Nat → Option Addr} {n c : Nat → Nat} {k i j : Nat} (h3 : Three w O A n c) (h : Mks w W A n c k i) (hj : j < 3) (hn : 0 < n j) : ∃ g, A j = some ⟨g, 0, none⟩ ∧ ∀ q V, Later W V → q < n j * 4 → (∃ u, V.cell? ⟨g, q, none⟩ = some u) ∧ V.frozen? ⟨g, q, none⟩ = false := by
  obtain ⟨M, hM, _⟩ := h.row
  obtain ⟨hl, ht⟩ := hM j hj
  obtain ⟨g, cap, e⟩ := ht.form (by omega)
  injection e with e _ _
  refine ⟨g, e, fun q V l hq => ?_⟩
  have h2 := ht.later l
  rw [e] at h2
  exact h2.open q (by rw [hl]; exact hq)
end Go.Proofs.YteedjhoffjkhmaaDoor.Ka
