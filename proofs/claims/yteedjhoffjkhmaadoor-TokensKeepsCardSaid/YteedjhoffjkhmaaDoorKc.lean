import Derived.Test.YteedjhoffjkhmaaDoorKb
namespace Go.Proofs.YteedjhoffjkhmaaDoor.Ka
open Go.RowKit Go.Lib Go.Proofs
set_option linter.unusedVariables false
set_option linter.unusedSimpArgs false
def fullr (j m : Nat) : List Tk := (List.range m).map (tk j)
theorem fullr_len (j m : Nat) : (fullr j m).length = m := by simp [fullr]
theorem fullr_succ (j m : Nat) : fullr j (m + 1) = fullr j m ++ [tk j m] := by simp [fullr, List.range_succ]
theorem fullr_at {j m q : Nat} (h : q < m) : (fullr j m)[q]? = some (tk j q) := by simp [fullr, h]
theorem Chg.thens {X Y : Nat → Prop} {A B C : World} (h : Chg X A B) (k : Chg Y B C) (hy : ∀ b, Y b → X b ∨ A.heap.size ≤ b) : Chg X A C :=
  ⟨k.os.trans h.os, k.tape.trans h.tape, k.output.trans h.output, Nat.le_trans h.size k.size, fun i hi hx => (k.block i (Nat.lt_of_lt_of_le hi h.size) (fun e => (hy i e).elim hx (fun h2 => by omega))).trans (h.block i hi hx)⟩
theorem TR.own37 {W : World} {v : Value} {l : List Tk} (h : TR W v l) {b : Nat} (hb : v.ownBlock = some b) : ∃ cs, W.heap[b]? = some (.cells cs 37 (0, 0)) := by
  rcases h.2 with ⟨rfl, _⟩ | ⟨g, cap, cur, rfl, _, h2, _⟩
  · cases hb
  · cases hb; exact ⟨cur, h2⟩
abbrev SR (W : World) (s0 : Nat) (v : Value) (k : Nat) (vs : List Value) : Prop := W.ownsRow s0 22 1 v k vs
theorem SR.chg {X : Nat → Prop} {W V : World} {s0 k : Nat} {v : Value} {vs : List Value} (h : SR W s0 v k vs) (c : Chg X W V) (hx : ∀ b, X b → ∃ cs, W.heap[b]? = some (.cells cs 37 (0, 0))) : SR V s0 v k vs := by
  refine ⟨h.1, ?_⟩
  rcases h.2 with h0 | ⟨g, cap, cur, rfl, h1, h2, h3⟩
  · exact .inl h0
  · refine .inr ⟨g, cap, cur, rfl, h1, (c.block g (Array.getElem?_eq_some_iff.1 h2).1 (fun hg => ?_)).trans h2, h3⟩
    obtain ⟨cs, e⟩ := hx g hg
    rw [h2] at e
    injection e with e
    injection e with _ e _
    exact absurd e (by decide)
theorem SR.later {W V : World} {s0 k : Nat} {v : Value} {vs : List Value} (h : SR W s0 v k vs) (c : Later W V) : SR V s0 v k vs := h.chg (X := fun _ => False) c.chg (fun _ h => h.elim)
theorem TR.grown {W V : World} {v gv : Value} {l : List Tk} {s0 k : Nat} {vs : List Value} (h : TR W v l) (hs : SR W s0 gv k vs) (hg : W.grownBy V gv.ownBlock) : TR V v l := by
  refine h.chg (chg_grown hg) (fun b hb hx => ?_)
  obtain ⟨cs, e⟩ := h.own37 hb
  rcases hs.2 with ⟨rfl, _⟩ | ⟨g, cap, cur, rfl, _, h2, _⟩
  · cases hx
  · injection hx with hx
    subst hx
    rw [h2] at e
    injection e with e
    injection e with _ e _
    exact absurd e (by decide)
abbrev GV (n gb gc : Nat → Nat) (i : Nat) : Value := .slice (some ⟨gb i, 0, none⟩) (n i + 64) (gc i)
structure Gs (w W : World) (A : Nat → Option Addr) (n c : Nat → Nat) (k : Nat) (gb gc : Nat → Nat) (gv : Value) : Prop where
  row : ∀ j, j < 3 → TR W (.slice (A j) (n j) (c j)) (fullr j (n j))
  gro : ∀ i, i < k → TR W (GV n gb gc i) (fullr i (n i + 64))
  dis : ∀ i j, i < k → j < 3 → i ≠ j → A j ≠ some ⟨gb i, 0, none⟩
  gs : SR W w.heap.size gv k ((List.range k).map (GV n gb gc))
  chg : Chg (XB A) w W
structure Gi (w W : World) (A : Nat → Option Addr) (n c : Nat → Nat) (k : Nat) (gb gc : Nat → Nat) (gv v : Value) (i : Nat) : Prop where
  g : Gs w W A n c k gb gc gv
  r : TR W v (fullr k (n k + i))
  j3 : ∀ b, v.ownBlock = some b → ∀ j, j < 3 → j ≠ k → A j ≠ some ⟨b, 0, none⟩
  j4 : ∀ b, v.ownBlock = some b → ∀ i, i < k → gb i ≠ b
  j5 : ∀ b m cp, v = .slice (some ⟨b, 0, none⟩) m cp → A k = some ⟨b, 0, none⟩ → cp = c k
  j6 : ∀ b, v.ownBlock = some b → A k = some ⟨b, 0, none⟩ ∨ w.heap.size ≤ b
theorem Mks.gs {w W : World} {A : Nat → Option Addr} {n c gb gc : Nat → Nat} (h : Mks w W A n c 3 0) : Gs w W A n c 0 gb gc (.slice none 0 0) := by
  obtain ⟨M, hM, hm⟩ := h.row
  refine ⟨fun j hj => ?_, fun i hi => by omega, fun i j hi => by omega, World.ownsRow_nil .., h.chg⟩
  have : M j = fullr j (n j) := by
    apply List.ext_getElem?
    intro q
    by_cases hq : q < n j
    · rw [hm j q hj (by omega) hq, fullr_at hq]
    · rw [List.getElem?_eq_none (by rw [(hM j hj).1]; omega), List.getElem?_eq_none (by rw [fullr_len]; omega)]
  rw [← this]
  exact (hM j hj).2
theorem Gs.later {w W V : World} {A : Nat → Option Addr} {n c gb gc : Nat → Nat} {k : Nat} {gv : Value} (h : Gs w W A n c k gb gc gv) (l : Later W V) : Gs w V A n c k gb gc gv :=
  ⟨fun j hj => (h.row j hj).later l, fun i hi => (h.gro i hi).later l, h.dis, h.gs.later l, h.chg.trans l.chg⟩
theorem Gs.start {w W : World} {O : Nat} {A : Nat → Option Addr} {n c gb gc : Nat → Nat} {k : Nat} {gv : Value} (h3 : Three w O A n c) (h : Gs w W A n c k gb gc gv) (hk : k < 3) : Gi w W A n c k gb gc gv (.slice (A k) (n k) (c k)) 0 := by
  refine ⟨h, h.row k hk, fun b hb j hj hjk e => ?_, fun b hb i hi e => ?_, fun b m cp e _ => by injection e with _ _ e; exact e.symm, fun b hb => ?_⟩
  · obtain ⟨o, p, ho⟩ := own_of hb
    obtain ⟨rfl, rfl, _⟩ := h3.form k b o p hk ho
    exact h3.dis k j b hk hj (fun e => hjk e.symm) ho e
  · obtain ⟨o, p, ho⟩ := own_of hb
    obtain ⟨rfl, rfl, _⟩ := h3.form k b o p hk ho
    exact h.dis i k hi hk (by omega) (by rw [ho, e])
  · obtain ⟨o, p, ho⟩ := own_of hb
    obtain ⟨rfl, rfl, _⟩ := h3.form k b o p hk ho
    exact .inl ho
theorem Gi.step {w W V : World} {O : Nat} {A : Nat → Option Addr} {n c gb gc : Nat → Nat} {k i g cap : Nat} {gv v : Value} (h3 : Three w O A n c) (h : Gi w W A n c k gb gc gv v i) (hk : k < 3)
    (hr : TR V (.slice (some ⟨g, 0, none⟩) (n k + i + 1) cap) (fullr k (n k + i) ++ [tk k (n k + i)]))
    (hat : (v = .slice (some ⟨g, 0, none⟩) (n k + i) cap ∧ Chg (only g) W V) ∨ (W.heap.size ≤ g ∧ Later W V)) : Gi w V A n c k gb gc gv (.slice (some ⟨g, 0, none⟩) (n k + i + 1) cap) (i + 1) := by
  rw [← fullr_succ] at hr
  rcases hat with ⟨rfl, hc⟩ | ⟨hg, hl⟩
  · have hb : (Value.slice (some ⟨g, 0, none⟩) (n k + i) cap).ownBlock = some g := rfl
    have h37 : ∀ b, only g b → ∃ cs, W.heap[b]? = some (.cells cs 37 (0, 0)) := fun b e => by
      have e : b = g := e
      rw [e]; exact h.r.own37 hb
    refine ⟨⟨fun j hj => ?_, fun q hq => ?_, h.g.dis, h.g.gs.chg hc h37, h.g.chg.thens hc (fun b e => ?_)⟩, hr, fun b e => ?_, fun b e => ?_, fun b m cp e => ?_, fun b e => ?_⟩
    · by_cases hjk : j = k
      · subst hjk
        by_cases hA : A j = some ⟨g, 0, none⟩
        · have hcp := h.j5 g _ _ rfl hA
          subst hcp
          rw [hA]
          have hp : fullr j (n j + i + 1) = fullr j (n j) ++ ((List.range (i + 1)).map fun q => tk j (n j + q)) := by
            rw [fullr, Nat.add_assoc, List.range_add, List.map_append, List.map_map]; rfl
          rw [Nat.add_assoc] at hr hp
          rw [hp] at hr
          have h2 := hr.prefix
          rw [fullr_len] at h2
          exact h2
        · refine (h.g.row j hj).chg hc (fun b hb2 hbg => hA ?_)
          obtain ⟨o, p, ho⟩ := own_of hb2
          obtain ⟨rfl, rfl, _⟩ := h3.form j b o p hj ho
          have : b = g := hbg
          rw [ho, this]
      · refine (h.g.row j hj).chg hc (fun b hb2 hbg => ?_)
        obtain ⟨o, p, ho⟩ := own_of hb2
        obtain ⟨rfl, rfl, _⟩ := h3.form j b o p hj ho
        have e : b = g := hbg
        subst e
        exact h.j3 b hb j hj hjk ho
    · refine (h.g.gro q hq).chg hc (fun b hb2 hbg => ?_)
      have e : b = g := hbg
      subst e
      cases hb2
      exact h.j4 _ hb q hq rfl
    · have e : b = g := e
      subst e
      rcases h.j6 b hb with h6 | h6
      · exact .inl ⟨k, hk, h6⟩
      · exact .inr h6
    · cases e; exact h.j3 g hb
    · cases e; exact h.j4 g hb
    · injection e with e1 _ e2
      injection e1 with e1
      injection e1 with e1 _ _
      subst e1 e2
      exact h.j5 g _ _ rfl
    · cases e; exact h.j6 g hb
  · have hlt : ∀ j, j < 3 → A j ≠ some ⟨g, 0, none⟩ := fun j hj e => by
      have := (h3.form j g 0 none hj e).2.2.2
      have := h.g.chg.size
      omega
    refine ⟨h.g.later hl, hr, fun b e => ?_, fun b e => ?_, fun b m cp e => ?_, fun b e => ?_⟩
    · cases e; exact fun j hj _ => hlt j hj
    · cases e
      intro q hq e2
      have e2 : gb q = g := e2
      have := (h.g.gro q hq).lt (gb q) rfl
      omega
    · injection e with e1 _ e2
      injection e1 with e1
      injection e1 with e1 _ _
      subst e1
      intro hA
      exact absurd hA (hlt k hk)
    · cases e
      have := h.g.chg.size
      exact .inr (show w.heap.size ≤ g by omega)
theorem Gi.done {w W V : World} {A : Nat → Option Addr} {n c gb gc : Nat → Nat} {k g cap : Nat} {gv gv' v : Value} (h : Gi w W A n c k gb gc gv v 64) (hv : v = .slice (some ⟨g, 0, none⟩) (n k + 64) cap)
    (hs : SR V w.heap.size gv' (k + 1) ((List.range k).map (GV n gb gc) ++ [v])) (hg : W.grownBy V gv.ownBlock) (hbase : ∀ b, gv.ownBlock = some b → w.heap.size ≤ b) :
    Gs w V A n c (k + 1) (fun i => if i = k then g else gb i) (fun i => if i = k then cap else gc i) gv' := by
  have e1 : ∀ i, i < k → GV n (fun i => if i = k then g else gb i) (fun i => if i = k then cap else gc i) i = GV n gb gc i := fun i hi => by
    simp only [GV, if_neg (show i ≠ k by omega)]
  have e2 : GV n (fun i => if i = k then g else gb i) (fun i => if i = k then cap else gc i) k = v := by
    simp only [GV, if_true]; exact hv.symm
  refine ⟨fun j hj => (h.g.row j hj).grown h.g.gs hg, fun i hi => ?_, fun i j hi hj hij => ?_, ?_, h.g.chg.thens (chg_grown hg) (fun b e => .inr (hbase b e))⟩
  · by_cases hik : i = k
    · subst hik
      rw [e2]; exact h.r.grown h.g.gs hg
    · rw [e1 i (by omega)]
      exact (h.g.gro i (by omega)).grown h.g.gs hg
  · by_cases hik : i = k
    · subst hik
      simp only [if_true]
      exact h.j3 g (by rw [hv]; rfl) j hj (fun e => hij e.symm)
    · simp only [if_neg hik]
      exact h.g.dis i j (by omega) hj hij
  · have : (List.range (k + 1)).map (GV n (fun i => if i = k then g else gb i) (fun i => if i = k then cap else gc i)) = (List.range k).map (GV n gb gc) ++ [v] := by
      rw [List.range_succ, List.map_append, List.map_cons, List.map_nil, e2]
      congr 1
      exact List.map_congr_left (fun i hi => e1 i (List.mem_range.1 hi))
    rw [this]
    exact hs
theorem info22 : (Tryd.prog.info? 22).map (fun i => (i.zero, i.size, i.bytes)) = some (some (.slice none 0 0), 1, 24) := by kernel_rfl
end Go.Proofs.YteedjhoffjkhmaaDoor.Ka
