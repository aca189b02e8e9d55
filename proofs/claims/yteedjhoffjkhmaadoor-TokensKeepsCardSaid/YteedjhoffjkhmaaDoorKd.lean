import Derived.Test.YteedjhoffjkhmaaDoorKc
namespace Go.Proofs.YteedjhoffjkhmaaDoor.Ka
open Go.RowKit Go.Lib Go.Proofs
set_option linter.unusedVariables false
set_option linter.unusedSimpArgs false
def manyr (j m : Nat) : List Tk := (List.range m).map (tk j)
theorem SR.form {W : World} {s0 k : Nat} {v : Value} {vs : List Value} (h : SR W s0 v k vs) (hk : 0 < k) : ∃ sb cp cur, v = .slice (some ⟨sb, 0, none⟩) k cp ∧ s0 ≤ sb ∧ W.heap[sb]? = some (.cells cur 22 (0, 0)) := by
  rcases h.2 with ⟨_, h0⟩ | ⟨g, cap, cur, rfl, h1, h2, _⟩
  · omega
  · exact ⟨g, cap, cur, rfl, h1, h2⟩
theorem SR.cell {W : World} {s0 k sb cp i : Nat} {u : Value} {vs : List Value} (h : SR W s0 (.slice (some ⟨sb, 0, none⟩) k cp) k vs) (hi : vs[i]? = some u) : W.cell? ⟨sb, i, none⟩ = some u := by
  have hl := (List.getElem?_eq_some_iff.1 hi).1
  have h1 := h.1
  exact (h.cellAt i (by omega)).trans hi
theorem SR.store {W : World} {s0 k sb cp i : Nat} {u : Value} {vs : List Value} (h : SR W s0 (.slice (some ⟨sb, 0, none⟩) k cp) k vs) : SR (W.setCell ⟨sb, i, none⟩ u) s0 (.slice (some ⟨sb, 0, none⟩) k cp) k (vs.set i u) := by
  rcases h.2 with ⟨h1, _⟩ | ⟨g', cap', cur, h1, hb, hg, hn, hm, hs, ht⟩
  · cases h1
  · injection h1 with e1 e3 e2
    injection e1 with e1
    injection e1 with e1 _ _
    subst e1 e2
    refine ⟨by rw [List.length_set]; exact h.1, .inr ⟨sb, cp, cur.setIfInBounds i u, rfl, hb, ?_, hn, hm, by simp [hs], ?_⟩⟩
    · simp [World.setCell, Array.getElem?_modify, hg]
    · simp only [Array.toList_setIfInBounds, List.take_set, ht]
structure Hs (w W : World) (A : Nat → Option Addr) (n c : Nat → Nat) (k : Nat) (hb hc : Nat → Nat) (gv : Value) : Prop where
  row : ∀ j, j < 3 → TR W (.slice (A j) (n j) (c j)) (fullr j (n j))
  gro : ∀ i, i < k → TR W (GV n hb hc i) (fullr i (n i) ++ manyr (i + 3) 64)
  dis : ∀ i j, i < k → j < 3 → i ≠ j → A j ≠ some ⟨hb i, 0, none⟩
  gs : ∃ vs, SR W w.heap.size gv 3 vs ∧ ∀ i, i < k → vs[i]? = some (GV n hb hc i)
  chg : Chg (XB A) w W
theorem Hs.later {w W V : World} {A : Nat → Option Addr} {n c hb hc : Nat → Nat} {k : Nat} {gv : Value} (h : Hs w W A n c k hb hc gv) (l : Later W V) : Hs w V A n c k hb hc gv := by
  obtain ⟨vs, hv, hi⟩ := h.gs
  exact ⟨fun j hj => (h.row j hj).later l, fun i hi => (h.gro i hi).later l, h.dis, ⟨vs, hv.later l, hi⟩, h.chg.trans l.chg⟩
theorem Gs.hs {w W : World} {A : Nat → Option Addr} {n c gb gc hb hc : Nat → Nat} {gv : Value} (h : Gs w W A n c 3 gb gc gv) : Hs w W A n c 0 hb hc gv :=
  ⟨h.row, fun i hi => by omega, fun i j hi => by omega, ⟨_, h.gs, fun i hi => by omega⟩, h.chg⟩
theorem Hs.step {w W V : World} {O : Nat} {A : Nat → Option Addr} {n c hb hc : Nat → Nat} {k g cap sb cp : Nat} (h3 : Three w O A n c) (h : Hs w W A n c k hb hc (.slice (some ⟨sb, 0, none⟩) 3 cp)) (hk : k < 3)
    (hr : TR V (.slice (some ⟨g, 0, none⟩) (n k + 64) cap) (fullr k (n k) ++ manyr (k + 3) 64))
    (hat : (Value.slice (A k) (n k) (c k) = .slice (some ⟨g, 0, none⟩) (n k) cap ∧ Chg (only g) W V) ∨ (W.heap.size ≤ g ∧ Later W V)) :
    Hs w (V.setCell ⟨sb, k, none⟩ (.slice (some ⟨g, 0, none⟩) (n k + 64) cap)) A n c (k + 1) (fun i => if i = k then g else hb i) (fun i => if i = k then cap else hc i) (.slice (some ⟨sb, 0, none⟩) 3 cp) := by
  have e1 : ∀ i, i < k → GV n (fun i => if i = k then g else hb i) (fun i => if i = k then cap else hc i) i = GV n hb hc i := fun i hi => by
    simp only [GV, if_neg (show i ≠ k by omega)]
  have e2 : GV n (fun i => if i = k then g else hb i) (fun i => if i = k then cap else hc i) k = .slice (some ⟨g, 0, none⟩) (n k + 64) cap := by
    simp only [GV, if_true]
  have pre : (∀ j, j < 3 → TR V (.slice (A j) (n j) (c j)) (fullr j (n j))) ∧ (∀ i, i < k → TR V (GV n hb hc i) (fullr i (n i) ++ manyr (i + 3) 64)) ∧ (∀ j, j < 3 → k ≠ j → A j ≠ some ⟨g, 0, none⟩) ∧ (∃ vs, SR V w.heap.size (.slice (some ⟨sb, 0, none⟩) 3 cp) 3 vs ∧ ∀ i, i < k → vs[i]? = some (GV n hb hc i)) ∧ Chg (XB A) w V := by
    obtain ⟨vs, hvs, hvi⟩ := h.gs
    rcases hat with ⟨hv, hcg⟩ | ⟨hg, hl⟩
    · injection hv with hA _ hcp
      have hA2 := hA
      have h37 : ∀ b, only g b → ∃ cs, W.heap[b]? = some (.cells cs 37 (0, 0)) := fun b e => by
        have e : b = g := e
        rw [e]
        exact (h.row k hk).own37 (by rw [hA]; rfl)
      refine ⟨fun j hj => ?_, fun i hi => ?_, fun j hj hkj e => h3.dis k j g hk hj hkj hA e, ⟨vs, hvs.chg hcg h37, hvi⟩, h.chg.trans (hcg.mono (fun b e => by have e : b = g := e; exact ⟨k, hk, by rw [e]; exact hA⟩))⟩
      · by_cases hjk : j = k
        · subst hjk
          have h2 := hr.prefix
          rw [fullr_len, ← hcp, ← hA] at h2
          exact h2
        · refine (h.row j hj).chg hcg (fun b hb2 hbg => ?_)
          obtain ⟨o, p, ho⟩ := own_of hb2
          obtain ⟨rfl, rfl, _⟩ := h3.form j b o p hj ho
          have e : b = g := hbg
          subst e
          exact h3.dis k j b hk hj (fun e => hjk e.symm) hA ho
      · refine (h.gro i hi).chg hcg (fun b hb2 hbg => ?_)
        cases hb2
        have e : hb i = g := hbg
        exact h.dis i k hi hk (by omega) (by rw [hA, e])
    · have hlt : ∀ j, j < 3 → A j ≠ some ⟨g, 0, none⟩ := fun j hj e => by
        have := (h3.form j g 0 none hj e).2.2.2
        have := h.chg.size
        omega
      have h2 := h.later hl
      exact ⟨h2.row, h2.gro, fun j hj _ => hlt j hj, h2.gs, h2.chg⟩
  obtain ⟨pr, pg, pd, ⟨vs, hvs, hvi⟩, pc⟩ := pre
  obtain ⟨sb', cp', cur, e, hsb, hcur⟩ := hvs.form (by decide)
  injection e with e _ _
  injection e with e
  injection e with e _ _
  subst e
  have hset : Chg (only sb) V (V.setCell ⟨sb, k, none⟩ (.slice (some ⟨g, 0, none⟩) (n k + 64) cap)) := Chg.set _ _ rfl
  have h37 : ∀ {v : Value} {l : List Tk}, TR V v l → ∀ b, v.ownBlock = some b → ¬ only sb b := fun {v l} ht b hb2 e => by
    have e : b = sb := e
    subst e
    obtain ⟨cs, e2⟩ := ht.own37 hb2
    rw [hcur] at e2
    injection e2 with e2
    injection e2 with _ e2 _
    exact absurd e2 (by decide)
  refine ⟨fun j hj => (pr j hj).chg hset (h37 (pr j hj)), fun i hi => ?_, fun i j hi hj hij => ?_, ⟨_, hvs.store, fun i hi => ?_⟩, pc.thens hset (fun b e => .inr (by have e : b = sb := e; rw [e]; exact hsb))⟩
  · by_cases hik : i = k
    · subst hik
      rw [e2]; exact hr.chg hset (h37 hr)
    · rw [e1 i (by omega)]
      exact (pg i (by omega)).chg hset (h37 (pg i (by omega)))
  · by_cases hik : i = k
    · subst hik
      simp only [if_true]
      exact pd j hj hij
    · simp only [if_neg hik]
      exact h.dis i j (by omega) hj hij
  · have hlen := hvs.1
    by_cases hik : i = k
    · subst hik
      rw [e2, List.getElem?_set_self (by omega)]
    · rw [e1 i (by omega), List.getElem?_set_ne (fun h => hik h.symm)]
      exact hvi i (by omega)
theorem eq37 (a b c a' b' c' : Int) (s s' : ByteArray) (w : World) : (binOp .eql 37 (.agg #[.int .i64 a, .string s, .int .i64 b, .int .i64 c]) (.agg #[.int .i64 a', .string s', .int .i64 b', .int .i64 c'])).run Tryd.prog w = .ok (.bool (a == a' && (s.toList == s'.toList && (b == b' && c == c')))) w := by
  simp [go_sem]
  by_cases h1 : a = a' <;> by_cases h2 : s.toList = s'.toList <;> by_cases h3 : b = b' <;> by_cases h4 : c = c' <;> simp [h1, h2, h3, h4]
theorem eq37_self (s : ByteArray) (w : World) : (binOp .eql 37 (.agg #[.int .i64 (-7), .string s, .int .i64 0, .int .i64 0]) (.agg #[.int .i64 (-7), .string s, .int .i64 0, .int .i64 0])).run Tryd.prog w = .ok (.bool true) w := by
  rw [eq37]; simp
theorem Gi.later {w W V : World} {A : Nat → Option Addr} {n c gb gc : Nat → Nat} {k i : Nat} {gv v : Value} (h : Gi w W A n c k gb gc gv v i) (l : Later W V) : Gi w V A n c k gb gc gv v i :=
  ⟨h.g.later l, h.r.later l, h.j3, h.j4, h.j5, h.j6⟩
theorem Hs.open {w W V : World} {O : Nat} {A : Nat → Option Addr} {n c hb hc : Nat → Nat} {k g cap sb cp : Nat} (h : Hs w W A n c k hb hc (.slice (some ⟨sb, 0, none⟩) 3 cp)) (hk : k < 3)
    (hat : (Value.slice (A k) (n k) (c k) = .slice (some ⟨g, 0, none⟩) (n k) cap ∧ Chg (only g) W V) ∨ (W.heap.size ≤ g ∧ Later W V)) : (∃ u, V.cell? ⟨sb, k, none⟩ = some u) ∧ V.frozen? ⟨sb, k, none⟩ = false := by
  obtain ⟨vs, hvs, _⟩ := h.gs
  have hv2 : SR V w.heap.size (.slice (some ⟨sb, 0, none⟩) 3 cp) 3 vs := by
    rcases hat with ⟨hv, hcg⟩ | ⟨_, hl⟩
    · injection hv with hA _ hcp
      refine hvs.chg hcg (fun b e => ?_)
      have e : b = g := e
      rw [e]
      exact (h.row k hk).own37 (by rw [hA]; rfl)
    · exact hvs.later hl
  have hlen := hvs.1
  refine ⟨⟨vs[k]'(by omega), hv2.cell (List.getElem?_eq_getElem _)⟩, ?_⟩
  obtain ⟨sb', cp', cur, e, _, hcur⟩ := hv2.form (by decide)
  injection e with e _ _
  injection e with e
  injection e with e _ _
  subst e
  simp [World.frozen?, hcur]
theorem manyr_succ (j m : Nat) : manyr j (m + 1) = manyr j m ++ [tk j m] := by simp [manyr, List.range_succ]
theorem manyr_len (j m : Nat) : (manyr j m).length = m := by simp [manyr]
theorem Later.thens {A B C : World} {g : Nat} (h : Later A B) (k : Chg (only g) B C) (hg : A.heap.size ≤ g) : Later A C :=
  ⟨k.os.trans h.os, k.tape.trans h.tape, k.output.trans h.output, Nat.le_trans h.size k.size, fun i hi => (k.block i (Nat.lt_of_lt_of_le hi h.size) (fun e => by have e : i = g := e; omega)).trans (h.block i hi)⟩
structure Mn (W1 W : World) (j : Nat) (mv : Value) (q : Nat) : Prop where
  l : Later W1 W
  r : TR W mv (manyr j q)
  b : ∀ b, mv.ownBlock = some b → W1.heap.size ≤ b
theorem Mn.step {W1 W V W2 : World} {j q g cap : Nat} {mv : Value} (h : Mn W1 W j mv q) (l : Later W W2) (hr : TR V (.slice (some ⟨g, 0, none⟩) (q + 1) cap) (manyr j q ++ [tk j q]))
    (hat : (mv = .slice (some ⟨g, 0, none⟩) q cap ∧ Chg (only g) W2 V) ∨ (W2.heap.size ≤ g ∧ Later W2 V)) : Mn W1 V j (.slice (some ⟨g, 0, none⟩) (q + 1) cap) (q + 1) := by
  rw [← manyr_succ] at hr
  rcases hat with ⟨rfl, hc⟩ | ⟨hg, hl⟩
  · have hb := h.b g rfl
    exact ⟨(h.l.next l).thens hc hb, hr, fun b e => by cases e; exact hb⟩
  · refine ⟨(h.l.next l).next hl, hr, fun b e => ?_⟩
    cases e
    have := (h.l.next l).size
    exact (show W1.heap.size ≤ g by omega)
theorem Mn.form {W1 W : World} {j : Nat} {mv : Value} (h : Mn W1 W j mv 64) : ∃ g cap, mv = .slice (some ⟨g, 0, none⟩) 64 cap := by
  obtain ⟨g, cap, e⟩ := h.r.form (by rw [manyr_len]; decide)
  rw [manyr_len] at e
  exact ⟨g, cap, e⟩
structure InG (G : World → Prop) where
  W : World
  h : G W
theorem region_in {P : Program} {id : Nat} {Q : Exit → Act → World → Prop} {a : Act} {w : World} {o : List Oper} (Good : World → Prop) (hm : P.follows .mixedOrders = true) (hB : Region.lexB .any o.toArray = true) (hG : Good w.drew)
    (h : wpQuiet P o.toArray (fun w' => ∃ p : InG Good, w' = p.W) (fun a' => ∀ w', Good w' → Q .normal a' w') o a) : (Code.region id o.toArray true).wp P Q a w :=
  wp_region_quiet (C := fun w' => ∃ p : InG Good, w' = p.W) hm hB ⟨⟨w.drew, hG⟩, rfl⟩ (by
    have : (fun a' => ∀ w', (∃ p : InG Good, w' = p.W) → Q .normal a' w') = (fun a' => ∀ w', Good w' → Q .normal a' w') := by
      funext a'
      exact propext ⟨fun k w' g => k w' ⟨⟨w', g⟩, rfl⟩, fun k w' ⟨p, e⟩ => e ▸ k p.W p.h⟩
    rw [this]
    exact h)
theorem SR.at3 {W : World} {s0 : Nat} {n gb gc : Nat → Nat} {sb cp k : Nat} (h : SR W s0 (.slice (some ⟨sb, 0, none⟩) 3 cp) 3 ((List.range 3).map (GV n gb gc))) (hk : k < 3) : W.cell? ⟨sb, k, none⟩ = some (GV n gb gc k) :=
  h.cell (by simp [hk])
theorem append_toksN {ops : Array Oper} {rest : List Oper} {o : Oper} {a : Act} {Q : Exit → Act → World → Prop} {W : World} {s t : Operand} {v : Value} {l l2 : List Tk} {ad : Addr} {c m N : Nat} (hg : o.guard = none)
    (hop : o.op = Op.call { callee := Callee.builtin Builtin.append, args := #[s, t], argTypes := #[22, 22] }) (hs : a.eval s = v) (hx : a.eval t = .slice (some ad) m c) (hown : TR W v l) (hN : l.length = N) (hml : l2.length = m)
    (hc : ∀ j u, (flatT l2)[j]? = some u → W.cell? (ad.add j) = some u) (hm : 0 < m) (hz : N + m ≤ 1099511627776)
    (hK : ∀ g cap w', TR w' (.slice (some ⟨g, 0, none⟩) (N + m) cap) (l ++ l2) → ((v = .slice (some ⟨g, 0, none⟩) N cap ∧ Chg (only g) W w') ∨ (W.heap.size ≤ g ∧ Later W w')) → wpList Tryd.prog ops Q rest (a.put o.dst (.slice (some ⟨g, 0, none⟩) (N + m) cap)) w') : wpList Tryd.prog ops Q (o :: rest) a W := by
  subst hN
  exact append_toks hg hop hs hx hown hml hc hm hz hK
theorem cell_one_new (W : World) (u : Value) (t : TypeId) : ∀ j x, [u][j]? = some x → (W.alloc (.cells #[u] t)).cell? ((⟨W.heap.size, 0, none⟩ : Addr).add j) = some x :=
  World.news_of_block (World.alloc_heap_new W (.cells #[u] t))
theorem Gi.form {w W : World} {A : Nat → Option Addr} {n c gb gc : Nat → Nat} {k i : Nat} {gv v : Value} (h : Gi w W A n c k gb gc gv v i) (hi : 0 < i) : ∃ g cap, v = .slice (some ⟨g, 0, none⟩) (n k + i) cap := by
  obtain ⟨g, cap, e⟩ := h.r.form (by rw [fullr_len]; omega)
  rw [fullr_len] at e
  exact ⟨g, cap, e⟩
end Go.Proofs.YteedjhoffjkhmaaDoor.Ka
