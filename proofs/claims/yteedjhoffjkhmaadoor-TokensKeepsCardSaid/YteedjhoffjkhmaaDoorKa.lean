import Derived.Test.YteedjhoffjkhmaaDoorProg
import Derived.WalkKit
import Derived.WalkLawsBesides
import Derived.WalkSpells
import Derived.Below
import Derived.LoopTactic
import Derived.Outline
import Derived.Deep.LoopGhost
import Derived.KernelRfl
import Derived.OwnWalk
import Derived.Lib.Hide
import Derived.IntWalk
import Derived.Deep.RegionHeld3
import Derived.BigRegion
import Derived.RegionTactic
import Derived.StillTailTactics
import Derived.Laws.EntriesVeiled
import Derived.Deep.DeepAppendWide
import Derived.Maps.AppendAt
import Derived.Deep.DeepCutAuto
import Derived.Deep.CutBlock
import Derived.RangeFuncNested
import Derived.Deep.Quiet
import Derived.BigQuiet
import Derived.Deep.AppendLies
namespace Go.Proofs.YteedjhoffjkhmaaDoor.Ka
open Go.RowKit Go.Lib Go.Proofs
set_option linter.unusedVariables false
set_option linter.unusedSimpArgs false
theorem cell_lt {W : World} {b o : Nat} {v : Value} (h : W.cell? ⟨b, o, none⟩ = some v) : b < W.heap.size := by
  unfold World.cell? at h
  rcases Nat.lt_or_ge b W.heap.size with k | k
  · exact k
  · rw [Array.getElem?_eq_none k] at h; simp at h
abbrev Later (W W' : World) : Prop := Below W.heap.size W W'
theorem Later.cell {W W' : World} (h : Later W W') {b o : Nat} {v : Value} (k : W.cell? ⟨b, o, none⟩ = some v) : W'.cell? ⟨b, o, none⟩ = some v := (Below.cell h (p := ⟨b, o, none⟩) (cell_lt k)).trans k
theorem Later.next {W A A' : World} (h : Later W A) (k : Later A A') : Later W A' := Below.trans h (Below.mono k h.size)
theorem Later.drew {W A : World} (h : Later W A) : Later W A.drew := Below.drew h
theorem Later.refl (W : World) : Later W W := Below.refl _ _
theorem Later.alloc {W A : World} (h : Later W A) (o : Obj) : Later W (A.alloc o) := Below.alloc h h.size o
structure Chg (X : Nat → Prop) (W W' : World) : Prop where
  os : W'.os = W.os
  tape : W'.tape = W.tape
  output : W'.output = W.output
  size : W.heap.size ≤ W'.heap.size
  block : ∀ k, k < W.heap.size → ¬ X k → W'.heap[k]? = W.heap[k]?
theorem Chg.refl (X : Nat → Prop) (W : World) : Chg X W W := ⟨rfl, rfl, rfl, Nat.le_refl _, fun _ _ _ => rfl⟩
theorem Chg.trans {X : Nat → Prop} {A B C : World} (h : Chg X A B) (k : Chg X B C) : Chg X A C :=
  ⟨k.os.trans h.os, k.tape.trans h.tape, k.output.trans h.output, Nat.le_trans h.size k.size, fun i hi hx => (k.block i (Nat.lt_of_lt_of_le hi h.size) hx).trans (h.block i hi hx)⟩
theorem Later.chg {X : Nat → Prop} {A B : World} (h : Later A B) : Chg X A B := ⟨h.os, h.tape, h.output, h.size, fun k hk _ => h.block k hk⟩
theorem Chg.mono {X Y : Nat → Prop} {A B : World} (h : Chg X A B) (k : ∀ b, X b → Y b) : Chg Y A B := ⟨h.os, h.tape, h.output, h.size, fun i hi hy => h.block i hi (fun hx => hy (k i hx))⟩
theorem Chg.set {X : Nat → Prop} (W : World) {N o : Nat} (v : Value) (h : X N) : Chg X W (W.setCell ⟨N, o, none⟩ v) :=
  ⟨rfl, rfl, rfl, by simp, fun k hk hx => Below.heap_setCell _ _ _ _ (fun e => hx (by rw [e]; exact h))⟩
theorem Chg.cell {X : Nat → Prop} {A B : World} (h : Chg X A B) {b o : Nat} {v : Value} (hx : ¬ X b) (k : A.cell? ⟨b, o, none⟩ = some v) : B.cell? ⟨b, o, none⟩ = some v :=
  (World.cell?_of_block (w := A) (a := ⟨b, o, none⟩) (h.block b (cell_lt k) hx)).trans k
abbrev only (g : Nat) : Nat → Prop := fun b => b = g
def mkN (k i : Int) : List Int := [35, k % 256, k / 256 % 256, k / 65536 % 256, 47, i % 256, i / 256 % 256, i / 65536 % 256]
def mk (k i : Int) : ByteArray := strOfNums (mkN k i)
theorem conv_eight (w : World) (k i : Int) : (convert 35 9 (.slice (some ⟨w.heap.size, 0, none⟩) 8 8)).run Tryd.prog (w.alloc (.cells #[.int .u8 35, .int .u8 (k % 256), .int .u8 (k / 256 % 256), .int .u8 (k / 65536 % 256), .int .u8 47, .int .u8 (i % 256), .int .u8 (i / 256 % 256), .int .u8 (i / 65536 % 256)] 5)) =
    .ok (.string (strOfNums (mkN k i))) (w.alloc (.cells #[.int .u8 35, .int .u8 (k % 256), .int .u8 (k / 256 % 256), .int .u8 (k / 65536 % 256), .int .u8 47, .int .u8 (i % 256), .int .u8 (i / 256 % 256), .int .u8 (i / 65536 % 256)] 5)) := by
  have h' := World.alloc_heap_new w (.cells #[.int .u8 35, .int .u8 (k % 256), .int .u8 (k / 256 % 256), .int .u8 (k / 65536 % 256), .int .u8 47, .int .u8 (i % 256), .int .u8 (i / 256 % 256), .int .u8 (i / 65536 % 256)] 5)
  refine run_convert_bytes_arg _ 35 5 Tryd.underlying35 Tryd.underlying5 w.heap.size 0 8 8 (mkN k i) rfl (fun j hj => ?_) 9 Tryd.underlying9
  simp only [World.cell?, h']
  match j, hj with
  | 0, _ => rfl
  | 1, _ => rfl
  | 2, _ => rfl
  | 3, _ => rfl
  | 4, _ => rfl
  | 5, _ => rfl
  | 6, _ => rfl
  | 7, _ => rfl
  | j + 8, hj => exact absurd hj (by omega)
set_option maxHeartbeats 8000000 in
set_option maxRecDepth 100000 in
theorem mark_any (k i : Int) (w : World) : Calls Tryd.prog 35 #[.int .i64 k, .int .i64 i] w fun e w' => e = .returned (.string (mk k i)) ∧ Later w w' := by
  have hc := conv_eight w k i
  go_enter Tryd.func35, Tryd.ntmps35
  go_wp2_with fail
  go_ret
  exact ⟨rfl, (Later.refl w).alloc _⟩
structure Tk where
  a : Int
  s : ByteArray
  b : Int
  c : Int
abbrev Tk.vs (t : Tk) : List Value := [.int .i64 t.a, .string t.s, .int .i64 t.b, .int .i64 t.c]
def flatT : List Tk → List Value
  | [] => []
  | t :: l => .int .i64 t.a :: .string t.s :: .int .i64 t.b :: .int .i64 t.c :: flatT l
theorem flatT_length : ∀ l, (flatT l).length = l.length * 4
  | [] => rfl
  | t :: l => by
    show (flatT l).length + 1 + 1 + 1 + 1 = (l.length + 1) * 4
    rw [flatT_length l]; omega
theorem flatT_append : ∀ l m, flatT (l ++ m) = flatT l ++ flatT m
  | [], m => rfl
  | t :: l, m => by
    show _ :: _ :: _ :: _ :: flatT (l ++ m) = _
    rw [flatT_append l m]; rfl
theorem flatT_at : ∀ (l : List Tk) (i : Nat) (t : Tk), l[i]? = some t → (flatT l)[i * 4]? = some (.int .i64 t.a) ∧ (flatT l)[i * 4 + 1]? = some (.string t.s) ∧ (flatT l)[i * 4 + 2]? = some (.int .i64 t.b) ∧ (flatT l)[i * 4 + 3]? = some (.int .i64 t.c)
  | t :: l, 0, u, h => by
    simp at h; subst h
    exact ⟨rfl, rfl, rfl, rfl⟩
  | t :: l, i + 1, u, h => by
    have h2 := flatT_at l i u (by simpa using h)
    have e : ∀ j, (flatT (t :: l))[(i + 1) * 4 + j]? = (flatT l)[i * 4 + j]? := fun j => by
      rw [show (i + 1) * 4 + j = i * 4 + j + 1 + 1 + 1 + 1 by omega]
      rfl
    exact ⟨(e 0).trans h2.1, (e 1).trans h2.2.1, (e 2).trans h2.2.2.1, (e 3).trans h2.2.2.2⟩
theorem flatT_set (x : Tk) : ∀ (l : List Tk) (i : Nat), flatT (l.set i x) = ((((flatT l).set (i * 4) (.int .i64 x.a)).set (i * 4 + 1) (.string x.s)).set (i * 4 + 2) (.int .i64 x.b)).set (i * 4 + 3) (.int .i64 x.c)
  | [], i => by simp [flatT]
  | y :: t, 0 => by simp [flatT]
  | y :: t, i + 1 => by
    have ih := flatT_set x t i
    have e : ∀ j, (i + 1) * 4 + j = i * 4 + j + 1 + 1 + 1 + 1 := fun j => by omega
    have e0 : (i + 1) * 4 = i * 4 + 1 + 1 + 1 + 1 := by omega
    show _ :: _ :: _ :: _ :: flatT (t.set i x) = _
    rw [ih, e 1, e 2, e 3, e0]
    simp [flatT]
abbrev TR (W : World) (v : Value) (l : List Tk) : Prop := W.ownsRow 0 37 4 v l.length (flatT l)
theorem TR.lt {W : World} {v : Value} {l : List Tk} (h : TR W v l) : ∀ b, v.ownBlock = some b → b < W.heap.size := fun b hb => (World.ownsRow.lt h b hb).2
theorem TR.chg {X : Nat → Prop} {W V : World} {v : Value} {l : List Tk} (h : TR W v l) (c : Chg X W V) (hx : ∀ b, v.ownBlock = some b → ¬ X b) : TR V v l := by
  refine ⟨h.1, ?_⟩
  rcases h.2 with h0 | ⟨g, cap, cur, rfl, h1, h2, h3⟩
  · exact .inl h0
  · exact .inr ⟨g, cap, cur, rfl, h1, (c.block g (Array.getElem?_eq_some_iff.1 h2).1 (hx g rfl)).trans h2, h3⟩
theorem TR.later {W V : World} {v : Value} {l : List Tk} (h : TR W v l) (c : Later W V) : TR V v l := h.chg (X := fun _ => False) c.chg (fun _ _ h => h)
theorem TR.form {W : World} {v : Value} {l : List Tk} (h : TR W v l) (hn : 0 < l.length) : ∃ g cap, v = .slice (some ⟨g, 0, none⟩) l.length cap := by
  rcases h.2 with ⟨_, h0⟩ | ⟨g, cap, cur, rfl, _⟩
  · omega
  · exact ⟨g, cap, rfl⟩
theorem TR.slice {W : World} {v : Value} {l : List Tk} (h : TR W v l) : ∃ A cap, v = .slice A l.length cap ∧ l.length ≤ cap ∧ ∀ b o p, A = some ⟨b, o, p⟩ → o = 0 ∧ p = none := by
  rcases h.2 with ⟨rfl, h0⟩ | ⟨g, cap, cur, rfl, _, _, h1, _⟩
  · exact ⟨none, 0, by rw [h0], by omega, fun b o p e => by cases e⟩
  · exact ⟨_, cap, rfl, h1, fun b o p e => by cases e; exact ⟨rfl, rfl⟩⟩
theorem TR.cells {W : World} {g n cap : Nat} {l : List Tk} (h : TR W (.slice (some ⟨g, 0, none⟩) n cap) l) {i : Nat} {t : Tk} (hi : l[i]? = some t) :
    W.cell? ⟨g, i * 4, none⟩ = some (.int .i64 t.a) ∧ W.cell? ⟨g, i * 4 + 1, none⟩ = some (.string t.s) ∧ W.cell? ⟨g, i * 4 + 2, none⟩ = some (.int .i64 t.b) ∧ W.cell? ⟨g, i * 4 + 3, none⟩ = some (.int .i64 t.c) := by
  have hl := (List.getElem?_eq_some_iff.1 hi).1
  have hn : n = l.length := by
    rcases h.2 with ⟨e, _⟩ | ⟨_, _, _, e, _⟩
    · cases e
    · injection e
  subst hn
  obtain ⟨f0, f1, f2, f3⟩ := flatT_at l i t hi
  exact ⟨(h.cellAt (i * 4) (by omega)).trans f0, (h.cellAt (i * 4 + 1) (by omega)).trans f1, (h.cellAt (i * 4 + 2) (by omega)).trans f2, (h.cellAt (i * 4 + 3) (by omega)).trans f3⟩
theorem TR.open {W : World} {g n cap : Nat} {l : List Tk} (h : TR W (.slice (some ⟨g, 0, none⟩) n cap) l) (j : Nat) (hj : j < l.length * 4) : (∃ u, W.cell? ⟨g, j, none⟩ = some u) ∧ W.frozen? ⟨g, j, none⟩ = false := by
  have hn : n = l.length := by
    rcases h.2 with ⟨e, _⟩ | ⟨_, _, _, e, _⟩
    · cases e
    · injection e
  subst hn
  refine ⟨⟨(flatT l)[j]'(by rw [flatT_length]; omega), ?_⟩, ?_⟩
  · rw [h.cellAt j (by omega)]
    exact List.getElem?_eq_getElem _
  · rcases h.2 with ⟨e, _⟩ | ⟨g', cap', cur, e, _, hg, _⟩
    · cases e
    · injection e with e1 _ _
      injection e1 with e1
      injection e1 with e1 _ _
      subst e1
      simp [World.frozen?, hg]
abbrev setT (W : World) (g i : Nat) (x : Tk) : World := (((W.setCell ⟨g, i * 4, none⟩ (.int .i64 x.a)).setCell ⟨g, i * 4 + 1, none⟩ (.string x.s)).setCell ⟨g, i * 4 + 2, none⟩ (.int .i64 x.b)).setCell ⟨g, i * 4 + 3, none⟩ (.int .i64 x.c)
theorem setT_chg (W : World) (g i : Nat) (x : Tk) : Chg (only g) W (setT W g i x) := (((Chg.set (X := only g) _ _ rfl).trans (Chg.set _ _ rfl)).trans (Chg.set _ _ rfl)).trans (Chg.set _ _ rfl)
theorem TR.store {W : World} {g n cap i : Nat} {l : List Tk} (x : Tk) (h : TR W (.slice (some ⟨g, 0, none⟩) n cap) l) (hi : i < l.length) :
    TR (setT W g i x) (.slice (some ⟨g, 0, none⟩) n cap) (l.set i x) := by
  rcases h.2 with ⟨h1, _⟩ | ⟨g', cap', cur, h1, hb, hg, hn, hm, hs, ht⟩
  · cases h1
  · injection h1 with e1 e3 e2
    injection e1 with e1
    injection e1 with e1 _ _
    subst e1 e2 e3
    refine ⟨by rw [flatT_length], .inr ⟨g, cap, (((cur.setIfInBounds (i * 4) (.int .i64 x.a)).setIfInBounds (i * 4 + 1) (.string x.s)).setIfInBounds (i * 4 + 2) (.int .i64 x.b)).setIfInBounds (i * 4 + 3) (.int .i64 x.c), by rw [List.length_set], hb, ?_, by rw [List.length_set]; exact hn, hm, by simp [hs], ?_⟩⟩
    · simp [World.setCell, Array.getElem?_modify, hg]
    · rw [flatT_set, List.length_set]
      simp only [Array.toList_setIfInBounds, List.take_set, ht]
theorem TR.prefix {W : World} {g n cap : Nat} {l m : List Tk} (h : TR W (.slice (some ⟨g, 0, none⟩) n cap) (l ++ m)) : TR W (.slice (some ⟨g, 0, none⟩) l.length cap) l := by
  rcases h.2 with ⟨h1, _⟩ | ⟨g', cap', cur, h1, hb, hg, hn, hm, hs, ht⟩
  · cases h1
  · injection h1 with e1 e3 e2
    injection e1 with e1
    injection e1 with e1 _ _
    subst e1 e2 e3
    rw [List.length_append] at hn ht
    refine ⟨by rw [flatT_length], .inr ⟨g, cap, cur, rfl, hb, hg, by omega, hm, hs, ?_⟩⟩
    have h2 := congrArg (List.take (l.length * 4)) ht
    rw [List.take_take, Nat.min_eq_left (by omega), flatT_append, List.take_append_of_le_length (by rw [flatT_length]; omega)] at h2
    exact h2.trans (List.take_of_length_le (by rw [flatT_length]; omega))
theorem info37 : (Tryd.prog.info? 37).map (fun i => (i.zero, i.size, i.bytes)) = some (some (.agg #[.int .i64 0, .string ⟨#[]⟩, .int .i64 0, .int .i64 0]), 4, 40) := by kernel_rfl
theorem info_parts {P : Program} {t : TypeId} {z : Value} {s b : Nat} (h : (P.info? t).map (fun i => (i.zero, i.size, i.bytes)) = some (some z, s, b)) : ∃ i, P.info? t = some i ∧ i.zero = some z ∧ i.size = s ∧ i.bytes = b := by
  obtain ⟨i, h1, h2⟩ := Option.map_eq_some_iff.1 h
  simp only [Prod.mk.injEq] at h2
  exact ⟨i, h1, h2.1, h2.2.1, h2.2.2⟩
theorem later_alloc_drew (w : World) (o : Obj) : Later w (w.drew.alloc o) := Later.alloc (Later.drew (Later.refl w)) o
theorem flatT_one : ∀ (l : List Tk), ∀ u ∈ flatT l, u.oneCell' = true
  | [], u, h => by cases h
  | t :: l, u, h => by
    simp only [flatT, List.mem_cons] at h
    rcases h with rfl | rfl | rfl | rfl | h
    · rfl
    · rfl
    · rfl
    · rfl
    · exact flatT_one l u h
theorem chg_grown {W V : World} {row : Option Nat} (hg : W.grownBy V row) : Chg (fun b => row = some b) W V := ⟨hg.os, hg.tape, hg.output, hg.size, fun k hk hx => hg.block k hk (fun e => hx e.symm)⟩
theorem run_append_toks {w : World} {ty : TypeId} {v : Value} {l l2 : List Tk} {ad : Addr} {c m : Nat} (hown : TR w v l) (hml : l2.length = m) (hc : ∀ j u, (flatT l2)[j]? = some u → w.cell? (ad.add j) = some u) (hm : 0 < m) (hz : l.length + m ≤ 1099511627776) :
    ∃ g cap w', (Builtin.append_ #[22, 22] ty #[v, .slice (some ad) m c]).run Tryd.prog w = .ok (.slice (some ⟨g, 0, none⟩) (l.length + m) cap) w' ∧
      TR w' (.slice (some ⟨g, 0, none⟩) (l.length + m) cap) (l ++ l2) ∧ ((v = .slice (some ⟨g, 0, none⟩) l.length cap ∧ Chg (only g) w w') ∨ (w.heap.size ≤ g ∧ Later w w')) := by
  obtain ⟨i0, hi, hz0, hz1, hz2⟩ := info_parts info37
  subst hml
  obtain ⟨g, cap, w', hr, h2, h3, h4, h5⟩ := run_append_lies (P := Tryd.prog) w 22 ty 0 37 i0 (.agg #[.int .i64 0, .string ⟨#[]⟩, .int .i64 0, .int .i64 0]) 4 40 Tryd.underlying22 hi hz0 hz1 hz2 rfl (by decide) v l.length (flatT l) hown ad l2.length c (flatT l2) (flatT_length l2) hc (flatT_one l2) hm (by unfold maxLen; omega) (by omega) (Nat.zero_le _) w.heap.size rfl
  rw [← flatT_append] at h2
  refine ⟨g, cap, w', hr, by rw [TR, List.length_append]; exact h2, ?_⟩
  rcases hown.2 with ⟨rfl, h0⟩ | ⟨g', cap', cur, rfl, hbg, hg, hnc, hcm, hcs, htake⟩
  · have hr2 := run_append_nil (P := Tryd.prog) w 22 ty 37 i0 (.agg #[.int .i64 0, .string ⟨#[]⟩, .int .i64 0, .int .i64 0]) Tryd.underlying22 hi hz0 ad l2.length c (flatT l2) (by rw [hz1]; exact flatT_length l2) hc hm (by omega) (by rw [hz2]; omega)
    rw [hr] at hr2
    injection hr2 with e1 e2
    injection e1 with e1 _ _
    injection e1 with e1
    injection e1 with e1 _ _
    exact .inr ⟨by omega, by rw [e2]; exact later_alloc_drew w _⟩
  · by_cases hroom : l.length + l2.length ≤ cap'
    · have hr2 := run_append_room (P := Tryd.prog) w 22 ty 37 i0 Tryd.underlying22 hi g' l.length cap' cur hg ad l2.length c (flatT l2) (by rw [hz1]; exact flatT_length l2) hc (flatT_one l2) hroom (by rw [hz1, hcs, flatT_length]; omega)
      rw [hr] at hr2
      injection hr2 with e1 _
      injection e1 with e1 _ e3
      injection e1 with e1
      injection e1 with e1 _ _
      subst e1 e3
      exact .inl ⟨rfl, (chg_grown h3).mono (fun b hb => by injection hb with hb; exact hb.symm)⟩
    · have holds : ∀ j u, (flatT l)[j]? = some u → w.cell? ((⟨g', 0, none⟩ : Addr).add j) = some u := World.ownsRow.cells hown (g := g') rfl
      have hr2 := run_append_grow (P := Tryd.prog) w 22 ty 37 i0 (.agg #[.int .i64 0, .string ⟨#[]⟩, .int .i64 0, .int .i64 0]) Tryd.underlying22 hi hz0 ⟨g', 0, none⟩ l.length cap' (flatT l) (by rw [hz1]; exact hown.1) holds ad l2.length c (flatT l2) (by rw [hz1]; exact flatT_length l2) hc (by omega) (by omega) (growslice_fits (by omega) (by rw [hz2]; omega))
      rw [hr] at hr2
      injection hr2 with e1 e2
      injection e1 with e1 _ _
      injection e1 with e1
      injection e1 with e1 _ _
      exact .inr ⟨by omega, by rw [e2]; exact later_alloc_drew w _⟩
theorem append_toks {ops : Array Oper} {rest : List Oper} {o : Oper} {a : Act} {Q : Exit → Act → World → Prop} {W : World} {s t : Operand} {v : Value} {l l2 : List Tk} {ad : Addr} {c m : Nat} (hg : o.guard = none)
    (hop : o.op = Op.call { callee := Callee.builtin Builtin.append, args := #[s, t], argTypes := #[22, 22] }) (hs : a.eval s = v) (hx : a.eval t = .slice (some ad) m c) (hown : TR W v l) (hml : l2.length = m)
    (hc : ∀ j u, (flatT l2)[j]? = some u → W.cell? (ad.add j) = some u) (hm : 0 < m) (hz : l.length + m ≤ 1099511627776)
    (hK : ∀ g cap w', TR w' (.slice (some ⟨g, 0, none⟩) (l.length + m) cap) (l ++ l2) → ((v = .slice (some ⟨g, 0, none⟩) l.length cap ∧ Chg (only g) W w') ∨ (W.heap.size ≤ g ∧ Later W w')) → wpList Tryd.prog ops Q rest (a.put o.dst (.slice (some ⟨g, 0, none⟩) (l.length + m) cap)) w') : wpList Tryd.prog ops Q (o :: rest) a W := by
  refine wpList_plain hg fun K hK' => ?_
  obtain ⟨g, cap, w', hr, h2, h3⟩ := run_append_toks (ty := o.type) hown hml hc hm hz
  unfold Oper.wp execOp
  simp only [hop, resolve, invoke, builtin, Sem.run_bind, Sem.run_pure, Result.andThen_ok, List.map_toArray, List.map_cons, List.map_nil, hs, hx]
  rw [hr]
  exact hK' _ _ (hK g cap w' h2 h3)
end Go.Proofs.YteedjhoffjkhmaaDoor.Ka
