import Derived.Test.YteledidnhjioaaaShO
import Derived.Test.YteledidnhjioaaaShS
import Derived.Test.YteledidnhjioaaaShR
namespace Go.Proofs.Yteledidnhjioaaa.Sh
open Go.RowKit Go.Lib Go.Proofs Go.Shelf
set_option linter.unusedVariables false
set_option linter.unusedSimpArgs false
/-- one call of a script -/
structure Op where
  on : Int
  kind : Int
  x : Int × Int
/-- a script, as it is read -/
def OpsAt (W : World) (A : Option Addr) (cap : Nat) (l : List Op) : Prop :=
  l.length ≤ cap ∧ l.length * 16 ≤ 70368744177664 ∧ ∀ i o, l[i]? = some o → ∃ b f, A = some ⟨b, f, none⟩ ∧ W.cell? ⟨b, f + i * 4, none⟩ = some (.int .i64 o.on) ∧ W.cell? ⟨b, f + i * 4 + 1, none⟩ = some (.int .i64 o.kind) ∧ W.cell? ⟨b, f + i * 4 + 2, none⟩ = some (.int .i64 o.x.1) ∧ W.cell? ⟨b, f + i * 4 + 2 + 1, none⟩ = some (.int .i64 o.x.2)
theorem OpsAt.chg {X : Nat → Prop} {W W' : World} {A : Option Addr} {cap : Nat} {l : List Op} (h : OpsAt W A cap l) (k : Chg X W W') (hx : ∀ b, b < W.heap.size → ¬ X b) : OpsAt W' A cap l :=
  ⟨h.1, h.2.1, fun i o hi => by
    obtain ⟨b, f, ha, h0, h1, h2, h3⟩ := h.2.2 i o hi
    have e : ∀ j v, W.cell? ⟨b, j, none⟩ = some v → W'.cell? ⟨b, j, none⟩ = some v := fun j v hv => (World.cell?_of_block (w := W) (a := ⟨b, j, none⟩) (k.block b (cell_lt hv) (hx b (cell_lt hv)))).trans hv
    exact ⟨b, f, ha, e _ _ h0, e _ _ h1, e _ _ h2, e _ _ h3⟩⟩
theorem OpsAt.later {W W' : World} {A : Option Addr} {cap : Nat} {l : List Op} (h : OpsAt W A cap l) (k : Later W W') : OpsAt W' A cap l := h.chg (X := fun _ => False) k.chg (fun _ _ h => h)
theorem Chg.cell {X : Nat → Prop} {W W' : World} (k : Chg X W W') {b o : Nat} {v : Value} (hv : W.cell? ⟨b, o, none⟩ = some v) (hx : ¬ X b) : W'.cell? ⟨b, o, none⟩ = some v :=
  (World.cell?_of_block (w := W) (a := ⟨b, o, none⟩) (k.block b (cell_lt hv) hx)).trans hv
theorem Later.far {w W1 W' : World} {sb : Nat} (k : Later w W1) (hs : w.heap.size ≤ sb) (c : Chg (only sb) W1 W') : Later w W' :=
  ⟨c.os.trans k.os, c.tape.trans k.tape, c.output.trans k.output, Nat.le_trans k.size c.size, fun b hb => (c.block b (Nat.lt_of_lt_of_le hb k.size) (fun e => by have : b = sb := e; omega)).trans (k.block b hb)⟩
theorem OpsAt.get {w W1 W' : World} {sb : Nat} {A : Option Addr} {cap : Nat} {l : List Op} (h : OpsAt w A cap l) (k : Later w W1) (c : Chg (only sb) W1 W') (hs : w.heap.size ≤ sb) {i : Nat} {o : Op} (hi : l[i]? = some o) :
    ∃ b f, A = some ⟨b, f, none⟩ ∧ W'.cell? ⟨b, f + i * 4, none⟩ = some (.int .i64 o.on) ∧ W'.cell? ⟨b, f + i * 4 + 1, none⟩ = some (.int .i64 o.kind) ∧ W'.cell? ⟨b, f + i * 4 + 2, none⟩ = some (.int .i64 o.x.1) ∧ W'.cell? ⟨b, f + i * 4 + 2 + 1, none⟩ = some (.int .i64 o.x.2) := by
  obtain ⟨b, f, ha, h0, h1, h2, h3⟩ := h.2.2 i o hi
  have hb : ¬ only sb b := fun e => by have := cell_lt h0; have e' : b = sb := e; omega
  exact ⟨b, f, ha, c.cell (k.cell h0) hb, c.cell (k.cell h1) hb, c.cell (k.cell h2) hb, c.cell (k.cell h3) hb⟩
def stepK (T : Tr (Int × Int)) (o : Op) : Tr (Int × Int) := if o.kind % 3 = 0 then (T.put cmpK o.x false).1 else if o.kind % 3 = 1 then (T.put cmpK o.x true).1 else (T.out cmpK o.x).1
def ordT (l : List Op) : Tr (Int × Int) := l.foldl stepK .leaf
theorem ordT_snoc (l : List Op) (o : Op) : ordT (l ++ [o]) = stepK (ordT l) o := by simp [ordT]
theorem stepK_size (T : Tr (Int × Int)) (o : Op) : (stepK T o).size ≤ T.size + 1 := by
  unfold stepK
  split
  · exact (Tr.put_size ..).2
  · split
    · exact (Tr.put_size ..).2
    · have := Tr.out_size cmpK o.x T; omega
theorem stepK_rises {T : Tr (Int × Int)} (h : Rises cmpK T.list) (o : Op) : Rises cmpK (stepK T o).list := by
  unfold stepK
  split
  · exact put_rises ordK h
  · split
    · exact put_rises ordK h
    · exact out_rises ordK h
theorem fold_ind {α β : Type} {f : β → α → β} {P : β → Nat → Prop} (h : ∀ b n a, P b n → P (f b a) (n + 1)) : ∀ (l : List α) (b : β) (n : Nat), P b n → P (l.foldl f b) (n + l.length)
  | [], b, n, hb => hb
  | a :: l, b, n, hb => by
    have := fold_ind h l (f b a) (n + 1) (h b n a hb)
    simp only [List.foldl_cons, List.length_cons]
    rwa [show n + (l.length + 1) = n + 1 + l.length by omega]
theorem ordT_size (l : List Op) : (ordT l).size ≤ l.length := by
  have := fold_ind (f := stepK) (P := fun T n => T.size ≤ n) (fun T n o h => by have := stepK_size T o; omega) l .leaf 0 (Nat.le_refl _)
  rwa [Nat.zero_add] at this
theorem ordT_rises (l : List Op) : Rises cmpK (ordT l).list :=
  fold_ind (f := stepK) (P := fun T _ => Rises cmpK T.list) (fun T n o h => stepK_rises h o) l .leaf 0 List.Pairwise.nil
theorem find_some {X : Nat → Prop} {c : Nat} {f : (Int × Int) → (Int × Int) → Int} (hc : Comp c f) (x : Int × Int) {w : World} {sb : Nat} {T : Tr (Int × Int)} {y : Int × Int} (h : Shf X w sb c T) (hy : T.find f x = some y) :
    Calls Try.prog 32 #[.pointer (some ⟨sb, 0, none⟩), .agg #[.int .i64 x.1, .int .i64 x.2]] w fun e w' => e = .returned (.tuple #[.agg #[.int .i64 y.1, .int .i64 y.2], .bool true]) ∧ Later w w' := by
  have k := find_any hc x h
  rw [hy] at k
  exact k
theorem find_none {X : Nat → Prop} {c : Nat} {f : (Int × Int) → (Int × Int) → Int} (hc : Comp c f) (x : Int × Int) {w : World} {sb : Nat} {T : Tr (Int × Int)} (h : Shf X w sb c T) (hy : T.find f x = none) :
    Calls Try.prog 32 #[.pointer (some ⟨sb, 0, none⟩), .agg #[.int .i64 x.1, .int .i64 x.2]] w fun e w' => e = .returned (.tuple #[.agg #[.int .i64 0, .int .i64 0], .bool false]) ∧ Later w w' := by
  have k := find_any hc x h
  rw [hy] at k
  exact k
theorem nth_some {X : Nat → Prop} {c : Nat} (i : Nat) {w : World} {sb : Nat} {T : Tr (Int × Int)} {y : Int × Int} (h : Shf X w sb c T) (hz : T.size ≤ 4611686018427387904) (hy : T.list[i]? = some y) :
    Calls Try.prog 33 #[.pointer (some ⟨sb, 0, none⟩), .int .i64 i] w fun e w' => e = .returned (.tuple #[.agg #[.int .i64 y.1, .int .i64 y.2], .bool true]) ∧ Later w w' := by
  have k := nth_any i h hz
  unfold nthV at k
  rw [if_neg (by omega), Int.toNat_natCast, nth_list, hy] at k
  exact k
/-- a slice that the call owns, read wherever only block sb may have changed -/
theorem row_get {W : World} {base : Nat} {v : Value} {l : List (Int × Int)} {sb : Nat} (h : W.ownsRow base 27 2 v l.length (flat l)) (hb : sb < base) : ∃ A cap, v = .slice A l.length cap ∧ l.length ≤ cap ∧
    ∀ W', Chg (only sb) W W' → ∀ {i : Nat} {x : Int × Int}, l[i]? = some x → ∃ b o, A = some ⟨b, o, none⟩ ∧ W'.cell? ⟨b, o + i * 2, none⟩ = some (.int .i64 x.1) ∧ W'.cell? ⟨b, o + i * 2 + 1, none⟩ = some (.int .i64 x.2) := by
  rcases h.2 with ⟨rfl, h0⟩ | ⟨g, cap, cur, rfl, hg, hgg, hc, _⟩
  · rw [h0]
    refine ⟨none, 0, rfl, by omega, fun W' c i x hi => ?_⟩
    have := (List.getElem?_eq_some_iff.1 hi).1
    omega
  · refine ⟨some ⟨g, 0, none⟩, cap, rfl, hc, fun W' c i x hi => ⟨g, 0, rfl, ?_, ?_⟩⟩
    · have hlt := (List.getElem?_eq_some_iff.1 hi).1
      rw [Nat.zero_add]
      exact c.cell ((h.cellAt (i * 2) (by omega)).trans (flat_at l i x hi).1) (fun e => by have : g = sb := e; omega)
    · have hlt := (List.getElem?_eq_some_iff.1 hi).1
      rw [Nat.zero_add]
      exact c.cell ((h.cellAt (i * 2 + 1) (by omega)).trans (flat_at l i x hi).2) (fun e => by have : g = sb := e; omega)
/-- All's elements, told one by one into a slice -/
theorem gathered_all {X : Nat → Prop} {w : World} {bt m : Nat} {T : Tr (Int × Int)} (h : AllAt X w bt T) (hm : T.size ≤ m) (hx : T.size ≤ 14000000000000) :
    Calls Try.prog 18 #[allV bt, .int .i64 m] w fun e w' => ∃ v, e = .returned v ∧ w'.ownsRow w.heap.size 27 2 v T.list.length (flat T.list) ∧ Later w w' := by
  obtain ⟨p, hb, ht⟩ := h.tree
  have k := gathered_any (xs := T.list) m (all_seq hb (ht.more (Y := fresh w) (fun b h1 h2 => by have : w.heap.size ≤ b := h1; omega))) enters57 (by rw [Tr.size_list]; exact hx)
  rw [List.take_of_length_le (by rw [Tr.size_list]; exact hm)] at k
  exact k
theorem gathered_from {X : Nat → Prop} {c : Nat} {f : (Int × Int) → (Int × Int) → Int} (hc : Comp c f) {w : World} {bt cb xb m : Nat} {x : Int × Int} {T : Tr (Int × Int)} (h : FromAt X w c bt cb xb x T) (hm : T.size ≤ m) (hx : T.size ≤ 14000000000000) :
    Calls Try.prog 18 #[fromV bt cb xb, .int .i64 m] w fun e w' => ∃ v, e = .returned v ∧ w'.ownsRow w.heap.size 27 2 v (T.from_ fun y => decide (f y x < 0)).length (flat (T.from_ fun y => decide (f y x < 0))) ∧ Later w w' := by
  obtain ⟨p, hb, ht⟩ := h.tree
  have hle := Tr.from_length_le (skip := fun y => decide (f y x < 0)) T
  have k := gathered_any (xs := T.from_ fun y => decide (f y x < 0)) m (from_seq hc x hb (ht.more (Y := fresh w) (fun b h1 h2 => by have : w.heap.size ≤ b := h1; omega)) h.cmp h.x0 h.x1 (fun e => by have : w.heap.size ≤ cb := e; have := cell_lt h.cmp; omega) (fun e => by have : w.heap.size ≤ xb := e; have := cell_lt h.x0; omega)) enters64 (by omega)
  rw [List.take_of_length_le (by omega)] at k
  exact k
theorem rank_same {X : Nat → Prop} {c : Nat} {f : (Int × Int) → (Int × Int) → Int} (hc : Comp c f) (x : Int × Int) {w : World} {sb : Nat} {T : Tr (Int × Int)} (h : Shf X w sb c T) (hz : T.size ≤ 4611686018427387904) (hr : Rises f T.list) :
    Calls Try.prog 34 #[.pointer (some ⟨sb, 0, none⟩), .agg #[.int .i64 x.1, .int .i64 x.2]] w fun e w' => e = .returned (.int .i64 (rankL f x T.list : Nat)) ∧ Later w w' := by
  have k := rank_any hc x h hz
  rw [rank_list hc.ord x T hr] at k
  exact k
set_option maxRecDepth 100000 in
set_option maxHeartbeats 20000000 in
theorem ordered_walk {ops : List Op} (x : Int × Int) {w : World} {A : Option Addr} {cap : Nat} (hop : OpsAt w A cap ops) :
    Calls Try.prog 6 #[.slice A ops.length cap, .agg #[.int .i64 x.1, .int .i64 x.2]] w fun e w' => e = .returned (.bool true) ∧ Later w w' := by
  have hlen := hop.2.1
  have hB0 : Later w (w.alloc (.cells #[.int .i64 x.1, .int .i64 x.2] 27)) := Later.two
  have hxx := two_new w (.int .i64 x.1) (.int .i64 x.2) 27
  obtain ⟨W0, hW0⟩ : ∃ W0, w.alloc (.cells #[.int .i64 x.1, .int .i64 x.2] 27) = W0 := ⟨_, rfl⟩
  obtain ⟨N, hN⟩ : ∃ N, w.heap.size = N := ⟨_, rfl⟩
  rw [hW0] at hxx hB0
  rw [hN] at hxx
  go_enter Try.func6, Try.ntmps6
  go_wp2_with fail
  go_at_call 16; refine (awake_any W0).mono ?_; rintro e Wa ⟨rfl, hla⟩
  go_wp2_with fail
  go_at_call 30; refine (new_any 31 Wa).mono ?_; rintro e W1 ⟨rfl, h0, hl0⟩
  obtain ⟨sb, hsb⟩ : ∃ sb, Wa.heap.size = sb := ⟨_, rfl⟩
  rw [hsb] at h0 ⊢
  have s0 := shf_new h0 (only sb)
  have hl1 : Later w W1 := (hB0.next hla).next hl0
  have hop1 : ∀ W', Chg (only sb) W1 W' → ∀ {i : Nat} {o : Op}, ops[i]? = some o → _ := fun W' c {i o} hi => hop.get hl1 c (by rw [← hsb]; exact (hB0.next hla).size) hi
  have hx0 : W1.cell? ⟨N, 0, none⟩ = some (.int .i64 x.1) := (hla.next hl0).cell hxx.1
  have hx1 : W1.cell? ⟨N, 1, none⟩ = some (.int .i64 x.2) := (hla.next hl0).cell hxx.2
  have hNs : N < sb := by rw [← hsb]; exact Nat.lt_of_lt_of_le (cell_lt hxx.1) hla.size
  clear hxx hB0 hW0 hla hl0 hsb h0 hop
  go_wp2_with fail
  go_loopw [6] (fun i wr => ∃ k : Nat, k ≤ ops.length ∧ i = .int .i64 k ∧ Shf (only sb) wr sb 31 (ordT (ops.take k)) ∧ Chg (only sb) W1 wr) (fun i _ => ops.length - (intOf i).toNat)
  case atStart => exact ⟨0, Nat.zero_le _, rfl, s0, Chg.refl _ _⟩
  case round =>
    obtain ⟨k, hk, rfl, hs, hc⟩ := hrel
    by_cases hlt : k < ops.length
    · obtain ⟨o, ho⟩ : ∃ o, ops[k]? = some o := ⟨_, List.getElem?_eq_getElem hlt⟩
      obtain ⟨b, f, rfl, c0, c1, c2, c3⟩ := hop1 wr hc ho
      have hok : ∀ W', Chg (only sb) W1 W' → W'.cell? ⟨b, f + k * 4 + 1, none⟩ = some (.int .i64 o.kind) ∧ W'.cell? ⟨b, f + k * 4 + 2, none⟩ = some (.int .i64 o.x.1) ∧ W'.cell? ⟨b, f + k * 4 + 2 + 1, none⟩ = some (.int .i64 o.x.2) := fun W' c => by
        obtain ⟨b', f', e, _, k1, k2, k3⟩ := hop1 W' c ho
        cases e
        exact ⟨k1, k2, k3⟩
      have hsz := ordT_size (ops.take k)
      rw [List.length_take_of_le hk] at hsz
      have hri := ordT_rises (ops.take k)
      have hts : ordT (ops.take (k + 1)) = stepK (ordT (ops.take k)) o := by rw [take_snoc ho, ordT_snoc]
      have hpick := pick_any o.kind 3 wr (by omega) (by omega)
      clear c0
      by_cases h1 : o.kind % 3 = 0
      · have hb1 : (o.kind % 3 == 0) = true := by simp [h1]
        have hst : stepK (ordT (ops.take k)) o = ((ordT (ops.take k)).put cmpK o.x false).1 := by unfold stepK; rw [if_pos h1]
        rw [hst] at hts
        have HT := hid hts
        have hadd := add_any (X := only sb) compK o.x hs (fun b hb => by cases hb; exact hs.lt) rfl (by omega)
        clear hts hst h1 hri hsz
        go_wp2_with (first | (go_at_call 21; (with_reducible refine hpick.mono ?_); rintro e w' ⟨rfl, rfl⟩) | (go_at_call 22; (with_reducible refine hadd.mono ?_); rintro e w2 ⟨rfl, s2, g2⟩))
        go_roundw
        case rel => exact ⟨k + 1, by omega, by go_num, by rw [HT.out]; exact s2, hc.trans g2⟩
        case measure => simp [intOf]; omega
      · by_cases h2 : o.kind % 3 = 1
        · have hb1 : (o.kind % 3 == 0) = false := by simp [h1]
          have hb2 : (o.kind % 3 == 1) = true := by simp [h2]
          have hst : stepK (ordT (ops.take k)) o = ((ordT (ops.take k)).put cmpK o.x true).1 := by unfold stepK; rw [if_neg h1, if_pos h2]
          rw [hst] at hts
          have HT := hid hts
          have hlay := lay_any (X := only sb) compK o.x hs (fun b hb => by cases hb; exact hs.lt) rfl (by omega)
          have hfnd := put_find ordK (x := o.x) hri
          clear hts hst h1 h2 hri hsz
          go_wp2_with (first | (go_at_call 21; (with_reducible refine hpick.mono ?_); rintro e w' ⟨rfl, rfl⟩) | (go_at_call 23; (with_reducible refine hlay.mono ?_); rintro e w2 ⟨rfl, s2, g2⟩; obtain ⟨d1, d2, d3⟩ := hok w2 (hc.trans g2)))
          go_at_call 32; refine (find_some compK o.x s2 hfnd).mono ?_; rintro e w3 ⟨rfl, l3⟩
          have s3 := (s2.later l3).later (Later.two (x := .int .i64 o.x.1) (y := .int .i64 o.x.2) (t := 27))
          have g3 := (hc.trans g2).trans (l3.next (Later.two (x := .int .i64 o.x.1) (y := .int .i64 o.x.2) (t := 27))).chg
          obtain ⟨e1, e2, e3⟩ := hok _ g3
          go_wp2_with fail
          go_quiet (fail)
          go_wp2_with fail
          go_roundw
          case rel => exact ⟨k + 1, by omega, by go_num, by rw [HT.out]; exact s3.later (below_drewN (Later.refl _) _), g3.trans (Later.chg (below_drewN (Later.refl _) _))⟩
          case measure => simp [intOf]; omega
        · have hb1 : (o.kind % 3 == 0) = false := by simp [h1]
          have hb2 : (o.kind % 3 == 1) = false := by simp [h2]
          have hst : stepK (ordT (ops.take k)) o = ((ordT (ops.take k)).out cmpK o.x).1 := by unfold stepK; rw [if_neg h1, if_neg h2]
          rw [hst] at hts
          have HT := hid hts
          have hrem := remove_any (X := only sb) compK o.x hs (fun b hb => by cases hb; exact hs.lt) rfl (by omega)
          have hfnd := out_find ordK (x := o.x) hri
          clear hts hst h1 h2 hri hsz
          go_wp2_with (first | (go_at_call 21; (with_reducible refine hpick.mono ?_); rintro e w' ⟨rfl, rfl⟩) | (go_at_call 24; (with_reducible refine hrem.mono ?_); rintro e w2 ⟨rfl, s2, g2⟩; obtain ⟨d1, d2, d3⟩ := hok w2 (hc.trans g2)))
          go_at_call 32; refine (find_none compK o.x s2 hfnd).mono ?_; rintro e w3 ⟨rfl, l3⟩
          have s3 := (s2.later l3).later (Later.two (x := .int .i64 0) (y := .int .i64 0) (t := 27))
          have g3 := (hc.trans g2).trans (l3.next (Later.two (x := .int .i64 0) (y := .int .i64 0) (t := 27))).chg
          go_wp2_with fail
          go_roundw
          case rel => exact ⟨k + 1, by omega, by go_num, by rw [HT.out]; exact s3, g3⟩
          case measure => simp [intOf]; omega
    · obtain rfl : k = ops.length := by omega
      rw [List.take_length] at hs
      have hri := ordT_rises ops
      have hsz := ordT_size ops
      obtain ⟨T, hT⟩ : ∃ T, ordT ops = T := ⟨_, rfl⟩
      rw [hT] at hs hri hsz
      clear hT hk hlt
      go_wp2_with fail
      go_at_call 19; refine (all_any hs).mono ?_; rintro e w2 ⟨rfl, l2, a2⟩
      have hg := gathered_all a2 (m := ops.length + 1) (by omega) (by omega)
      rw [show ((ops.length + 1 : Nat) : Int) = (ops.length : Int) + 1 by omega] at hg
      go_wp2_with fail
      go_at_call 18; refine hg.mono ?_; rintro e w3 ⟨v, rfl, hrow, l3⟩
      obtain ⟨L, hL⟩ : ∃ L, T.list = L := ⟨_, rfl⟩
      have hLs : L.length = T.size := by rw [← hL]; exact Tr.size_list T
      rw [hL] at hrow hri
      obtain ⟨A2, cap2, rfl, hcap, hcell⟩ := row_get (sb := sb) hrow (by have := hs.lt; have := l2.size; omega)
      have s3 := (hs.later l2).later l3
      have c3 := hc.trans (l2.next l3).chg
      have hlen2 := len_any s3
      rw [← hLs] at hlen2
      have hLn : L.length ≤ ops.length := by omega
      clear hg hrow a2 l2 l3 hs hc hsz
      go_wp2_with fail
      go_at_call 26; refine hlen2.mono ?_; rintro e w3' ⟨rfl, rfl⟩
      go_wp2_with fail
      go_loopw [12, 13] (fun nn i wr => ∃ (k : Nat) (T' : Tr (Int × Int)), k ≤ L.length ∧ i = .int .i64 k ∧ nn = .int .i64 (rankL cmpK x (L.take k) : Nat) ∧ Shf (only sb) wr sb 31 T' ∧ Hid (T'.list = L) ∧ Chg (only sb) W1 wr ∧ Chg (only sb) w3 wr) (fun _ i _ => L.length - (intOf i).toNat)
      case atStart => exact ⟨0, T, Nat.zero_le _, rfl, rfl, s3, hid hL, c3, Chg.refl _ _⟩
      case round =>
        obtain ⟨k, T', hk, rfl, rfl, hs, hTL, hc1, hc3⟩ := hrel
        clear s3 c3 hL
        have hTs : T'.size = L.length := by rw [← Tr.size_list, hTL.out]
        have hri' : Rises cmpK T'.list := by rw [hTL.out]; exact hri
        by_cases hlt : k < L.length
        · obtain ⟨y, hy⟩ : ∃ y, L[k]? = some y := ⟨_, List.getElem?_eq_getElem hlt⟩
          obtain ⟨b2, o2, rfl, _, _⟩ := hcell wr hc3 hy
          have hcy : ∀ W', Chg (only sb) w3 W' → W'.cell? ⟨b2, o2 + k * 2, none⟩ = some (.int .i64 y.1) ∧ W'.cell? ⟨b2, o2 + k * 2 + 1, none⟩ = some (.int .i64 y.2) := fun W' c => by
            obtain ⟨b', o', e, k1, k2⟩ := hcell W' c hy
            cases e
            exact ⟨k1, k2⟩
          obtain ⟨q1, q2, q3, q4⟩ := at_place ordK hri hy
          have hnth := nth_some (i := k) hs (by omega) (by rw [hTL.out]; exact hy)
          have hfd : T'.find cmpK (y.1, -77) = some y := by rw [find_list ordK _ _ hri', hTL.out]; exact q2 _ ((cmpK_eq _ _).2 rfl)
          obtain ⟨cy0, cy1⟩ := hcy wr hc3
          have hrk := rankL_take (c := cmpK) x L k
          go_wp2_with fail
          go_at_call 33; refine hnth.mono ?_; rintro e w4 ⟨rfl, l4⟩
          have l4' : Later wr (w4.alloc (.cells #[.int .i64 y.1, .int .i64 y.2] 27)) := l4.next Later.two
          obtain ⟨d0, d1⟩ := hcy _ (hc3.trans l4'.chg)
          have z4 := two_new w4 (.int .i64 y.1) (.int .i64 y.2) 27
          go_wp2_with fail
          go_at_call 32; refine (find_some compK (y.1, -77) (hs.later l4') hfd).mono ?_; rintro e w5 ⟨rfl, l5⟩
          go_wp2_with fail
          have z5 := two_new w5 (.int .i64 y.1) (.int .i64 y.2) 27
          have z4' := (l5.next (Later.two (x := .int .i64 y.1) (y := .int .i64 y.2) (t := 27))).cell z4.1
          have z4'' := (l5.next (Later.two (x := .int .i64 y.1) (y := .int .i64 y.2) (t := 27))).cell z4.2
          have l6 : Later wr (w5.alloc (.cells #[.int .i64 y.1, .int .i64 y.2] 27)) := (l4'.next l5).next Later.two
          have hsl := hs.lt
          have hn4 : w4.heap.size ≠ sb := by have := l4.size; omega
          have hn5 : w5.heap.size ≠ sb := by have := l5.size; have := l4'.size; omega
          obtain ⟨W6, hW6⟩ : ∃ W6, w5.alloc (.cells #[.int .i64 y.1, .int .i64 y.2] 27) = W6 := ⟨_, rfl⟩
          rw [hW6] at z5 z4' z4'' l6 ⊢
          obtain ⟨B4, hB4⟩ : ∃ B4, w4.heap.size = B4 := ⟨_, rfl⟩
          obtain ⟨B5, hB5⟩ : ∃ B5, w5.heap.size = B5 := ⟨_, rfl⟩
          rw [hB4] at z4' z4'' hn4 ⊢
          rw [hB5] at z5 hn5 ⊢
          have hG : (fun W' => Chg (only sb) W6 W' ∧ ∃ T', Shf (only sb) W' sb 31 T' ∧ T'.list = L) W6.drew := ⟨Later.chg (Later.drew (Later.refl _)), T', (hs.later l6).later (Later.drew (Later.refl _)), hTL.out⟩
          have hc6 := hc3.trans l6.chg
          have hc61 := hc1.trans l6.chg
          clear l5 l4 l4' d0 d1 z4 cy0 cy1 hnth hfd hW6 hB4 hB5 hs hTL hri' hTs hc1 hc3 l6 hsl
          obtain ⟨Good, hGd⟩ : ∃ Good : World → Prop, ∀ W', Good W' ↔ (Chg (only sb) W6 W' ∧ ∃ T', Shf (only sb) W' sb 31 T' ∧ T'.list = L) := ⟨_, fun _ => Iff.rfl⟩
          replace hG := (hGd _).2 hG
          have hne : Nonempty (InG Good) := ⟨⟨_, hG⟩⟩
          have f0 : ∀ p : InG Good, p.W.cell? ⟨b2, o2 + k * 2, none⟩ = some (.int .i64 y.1) ∧ p.W.cell? ⟨b2, o2 + k * 2 + 1, none⟩ = some (.int .i64 y.2) ∧ p.W.cell? ⟨B4, 0, none⟩ = some (.int .i64 y.1) ∧ p.W.cell? ⟨B4, 1, none⟩ = some (.int .i64 y.2) ∧ p.W.cell? ⟨B5, 0, none⟩ = some (.int .i64 y.1) ∧ p.W.cell? ⟨B5, 1, none⟩ = some (.int .i64 y.2) := fun p => by
            have hp := (hGd _).1 p.h
            exact ⟨(hcy _ (hc6.trans hp.1)).1, (hcy _ (hc6.trans hp.1)).2, hp.1.cell z4' hn4, hp.1.cell z4'' hn4, hp.1.cell z5.1 hn5, hp.1.cell z5.2 hn5⟩
          have hrank : ∀ p : InG Good, Calls Try.prog 34 #[.pointer (some ⟨sb, 0, none⟩), .agg #[.int .i64 y.1, .int .i64 y.2]] p.W fun e w'' => e = .returned (.int .i64 k) ∧ ∃ p' : InG Good, w'' = p'.W := fun p => by
            have hp := (hGd _).1 p.h
            obtain ⟨c, T1, s1, e1⟩ := hp
            have hz1 : T1.size = L.length := by rw [← Tr.size_list, e1]
            refine (rank_same compK y s1 (by omega) (by rw [e1]; exact hri)).mono ?_
            rintro e w'' ⟨rfl, l⟩
            rw [e1, q1]
            exact ⟨rfl, ⟨w'', (hGd _).2 ⟨c.trans l.chg, T1, s1.later l, e1⟩⟩, rfl⟩
          have haddy : ∀ p : InG Good, Calls Try.prog 22 #[.pointer (some ⟨sb, 0, none⟩), .agg #[.int .i64 y.1, .int .i64 y.2]] p.W fun e w'' => e = .returned (.bool false) ∧ ∃ p' : InG Good, w'' = p'.W := fun p => by
            have hp := (hGd _).1 p.h
            obtain ⟨c, T1, s1, e1⟩ := hp
            have hz1 : T1.size = L.length := by rw [← Tr.size_list, e1]
            have hsm := same_again ordK (by rw [e1]; exact hri) (by rw [e1]; exact hy)
            refine (add_any (X := only sb) compK y s1 (fun b hb => by cases hb; exact s1.lt) rfl (by omega)).mono ?_
            rintro e w'' ⟨rfl, s2, l⟩
            rw [hsm.2]
            exact ⟨rfl, ⟨w'', (hGd _).2 ⟨c.trans l, _, s2, by rw [hsm.1, e1]⟩⟩, rfl⟩
          replace hGd := hid hGd
          rcases k with _ | j
          · simp only [Nat.zero_mul, Nat.add_zero] at f0
            refine region_in Good (by kernel_rfl) (by kernel_rfl) hG ?_
            repeat (go_big_quiet_step ((first | (go_at_call 34; exact hrank _) | (go_at_call 22; exact haddy _))))
            refine wpQuiet_nil ?_
            intro w7 hw7
            obtain ⟨c7, T7, s7, e7⟩ := (hGd.out _).1 hw7
            clear hG hGd hne hrank haddy f0 hw7 z5 z4' z4''
            have g70 := (hcy _ (hc6.trans c7)).1
            have g71 : w7.cell? ⟨N, 0, none⟩ = some (.int .i64 x.1) := (hc61.trans c7).cell hx0 (by intro e; have : N = sb := e; omega)
            simp only [Nat.zero_mul, Nat.add_zero] at g70
            have hsn := take_snoc hy
            have hlk : 0 < L.length := by omega
            by_cases hyx : y.1 < x.1
            · have hd1 : decide (y.1 < x.1) = true := by simp [hyx]
              have hrs : rankL cmpK x (L.take (0 + 1)) = rankL cmpK x (L.take 0) + 1 := by rw [hsn, rankL_snoc, if_pos ((cmpK_lt _ _).2 hyx)]
              obtain ⟨R, hR⟩ : ∃ R, rankL cmpK x (L.take 0) = R := ⟨_, rfl⟩
              rw [hR] at hrs hrk ⊢
              replace hrs := hid hrs
              clear hR hyx
              go_wp2_with fail
              go_quiet (fail)
              go_wp2_with fail
              go_roundw
              case rel => exact ⟨0 + 1, T7, by omega, by go_num, by rw [hrs.out]; go_num, s7.later (below_drewN (Later.refl _) _), hid e7, hc61.trans (c7.trans (Later.chg (below_drewN (Later.refl _) _))), hc6.trans (c7.trans (Later.chg (below_drewN (Later.refl _) _)))⟩
              case measure => simp [intOf]; omega
            · have hd1 : decide (y.1 < x.1) = false := by simp [hyx]
              have hrs : rankL cmpK x (L.take (0 + 1)) = rankL cmpK x (L.take 0) := by rw [hsn, rankL_snoc, if_neg (fun h => hyx ((cmpK_lt _ _).1 h))]
              obtain ⟨R, hR⟩ : ∃ R, rankL cmpK x (L.take 0) = R := ⟨_, rfl⟩
              rw [hR] at hrs hrk ⊢
              replace hrs := hid hrs
              clear hR hyx
              go_wp2_with fail
              go_quiet (fail)
              go_wp2_with fail
              go_roundw
              case rel => exact ⟨0 + 1, T7, by omega, by go_num, by rw [hrs.out], s7.later (below_drewN (Later.refl _) _), hid e7, hc61.trans (c7.trans (Later.chg (below_drewN (Later.refl _) _))), hc6.trans (c7.trans (Later.chg (below_drewN (Later.refl _) _)))⟩
              case measure => simp [intOf]; omega
          · obtain ⟨y', hy'⟩ : ∃ y', L[j]? = some y' := ⟨_, List.getElem?_eq_getElem (by omega)⟩
            have f1 : ∀ p : InG Good, p.W.cell? ⟨b2, o2 + j * 2, none⟩ = some (.int .i64 y'.1) := fun p => by
              obtain ⟨b', o', e, k1, k2⟩ := hcell _ (hc6.trans ((hGd.out _).1 p.h).1) hy'
              cases e
              exact k1
            have hlty : decide (y.1 ≤ y'.1) = false := by
              have := (cmpK_lt _ _).1 (rises_at ordK hri (Nat.lt_succ_self j) hy' hy)
              simp
              omega
            refine region_in Good (by kernel_rfl) (by kernel_rfl) hG ?_
            repeat (go_big_quiet_step ((first | (go_at_call 34; exact hrank _) | (go_at_call 22; exact haddy _))))
            refine wpQuiet_nil ?_
            intro w7 hw7
            obtain ⟨c7, T7, s7, e7⟩ := (hGd.out _).1 hw7
            clear f1 hlty hG hGd hne hrank haddy f0 hw7 z5 z4' z4''
            have g70 := (hcy _ (hc6.trans c7)).1
            have g71 : w7.cell? ⟨N, 0, none⟩ = some (.int .i64 x.1) := (hc61.trans c7).cell hx0 (by intro e; have : N = sb := e; omega)
            have hsn := take_snoc hy
            have hlk : 0 < L.length := by omega
            by_cases hyx : y.1 < x.1
            · have hd1 : decide (y.1 < x.1) = true := by simp [hyx]
              have hrs : rankL cmpK x (L.take (j + 1 + 1)) = rankL cmpK x (L.take (j + 1)) + 1 := by rw [hsn, rankL_snoc, if_pos ((cmpK_lt _ _).2 hyx)]
              obtain ⟨R, hR⟩ : ∃ R, rankL cmpK x (L.take (j + 1)) = R := ⟨_, rfl⟩
              rw [hR] at hrs hrk ⊢
              replace hrs := hid hrs
              clear hR hyx
              go_wp2_with fail
              go_quiet (fail)
              go_wp2_with fail
              go_roundw
              case rel => exact ⟨j + 1 + 1, T7, by omega, by go_num, by rw [hrs.out]; go_num, s7.later (below_drewN (Later.refl _) _), hid e7, hc61.trans (c7.trans (Later.chg (below_drewN (Later.refl _) _))), hc6.trans (c7.trans (Later.chg (below_drewN (Later.refl _) _)))⟩
              case measure => simp [intOf]; omega
            · have hd1 : decide (y.1 < x.1) = false := by simp [hyx]
              have hrs : rankL cmpK x (L.take (j + 1 + 1)) = rankL cmpK x (L.take (j + 1)) := by rw [hsn, rankL_snoc, if_neg (fun h => hyx ((cmpK_lt _ _).1 h))]
              obtain ⟨R, hR⟩ : ∃ R, rankL cmpK x (L.take (j + 1)) = R := ⟨_, rfl⟩
              rw [hR] at hrs hrk ⊢
              replace hrs := hid hrs
              clear hR hyx
              go_wp2_with fail
              go_quiet (fail)
              go_wp2_with fail
              go_roundw
              case rel => exact ⟨j + 1 + 1, T7, by omega, by go_num, by rw [hrs.out], s7.later (below_drewN (Later.refl _) _), hid e7, hc61.trans (c7.trans (Later.chg (below_drewN (Later.refl _) _))), hc6.trans (c7.trans (Later.chg (below_drewN (Later.refl _) _)))⟩
              case measure => simp [intOf]; omega
        · obtain rfl : k = L.length := by omega
          rw [List.take_length]
          have hR : rankL cmpK x L ≤ L.length := by have := rankL_take (c := cmpK) x L L.length; rwa [List.take_length] at this
          have hfl : (T'.from_ fun y => decide (cmpK y x < 0)) = L.drop (rankL cmpK x L) := by rw [from_list ordK x T' hri', hTL.out, from_drop ordK x hri]
          obtain ⟨R, hRR⟩ : ∃ R, rankL cmpK x L = R := ⟨_, rfl⟩
          rw [hRR] at hR hfl ⊢
          have gx0 := hc1.cell hx0 (by intro e; have : N = sb := e; omega)
          have gx1 := hc1.cell hx1 (by intro e; have : N = sb := e; omega)
          clear hk hlt
          go_wp2_with fail
          go_at_call 28; refine (from_any x hs).mono ?_; rintro e w8 ⟨bt, cb, xb, rfl, _, _, _, l8, a8⟩
          have hg8 := gathered_from compK a8 (m := L.length + 1) (by omega) (by omega)
          rw [show ((L.length + 1 : Nat) : Int) = (T.size : Int) + 1 by omega, hfl] at hg8
          go_wp2_with fail
          go_at_call 18; refine hg8.mono ?_; rintro e w9 ⟨v, rfl, hrow, l9⟩
          obtain ⟨A3, cap3, rfl, hcap3, hcell3⟩ := row_get (sb := sb) hrow (by have := hs.lt; have := l8.size; omega)
          have l9' : Later wr w9 := l8.next l9
          have s9 := hs.later l9'
          have hrk := rank_same compK x s9 (by omega) hri'
          rw [hTL.out, hRR] at hrk
          have y0 := l9'.cell gx0
          have y1 := l9'.cell gx1
          have hc9 := hc3.trans l9'.chg
          have h19 := hc1.trans l9'.chg
          obtain ⟨M, hM⟩ : ∃ M, (L.drop R).length = M := ⟨_, rfl⟩
          have hM' : M = L.length - R := by rw [← hM, List.length_drop]
          rw [hM] at hcap3 ⊢
          replace hM := hid hM
          replace hM' := hid hM'
          clear hrow hg8 a8 l8 l9 l9' hs hc1 hc3 gx0 gx1 hfl hx0 hx1
          go_wp2_with fail
          have hsub : (T.size : Int) - (R : Int) = (M : Int) := by have := hM'.out; omega
          go_at_call 34; refine hrk.mono ?_; rintro e w10 ⟨rfl, l10⟩
          have k9 := hc9.trans l10.chg
          have k1 := h19.trans l10.chg
          go_wp2_with fail
          clear hsub y0 y1 hrk hc9 s9 h19
          go_loopw [19] (fun i wr => ∃ k : Nat, k ≤ M ∧ i = .int .i64 k ∧ Later w10 wr) (fun i _ => M - (intOf i).toNat)
          case atStart => exact ⟨0, Nat.zero_le _, rfl, Later.refl _⟩
          case round =>
            obtain ⟨k, hk, rfl, lk⟩ := hrel
            by_cases hlt : k < M
            · obtain ⟨z, hz⟩ : ∃ z, (L.drop R)[k]? = some z := ⟨_, List.getElem?_eq_getElem (by rw [hM.out]; exact hlt)⟩
              have hz' : L[R + k]? = some z := by rw [List.getElem?_drop] at hz; exact hz
              obtain ⟨b3, o3, rfl, u0, u1⟩ := hcell3 _ (l10.chg.trans lk.chg) hz
              obtain ⟨b2, o2, rfl, v0, v1⟩ := hcell _ (k9.trans lk.chg) hz'
              have hRk : R + k < T.size := by have := hM'.out; omega
              clear hcell hcell3 hz hz'
              go_wp2_with fail
              go_quiet (fail)
              go_wp2_with fail
              go_roundw
              case rel => exact ⟨k + 1, by omega, by go_num, below_drewN lk _⟩
              case measure => simp [intOf]; omega
            · obtain rfl : k = M := by omega
              have hfin : Later w wr := hl1.far (by omega) (k1.trans lk.chg)
              go_wp2_with fail
              go_ret
              exact ⟨rfl, hfin⟩
end Go.Proofs.Yteledidnhjioaaa.Sh
