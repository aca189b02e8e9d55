import Derived.Test.YteledidnhjioaaaSiH
import Derived.Deep.DeepCutAuto
import Derived.Deep.CutBlock
namespace Go.Proofs.Yteledidnhjioaaa.Sh
open Go.RowKit Go.Lib Go.Proofs Go.Shelf
set_option linter.unusedVariables false
set_option linter.unusedSimpArgs false
attribute [local go_sem] Oper.semAt_some
theorem own_chg {X : Nat → Prop} {W V : World} {base n : Nat} {v : Value} {xs : List Value} (h : W.ownsRow base 27 2 v n xs) (c : Chg X W V) (hx : ∀ b, v.ownBlock = some b → ¬ X b) : V.ownsRow base 27 2 v n xs :=
  ⟨h.1, h.2.imp id fun ⟨g, cap, cur, e, h1, h2, h3⟩ => ⟨g, cap, cur, e, h1, (c.block g (Array.getElem?_eq_some_iff.1 h2).1 (hx g (by rw [e]; rfl))).trans h2, h3⟩⟩
theorem chg_fresh {Z : Nat → Prop} {w W V : World} (h : Chg Z w W) (k : Chg (fresh w) W V) : Chg Z w V :=
  ⟨k.os.trans h.os, k.tape.trans h.tape, k.output.trans h.output, Nat.le_trans h.size k.size, fun b hb hz => (k.block b (Nat.lt_of_lt_of_le hb h.size) (fun e => by have : w.heap.size ≤ b := e; omega)).trans (h.block b hb hz)⟩
/-- in a round of Gather -/
abbrev gathW (w : World) (SN B : Nat) (most : Int) (n : Nat) (pre : List (Int × Int)) (W : World) : Prop :=
  ((((∃ v, Boxed W (B + 1 + 1 + 1) 22 v ∧ W.ownsRow w.heap.size 27 2 v pre.length (flat pre) ∧ True) ∧ Boxed W B 3 (.int .i64 most)) ∧ Boxed W (B + 1) 22 (.slice none 0 0)) ∧ Boxed W (B + 1 + 1) 4 (.bool false)) ∧ (Chg (only SN) w W ∧ (B + 1 + 1 + 1 + 1 ≤ W.heap.size ∧ pre.length ≤ n))
abbrev gathZ (w : World) (SN B : Nat) (n : Nat) (c : Code) (pre : List (Int × Int)) (W : World) : Prop :=
  ((∃ v, Boxed W (B + 1) 22 v ∧ W.ownsRow w.heap.size 27 2 v (pre.take n).length (flat (pre.take n)) ∧ (c = .ret ∧ n + 1 = pre.length)) ∧ Boxed W (B + 1 + 1) 4 (.bool true)) ∧ Chg (only SN) w W
theorem gathW_own (w : World) (SN B : Nat) (most : Int) (n : Nat) {D : Nat} (hD : w.heap.size ≤ D) : OwnFrom D (gathW w SN B most n) :=
  OwnFrom.and (OwnFrom.and (OwnFrom.and (OwnFrom.and (Own.from (holdsRow_own w.heap.size (B + 1 + 1 + 1) 22 27 2 (fun pre : List (Int × Int) => pre.length) flat (fun _ _ => True)) _) (Own.from (boxed_own _ _ _) _)) (Own.from (boxed_own _ _ _) _)) (Own.from (boxed_own _ _ _) _))
    (OwnFrom.and (ownFrom_chg hD) (OwnFrom.and (fun _ A V row h hg _ => Nat.le_trans h hg.size) (ownFrom_pure _ _)))
theorem gathZ_own (w : World) (SN B : Nat) (n : Nat) (c : Code) {D : Nat} (hD : w.heap.size ≤ D) : OwnFrom D (gathZ w SN B n c) :=
  OwnFrom.and (OwnFrom.and (Own.from (holdsRow_own w.heap.size (B + 1) 22 27 2 (fun pre : List (Int × Int) => (pre.take n).length) (fun pre => flat (pre.take n)) (fun pre _ => c = .ret ∧ n + 1 = pre.length)) _) (Own.from (boxed_own _ _ _) _)) (ownFrom_chg hD)
set_option maxRecDepth 100000 in
set_option maxHeartbeats 20000000 in
theorem gather_any {l : List (Int × Int)} (most : Int) {w : World} {lb : Array Value} {gf SN : Nat} {G : Nat → World → Prop} (hseq : SeqW (fresh w) (only SN) gf lb l G w) (eg : ∀ args w, (callFunc gf args).run Try.prog w = .ok (.enter gf args) w) (hSN : SN < w.heap.size)
    (hG : ∀ k A V, G k A → Chg (fresh w) A V → G k V) (hz : l.length ≤ 13999999999998) :
    Calls Try.prog 12 #[.func (.func gf) #[] lb, .int .i64 most] w fun e V => ∃ v, e = .returned (.tuple #[v, .bool (decide (most.toNat < l.length))]) ∧ V.ownsRow w.heap.size 27 2 v (l.take most.toNat).length (flat (l.take most.toNat)) ∧ Chg (only SN) w V ∧ G (min (most.toNat + 1) l.length) V := by
  obtain ⟨i0, hi, hz0, hz1, hz2⟩ := info_parts info27
  have hF := eqF29 gf lb
  refine (callsIn_wide (n := 3)).1 ?_
  refine callsIn_of_wp_marks Try.func12 rfl trivial ?_ rfl
  simp only [Try.ntmps12, List.size_toArray, List.length_cons, List.length_nil, Nat.reduceAdd, Nat.reduceSub, Array.replicate_succ, Array.replicate_zero, List.push_toArray, List.append_toArray, List.nil_append, List.cons_append]
  refine wpIn_wide.2 ?_
  obtain ⟨n, hn⟩ : ∃ n, most.toNat = n := ⟨_, rfl⟩
  rw [hn]
  have bM := ((Boxed.new w 3 (.int .i64 most)).alloc (.cells #[.slice none 0 0] 22)).alloc (.cells #[.bool false] 4) |>.alloc (.cells #[.slice none 0 0] 22)
  have bQ := (Boxed.new (w.alloc (.cells #[.int .i64 most] 3)) 22 (.slice none 0 0)).alloc (.cells #[.bool false] 4) |>.alloc (.cells #[.slice none 0 0] 22)
  have bR := (Boxed.new ((w.alloc (.cells #[.int .i64 most] 3)).alloc (.cells #[.slice none 0 0] 22)) 4 (.bool false)).alloc (.cells #[.slice none 0 0] 22)
  have bO := Boxed.new (((w.alloc (.cells #[.int .i64 most] 3)).alloc (.cells #[.slice none 0 0] 22)).alloc (.cells #[.bool false] 4)) 22 (.slice none 0 0)
  have lW : Later w ((((w.alloc (.cells #[.int .i64 most] 3)).alloc (.cells #[.slice none 0 0] 22)).alloc (.cells #[.bool false] 4)).alloc (.cells #[.slice none 0 0] 22)) := ((((Later.refl w).alloc _).alloc _).alloc _).alloc _
  simp only [World.size_alloc] at bQ bR bO
  obtain ⟨B, hB⟩ : ∃ B, w.heap.size = B := ⟨_, rfl⟩
  have hsz : ((((w.alloc (.cells #[.int .i64 most] 3)).alloc (.cells #[.slice none 0 0] 22)).alloc (.cells #[.bool false] 4)).alloc (.cells #[.slice none 0 0] 22)).heap.size = B + 1 + 1 + 1 + 1 := by simp only [World.size_alloc]; omega
  rw [hB] at bM bQ bR bO
  obtain ⟨W0, hW0⟩ : ∃ W0, (((w.alloc (.cells #[.int .i64 most] 3)).alloc (.cells #[.slice none 0 0] 22)).alloc (.cells #[.bool false] 4)).alloc (.cells #[.slice none 0 0] 22) = W0 := ⟨_, rfl⟩
  rw [hW0] at bM bQ bR bO lW hsz
  replace hW0 := hid hW0
  go_upto_block 0 with fail
  rw [hW0.out]
  refine block_counts (w0 := w) (X := fresh w) (Z := only SN) (xs := l) (G := G) 7 (by rfl) eg hseq lW (fun b h => Nat.le_trans lW.size h) (fun b h => by have : b = SN := h; omega) (fun k A l o h hl => hG k A _ h (chg_put _ _ _ (by show w.heap.size ≤ l; omega)))
    (gathW w SN B most n) (gathZ w SN B n) (gathW_own w SN B most n (by omega)) (fun c => gathZ_own w SN B n c (by omega))
    (fun s A V h c => ?_) (fun k s A V h c => ?_) ⟨⟨⟨⟨⟨_, bO, World.ownsRow_nil .., trivial⟩, bM⟩, bQ⟩, bR⟩, Later.chg lW, by omega, Nat.zero_le _⟩ (fun pre W h => by rw [hsz]; exact h.2.2.1) ?assign ?body ?done ?stop
  · obtain ⟨⟨⟨⟨⟨v, h1, h2, _⟩, h3⟩, h4⟩, h5⟩, h6, h7, h8⟩ := h
    exact ⟨⟨⟨⟨⟨v, boxed_turn h1 c (fun e => by have : B + 1 + 1 + 1 = SN := e; omega), own_chg h2 c (fun b hb e => by have h := own_ge h2 b hb; have : b = SN := e; omega), trivial⟩, boxed_turn h3 c (fun e => by have : B = SN := e; omega)⟩, boxed_turn h4 c (fun e => by have : B + 1 = SN := e; omega)⟩, boxed_turn h5 c (fun e => by have : B + 1 + 1 = SN := e; omega)⟩, h6.trans c, Nat.le_trans h7 c.size, h8⟩
  · obtain ⟨⟨⟨v, h1, h2, h3⟩, h4⟩, h5⟩ := h
    exact ⟨⟨⟨v, boxed_turn h1 c (fun e => by have : B + 1 = SN := e; omega), own_chg h2 c (fun b hb e => by have h := own_ge h2 b hb; have : b = SN := e; omega), h3⟩, boxed_turn h4 c (fun e => by have : B + 1 + 1 = SN := e; omega)⟩, h5.trans c⟩
  case assign =>
    intro l' y W K hK
    simp only [inTmps, List.setIfInBounds_toArray, List.set_cons_zero, List.set_cons_succ] at hK ⊢
    gi_wp2
    exact hK
  case body =>
    rintro l' pre x Bx W ⟨⟨⟨⟨⟨v, bO1, hr1, _⟩, bM1⟩, bQ1⟩, bR1⟩, hc1, hs1, hp⟩ bX hBx hlt
    simp only [inTmps, List.setIfInBounds_toArray, List.set_cons_zero, List.set_cons_succ]
    have cO := bO1.cell
    have fO := bO1.frozen
    have cM := bM1.cell
    have cQ := bQ1.cell
    have fQ := bQ1.frozen
    have cR := bR1.cell
    have fR := bR1.frozen
    obtain ⟨cX0, cX1, _, _⟩ := bX.cells
    obtain ⟨A, cap, rfl, hsl⟩ : ∃ A cap, v = .slice A pre.length cap ∧ True := by
      rcases hr1.2 with ⟨rfl, h0⟩ | ⟨g', cap', cur, rfl, _⟩
      · exact ⟨none, 0, by rw [h0], trivial⟩
      · exact ⟨_, _, rfl, trivial⟩
    by_cases h1 : most ≤ (pre.length : Int)
    · have hm : decide (most ≤ (pre.length : Int)) = true := by simp [h1]
      have hpn : Hid (pre.length = n) := hid (by omega)
      clear h1
      gi_wp2
      have ht : (pre ++ [x]).take n = pre := by rw [← hpn.out, List.take_left' rfl]
      have z1 : Chg (only (B + 1)) W (W.setCell ⟨B + 1, 0, none⟩ (.slice A pre.length cap)) := Chg.set _ _ rfl
      have z2 : Chg (only (B + 1 + 1)) (W.setCell ⟨B + 1, 0, none⟩ (.slice A pre.length cap)) ((W.setCell ⟨B + 1, 0, none⟩ (.slice A pre.length cap)).setCell ⟨B + 1 + 1, 0, none⟩ (.bool true)) := Chg.set _ _ rfl
      have n1 := bQ1.not_row (by decide) hr1
      have n2 := bR1.not_row (by decide) hr1
      have hf := (z1.mono (Y := fresh w) (fun b e => by have : b = B + 1 := e; show w.heap.size ≤ b; omega)).trans (z2.mono (fun b e => by have : b = B + 1 + 1 := e; show w.heap.size ≤ b; omega))
      refine ⟨((KeepsOthers.setCell _ _ _).from _).trans ((KeepsOthers.setCell _ _ _).from _), hf, ⟨⟨⟨_, (bQ1.set _).other (by omega) _, ?_, rfl, by rw [List.length_append, List.length_singleton, hpn.out]⟩, (bR1.other (by omega) _).set _⟩, chg_fresh hc1 hf⟩⟩
      rw [ht]
      exact own_chg (own_chg hr1 z1 (fun b hb e => n1 (by rw [hb]; exact congrArg some (Eq.symm e)))) z2 (fun b hb e => n2 (by rw [hb]; exact congrArg some (Eq.symm e)))
    · have hm : decide (most ≤ (pre.length : Int)) = false := by simp; omega
      have hlm : pre.length < n := by omega
      clear h1
      have hBw : w.heap.size ≤ W.heap.size := by omega
      gi_wp2_with (gi_at_builtin; refine append_far _ rfl rfl w.heap.size (z := .agg #[.int .i64 0, .int .i64 0]) (size := 2) (bytes := 16) Try.underlying22 hi hz0 hz1 hz2 rfl (by decide) rfl (hr1.alloc _) (ad := ⟨W.heap.size, 0, none⟩) (m := 1) (c := 1) (news := [.int .i64 x.1, .int .i64 x.2]) rfl rfl (two_cells _ _ _ _) (by simp [Value.oneCell']) (by unfold maxLen; omega) (by omega) (by simp; omega) ?_; intro v' w1 hown' hgrow; obtain ⟨g', cap', rfl⟩ := ownsRow_succ hown'; obtain ⟨hv1, hv2, hr2, hk2, hb2⟩ := bO1.appended (by decide) hr1 hBw (by omega) hown' hgrow; have hc1' := hv1.cell; have hf1 := hv1.frozen)
      have kk : ∀ {B' : Nat} {t : TypeId} {u : Value}, Boxed W B' t u → t ≠ 27 → B' ≠ B + 1 + 1 + 1 → Boxed (w1.setCell ⟨B + 1 + 1 + 1, 0, none⟩ (.slice (some ⟨g', 0, none⟩) (pre.length + 1) cap')) B' t u := fun h ht hne => ((h.alloc (.cells #[.int .i64 x.1, .int .i64 x.2] 27)).kept hgrow (h.not_row ht hr1)).other hne _
      have hcf := below_chg hb2
      refine ⟨hk2.from _, hcf, ⟨⟨⟨⟨⟨_, hv2, ?_, trivial⟩, kk bM1 (by decide) (by omega)⟩, kk bQ1 (by decide) (by omega)⟩, kk bR1 (by decide) (by omega)⟩, chg_fresh hc1 hcf, by have := hcf.size; omega, by rw [List.length_append, List.length_singleton]; omega⟩⟩
      rw [flat_snoc, List.length_append, List.length_singleton]
      exact hr2
  case done =>
    rintro D W hD hK ⟨⟨⟨⟨⟨v, bO1, hr1, _⟩, bM1⟩, bQ1⟩, bR1⟩, hc1, hs1, hp⟩ hg
    obtain ⟨A, cap, rfl, hsl⟩ : ∃ A cap, v = .slice A l.length cap ∧ True := by
      rcases hr1.2 with ⟨rfl, h0⟩ | ⟨g', cap', cur, rfl, _⟩
      · exact ⟨none, 0, by rw [h0], trivial⟩
      · exact ⟨_, _, rfl, trivial⟩
    have cO := bO1.cell
    have cQ := bQ1.cell
    have fQ := bQ1.frozen
    have cR := bR1.cell
    have fR := bR1.frozen
    go_wp2_with fail
    have z1 : Chg (only (B + 1)) W (W.setCell ⟨B + 1, 0, none⟩ (.slice A l.length cap)) := Chg.set _ _ rfl
    have z2 : Chg (only (B + 1 + 1)) (W.setCell ⟨B + 1, 0, none⟩ (.slice A l.length cap)) ((W.setCell ⟨B + 1, 0, none⟩ (.slice A l.length cap)).setCell ⟨B + 1 + 1, 0, none⟩ (.bool false)) := Chg.set _ _ rfl
    have n1 := bQ1.not_row (by decide) hr1
    have n2 := bR1.not_row (by decide) hr1
    have hf := (z1.mono (Y := fresh w) (fun b e => by have : b = B + 1 := e; show w.heap.size ≤ b; omega)).trans (z2.mono (fun b e => by have : b = B + 1 + 1 := e; show w.heap.size ≤ b; omega))
    have r1 := own_chg (own_chg hr1 z1 (fun b hb e => n1 (by rw [hb]; exact congrArg some (Eq.symm e)))) z2 (fun b hb e => n2 (by rw [hb]; exact congrArg some (Eq.symm e)))
    have q1 := (bQ1.set (.slice A l.length cap)).other (B' := B + 1 + 1) (by omega) (.bool false)
    have q2 := (bR1.other (B' := B + 1) (by omega) (.slice A l.length cap)).set (.bool false)
    have hf1 : ((W.setCell ⟨B + 1, 0, none⟩ (.slice A l.length cap)).setCell ⟨B + 1 + 1, 0, none⟩ (.bool false)).heap[D]? = some (.deferred (some [])) := ((KeepsOthers.setCell _ _ _).trans (KeepsOthers.setCell _ _ _)).same D _ hK rfl
    have g1 := hG _ _ _ hg hf
    have c1 := chg_fresh hc1 hf
    generalize (W.setCell ⟨B + 1, 0, none⟩ (.slice A l.length cap)).setCell ⟨B + 1 + 1, 0, none⟩ (.bool false) = V at hf1 r1 q1 q2 g1 c1 ⊢
    clear hf z1 z2
    have g2 := hG _ _ _ g1 (chg_put V D (.deferred none) (by show w.heap.size ≤ D; omega))
    have c2 := chg_fresh c1 (chg_put (X := fresh w) V D (.deferred none) (by show w.heap.size ≤ D; omega))
    have r2 := ownsRow_putObj r1 (.deferred none) hf1 rfl
    have k1 := (q1.kept (grownBy_putObj' V D (.deferred none)) (fun e => by cases e; rw [show _ = _ from q1] at hf1; cases hf1)).cell
    have k2 := (q2.kept (grownBy_putObj' V D (.deferred none)) (fun e => by cases e; rw [show _ = _ from q2] at hf1; cases hf1)).cell
    refine ⟨by simp, .inl ⟨_, _, rfl, run_takeDeferred hf1, ?_⟩⟩
    have e1 : decide (n < l.length) = false := by simp; omega
    have e2 : l.take n = l := List.take_of_length_le hp
    have e3 : min (n + 1) l.length = l.length := by omega
    rw [e1, e2, e3]
    generalize V.putObj D (.deferred none) = Vf at g2 c2 r2 k1 k2 ⊢
    exact ⟨_, by simp [results, Try.results12, go_sem, k1, k2], _, rfl, r2, c2, g2⟩
  case stop =>
    rintro D c pre W hD hK hpre ⟨⟨⟨v, bQ1, hr1, rfl, hm⟩, bR1⟩, hc1⟩ hg
    obtain ⟨A, cap, rfl, hsl⟩ : ∃ A cap, v = .slice A (pre.take n).length cap ∧ True := by
      rcases hr1.2 with ⟨rfl, h0⟩ | ⟨g', cap', cur, rfl, _⟩
      · exact ⟨none, 0, by rw [h0], trivial⟩
      · exact ⟨_, _, rfl, trivial⟩
    refine .inl ⟨rfl, ?_⟩
    go_wp2_with fail
    have g2 := hG _ _ _ hg (chg_put W D (.deferred none) (by show w.heap.size ≤ D; omega))
    have c2 := chg_fresh hc1 (chg_put (X := fresh w) W D (.deferred none) (by show w.heap.size ≤ D; omega))
    have r2 := ownsRow_putObj hr1 (.deferred none) hK rfl
    have k1 := (bQ1.kept (grownBy_putObj' W D (.deferred none)) (fun e => by cases e; rw [show _ = _ from bQ1] at hK; cases hK)).cell
    have k2 := (bR1.kept (grownBy_putObj' W D (.deferred none)) (fun e => by cases e; rw [show _ = _ from bR1] at hK; cases hK)).cell
    refine ⟨by simp, .inl ⟨_, _, rfl, run_takeDeferred hK, ?_⟩⟩
    have hle := hpre.length_le
    have e1 : decide (n < l.length) = true := by simp; omega
    have e2 : pre.take n = l.take n := by
      obtain ⟨r, rfl⟩ := hpre
      rw [List.take_append_of_le_length (by omega)]
    have e3 : min (n + 1) l.length = pre.length := by omega
    rw [e2] at r2 k1
    rw [e1, e3]
    generalize W.putObj D (.deferred none) = Vf at g2 c2 r2 k1 k2 ⊢
    exact ⟨_, by simp [results, Try.results12, go_sem, k1, k2], _, rfl, r2, c2, g2⟩
end Go.Proofs.Yteledidnhjioaaa.Sh
