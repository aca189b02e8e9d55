import Derived.Test.YteledidnhjioaaaSiQ
namespace Go.Proofs.Yteledidnhjioaaa.Sh
open Go.RowKit Go.Lib Go.Proofs Go.Shelf
set_option linter.unusedVariables false
set_option linter.unusedSimpArgs false
attribute [local go_sem] Oper.semAt_some
theorem chg_in {Y Z : Nat → Prop} {w A B : World} (h : Chg Z w A) (c : Chg Y A B) (hy : ∀ b, Y b → Z b ∨ w.heap.size ≤ b) : Chg Z w B :=
  ⟨c.os.trans h.os, c.tape.trans h.tape, c.output.trans h.output, Nat.le_trans h.size c.size, fun b hb hz => (c.block b (Nat.lt_of_lt_of_le hb h.size) (fun e => (hy b e).elim hz (fun e => by omega))).trans (h.block b hb hz)⟩
theorem chg_drewN {X : Nat → Prop} (W : World) (n : Nat) : Chg X W (W.drewN n) := ⟨rfl, rfl, rfl, Nat.le_refl _, fun _ _ _ => rfl⟩
theorem chg_setat {X : Nat → Prop} {b : Nat} (W : World) (v : Value) (h : X b) : Chg X W (W.setCell ⟨b, 0, none⟩ v) := Chg.set _ _ h
/-- in a round of told -/
def toldW (Z : Nat → Prop) (w : World) (A : Option Addr) (cap : Nat) (want : List (Int × Int)) (hi : Nat) (pre : List (Int × Int)) (W : World) : Prop :=
  ((Boxed W w.heap.size 22 (.slice A want.length cap) ∧ Boxed W (w.heap.size + 1 + 1) 3 (.int .i64 pre.length)) ∧ Boxed W (w.heap.size + 1) 4 (.bool false)) ∧ Chg Z w W ∧ (pre <+: want ∧ w.heap.size + 5 ≤ hi) ∧ hi ≤ W.heap.size
def toldZ (Z : Nat → Prop) (w : World) (want : List (Int × Int)) (hi : Nat) (c : Code) (pre : List (Int × Int)) (W : World) : Prop :=
  Boxed W (w.heap.size + 1) 4 (.bool false) ∧ Chg Z w W ∧ (c = .ret ∧ ¬ pre <+: want ∧ w.heap.size + 5 ≤ hi)
theorem toldW_own (Z : Nat → Prop) (w : World) (A : Option Addr) (cap : Nat) (want : List (Int × Int)) (hi : Nat) {B : Nat} (hB : w.heap.size ≤ B) : OwnFrom B (toldW Z w A cap want hi) :=
  OwnFrom.and (OwnFrom.and (OwnFrom.and (Own.from (boxed_own _ _ _) _) (Own.from (boxed_own _ _ _) _)) (Own.from (boxed_own _ _ _) _)) (OwnFrom.and (ownFrom_chg hB) (OwnFrom.and (ownFrom_pure _ _) (fun _ A V row h hg _ => Nat.le_trans h hg.size)))
theorem toldZ_own (Z : Nat → Prop) (w : World) (want : List (Int × Int)) (hi : Nat) (c : Code) {B : Nat} (hB : w.heap.size ≤ B) : OwnFrom B (toldZ Z w want hi c) :=
  OwnFrom.and (Own.from (boxed_own _ _ _) _) (OwnFrom.and (ownFrom_chg hB) (ownFrom_pure _ _))
theorem toldW_chg {Y Z : Nat → Prop} {w A B : World} {Ad : Option Addr} {cap hi : Nat} {want pre : List (Int × Int)} (h : toldW Z w Ad cap want hi pre A) (c : Chg Y A B) (hZ : ∀ b, Z b → b < w.heap.size) (hY : ∀ b, Y b → Z b ∨ w.heap.size + 5 ≤ b) : toldW Z w Ad cap want hi pre B := by
  obtain ⟨⟨⟨h1, h2⟩, h3⟩, h4, h5, h6⟩ := h
  have n : ∀ j, j < 3 → ¬ Y (w.heap.size + j) := fun j hj e => (hY _ e).elim (fun e => by have := hZ _ e; omega) (fun e => by omega)
  exact ⟨⟨⟨boxed_turn h1 c (n 0 (by omega)), boxed_turn h2 c (n 2 (by omega))⟩, boxed_turn h3 c (n 1 (by omega))⟩, chg_in h4 c (fun b e => (hY b e).imp id fun e => by omega), h5, Nat.le_trans h6 c.size⟩
theorem toldZ_chg {Y Z : Nat → Prop} {w A B : World} {hi : Nat} {c' : Code} {want pre : List (Int × Int)} (h : toldZ Z w want hi c' pre A) (c : Chg Y A B) (hZ : ∀ b, Z b → b < w.heap.size) (hY : ∀ b, Y b → Z b ∨ w.heap.size + 5 ≤ b) : toldZ Z w want hi c' pre B := by
  obtain ⟨h1, h4, h5⟩ := h
  exact ⟨boxed_turn h1 c (fun e => (hY _ e).elim (fun e => by have := hZ _ e; omega) (fun e => by omega)), chg_in h4 c (fun b e => (hY b e).imp id fun e => by omega), h5⟩
set_option maxRecDepth 100000 in
set_option maxHeartbeats 8000000 in
theorem told_z {g : Nat} {lb : Array Value} {xs want : List (Int × Int)} {w : World} {A : Option Addr} {cap : Nat} {Z : Nat → Prop} {G : Nat → World → Prop} (hseq : SeqZ (fresh w) Z g lb xs G w) (hg : ∀ args w, (callFunc g args).run Try.prog w = .ok (.enter g args) w) (hw : SliceAt w A cap want) (hwZ : ∀ b o, A = some ⟨b, o, none⟩ → want ≠ [] → ¬ Z b)
    (hZ : ∀ b, Z b → b < w.heap.size) (hG : ∀ k A V, G k A → Chg (fresh w) A V → G k V) (hx : xs.length ≤ 4611686018427387904) :
    Calls Try.prog 25 #[.func (.func g) #[] lb, .slice A want.length cap] w fun e V => e = .returned (.bool (decide (xs = want))) ∧ Chg Z w V ∧ ∃ k, G k V := by
  have hwl := hw.1
  have hwm := hw.2.1
  have hwk : ∀ {V : World}, Chg Z w V → SliceAt V A cap want := fun c => slice_keep hw c hwZ
  refine (callsIn_wide (n := 3)).1 ?_
  refine callsIn_of_wp_marks Try.func25 rfl trivial ?_ rfl
  simp only [Try.ntmps25, List.size_toArray, List.length_cons, List.length_nil, Nat.reduceAdd, Nat.reduceSub, Array.replicate_succ, Array.replicate_zero, List.push_toArray, List.append_toArray, List.nil_append, List.cons_append]
  refine wpIn_wide.2 ?_
  have hB0 : Later w (((w.alloc (.cells #[.slice A want.length cap] 22)).alloc (.cells #[.bool false] 4)).alloc (.cells #[.int .i64 0] 3)) := (((Later.refl w).alloc _).alloc _).alloc _
  have bW := ((Boxed.new w 22 (.slice A want.length cap)).alloc (.cells #[.bool false] 4)).alloc (.cells #[.int .i64 0] 3)
  have bR := (Boxed.new (w.alloc (.cells #[.slice A want.length cap] 22)) 4 (.bool false)).alloc (.cells #[.int .i64 0] 3)
  have bN := Boxed.new ((w.alloc (.cells #[.slice A want.length cap] 22)).alloc (.cells #[.bool false] 4)) 3 (.int .i64 0)
  simp only [World.size_alloc] at bR bN
  have hsz : (((w.alloc (.cells #[.slice A want.length cap] 22)).alloc (.cells #[.bool false] 4)).alloc (.cells #[.int .i64 0] 3)).heap.size = w.heap.size + 3 := by simp
  obtain ⟨W0, hW0⟩ : ∃ W0, ((w.alloc (.cells #[.slice A want.length cap] 22)).alloc (.cells #[.bool false] 4)).alloc (.cells #[.int .i64 0] 3) = W0 := ⟨_, rfl⟩
  rw [hW0] at hB0 bW bR bN hsz
  replace hW0 := hid hW0
  go_upto_block 0 with fail
  rw [hW0.out]
  have hfr : ∀ {hi b : Nat}, priv (W0.heap.size + 2) hi b → w.heap.size + 5 ≤ b := fun h => by have := h.1; omega
  refine block_z (w0 := w) (X := fresh w) (Z := Z) (xs := xs) (G := G) 6 (by rfl) hg hseq hB0 (fun b h => Nat.le_trans hB0.size h) (fun b h => by have := hZ b h; omega) (fun k A l o h hl => hG k A _ h (chg_put _ _ _ (by show w.heap.size ≤ l; omega)))
    (toldW Z w A cap want) (toldZ Z w want) (fun hi => toldW_own Z w A cap want hi (by omega)) (fun hi c => toldZ_own Z w want hi c (by omega))
    (fun hi s A V h c => toldW_chg h c hZ (fun b e => e.imp id hfr)) (fun hi k s A V h c => toldZ_chg h c hZ (fun b e => e.imp id hfr))
    (fun hi V c h1 h2 => ?start) (fun hi pre W h => h.2.2.2) ?assign ?body ?done ?stop
  case start =>
    have n : ∀ j, j < 3 → ¬ (Z (w.heap.size + j) ∨ W0.heap.size ≤ w.heap.size + j) := fun j hj e => e.elim (fun e => by have := hZ _ e; omega) (fun e => by omega)
    exact ⟨⟨⟨boxed_turn bW c (n 0 (by omega)), boxed_turn bN c (n 2 (by omega))⟩, boxed_turn bR c (n 1 (by omega))⟩, chg_in hB0.chg c (fun b e => e.imp id fun e => by omega), ⟨List.nil_prefix, by omega⟩, h2⟩
  case assign =>
    intro l' y W K hK
    simp only [inTmps, List.setIfInBounds_toArray, List.set_cons_zero, List.set_cons_succ] at hK ⊢
    gi_wp2
    exact hK
  case body =>
    rintro hi l pre x Bx W hhi ⟨⟨⟨bW1, bN1⟩, bR1⟩, hB1, ⟨hp, hh5⟩, hhs⟩ bX hBx hlt
    simp only [inTmps, List.setIfInBounds_toArray, List.set_cons_zero, List.set_cons_succ]
    have hX1 : (fun b => fresh w b ∧ ¬ priv (W0.heap.size + 2) hi b) (w.heap.size + 1) := ⟨by show w.heap.size ≤ _; omega, fun h => by have := h.1; omega⟩
    have hX2 : (fun b => fresh w b ∧ ¬ priv (W0.heap.size + 2) hi b) (w.heap.size + 1 + 1) := ⟨by show w.heap.size ≤ _; omega, fun h => by have := h.1; omega⟩
    have cW := bW1.cell
    have cN := bN1.cell
    have cR := bR1.cell
    have fN := bN1.frozen
    have fR := bR1.frozen
    obtain ⟨cX0, cX1, _, _⟩ := bX.cells
    by_cases h1 : want.length ≤ pre.length
    · gi_wp2
      refine region_round_quiet (by kernel_rfl) (by kernel_rfl) (by kernel_rfl) (by rintro ⟨_, _, h⟩; exact h) ?_
      repeat (go_big_quiet_step (fail))
      refine wpQuiet_nil ?_
      intro _ hw'
      obtain ⟨nq, hw''⟩ := hw'
      subst hw''
      gi_wp2
      exact ⟨kf_set _ _ _ _ _, (chg_drewN W nq).trans (chg_setat (X := fun b => fresh w b ∧ ¬ priv (W0.heap.size + 2) hi b) (W.drewN nq) (.bool false) hX1), (show Boxed (W.drewN nq) _ _ _ from bR1).set _, chg_in hB1 ((chg_drewN W nq).trans (chg_setat (X := fun b => fresh w b ∧ ¬ priv (W0.heap.size + 2) hi b) (W.drewN nq) (.bool false) hX1)) (fun b e => .inr e.1), rfl, fun h => by have := h.length_le; simp at this; omega, hh5⟩
    · obtain ⟨y, hy⟩ : ∃ y, want[pre.length]? = some y := ⟨want[pre.length]'(by omega), List.getElem?_eq_getElem (by omega)⟩
      obtain ⟨b, o, rfl, cy0, cy1⟩ := (hwk hB1).2.2 _ _ hy
      by_cases hxy : x = y
      · subst hxy
        have hp' := prefix_snoc hp hy
        have hh1 : decide (want.length ≤ pre.length) = false := by simpa using h1
        have hh2 : (pre.length : Int) < want.length := by omega
        have hh0 : (0 : Int) ≤ (pre.length : Int) := by omega
        clear hy hw h1 hwk
        gi_wp2
        refine region_round_quiet (by kernel_rfl) (by kernel_rfl) (by kernel_rfl) (by rintro ⟨_, _, h⟩; exact h) ?_
        repeat (go_big_quiet_step (fail))
        refine wpQuiet_nil ?_
        intro _ hw'
        obtain ⟨nq, hw''⟩ := hw'
        subst hw''
        gi_wp2
        have ct := (chg_drewN W nq).trans (chg_setat (X := fun b => fresh w b ∧ ¬ priv (W0.heap.size + 2) hi b) (W.drewN nq) (.int .i64 ((pre.length : Int) + 1)) hX2)
        exact ⟨kf_set _ _ _ _ _, ct, ⟨⟨(show Boxed (W.drewN nq) _ _ _ from bW1).other (by omega) _, by rw [List.length_append]; exact (show Boxed (W.drewN nq) _ _ _ from bN1).set _⟩, (show Boxed (W.drewN nq) _ _ _ from bR1).other (by omega) _⟩, chg_in hB1 ct (fun b e => .inr e.1), ⟨hp', hh5⟩, Nat.le_trans hhs ct.size⟩
      · have hh1 : decide (want.length ≤ pre.length) = false := by simpa using h1
        have hh2 : (pre.length : Int) < want.length := by omega
        have hh0 : (0 : Int) ≤ (pre.length : Int) := by omega
        have hnp : ¬ pre ++ [x] <+: want := fun h => hxy (by have := prefix_snoc_iff h; rw [hy] at this; exact (Option.some.inj this).symm)
        clear hw h1 hy hwk
        obtain ⟨y1, y2⟩ := y
        by_cases hx1 : x.1 = y1
        · subst hx1
          have hx2 : ¬ x.2 = y2 := fun h => hxy (by subst h; rfl)
          clear hxy
          gi_wp2
          refine region_round_quiet (by kernel_rfl) (by kernel_rfl) (by kernel_rfl) (by rintro ⟨_, _, h⟩; exact h) ?_
          repeat (go_big_quiet_step (fail))
          refine wpQuiet_nil ?_
          intro _ hw'
          obtain ⟨nq, hw''⟩ := hw'
          subst hw''
          gi_wp2
          exact ⟨kf_set _ _ _ _ _, (chg_drewN W nq).trans (chg_setat (X := fun b => fresh w b ∧ ¬ priv (W0.heap.size + 2) hi b) (W.drewN nq) (.bool false) hX1), (show Boxed (W.drewN nq) _ _ _ from bR1).set _, chg_in hB1 ((chg_drewN W nq).trans (chg_setat (X := fun b => fresh w b ∧ ¬ priv (W0.heap.size + 2) hi b) (W.drewN nq) (.bool false) hX1)) (fun b e => .inr e.1), rfl, hnp, hh5⟩
        · clear hxy
          gi_wp2
          refine region_round_quiet (by kernel_rfl) (by kernel_rfl) (by kernel_rfl) (by rintro ⟨_, _, h⟩; exact h) ?_
          repeat (go_big_quiet_step (fail))
          refine wpQuiet_nil ?_
          intro _ hw'
          obtain ⟨nq, hw''⟩ := hw'
          subst hw''
          gi_wp2
          exact ⟨kf_set _ _ _ _ _, (chg_drewN W nq).trans (chg_setat (X := fun b => fresh w b ∧ ¬ priv (W0.heap.size + 2) hi b) (W.drewN nq) (.bool false) hX1), (show Boxed (W.drewN nq) _ _ _ from bR1).set _, chg_in hB1 ((chg_drewN W nq).trans (chg_setat (X := fun b => fresh w b ∧ ¬ priv (W0.heap.size + 2) hi b) (W.drewN nq) (.bool false) hX1)) (fun b e => .inr e.1), rfl, hnp, hh5⟩
  case done =>
    rintro hi D W hhi hD hK ⟨⟨⟨bW1, bN1⟩, bR1⟩, hB1, ⟨hp, hh5⟩, hhs⟩ hgk
    have cW := bW1.cell
    have cN := bN1.cell
    have cR := bR1.cell
    have fR := bR1.frozen
    go_wp2_with fail
    have c1 : Chg (fresh w) W (W.setCell ⟨w.heap.size + 1, 0, none⟩ (.bool ((xs.length : Int) == (want.length : Int)))) := Chg.set _ _ (by show w.heap.size ≤ _; omega)
    have hK' : (W.setCell ⟨w.heap.size + 1, 0, none⟩ (.bool ((xs.length : Int) == (want.length : Int)))).heap[D]? = some (.deferred (some [])) := (KeepsOthers.setCell _ _ _).same D _ hK rfl
    have bR2 := bR1.set (.bool ((xs.length : Int) == (want.length : Int)))
    refine ⟨by simp, .inl ⟨_, _, rfl, run_takeDeferred hK', ?_⟩⟩
    have c2 := c1.trans (chg_put (X := fresh w) _ D (.deferred none) (by show w.heap.size ≤ D; omega))
    have bR3 := (bR2.kept (grownBy_putObj' _ D (.deferred none)) (fun e => by cases e; rw [show _ = _ from bR2] at hK'; cases hK')).cell
    have hv : ((xs.length : Int) == (want.length : Int)) = decide (xs = want) := by
      rw [Bool.eq_iff_iff]
      simp only [beq_iff_eq, decide_eq_true_eq]
      constructor
      · intro h; exact hp.eq_of_length (by omega)
      · intro h; rw [h]
    generalize (W.setCell ⟨w.heap.size + 1, 0, none⟩ (.bool ((xs.length : Int) == (want.length : Int)))).putObj D (.deferred none) = Wf at bR3 c2 ⊢
    rw [hv] at bR3
    exact ⟨_, by simp [results, Try.results25, go_sem, bR3], rfl, chg_in hB1 c2 (fun b e => .inr e), _, hG _ _ _ hgk c2⟩
  case stop =>
    rintro hi D c pre W hhi hD hK hpre ⟨bR1, hB1, rfl, hnp, hh5⟩ hgk
    have cR := bR1.cell
    refine .inl ⟨rfl, ?_⟩
    go_wp2_with fail
    refine ⟨by simp, .inl ⟨_, _, rfl, run_takeDeferred hK, ?_⟩⟩
    have c2 : Chg (fresh w) W (W.putObj D (.deferred none)) := chg_put _ _ _ (by show w.heap.size ≤ D; omega)
    have bR3 := (bR1.kept (grownBy_putObj' _ D (.deferred none)) (fun e => by cases e; rw [show _ = _ from bR1] at hK; cases hK)).cell
    have hv : decide (xs = want) = false := by
      simp only [decide_eq_false_iff_not]
      intro h; exact hnp (h ▸ hpre)
    rw [hv]
    exact ⟨_, by simp [results, Try.results25, go_sem, bR3], rfl, chg_in hB1 c2 (fun b e => .inr e), _, hG _ _ _ hgk c2⟩
end Go.Proofs.Yteledidnhjioaaa.Sh
