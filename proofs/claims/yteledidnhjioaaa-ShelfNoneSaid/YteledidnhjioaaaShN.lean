import Derived.Test.YteledidnhjioaaaShR
namespace Go.Proofs.Yteledidnhjioaaa.Sh
open Go.RowKit Go.Lib Go.Proofs Go.Shelf
set_option linter.unusedVariables false
set_option linter.unusedSimpArgs false
attribute [local go_sem] Oper.semAt_some
/-- a slice of Pairs, as it is read -/
def SliceAt (W : World) (A : Option Addr) (cap : Nat) (l : List (Int × Int)) : Prop :=
  l.length ≤ cap ∧ l.length ≤ 4611686018427387904 ∧ ∀ i x, l[i]? = some x → ∃ b o, A = some ⟨b, o, none⟩ ∧ W.cell? ⟨b, o + i * 2, none⟩ = some (.int .i64 x.1) ∧ W.cell? ⟨b, o + i * 2 + 1, none⟩ = some (.int .i64 x.2)
theorem SliceAt.later {W W' : World} {A : Option Addr} {cap : Nat} {l : List (Int × Int)} (h : SliceAt W A cap l) (k : Later W W') : SliceAt W' A cap l :=
  ⟨h.1, h.2.1, fun i x hi => by obtain ⟨b, o, ha, h0, h1⟩ := h.2.2 i x hi; exact ⟨b, o, ha, k.cell h0, k.cell h1⟩⟩
theorem prefix_snoc {α : Type} {pre want : List α} {x : α} (h : pre <+: want) (hx : want[pre.length]? = some x) : pre ++ [x] <+: want := by
  obtain ⟨r, rfl⟩ := h
  rw [List.getElem?_append_right (Nat.le_refl _), Nat.sub_self] at hx
  cases r with
  | nil => simp at hx
  | cons y r => simp at hx; subst hx; exact ⟨r, by simp⟩
theorem prefix_snoc_iff {α : Type} {pre want : List α} {x : α} (h : pre ++ [x] <+: want) : want[pre.length]? = some x := by
  obtain ⟨r, rfl⟩ := h
  simp
/-- all that comes to lie -/
abbrev fresh (w : World) : Nat → Prop := fun b => w.heap.size ≤ b
theorem chg_below {w A B : World} (h : Chg (fresh w) A B) (hs : w.heap.size ≤ A.heap.size) : Below w.heap.size A B :=
  ⟨h.os, h.tape, h.output, h.size, fun k hk => h.block k (by omega) (fun e => by have : w.heap.size ≤ k := e; omega)⟩
theorem below_chg {w A B : World} (h : Below w.heap.size A B) : Chg (fresh w) A B :=
  ⟨h.os, h.tape, h.output, h.size, fun k _ hx => h.block k (by have : ¬ w.heap.size ≤ k := hx; omega)⟩
theorem fresh_t {w A B C : World} (h : Chg (fresh w) A B) (k : Chg (fresh w) B C) : Chg (fresh w) A C := h.trans k
theorem fresh_b {w w' : World} (hw : w.heap.size ≤ w'.heap.size) (W : World) (l : Nat) (o o' : Obj) (hl : w'.heap.size ≤ l) (h : W.heap[l]? = some o) (_ : o.isCells = false) (_ : o.isWalk = false) : Chg (fresh w) W (W.putObj l o') :=
  have hg := grownBy_putObj' W l o'
  ⟨hg.os, hg.tape, hg.output, hg.size, fun k hk hx => hg.block k hk (fun e => by cases e; exact hx (Nat.le_trans hw hl))⟩
/-- a block of two cells -/
def Boxed2 (W : World) (B : Nat) (u v : Value) : Prop := W.heap[B]? = some (.cells #[u, v] 27 (0, 0))
theorem Boxed2.lt {W : World} {B : Nat} {u v : Value} (h : Boxed2 W B u v) : B < W.heap.size := (Array.getElem?_eq_some_iff.1 h).1
theorem Boxed2.cells {W : World} {B : Nat} {u v : Value} (h : Boxed2 W B u v) : W.cell? ⟨B, 0, none⟩ = some u ∧ W.cell? ⟨B, 1, none⟩ = some v ∧ W.frozen? ⟨B, 0, none⟩ = false ∧ W.frozen? ⟨B, 1, none⟩ = false := by
  have h' : W.heap[B]? = some (.cells #[u, v] 27 (0, 0)) := h
  simp [World.cell?, World.frozen?, h']
theorem Boxed2.new (W : World) (u v : Value) : Boxed2 (W.alloc (.cells #[u, v] 27)) W.heap.size u v := World.alloc_heap_new W _
theorem Boxed2.kept {W W' : World} {row : Option Nat} {B : Nat} {u v : Value} (h : Boxed2 W B u v) (hg : W.grownBy W' row) (hne : some B ≠ row) : Boxed2 W' B u v := (hg.block B h.lt hne).trans h
theorem boxed2_own {β : Type} (B : Nat) (f g : β → Value) : Own (fun s W => Boxed2 W B (f s) (g s)) := fun s X Y row hs hg hrow =>
  hs.kept hg (fun e' => by obtain ⟨o, ho, hc⟩ := hrow B e'.symm; rw [show X.heap[B]? = _ from hs] at ho; cases ho; cases hc)
theorem kf_set (B : Nat) (W : World) (n b : Nat) (v : Value) : KeepsFrom B W ((W.drewN n).setCell ⟨b, 0, none⟩ v) :=
  KeepsFrom.trans (Y := W.drewN n) ⟨Nat.le_refl _, fun k o _ h _ => h⟩ ((KeepsOthers.setCell _ _ _).from _)
/-- in a round of told -/
abbrev toldI (w : World) (A : Option Addr) (cap : Nat) (want : List (Int × Int)) (pre : List (Int × Int)) (W : World) : Prop :=
  (((Boxed W w.heap.size 22 (.slice A want.length cap) ∧ Boxed W (w.heap.size + 1 + 1) 3 (.int .i64 pre.length)) ∧ Boxed W (w.heap.size + 1) 4 (.bool false)) ∧ Below w.heap.size w W) ∧ pre <+: want
abbrev toldX (w : World) (want : List (Int × Int)) (c : Code) (pre : List (Int × Int)) (W : World) : Prop :=
  (Boxed W (w.heap.size + 1) 4 (.bool false) ∧ Below w.heap.size w W) ∧ (c = .ret ∧ ¬ pre <+: want)
theorem toldI_own (w : World) (A : Option Addr) (cap : Nat) (want : List (Int × Int)) {B : Nat} (hB : w.heap.size ≤ B) : OwnFrom B (toldI w A cap want) :=
  OwnFrom.and (OwnFrom.and (OwnFrom.and (OwnFrom.and (Own.from (boxed_own _ _ _) _) (Own.from (boxed_own _ _ _) _)) (Own.from (boxed_own _ _ _) _)) (ownFrom_below (Nat.le_refl _) hB)) (ownFrom_pure _ _)
theorem toldX_own (w : World) (want : List (Int × Int)) (c : Code) {B : Nat} (hB : w.heap.size ≤ B) : OwnFrom B (toldX w want c) :=
  OwnFrom.and (OwnFrom.and (Own.from (boxed_own _ _ _) _) (ownFrom_below (Nat.le_refl _) hB)) (ownFrom_pure _ _)
set_option maxRecDepth 100000 in
set_option maxHeartbeats 8000000 in
theorem told_any {g : Nat} {lb : Array Value} {xs want : List (Int × Int)} {w : World} {A : Option Addr} {cap : Nat} (hseq : SeqT (fresh w) g lb xs w) (hg : ∀ args w, (callFunc g args).run Try.prog w = .ok (.enter g args) w) (hw : SliceAt w A cap want) (hx : xs.length ≤ 4611686018427387904) :
    Calls Try.prog 25 #[.func (.func g) #[] lb, .slice A want.length cap] w fun e w' => e = .returned (.bool (decide (xs = want))) ∧ Later w w' := by
  have hwl := hw.1
  have hwm := hw.2.1
  refine (callsIn_wide (n := 3)).1 ?_
  refine callsIn_of_wp_marks Try.func25 rfl trivial ?_ rfl
  simp only [Try.ntmps25, List.size_toArray, List.length_cons, List.length_nil, Nat.reduceAdd, Nat.reduceSub, Array.replicate_succ, Array.replicate_zero, List.push_toArray, List.append_toArray, List.nil_append, List.cons_append]
  gi_wp2
  have hB0 : Below w.heap.size w (((w.alloc (.cells #[.slice A want.length cap] 22)).alloc (.cells #[.bool false] 4)).alloc (.cells #[.int .i64 0] 3)) := (((Later.refl w).alloc _).alloc _).alloc _
  have bW := ((Boxed.new w 22 (.slice A want.length cap)).alloc (.cells #[.bool false] 4)).alloc (.cells #[.int .i64 0] 3)
  have bR := (Boxed.new (w.alloc (.cells #[.slice A want.length cap] 22)) 4 (.bool false)).alloc (.cells #[.int .i64 0] 3)
  have bN := Boxed.new ((w.alloc (.cells #[.slice A want.length cap] 22)).alloc (.cells #[.bool false] 4)) 3 (.int .i64 0)
  simp only [World.size_alloc] at bR bN
  have hsz : (((w.alloc (.cells #[.slice A want.length cap] 22)).alloc (.cells #[.bool false] 4)).alloc (.cells #[.int .i64 0] 3)).heap.size = w.heap.size + 3 := by simp
  generalize ((w.alloc (.cells #[.slice A want.length cap] 22)).alloc (.cells #[.bool false] 4)).alloc (.cells #[.int .i64 0] 3) = W0 at *
  refine wpIn_rangeFunc_ownH rfl (by omega) (gf := g) (lb := lb) rfl trivial hg
    (hseq 2) fresh_t (fresh_b (by omega)) hB0 (fun _ => rfl)
    (toldI w A cap want) (toldX w want) (toldI_own w A cap want (by omega)) (fun c => toldX_own w want c (by omega))
    ⟨⟨⟨⟨bW, bN⟩, bR⟩, hB0⟩, List.nil_prefix⟩
    (fun x a' W => ∃ Bx, w.heap.size + 1 + 1 < Bx ∧ Boxed2 W Bx (.int .i64 x.1) (.int .i64 x.2) ∧ a' = { tmps := #[.func (.func g) #[] lb, .slice A want.length cap, undef, .pointer (some ⟨w.heap.size, 0, none⟩), .pointer (some ⟨w.heap.size + 1, 0, none⟩), .pointer (some ⟨w.heap.size + 1 + 1, 0, none⟩), .pointer (some ⟨Bx, 0, none⟩), .func (.func g) #[] lb, .agg #[.int .i64 x.1, .int .i64 x.2], undef, undef, undef, undef, undef, undef, undef, undef, undef, undef, undef, undef, undef, undef, undef, undef, undef, undef], defers := [] })
    (fun x a' _ X Y row hs hg hr => by obtain ⟨Bx, h1, h2, h3⟩ := hs; exact ⟨Bx, h1, boxed2_own Bx (fun (_ : Unit) => Value.int .i64 x.1) (fun (_ : Unit) => Value.int .i64 x.2) () X Y row h2 hg (fun r e => (hr r e).2), h3⟩)
    ?assign ?body ?done ?stop
  case assign =>
    rintro l pre x W K ⟨⟨⟨⟨bW1, bN1⟩, bR1⟩, hB1⟩, hp⟩ hK
    gi_wp2
    exact hK _ _ ((KeepsOthers.alloc _ _).from _) (below_chg ((Below.refl _ W).alloc hB1.size _)) ⟨⟨⟨⟨bW1.alloc _, bN1.alloc _⟩, bR1.alloc _⟩, hB1.alloc hB1.size _⟩, hp⟩ ⟨W.heap.size, bN1.lt, Boxed2.new W _ _, rfl⟩
  case body =>
    rintro l pre x a' W hl hr ⟨⟨⟨⟨bW1, bN1⟩, bR1⟩, hB1⟩, hp⟩ ⟨Bx, hBx, bX, rfl⟩ hlt
    have cW := bW1.cell
    have cN := bN1.cell
    have cR := bR1.cell
    have fN := bN1.frozen
    have fR := bR1.frozen
    obtain ⟨cX0, cX1, _, _⟩ := bX.cells
    by_cases h1 : want.length ≤ pre.length
    · gi_wp2
      refine region_round_quiet (by kernel_rfl) (by kernel_rfl) (by kernel_rfl) (by rintro ⟨_, _, h⟩; exact h) ?_
      repeat (go_big_quiet_step (fail))
      refine wpQuiet_nil ?_
      intro _ hw'
      obtain ⟨nq, hw''⟩ := hw'
      subst hw''
      gi_wp2
      exact ⟨kf_set _ _ _ _ _, ⟨(show Boxed (W.drewN nq) _ _ _ from bR1).set _, (below_drewN hB1 nq).setCell (p := ⟨w.heap.size + 1, 0, none⟩) (by simp) _⟩, rfl, fun h => by have := h.length_le; simp at this; omega⟩
    · obtain ⟨y, hy⟩ : ∃ y, want[pre.length]? = some y := ⟨want[pre.length]'(by omega), List.getElem?_eq_getElem (by omega)⟩
      obtain ⟨b, o, rfl, cy0, cy1⟩ := hw.2.2 _ _ hy
      replace cy0 := Later.cell hB1 cy0
      replace cy1 := Later.cell hB1 cy1
      by_cases hxy : x = y
      · subst hxy
        have hp' := prefix_snoc hp hy
        have hh1 : decide (want.length ≤ pre.length) = false := by simpa using h1
        have hh2 : (pre.length : Int) < want.length := by omega
        have hh0 : (0 : Int) ≤ (pre.length : Int) := by omega
        clear hy hw h1
        gi_wp2
        refine region_round_quiet (by kernel_rfl) (by kernel_rfl) (by kernel_rfl) (by rintro ⟨_, _, h⟩; exact h) ?_
        repeat (go_big_quiet_step (fail))
        refine wpQuiet_nil ?_
        intro _ hw'
        obtain ⟨nq, hw''⟩ := hw'
        subst hw''
        gi_wp2
        exact ⟨kf_set _ _ _ _ _, below_chg ((below_drewN (Below.refl _ W) nq).setCell (p := ⟨w.heap.size + 1 + 1, 0, none⟩) (by simp; omega) _),
          ⟨⟨⟨(show Boxed (W.drewN nq) _ _ _ from bW1).other (by omega) _, by rw [List.length_append]; exact (show Boxed (W.drewN nq) _ _ _ from bN1).set _⟩, (show Boxed (W.drewN nq) _ _ _ from bR1).other (by omega) _⟩, (below_drewN hB1 nq).setCell (p := ⟨w.heap.size + 1 + 1, 0, none⟩) (by simp; omega) _⟩, hp'⟩
      · have hh1 : decide (want.length ≤ pre.length) = false := by simpa using h1
        have hh2 : (pre.length : Int) < want.length := by omega
        have hh0 : (0 : Int) ≤ (pre.length : Int) := by omega
        have hnp : ¬ pre ++ [x] <+: want := fun h => hxy (by have := prefix_snoc_iff h; rw [hy] at this; exact (Option.some.inj this).symm)
        clear hw h1 hy
        obtain ⟨y1, y2⟩ := y
        by_cases hx1 : x.1 = y1
        · subst hx1
          have hx2 : ¬ x.2 = y2 := fun h => hxy (by subst h; rfl)
          clear hxy
          gi_wp2
          refine region_round_quiet (by kernel_rfl) (by kernel_rfl) (by kernel_rfl) (by rintro ⟨_, _, h⟩; exact h) ?_
          repeat (go_big_quiet_step (fail))
          refine wpQuiet_nil ?_
          intro _ hw'
          obtain ⟨nq, hw''⟩ := hw'
          subst hw''
          gi_wp2
          exact ⟨kf_set _ _ _ _ _, ⟨(show Boxed (W.drewN nq) _ _ _ from bR1).set _, (below_drewN hB1 nq).setCell (p := ⟨w.heap.size + 1, 0, none⟩) (by simp) _⟩, rfl, hnp⟩
        · clear hxy
          gi_wp2
          refine region_round_quiet (by kernel_rfl) (by kernel_rfl) (by kernel_rfl) (by rintro ⟨_, _, h⟩; exact h) ?_
          repeat (go_big_quiet_step (fail))
          refine wpQuiet_nil ?_
          intro _ hw'
          obtain ⟨nq, hw''⟩ := hw'
          subst hw''
          gi_wp2
          exact ⟨kf_set _ _ _ _ _, ⟨(show Boxed (W.drewN nq) _ _ _ from bR1).set _, (below_drewN hB1 nq).setCell (p := ⟨w.heap.size + 1, 0, none⟩) (by simp) _⟩, rfl, hnp⟩
  case done =>
    rintro D ys W hD rfl ⟨⟨⟨⟨bW1, bN1⟩, bR1⟩, hB1⟩, hp⟩ hK
    have cW := bW1.cell
    have cN := bN1.cell
    have cR := bR1.cell
    have fR := bR1.frozen
    gi_wp2
    have hK' : (W.setCell ⟨w.heap.size + 1, 0, none⟩ (.bool ((ys.length : Int) == (want.length : Int)))).heap[D]? = some (.deferred (some [])) := (KeepsOthers.setCell _ _ _).same D _ hK rfl
    have bR2 := bR1.set (.bool ((ys.length : Int) == (want.length : Int)))
    have hB2 := hB1.setCell (p := ⟨w.heap.size + 1, 0, none⟩) (by simp) (.bool ((ys.length : Int) == (want.length : Int)))
    refine ⟨by simp, .inl ⟨_, _, rfl, run_takeDeferred hK', ?_⟩⟩
    have hB3 := hB2.trans (belowK_b (w := w) (Nat.le_refl _) _ D _ (.deferred none) (by omega) hK' rfl rfl)
    have bR3 := (bR2.kept (grownBy_putObj' _ D (.deferred none)) (fun e => by cases e; rw [show _ = _ from bR2] at hK'; cases hK')).cell
    have hv : ((ys.length : Int) == (want.length : Int)) = decide (ys = want) := by
      rw [Bool.eq_iff_iff]
      simp only [beq_iff_eq, decide_eq_true_eq]
      constructor
      · intro h; exact hp.eq_of_length (by omega)
      · intro h; rw [h]
    generalize (W.setCell ⟨w.heap.size + 1, 0, none⟩ (.bool ((ys.length : Int) == (want.length : Int)))).putObj D (.deferred none) = Wf at bR3 hB3 ⊢
    rw [hv] at bR3
    exact ⟨_, by simp [results, Try.results25, go_sem, bR3], rfl, hB3⟩
  case stop =>
    rintro D c pre W hD hpre ⟨⟨bR1, hB1⟩, rfl, hnp⟩ hK
    have cR := bR1.cell
    gi_wp2
    refine ⟨by simp, .inl ⟨_, _, rfl, run_takeDeferred hK, ?_⟩⟩
    have hB3 := hB1.trans (belowK_b (w := w) (Nat.le_refl _) _ D _ (.deferred none) (by omega) hK rfl rfl)
    have bR3 := (bR1.kept (grownBy_putObj' _ D (.deferred none)) (fun e => by cases e; rw [show _ = _ from bR1] at hK; cases hK)).cell
    have hv : decide (xs = want) = false := by
      simp only [decide_eq_false_iff_not]
      intro h; exact hnp (h ▸ hpre)
    rw [hv]
    exact ⟨_, by simp [results, Try.results25, go_sem, bR3], rfl, hB3⟩
end Go.Proofs.Yteledidnhjioaaa.Sh
