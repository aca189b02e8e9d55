import Derived.Test.YteledidnhjioaaaSiG
import Derived.Deep.DeepCutAuto
import Derived.Deep.CutBlock
namespace Go.Proofs.Yteledidnhjioaaa.Sh
open Go.RowKit Go.Lib Go.Proofs Go.Shelf
set_option linter.unusedVariables false
set_option linter.unusedSimpArgs false
attribute [local go_sem] Oper.semAt_some
theorem row_slice3 {W : World} {base n : Nat} {v : Value} {l : List (Int × Int)} (h : W.ownsRow base 27 2 v l.length (flat l)) (hl : l.length ≤ 4611686018427387904) (hn : l.length = n) : ∃ A cap, v = .slice A n cap ∧ SliceAt W A cap l ∧ (∀ b o, A = some ⟨b, o, none⟩ → base ≤ b ∧ b < W.heap.size) ∧ (A = none → cap = 0) := by
  obtain ⟨A, cap, hv, hs, hb⟩ := row_slice2 h hl hn
  refine ⟨A, cap, hv, hs, hb, fun e => ?_⟩
  rcases h.2 with ⟨h1, h0⟩ | ⟨g, cap', cur, h1, _⟩
  · rw [hv] at h1
    injection h1
  · rw [hv, e] at h1
    injection h1 with h1
    cases h1
theorem boxed_later {W W' : World} {B : Nat} {t : TypeId} {v : Value} (h : Boxed W B t v) (k : Later W W') : Boxed W' B t v := h.kept k.grown (fun e => by cases e)
theorem boxed_new {W : World} {B : Nat} (t : TypeId) (v : Value) (h : B = W.heap.size) : Boxed (W.alloc (.cells #[v] t)) B t v := by rw [h]; exact Boxed.new W t v
theorem AllAt.later {X : Nat → Prop} {W W' : World} {bt : Nat} {T : Tr (Int × Int)} (h : AllAt X W bt T) (k : Later W W') : AllAt X W' bt T := by
  obtain ⟨p, h1, h2⟩ := h.tree
  exact ⟨p, k.cell h1, h2.keep k.chg⟩
theorem AllAt.chg {X : Nat → Prop} {W W' : World} {bt : Nat} {T : Tr (Int × Int)} (h : AllAt X W bt T) (k : Chg X W W') (hb : W'.heap[bt]? = W.heap[bt]?) : AllAt X W' bt T := by
  obtain ⟨p, h1, h2⟩ := h.tree
  exact ⟨p, (World.cell?_of_block (w := W) (a := ⟨bt, 0, none⟩) hb).trans h1, h2.keep k⟩
theorem FromAt.later {X : Nat → Prop} {W W' : World} {c bt cb xb : Nat} {x : Int × Int} {T : Tr (Int × Int)} (h : FromAt X W c bt cb xb x T) (k : Later W W') : FromAt X W' c bt cb xb x T := by
  obtain ⟨p, h1, h2⟩ := h.tree
  exact ⟨⟨p, k.cell h1, h2.keep k.chg⟩, k.cell h.cmp, k.cell h.x0, k.cell h.x1⟩
theorem FromAt.chg {X : Nat → Prop} {W W' : World} {c bt cb xb : Nat} {x : Int × Int} {T : Tr (Int × Int)} (h : FromAt X W c bt cb xb x T) (k : Chg X W W') (hb : W'.heap[bt]? = W.heap[bt]?) (hc : W'.heap[cb]? = W.heap[cb]?) (hx : W'.heap[xb]? = W.heap[xb]?) : FromAt X W' c bt cb xb x T := by
  obtain ⟨p, h1, h2⟩ := h.tree
  exact ⟨⟨p, (World.cell?_of_block (w := W) (a := ⟨bt, 0, none⟩) hb).trans h1, h2.keep k⟩, (World.cell?_of_block (w := W) (a := ⟨cb, 0, none⟩) hc).trans h.cmp, (World.cell?_of_block (w := W) (a := ⟨xb, 0, none⟩) hx).trans h.x0, (World.cell?_of_block (w := W) (a := ⟨xb, 1, none⟩) hx).trans h.x1⟩
/-- the Shelf, and all that came behind it -/
abbrev upS (SB M : Nat) : Nat → Prop := fun b => b = SB ∨ M ≤ b
/-- the two sequences lie in their variables -/
structure Two (W : World) (SB M b9 b10 bt bt' cb xb : Nat) (x : Int × Int) (T : Tr (Int × Int)) : Prop where
  v9 : Boxed W b9 29 (allV bt)
  v10 : Boxed W b10 29 (fromV bt' cb xb)
  all : AllAt (upS SB M) W bt T
  frm : FromAt (upS SB M) W 45 bt' cb xb x T
  ge9 : M ≤ b9
  ge10 : M ≤ b10
  ges : M ≤ bt ∧ M ≤ bt' ∧ M ≤ cb ∧ M ≤ xb
theorem allAt_set {W : World} {SB M bt B : Nat} {T : Tr (Int × Int)} (h : AllAt (upS SB M) W bt T) (hB : M ≤ B) (hne : bt ≠ B) (v : Value) : AllAt (upS SB M) (W.setCell ⟨B, 0, none⟩ v) bt T := by
  obtain ⟨p, h1, _⟩ := h.tree
  exact h.chg (Chg.set _ _ (.inr hB)) ((Chg.set (X := only B) W v rfl).block bt (cell_lt h1) hne)
theorem fromAt_set {W : World} {SB M c bt cb xb B : Nat} {x : Int × Int} {T : Tr (Int × Int)} (h : FromAt (upS SB M) W c bt cb xb x T) (hB : M ≤ B) (h1 : bt ≠ B) (h2 : cb ≠ B) (h3 : xb ≠ B) (v : Value) : FromAt (upS SB M) (W.setCell ⟨B, 0, none⟩ v) c bt cb xb x T := by
  obtain ⟨p, k1, _⟩ := h.tree
  have k := (Chg.set (X := only B) (o := 0) W v rfl)
  exact h.chg (Chg.set _ _ (.inr hB)) (k.block bt (cell_lt k1) h1) (k.block cb (cell_lt h.cmp) h2) (k.block xb (cell_lt h.x0) h3)
theorem one_late {E W' : World} (l : Later (E.alloc (.cells #[.nilFunc] 29)) W') : Boxed W' E.heap.size 29 .nilFunc := boxed_later (Boxed.new _ _ _) l
theorem two_late {E W' : World} (l : Later ((E.alloc (.cells #[.nilFunc] 29)).alloc (.cells #[.nilFunc] 29)) W') : Boxed W' E.heap.size 29 .nilFunc ∧ Boxed W' (E.heap.size + 1) 29 .nilFunc :=
  ⟨boxed_later ((Boxed.new _ _ _).alloc _) l, boxed_later (boxed_new _ _ (by rw [World.size_alloc])) l⟩
theorem one_late_d {E W' : World} (l : Later (E.alloc (.cells #[.nilFunc] 29)).drew W') : Boxed W' E.heap.size 29 .nilFunc := boxed_later (W := (E.alloc (.cells #[.nilFunc] 29)).drew) (show Boxed (E.alloc (.cells #[.nilFunc] 29)).drew _ _ _ from Boxed.new E 29 .nilFunc) l
theorem two_late_d {E W' : World} (l : Later ((E.alloc (.cells #[.nilFunc] 29)).alloc (.cells #[.nilFunc] 29)).drew W') : Boxed W' E.heap.size 29 .nilFunc ∧ Boxed W' (E.heap.size + 1) 29 .nilFunc :=
  two_late (E := E) (W' := W') ⟨l.os, l.tape, l.output, l.size, l.block⟩
theorem boxed_on {E W' : World} {B : Nat} (h : Boxed E B 29 .nilFunc) (l : Later E W') : Boxed W' B 29 .nilFunc := boxed_later h l
theorem boxed_on1 {E W' : World} {B : Nat} {o : Obj} (h : Boxed E B 29 .nilFunc) (l : Later (E.alloc o) W') : Boxed W' B 29 .nilFunc := boxed_later (h.alloc o) l
theorem Boxed2.later {W W' : World} {B : Nat} {u v : Value} (h : Boxed2 W B u v) (k : Later W W') : Boxed2 W' B u v := h.kept k.grown (fun e => by cases e)
/-- what is laid down first -/
structure Base (W : World) (BX : Nat) (x : Int × Int) (k : Int) : Prop where
  x : Boxed2 W BX (.int .i64 x.1) (.int .i64 x.2)
  k : Boxed W (BX + 1) 3 (.int .i64 k)
  r : Boxed W (BX + 1 + 1) 4 (.bool false)
theorem Base.later {W W' : World} {BX : Nat} {x : Int × Int} {k : Int} (h : Base W BX x k) (l : Later W W') : Base W' BX x k := ⟨h.x.later l, boxed_later h.k l, boxed_later h.r l⟩
theorem Base.new (w : World) (x : Int × Int) (k : Int) : Base (((w.alloc (.cells #[.int .i64 x.1, .int .i64 x.2] 27)).alloc (.cells #[.int .i64 k] 3)).alloc (.cells #[.bool false] 4)) w.heap.size x k := by
  have h1 := Boxed2.new w (.int .i64 x.1) (.int .i64 x.2)
  have h2 := Boxed.new (w.alloc (.cells #[.int .i64 x.1, .int .i64 x.2] 27)) 3 (.int .i64 k)
  have h3 := Boxed.new ((w.alloc (.cells #[.int .i64 x.1, .int .i64 x.2] 27)).alloc (.cells #[.int .i64 k] 3)) 4 (.bool false)
  simp only [World.size_alloc] at h2 h3
  exact ⟨(h1.later ((Later.refl _).alloc _)).later ((Later.refl _).alloc _), boxed_later h2 ((Later.refl _).alloc _), h3⟩
theorem boxed_chg {X : Nat → Prop} {W W' : World} {B : Nat} {t : TypeId} {v : Value} (h : Boxed W B t v) (k : Chg X W W') (hx : ¬ X B) : Boxed W' B t v := (k.block B h.lt hx).trans h
theorem Base.chg {X : Nat → Prop} {W W' : World} {BX : Nat} {x : Int × Int} {k : Int} (h : Base W BX x k) (c : Chg X W W') (hx : ∀ b, X b → BX + 1 + 1 < b) : Base W' BX x k :=
  ⟨(c.block BX h.x.lt (fun e => by have := hx _ e; omega)).trans h.x, boxed_chg h.k c (fun e => by have := hx _ e; omega), boxed_chg h.r c (fun e => by have := hx _ e; omega)⟩
theorem Two.chg {W W' : World} {SB M b9 b10 bt bt' cb xb : Nat} {x : Int × Int} {T : Tr (Int × Int)} (h : Two W SB M b9 b10 bt bt' cb xb x T) (hS : SB < M) (c : Chg (only SB) W W') : Two W' SB M b9 b10 bt bt' cb xb x T := by
  have h1 := h.ge9
  have h2 := h.ge10
  have h3 := h.ges
  obtain ⟨p, k1, _⟩ := h.all.tree
  obtain ⟨q, k2, _⟩ := h.frm.tree
  have cc : Chg (upS SB M) W W' := c.mono fun b e => .inl e
  exact ⟨boxed_chg h.v9 c (fun e => by have : b9 = SB := e; omega), boxed_chg h.v10 c (fun e => by have : b10 = SB := e; omega),
    h.all.chg cc (c.block bt (cell_lt k1) (fun e => by have : bt = SB := e; omega)),
    h.frm.chg cc (c.block bt' (cell_lt k2) (fun e => by have : bt' = SB := e; omega)) (c.block cb (cell_lt h.frm.cmp) (fun e => by have : cb = SB := e; omega)) (c.block xb (cell_lt h.frm.x0) (fun e => by have : xb = SB := e; omega)), h1, h2, h3⟩
theorem SliceAt.far {w W4 W' : World} {sb : Nat} {A : Option Addr} {cap : Nat} {l : List (Int × Int)} (h : SliceAt w A cap l) (k : Later w W4) (c : Chg (only sb) W4 W') (hs : w.heap.size ≤ sb) : SliceAt W' A cap l :=
  ⟨h.1, h.2.1, fun i y hi => by
    obtain ⟨b, o, e, c0, c1⟩ := h.2.2 i y hi
    have := cell_lt c0
    have hne : ¬ only sb b := fun e => by have : b = sb := e; omega
    exact ⟨b, o, e, c.cell (k.cell c0) hne, c.cell (k.cell c1) hne⟩⟩
set_option maxRecDepth 100000 in
set_option maxHeartbeats 20000000 in
theorem walks_walk {l : List (Int × Int)} (x : Int × Int) (k : Int) {w : World} {A : Option Addr} {cap : Nat} (hl : SliceAt w A cap l) (hz : l.length ≤ 13999999999998) :
    Calls Try.prog 5 #[.slice A l.length cap, .agg #[.int .i64 x.1, .int .i64 x.2], .int .i64 k] w fun e w' => e = .returned (.bool true) ∧ Later w w' := by
  have hcap := hl.1
  refine (callsIn_wide (n := 3)).1 ?_
  refine callsIn_of_wp_marks Try.func5 rfl trivial ?_ rfl
  simp only [Try.ntmps5, List.size_toArray, List.length_cons, List.length_nil, Nat.reduceAdd, Nat.reduceSub, Array.replicate_succ, Array.replicate_zero, List.push_toArray, List.append_toArray, List.nil_append, List.cons_append]
  refine wpIn_wide.2 ?_
  obtain ⟨W0, hW0⟩ : ∃ W0, ((w.alloc (.cells #[.int .i64 x.1, .int .i64 x.2] 27)).alloc (.cells #[.int .i64 k] 3)).alloc (.cells #[.bool false] 4) = W0 := ⟨_, rfl⟩
  obtain ⟨BX, hBX⟩ : ∃ BX, w.heap.size = BX := ⟨_, rfl⟩
  have b0 : Base W0 BX x k := by rw [← hW0, ← hBX]; exact Base.new w x k
  have l0 : Later w W0 := by rw [← hW0]; exact (((Later.refl w).alloc _).alloc _).alloc _
  have hris := rising_ref (hl.later l0) (by omega)
  have hTz := madeT_size l
  have hri := madeT_rises l
  obtain ⟨T, hT⟩ : ∃ T, madeT l = T := ⟨_, rfl⟩
  rw [hT] at hris hTz hri
  go_wp2_with fail
  go_at_call 27; refine hris.mono ?_; rintro e W1 ⟨v, rfl, hrow, l1⟩
  obtain ⟨n, hn⟩ : ∃ n, T.list.length = n := ⟨_, rfl⟩
  have hnT : n = T.size := by rw [← hn]; exact Tr.size_list T
  obtain ⟨Aw, cw, rfl, hsw, hbw, hnw⟩ := row_slice3 hrow (by omega) hn
  have hncap : n ≤ cw := by rw [← hn]; exact hsw.1
  have l2 : Later W1 (W1.alloc (.cells #[.slice Aw n cw] 22)) := (Later.refl _).alloc _
  have bW := Boxed.new W1 22 (.slice Aw n cw)
  have hmade := made_any ((hl.later (l0.next l1)).later l2)
  rw [hT] at hmade
  obtain ⟨BW, hBW⟩ : ∃ BW, W1.heap.size = BW := ⟨_, rfl⟩
  obtain ⟨W2, hW2⟩ : ∃ W2, W1.alloc (.cells #[.slice Aw n cw] 22) = W2 := ⟨_, rfl⟩
  have b2 := (b0.later l1).later l2
  have s2 := hsw.later l2
  rw [hW2] at l2 bW hmade b2 s2
  rw [hBW] at bW
  have lw2 : Later w W2 := (l0.next l1).next l2
  clear hris hT hrow hsw
  replace hn := hid hn
  replace hnT := hid hnT
  go_wp2_with fail
  go_at_call 17; refine hmade.mono ?_; rintro e W3 ⟨rfl, s3, l3⟩
  clear hmade
  obtain ⟨SB, hSB⟩ : ∃ SB, W2.heap.size = SB := ⟨_, rfl⟩
  rw [hSB] at s3
  have b3 := b2.later l3
  have sw3 := s2.later l3
  have bW3 := boxed_later bW l3
  have lw3 := lw2.next l3
  obtain ⟨M, hM⟩ : ∃ M, W3.heap.size = M := ⟨_, rfl⟩
  have hSM : SB < M := by rw [← hM]; exact s3.lt
  have s3' : Shf (upS SB M) W3 SB 45 T := s3.more fun b h1 h2 => h1.elim id (fun h1 => by omega)
  have hal : ∀ W, Later W3 W → Calls Try.prog 19 #[.pointer (some ⟨SB, 0, none⟩)] W fun e w' => ∃ bt, e = .returned (allV bt) ∧ Later W w' ∧ AllAt (upS SB M) w' bt T ∧ W.heap.size ≤ bt ∧ bt < w'.heap.size ∧ M ≤ W.heap.size := fun W lw => (all_any (s3'.later lw)).mono fun e w' h => ⟨W.heap.size, h.1, h.2.1, h.2.2, Nat.le_refl _, by obtain ⟨p, h1, _⟩ := h.2.2.tree; exact cell_lt h1, by have := lw.size; omega⟩
  have hfr : ∀ W, Later W3 W → Calls Try.prog 28 #[.pointer (some ⟨SB, 0, none⟩), .agg #[.int .i64 x.1, .int .i64 x.2]] W fun e w' => ∃ bt cb xb, e = .returned (fromV bt cb xb) ∧ Later W w' ∧ FromAt (upS SB M) w' 45 bt cb xb x T ∧ W.heap.size ≤ bt ∧ W.heap.size ≤ cb ∧ W.heap.size ≤ xb ∧ bt < w'.heap.size ∧ cb < w'.heap.size ∧ xb < w'.heap.size ∧ M ≤ W.heap.size := fun W lw => (from_any x (s3'.later lw)).mono fun e w' h => by
    obtain ⟨bt, cb, xb, h1, h2, h3, h4, h5, h6⟩ := h
    have := lw.size
    obtain ⟨p, k1, _⟩ := h6.tree
    exact ⟨bt, cb, xb, h1, h5, h6, h2, h3, h4, cell_lt k1, cell_lt h6.cmp, cell_lt h6.x0, by omega⟩
  have hxc : ∀ W, Later W3 W → W.cell? ⟨BX, 0, none⟩ = some (.int .i64 x.1) ∧ W.cell? ⟨BX, 1, none⟩ = some (.int .i64 x.2) := fun W lw => ⟨lw.cell b3.x.cells.1, lw.cell b3.x.cells.2.1⟩
  go_wp2_with fail
  go_cut [9, 10] from 21 to 25 (fun v9 v10 wx => ∃ b9 b10 bt bt' cb xb, v9 = .pointer (some ⟨b9, 0, none⟩) ∧ v10 = .pointer (some ⟨b10, 0, none⟩) ∧ Two wx SB M b9 b10 bt bt' cb xb x T ∧ Later W3 wx)
  case first =>
    clear b0 b2 l0 lw2 s2 hl hri
    go_region_held3 (fun W' => Later W3 W') (first | assumption | exact Later.drew (Later.refl _) | exact Later.alloc (by assumption) _ | exact Later.next (by assumption) l8 | exact Later.next (by assumption) l9 | exact Later.far (by assumption) (by omega) (Chg.set _ _ rfl) | (repeat (first | exact Later.refl _ | exact lw9 | exact lw8 | refine Later.alloc ?_ _ | refine Later.drew ?_ | (refine Later.far ?_ (by omega) (Chg.set _ _ rfl))))) (first
      | (go_at_call 19; (with_reducible refine (hal _ (by assumption)).mono ?_); rintro e w8 ⟨bt, rfl, l8, a8, m8⟩; have lw8 : Later W3 w8 := Later.next (by assumption) l8; (try simp only [World.size_alloc, World.drew, hM] at m8); (try ((first | have q2 := two_late l8 | have q2 := two_late_d l8); (try simp only [World.size_alloc, World.drew, hM] at q2); have q2a := q2.1.cell; have q2b := q2.1.frozen; have q2c := q2.2.cell; have q2d := q2.2.frozen)); (try ((first | have q1 := one_late l8 | have q1 := one_late_d l8); (try simp only [World.size_alloc, World.drew, hM] at q1); have q1a := q1.cell; have q1b := q1.frozen)))
      | (go_at_call 28; (with_reducible refine (hfr _ (by assumption)).mono ?_); rintro e w9 ⟨bt', cb, xb, rfl, l9, f9, m9⟩; have lw9 : Later W3 w9 := Later.next (by assumption) l9; (try simp only [World.size_alloc, World.drew, hM] at m9); (try ((first | have p2 := two_late l9 | have p2 := two_late_d l9); (try simp only [World.size_alloc, World.drew, hM] at p2); have p2a := (p2.1).cell; have p2b := (p2.1).frozen; have p2ax := fun o => ((p2.1).alloc o).cell; have p2bx := fun o => ((p2.1).alloc o).frozen; have p2c := (p2.2).cell; have p2d := (p2.2).frozen; have p2cx := fun o => ((p2.2).alloc o).cell; have p2dx := fun o => ((p2.2).alloc o).frozen)); (try ((first | have p1 := one_late l9 | have p1 := one_late_d l9); (try simp only [World.size_alloc, World.drew, hM] at p1); have p1a := (p1).cell; have p1b := (p1).frozen; have p1ax := fun o => ((p1).alloc o).cell; have p1bx := fun o => ((p1).alloc o).frozen)); (try (have p3 := boxed_on q1 l9; have p3a := (p3).cell; have p3b := (p3).frozen; have p3ax := fun o => ((p3).alloc o).cell; have p3bx := fun o => ((p3).alloc o).frozen)); (try (have p4 := boxed_on q2.1 l9; have p4a := (p4).cell; have p4b := (p4).frozen; have p4ax := fun o => ((p4).alloc o).cell; have p4bx := fun o => ((p4).alloc o).frozen)); (try (have p5 := boxed_on q2.2 l9; have p5a := (p5).cell; have p5b := (p5).frozen; have p5ax := fun o => ((p5).alloc o).cell; have p5bx := fun o => ((p5).alloc o).frozen)); (try (have p6 := boxed_on1 q1 l9; have p6a := (p6).cell; have p6b := (p6).frozen; have p6ax := fun o => ((p6).alloc o).cell; have p6bx := fun o => ((p6).alloc o).frozen))))
    all_goals
      go_wp2_with fail
      go_meet
      refine ⟨_, _, bt, bt', cb, xb, rfl, rfl, ⟨?_, ?_, ?_, ?_, ?_, ?_, ?_⟩, by assumption⟩
      · repeat (first | assumption | exact boxed_new _ _ rfl | exact boxed_new _ _ (by simp) | exact q1 | exact q2.1 | exact q2.2 | exact p2.1 | exact p2.2 | exact p1 | exact p3 | exact p4 | exact p5 | exact p6 | refine Boxed.alloc ?_ _ | refine Boxed.set (v := .nilFunc) _ ?_ | refine Boxed.other ?_ (by omega) _)
      · repeat (first | assumption | exact boxed_new _ _ rfl | exact boxed_new _ _ (by simp) | exact q1 | exact q2.1 | exact q2.2 | exact p2.1 | exact p2.2 | exact p1 | exact p3 | exact p4 | exact p5 | exact p6 | refine Boxed.alloc ?_ _ | refine Boxed.set (v := .nilFunc) _ ?_ | refine Boxed.other ?_ (by omega) _)
      · repeat (first | exact a8 | refine AllAt.later ?_ ((Later.refl _).alloc _) | refine AllAt.later ?_ (Later.refl _).drew | refine AllAt.later ?_ l9 | refine allAt_set ?_ (by omega) (by omega) _)
      · repeat (first | exact f9 | refine FromAt.later ?_ ((Later.refl _).alloc _) | refine FromAt.later ?_ (Later.refl _).drew | refine fromAt_set ?_ (by omega) (by omega) (by omega) (by omega) _)
      · omega
      · omega
      · omega
  case rest =>
    obtain ⟨b9, b10, bt, bt', cb, xb, rfl, rfl, h2, l34⟩ := hcut
    obtain ⟨W4, hW4⟩ : ∃ W4, wc = W4 := ⟨_, rfl⟩
    subst hW4
    have b4 := b3.later l34
    have sw4 := sw3.later l34
    have bW4 := boxed_later bW3 l34
    have lw4 := lw3.next l34
    have s4 := s3.later l34
    have hwSB : w.heap.size ≤ SB := by rw [← hSB]; exact lw2.size
    have hBXS : BX + 1 + 1 < SB := by rw [← hSB]; exact b2.r.lt
    have hBWS : BW < SB := by rw [← hSB]; exact bW.lt
    have hAwS : ∀ b o, Aw = some ⟨b, o, none⟩ → b < SB := fun b o e => by have := (hbw b o e).2; have := l2.size; rw [← hSB]; omega
    have hwBX : w.heap.size ≤ BX := by omega
    have hAwR : ∀ b o, Aw = some ⟨b, o, none⟩ → BX + 1 + 1 < b := fun b o e => by have := (hbw b o e).1; have := b0.r.lt; omega
    clear hal hfr hxc b3 sw3 bW3 lw3 s3 s3' l34 bW s2 b2 l2 l3 b0 l0 l1 hW0 hBX hBW hW2 hSB hM hbw
    go_wp2_with fail
    go_loopw [11] (fun i wr => ∃ (k' : Nat) (F : Tr (Int × Int)), k' ≤ l.length ∧ i = .int .i64 k' ∧ F.size ≤ T.size + k' ∧ Shf (only SB) wr SB 45 F ∧ Chg (only SB) wc wr) (fun i _ => l.length - (intOf i).toNat)
    case atStart => exact ⟨0, T, Nat.zero_le _, rfl, Nat.le_refl _, s4, Chg.refl _ _⟩
    case round =>
      obtain ⟨k', F, hk, rfl, hF, hs, hc⟩ := hrel
      by_cases hlt : k' < l.length
      · obtain ⟨y, hy⟩ : ∃ y, l[k']? = some y := ⟨_, List.getElem?_eq_getElem hlt⟩
        obtain ⟨b, o, hA, c0, c1⟩ := (hl.far lw4 hc hwSB).2.2 _ _ hy
        subst hA
        have hrem := remove_any (X := only SB) compR y hs (fun b hb => by cases hb; exact hs.lt) rfl (by omega)
        have hoz := Tr.out_size cmpR y F
        obtain ⟨Q, hQ⟩ : ∃ Q, F.out cmpR y = Q := ⟨_, rfl⟩
        rw [hQ] at hrem hoz
        obtain ⟨z, hz⟩ : ∃ z, wrap64 (y.1 + 1) = z := ⟨_, rfl⟩
        have hpz := (Tr.put_size cmpR (z, -9) false Q.1).2
        have hcl : ∀ W', Chg (only SB) wc W' → W'.cell? ⟨b, o + k' * 2, none⟩ = some (.int .i64 y.1) := fun W' c' => by
          obtain ⟨b', o', e, k0, _⟩ := (hl.far lw4 c' hwSB).2.2 _ _ hy
          cases e
          exact k0
        clear hy hQ
        go_wp2_with fail
        go_at_call 24; refine hrem.mono ?_; rintro e w1 ⟨rfl, s1, g1⟩
        have hc1 := hc.trans g1
        have c0' := hcl _ hc1
        have hadd := add_any (X := only SB) compR (z, -9) s1 (fun b hb => by cases hb; exact s1.lt) rfl (by omega)
        clear c0 c1 hcl
        go_wp2_with fail
        go_at_call 22; refine hadd.mono ?_; rintro e w2 ⟨rfl, s2, g2⟩
        go_wp2_with fail
        go_roundw
        case rel => exact ⟨k' + 1, _, by omega, by go_num, by omega, s2, hc1.trans g2⟩
        case measure => simp [intOf]; omega
      · obtain rfl : k' = l.length := by omega
        have b5 := b4.chg hc (fun b e => by have : b = SB := e; omega)
        have h5 := h2.chg hSM hc
        have sw5 := sw4.chg hc (fun b o e _ h => by have := hAwS b o e; have : b = SB := h; omega)
        have bW5 := boxed_chg bW4 hc (fun e => by have : BW = SB := e; omega)
        have lw5 := lw4.far hwSB hc
        have hF9 := eqF29 57 #[.pointer (some ⟨bt, 0, none⟩)]
        have hF10 := eqF29 64 #[.pointer (some ⟨bt', 0, none⟩), .pointer (some ⟨cb, 0, none⟩), .pointer (some ⟨xb, 0, none⟩)]
        have c9 := h5.v9.cell
        have c10 := h5.v10.cell
        clear hlt hs hF hc b4 h2 sw4 bW4 lw4 s4 hk hl
        have c9' : ∀ o, (wr.alloc o).cell? ⟨b9, 0, none⟩ = some (allV bt) := fun o => (h5.v9.alloc o).cell
        have hR : Hid ((T.from_ fun y => decide (cmpR y x < 0)) = T.list.drop (rankL cmpR x T.list)) := hid (by rw [from_list ordR x T hri, from_drop ordR x hri])
        have hDk : ∀ y ∈ T.list.drop (rankL cmpR x T.list), ¬ y.1 < x.1 := fun y hy => by
          rw [← from_drop ordR x hri] at hy
          have := (List.mem_filter.1 hy).2
          simpa [cmpR_lt] using this
        obtain ⟨D, hD⟩ : ∃ D, T.list.drop (rankL cmpR x T.list) = D := ⟨_, rfl⟩
        obtain ⟨m, hm⟩ : ∃ m, D.length = m := ⟨_, rfl⟩
        have hmn : m ≤ n := by rw [← hm, ← hD, List.length_drop, hn.out]; omega
        have hfr : ∀ W, SliceAt W Aw cw T.list → _ := fun W h => from_ref2 (w := W) x hnw h
        have hfa : ∀ W, SliceAt W Aw cw T.list → _ := fun W h => from_at2 (w := W) x hnw h
        rw [hD] at hfr hfa hDk hR
        rw [hn.out, hm] at hfr
        obtain ⟨A2, hA2⟩ : ∃ A2, subA Aw cw (rankL cmpR x T.list) = A2 := ⟨_, rfl⟩
        obtain ⟨c2, hc2⟩ : ∃ c2, cw - rankL cmpR x T.list = c2 := ⟨_, rfl⟩
        rw [hA2, hc2] at hfr hfa
        clear hA2 hc2 hD
        replace hm := hid hm
        have hnz : n ≤ 13999999999998 := by have := hnT.out; omega
        have hTz2 : T.size ≤ 4611686018427387904 := by omega
        obtain ⟨pt, hpt1, hpt2⟩ := h5.all.tree
        have hseq := all_seq (X := fresh wr) hpt1 (hpt2.more fun b h1 h2 => by have : wr.heap.size ≤ b := h1; omega)
        obtain ⟨N, hN⟩ : ∃ N, wr.heap.size = N := ⟨_, rfl⟩
        have bN := Boxed.new wr 3 (.int .i64 0)
        have lN : Later wr (wr.alloc (.cells #[.int .i64 0] 3)) := (Later.refl _).alloc _
        have hNs : (wr.alloc (.cells #[.int .i64 0] 3)).heap.size = N + 1 := by rw [World.size_alloc, hN]
        rw [hN] at bN
        obtain ⟨W6, hW6⟩ : ∃ W6, wr.alloc (.cells #[.int .i64 0] 3) = W6 := ⟨_, rfl⟩
        rw [hW6] at bN lN hNs
        have hX6 : ∀ b, W6.heap.size ≤ b → fresh wr b := fun b h => by rw [hNs] at h; show wr.heap.size ≤ b; omega
        replace hW6 := hid hW6
        go_upto_block 2 with fail
        rw [hW6.out]
        refine block_range (w0 := wr) (X := fresh wr) (xs := T.list) 13 (by rfl) enters57 hseq lN hX6
          (fun pre W => (Boxed W N 3 (.int .i64 (pre.length : Nat)) ∧ Below wr.heap.size wr W) ∧ (N + 1 ≤ W.heap.size ∧ pre <+: T.list))
          (fun c pre W => (c = .ret ∧ ¬ pre <+: T.list) ∨ (c = .exit 2 ∧ (Boxed W N 3 (.int .i64 k) ∧ Below wr.heap.size wr W)))
          (OwnFrom.and (OwnFrom.and (Own.from (boxed_own _ _ _) _) (ownFrom_below (Nat.le_refl _) (by omega))) (OwnFrom.and (fun _ A B row h hg _ => Nat.le_trans h hg.size) (ownFrom_pure _ _)))
          (fun c => ownFrom_or (ownFrom_pure _ _) (OwnFrom.and (ownFrom_pure _ _) (OwnFrom.and (Own.from (boxed_own _ _ (fun _ => .int .i64 k)) _) (ownFrom_below (Nat.le_refl _) (by omega)))))
          ⟨⟨bN, lN⟩, by omega, List.nil_prefix⟩ (fun pre W h => by rw [hNs]; exact h.2.1) (fun c pre W h hp => h.elim (fun h => absurd hp h.2) (fun h => h.1)) ?assign ?body ?next
        case assign =>
          intro l' y W K hK
          simp only [inTmps, List.setIfInBounds_toArray, List.set_cons_zero, List.set_cons_succ] at hK ⊢
          gi_wp2
          exact hK
        case body =>
          rintro l' pre y Bx W ⟨⟨bN1, hL⟩, hNz, hp⟩ bY hBx hlt
          simp only [inTmps, List.setIfInBounds_toArray, List.set_cons_zero, List.set_cons_succ]
          rw [hn.out] at hlt
          have hL' : Later wr W := hL
          have cN := bN1.cell
          have cW := (boxed_later bW5 hL').cell
          have cR := (b5.later hL').r.cell
          have fR := (b5.later hL').r.frozen
          have cK := (b5.later hL').k.cell
          have fN := bN1.frozen
          obtain ⟨cY0, cY1, _, _⟩ := bY.cells
          obtain ⟨z, hz⟩ : ∃ z, T.list[pre.length]? = some z := ⟨T.list[pre.length]'(by rw [hn.out]; omega), List.getElem?_eq_getElem (by rw [hn.out]; omega)⟩
          have hgoAw : ∃ b o, Aw = some ⟨b, o, none⟩ ∧ W.cell? ⟨b, o + pre.length * 2, none⟩ = some (.int .i64 z.1) ∧ W.cell? ⟨b, o + pre.length * 2 + 1, none⟩ = some (.int .i64 z.2) := (sw5.later hL').2.2 _ _ hz
          obtain ⟨b, o, hAw, k0, k1⟩ := hgoAw
          subst hAw
          have hh1 : decide (n ≤ pre.length) = false := by simp; omega
          have hh2 : (pre.length : Int) < (n : Int) := by omega
          have hh0 : (0 : Int) ≤ (pre.length : Int) := by omega
          by_cases hyz : y = z
          · subst hyz
            have hp' := prefix_snoc hp hz
            clear hz
            gi_wp2
            refine region_round_quiet (by kernel_rfl) (by kernel_rfl) (by kernel_rfl) (by rintro ⟨_, _, h⟩; exact h) ?_
            repeat (go_big_quiet_step (fail))
            refine wpQuiet_nil ?_
            intro _ hw'
            obtain ⟨nq, hw''⟩ := hw'
            subst hw''
            clear cY0 cY1 k0 k1 cW
            have lq : Later W (W.drewN nq) := below_drewN (Later.refl W) nq
            have cN' : (W.drewN nq).cell? ⟨N, 0, none⟩ = some (.int .i64 (pre.length : Nat)) := cN
            have cK' : (W.drewN nq).cell? ⟨BX + 1, 0, none⟩ = some (.int .i64 k) := cK
            have hLq : Later wr (W.drewN nq) := hL'.next lq
            have bNq := boxed_later bN1 lq
            by_cases hk : (pre.length : Int) = k
            · have hkb : ((pre.length : Int) == k) = true := by simp [hk]
              gi_wp2
              exact ⟨kf_later lq, .inr ⟨rfl, by rw [← hk]; exact bNq, hLq⟩⟩
            · have hkb : ((pre.length : Int) == k) = false := by simp [hk]
              clear hk
              by_cases h3 : pre.length < 3
              · have h3b : decide ((pre.length : Int) < 3) = true := by simp; omega
                clear h3
                have hG0 := Later.drew (Later.refl (W.drewN nq))
                obtain ⟨Good, hGd⟩ : ∃ G : World → Prop, ∀ W', G W' ↔ Later (W.drewN nq) W' := ⟨_, fun _ => Iff.rfl⟩
                replace hG0 := (hGd _).2 hG0
                have hne : Nonempty (InG Good) := ⟨⟨_, hG0⟩⟩
                have g1 : ∀ p : InG Good, Calls Try.prog 29 #[.slice (some ⟨b, o, none⟩) n cw, .agg #[.int .i64 x.1, .int .i64 x.2]] p.W fun e w'' => e = .returned (.slice A2 m c2) ∧ ∃ p' : InG Good, w'' = p'.W := fun p => (hfr p.W (sw5.later (hLq.next ((hGd _).1 p.h)))).mono fun e w'' hh => ⟨hh.1, ⟨w'', (hGd _).2 (((hGd _).1 p.h).next hh.2)⟩, rfl⟩
                have g2 : ∀ p : InG Good, Calls Try.prog 25 #[fromV bt' cb xb, .slice A2 m c2] p.W fun e w'' => e = .returned (.bool true) ∧ ∃ p' : InG Good, w'' = p'.W := fun p => (told_from compR (h5.frm.later (hLq.next ((hGd _).1 p.h))) (hfa _ (sw5.later (hLq.next ((hGd _).1 p.h)))) hm.out hTz2 hR.out).mono fun e w'' hh => ⟨hh.1, ⟨w'', (hGd _).2 (((hGd _).1 p.h).next hh.2)⟩, rfl⟩
                have f0 : ∀ p : InG Good, p.W.cell? ⟨N, 0, none⟩ = some (.int .i64 (pre.length : Nat)) ∧ p.W.cell? ⟨b10, 0, none⟩ = some (fromV bt' cb xb) ∧ p.W.cell? ⟨BW, 0, none⟩ = some (.slice (some ⟨b, o, none⟩) n cw) ∧ p.W.cell? ⟨BX, 0, none⟩ = some (.int .i64 x.1) ∧ p.W.cell? ⟨BX, 1, none⟩ = some (.int .i64 x.2) := fun p => by
                  have lp := (hGd _).1 p.h
                  exact ⟨lp.cell cN', (boxed_later h5.v10 (hLq.next lp)).cell, (boxed_later bW5 (hLq.next lp)).cell, ((b5.later hLq).later lp).x.cells.1, ((b5.later hLq).later lp).x.cells.2.1⟩
                replace hGd := hid hGd
                gi_wp2
                refine region_round_in Good (by kernel_rfl) (by kernel_rfl) (by kernel_rfl) (by rintro ⟨_, _, h⟩; exact h) hG0 ?_
                repeat (go_big_quiet_step ((first | (go_at_call 29; exact g1 _) | (go_at_call 25; exact g2 _))))
                refine wpQuiet_nil ?_
                intro w7 hw7
                have l7 := (hGd.out _).1 hw7
                have cN7 := l7.cell cN'
                have fN7 := (boxed_later bNq l7).frozen
                clear g1 g2 f0 hGd hne hG0 hw7 cN cK cN' cK'
                gi_wp2
                have lz : Later W w7 := lq.next l7
                have hLz : Later wr w7 := hLq.next l7
                have cz : Chg (fresh wr) w7 (w7.setCell ⟨N, 0, none⟩ (.int .i64 ((pre.length : Int) + 1))) := Chg.set _ _ (show wr.heap.size ≤ N by omega)
                exact ⟨kf_later_set lz _ _, (Later.chg lz).trans cz, ⟨⟨by rw [List.length_append]; exact (boxed_later bNq l7).set _, Below.setCell (p := ⟨N, 0, none⟩) hLz (by show wr.heap.size ≤ N; omega) _⟩, by have := lz.size; have := cz.size; omega, hp'⟩⟩
              · have h3b : decide ((pre.length : Int) < 3) = false := by simp; omega
                clear h3
                gi_wp2
                refine region_round_quiet (by kernel_rfl) (by kernel_rfl) (by kernel_rfl) (by rintro ⟨_, _, h⟩; exact h) ?_
                repeat (go_big_quiet_step (fail))
                refine wpQuiet_nil ?_
                intro _ hw'
                obtain ⟨nr, hw''⟩ := hw'
                subst hw''
                have l7 : Later (W.drewN nq) ((W.drewN nq).drewN nr) := below_drewN (Later.refl (W.drewN nq)) nr
                have cN7 := l7.cell cN'
                have fN7 := (boxed_later bNq l7).frozen
                generalize (W.drewN nq).drewN nr = w7 at l7 cN7 fN7 ⊢
                gi_wp2
                have lz : Later W w7 := lq.next l7
                have hLz : Later wr w7 := hLq.next l7
                have cz : Chg (fresh wr) w7 (w7.setCell ⟨N, 0, none⟩ (.int .i64 ((pre.length : Int) + 1))) := Chg.set _ _ (show wr.heap.size ≤ N by omega)
                exact ⟨kf_later_set lz _ _, (Later.chg lz).trans cz, ⟨⟨by rw [List.length_append]; exact (boxed_later bNq l7).set _, Below.setCell (p := ⟨N, 0, none⟩) hLz (by show wr.heap.size ≤ N; omega) _⟩, by have := lz.size; have := cz.size; omega, hp'⟩⟩
          · have hnp : ¬ pre ++ [y] <+: T.list := fun h => hyz (by have := prefix_snoc_iff h; rw [hz] at this; exact (Option.some.inj this).symm)
            clear hz
            obtain ⟨z1, z2⟩ := z
            by_cases hy1 : y.1 = z1
            · subst hy1
              have hy2 : ¬ y.2 = z2 := fun h => hyz (by subst h; rfl)
              clear hyz
              gi_wp2
              refine region_round_quiet (by kernel_rfl) (by kernel_rfl) (by kernel_rfl) (by rintro ⟨_, _, h⟩; exact h) ?_
              repeat (go_big_quiet_step (fail))
              refine wpQuiet_nil ?_
              intro _ hw'
              obtain ⟨nq, hw''⟩ := hw'
              subst hw''
              gi_wp2
              exact ⟨kf_set _ _ _ _ _, .inl ⟨rfl, hnp⟩⟩
            · clear hyz
              gi_wp2
              refine region_round_quiet (by kernel_rfl) (by kernel_rfl) (by kernel_rfl) (by rintro ⟨_, _, h⟩; exact h) ?_
              repeat (go_big_quiet_step (fail))
              refine wpQuiet_nil ?_
              intro _ hw'
              obtain ⟨nq, hw''⟩ := hw'
              subst hw''
              gi_wp2
              exact ⟨kf_set _ _ _ _ _, .inl ⟨rfl, hnp⟩⟩
        case next =>
          rintro D1 W hD1 hK1 hI
          have hcom : ∃ v : Int, Boxed W N 3 (.int .i64 v) ∧ Later wr W ∧ (v = k ∨ v = (n : Int)) := by
            rcases hI with ⟨⟨a, b⟩, _⟩ | ⟨pre, hx⟩
            · exact ⟨_, a, b, .inr (by rw [hn.out])⟩
            · rcases hx with hx | hx
              · exact absurd hx.1 (by simp)
              · exact ⟨_, hx.2.1, hx.2.2, .inl rfl⟩
          obtain ⟨v, bN1, hLW, hv⟩ := hcom
          clear hI
          have cN := bN1.cell
          have cK := (b5.later hLW).k.cell
          have cW := (boxed_later bW5 hLW).cell
          have cA := (boxed_later h5.v9 hLW).cell
          go_upto_region 22 with fail
          go_cut [96] from 82 to 96 (fun t96 wx => t96 = .bool false ∧ Later W wx)
          case first =>
            have htold := told_same (h5.all.later hLW) (sw5.later hLW) hn.out hTz2 rfl
            clear cN
            rcases hv with rfl | rfl
            · have cN := bN1.cell
              go_wp2_with fail
              go_at_call 25; refine htold.mono ?_; rintro e w1 ⟨rfl, l1⟩
              go_wp2_with fail
              go_meet
              exact ⟨rfl, l1⟩
            · have cN := bN1.cell
              by_cases hk : (n : Int) = k
              · have hkb : ((n : Int) != k) = false := by simp [hk]
                clear hk
                go_wp2_with fail
                go_at_call 25; refine htold.mono ?_; rintro e w1 ⟨rfl, l1⟩
                go_wp2_with fail
                go_meet
                exact ⟨rfl, l1⟩
              · have hkb : ((n : Int) != k) = true := by simp [hk]
                clear hk
                go_wp2_with fail
                go_at_call 25; refine htold.mono ?_; rintro e w1 ⟨rfl, l1⟩
                go_wp2_with fail
                go_meet
                exact ⟨rfl, l1⟩
          case rest =>
            obtain ⟨rfl, hcut⟩ := hcut
            have hLV := hLW.next hcut
            have bNV := boxed_later bN1 hcut
            have hKV : wc.heap[D1]? = some (.deferred (some [])) := (hcut.block D1 (Array.getElem?_eq_some_iff.1 hK1).1).trans hK1
            have cNV := bNV.cell
            have fNV := bNV.frozen
            have bN7 := bNV.set (.int .i64 0)
            have hL7 : Later wr (wc.setCell ⟨N, 0, none⟩ (.int .i64 0)) := Below.setCell (p := ⟨N, 0, none⟩) hLV (by show wr.heap.size ≤ N; omega) _
            have hK7 : (wc.setCell ⟨N, 0, none⟩ (.int .i64 0)).heap[D1]? = some (.deferred (some [])) := (KeepsOthers.setCell _ _ _).same D1 _ hKV rfl
            have cT7 := (boxed_later h5.v10 hL7).cell
            obtain ⟨W7, hW7⟩ : ∃ W7, wc.setCell ⟨N, 0, none⟩ (.int .i64 0) = W7 := ⟨_, rfl⟩
            rw [hW7] at bN7 hL7 hK7 cT7
            obtain ⟨q7, hq1, hq2⟩ := (h5.frm.later hL7).tree
            have h57 := h5.frm.later hL7
            have hcb := cell_lt h5.frm.cmp
            have hxb := cell_lt h5.frm.x0
            have hseq2 := from_seq compR x (X := fresh wr) hq1 (hq2.more (Y := fresh wr) fun b h1 h2 => by have h3 : wr.heap.size ≤ b := h1; have h4 := h5.ge9; have h6 := h5.v9.lt; exact .inr (by omega)) h57.cmp h57.x0 h57.x1 (fun e => by have : wr.heap.size ≤ cb := e; omega) (fun e => by have : wr.heap.size ≤ xb := e; omega)
            rw [hR.out] at hseq2
            have hX7 : ∀ b, W7.heap.size ≤ b → fresh wr b := fun b h => Nat.le_trans hL7.size h
            have hD7 := (Array.getElem?_eq_some_iff.1 hK7).1
            have hN7 := bN7.lt
            have hND : N ≠ D1 := fun e => by
              have h1 : W7.heap[N]? = _ := bN7
              rw [e, hK7] at h1
              cases h1
            clear cN cK cW cA hLV bNV hKV hK1 hq2 bN1 hv hcut
            go_upto_block 4 with fail
            refine block_range (w0 := W7) (X := fresh wr) (xs := D) 14 (by rfl) enters64 hseq2 (Later.refl W7) hX7
              (fun pre W => (Boxed W N 3 (.int .i64 (pre.length : Nat)) ∧ Below wr.heap.size wr W) ∧ (W.heap[D1]? = some (.deferred (some [])) ∧ W7.heap.size ≤ W.heap.size))
              (fun c pre W => c = .ret ∧ ¬ pre <+: D)
              (OwnFrom.and (OwnFrom.and (Own.from (boxed_own _ _ _) _) (ownFrom_below (Nat.le_refl _) hL7.size)) (OwnFrom.and (ownFrom_at hD7) (fun _ A B row h hg _ => Nat.le_trans h hg.size)))
              (fun c => ownFrom_pure _ _)
              ⟨⟨bN7, hL7⟩, hK7, Nat.le_refl _⟩ (fun pre W h => h.2.2) (fun c pre W h hp => absurd hp h.2) ?assign ?body ?next
            case assign =>
              intro l' y W K hK
              simp only [inTmps, List.setIfInBounds_toArray, List.set_cons_zero, List.set_cons_succ] at hK ⊢
              gi_wp2
              exact hK
            case body =>
              rintro l' pre y Bx W2 ⟨⟨bN1, hL⟩, hKd, hNz⟩ bY hBx hlt
              simp only [inTmps, List.setIfInBounds_toArray, List.set_cons_zero, List.set_cons_succ]
              rw [hm.out] at hlt
              have hL' : Later wr W2 := hL
              have cN := bN1.cell
              have fN := bN1.frozen
              have cW := (boxed_later bW5 hL').cell
              have cR := (b5.later hL').r.cell
              have fR := (b5.later hL').r.frozen
              have cA := (boxed_later h5.v9 hL').cell
              obtain ⟨cX0, cX1, _, _⟩ := (b5.later hL').x.cells
              obtain ⟨cY0, cY1, _, _⟩ := bY.cells
              have htold := told_same (h5.all.later hL') (sw5.later hL') hn.out hTz2 rfl
              have hh1 : decide (n ≤ pre.length) = false := by simp; omega
              have hh2 : (pre.length : Int) < (n : Int) := by omega
              have h25 : FW.fn 25 := trivial
              have h25' : (FW.inRound l').fn 25 := trivial
              by_cases hyx : y.1 < x.1
              · have hyb : decide (y.1 < x.1) = true := by simp [hyx]
                have hnp : ¬ pre ++ [y] <+: D := fun h => by
                  have : y ∈ D := h.subset (by simp)
                  exact hDk y this hyx
                have hyd : decide (x.1 ≤ y.1) = false := by simp; omega
                clear hDk htold
                gi_wp2
                all_goals first
                  | exact ⟨kf_later_set (Later.refl _) _ _, rfl, hnp⟩
                  | (rename_i hu hb; exact absurd hu (by unfold undef; intro h; cases h))
              · have hyb : decide (y.1 < x.1) = false := by simp; omega
                clear hyx hDk
                have tail : ∀ w7, Later W2 w7 → KeepsFrom W7.heap.size W2 (w7.setCell ⟨N, 0, none⟩ (.int .i64 ((pre.length : Int) + 1))) ∧ Chg (fresh wr) W2 (w7.setCell ⟨N, 0, none⟩ (.int .i64 ((pre.length : Int) + 1))) ∧ ((Boxed (w7.setCell ⟨N, 0, none⟩ (.int .i64 ((pre.length : Int) + 1))) N 3 (.int .i64 ((pre ++ [y]).length : Nat)) ∧ Below wr.heap.size wr (w7.setCell ⟨N, 0, none⟩ (.int .i64 ((pre.length : Int) + 1)))) ∧ ((w7.setCell ⟨N, 0, none⟩ (.int .i64 ((pre.length : Int) + 1))).heap[D1]? = some (.deferred (some [])) ∧ W7.heap.size ≤ (w7.setCell ⟨N, 0, none⟩ (.int .i64 ((pre.length : Int) + 1))).heap.size)) := fun w7 l7 => by
                  have cz : Chg (fresh wr) w7 (w7.setCell ⟨N, 0, none⟩ (.int .i64 ((pre.length : Int) + 1))) := Chg.set _ _ (show wr.heap.size ≤ N by omega)
                  refine ⟨kf_later_set l7 _ _, (Later.chg l7).trans cz, ⟨by rw [List.length_append]; exact (boxed_later bN1 l7).set _, Below.setCell (p := ⟨N, 0, none⟩) (hL'.next l7) (by show wr.heap.size ≤ N; omega) _⟩, (KeepsOthers.setCell _ _ _).same D1 _ ((l7.block D1 (Array.getElem?_eq_some_iff.1 hKd).1).trans hKd) rfl, by have := l7.size; have := cz.size; omega⟩
                by_cases h2 : pre.length < 2
                · have h2b : decide ((pre.length : Int) < 2) = true := by simp; omega
                  clear h2
                  gi_wp2_with (gi_at_call 25; refine (CallsIn.inRound l' (callsIn_wide.2 htold)).mono ?_; rintro e w7 ⟨rfl, l7⟩; have cN7 := l7.cell cN; have fN7 := (boxed_later bN1 l7).frozen)
                  exact tail _ l7
                · have h2b : decide ((pre.length : Int) < 2) = false := by simp; omega
                  clear h2
                  gi_wp2
                  exact tail _ (Later.refl _)
            case next =>
              rintro D2 W2 hD2 hK2 hI
              have hI' : Boxed W2 N 3 (.int .i64 (m : Nat)) ∧ Later wr W2 ∧ W2.heap[D1]? = some (.deferred (some [])) := by
                rcases hI with ⟨⟨a, b⟩, c, _⟩ | ⟨pre, hx⟩
                · exact ⟨by rw [← hm.out]; exact a, b, c⟩
                · exact absurd hx.1 (by simp)
              obtain ⟨bN2, hL2, hKd⟩ := hI'
              clear hI
              have hBWR : BW ≠ BX + 1 + 1 := fun e => by
                have h1 : wr.heap[BW]? = _ := bW5
                rw [e, show wr.heap[BX + 1 + 1]? = _ from b5.r] at h1
                cases h1
              have hNR : BX + 1 + 1 < N := by have := b5.r.lt; omega
              have hS : ∀ W', Chg (only (BX + 1 + 1)) W2 W' → W'.cell? ⟨N, 0, none⟩ = some (.int .i64 (m : Nat)) ∧ W'.cell? ⟨BW, 0, none⟩ = some (.slice Aw n cw) ∧ W'.cell? ⟨BX, 0, none⟩ = some (.int .i64 x.1) ∧ W'.cell? ⟨BX, 1, none⟩ = some (.int .i64 x.2) := fun W' c =>
                ⟨c.cell bN2.cell (fun e => by have : N = BX + 1 + 1 := e; omega), c.cell (boxed_later bW5 hL2).cell hBWR, c.cell (b5.later hL2).x.cells.1 (fun e => by have : BX = BX + 1 + 1 := e; omega), c.cell (b5.later hL2).x.cells.2.1 (fun e => by have : BX = BX + 1 + 1 := e; omega)⟩
              have hc29 := hfr W2.drew (sw5.later (hL2.next (Later.drew (Later.refl W2))))
              have hmb : ((m : Int) == (m : Int)) = true := by simp
              go_wp2_with fail
              go_region_held3 (fun W' => Chg (only (BX + 1 + 1)) W2 W') (first | assumption | exact Later.chg (Later.drew (Later.refl _)) | exact Later.chg lz4 | exact Later.chg lz5 | exact (Later.chg lz5).trans (Chg.set _ _ rfl)) (first
                | (go_at_call 29; (with_reducible refine hc29.mono ?_); rintro e w4 ⟨rfl, l4⟩; have lz4 : Later W2 w4 := (Later.drew (Later.refl W2)).next l4)
                | (go_at_call 16; (with_reducible refine (awake_any _).mono ?_); rintro e w5 ⟨rfl, l5⟩; have lz5 : Later W2 w5 := lz4.next l5; have cR5 := ((b5.later hL2).later lz5).r.cell; have fR5 := ((b5.later hL2).later lz5).r.frozen))
              go_wp2_with fail
              have hF2 : (w5.setCell ⟨BX + 1 + 1, 0, none⟩ (.bool true)).heap[D2]? = some (.deferred (some [])) := (KeepsOthers.setCell _ _ _).same D2 _ ((lz5.block D2 (Array.getElem?_eq_some_iff.1 hK2).1).trans hK2) rfl
              have hF1 : (w5.setCell ⟨BX + 1 + 1, 0, none⟩ (.bool true)).heap[D1]? = some (.deferred (some [])) := (KeepsOthers.setCell _ _ _).same D1 _ ((lz5.block D1 (Array.getElem?_eq_some_iff.1 hKd).1).trans hKd) rfl
              have bF := ((b5.later hL2).later lz5).r.set (.bool true)
              have lF : Later w (w5.setCell ⟨BX + 1 + 1, 0, none⟩ (.bool true)) := Below.setCell (p := ⟨BX + 1 + 1, 0, none⟩) ((lw5.next hL2).next lz5) (by show w.heap.size ≤ BX + 1 + 1; omega) _
              generalize w5.setCell ⟨BX + 1 + 1, 0, none⟩ (.bool true) = Wf at hF2 hF1 bF lF ⊢
              have hlt1 := (Array.getElem?_eq_some_iff.1 hF1).1
              have hG1 : (Wf.putObj D2 (.deferred none)).heap[D1]? = some (.deferred (some [])) := ((grownBy_putObj' Wf D2 (.deferred none)).block D1 hlt1 (fun e => by injection e with e; omega)).trans hF1
              refine ⟨by simp, .inl ⟨_, _, rfl, run_takeDeferred hF2, by simp, .inl ⟨_, _, rfl, run_takeDeferred hG1, ?_⟩⟩⟩
              have l1 := lF.trans (belowK_b (w := w) (Nat.le_refl _) _ D2 _ (.deferred none) (by omega) hF2 rfl rfl)
              have b1 := bF.kept (grownBy_putObj' _ D2 (.deferred none)) (fun e => by cases e; rw [show _ = _ from bF] at hF2; cases hF2)
              have l2 := l1.trans (belowK_b (w := w) (Nat.le_refl _) _ D1 _ (.deferred none) (by omega) hG1 rfl rfl)
              have b2 := (b1.kept (grownBy_putObj' _ D1 (.deferred none)) (fun e => by cases e; rw [show _ = _ from b1] at hG1; cases hG1)).cell
              generalize (Wf.putObj D2 (.deferred none)).putObj D1 (.deferred none) = Wg at b2 l2 ⊢
              exact ⟨_, by simp [results, Try.results5, go_sem, b2], rfl, l2⟩
end Go.Proofs.Yteledidnhjioaaa.Sh
