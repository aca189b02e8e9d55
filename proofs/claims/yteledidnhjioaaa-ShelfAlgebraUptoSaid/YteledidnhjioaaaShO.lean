import Derived.Test.YteledidnhjioaaaShR
import Derived.Deep.DeepAppendWide
import Derived.Maps.AppendAt
namespace Go.Proofs.Yteledidnhjioaaa.Sh
open Go.RowKit Go.Lib Go.Proofs Go.Shelf
set_option linter.unusedVariables false
set_option linter.unusedSimpArgs false
attribute [local go_sem] Oper.semAt_some
theorem info27 : (Try.prog.info? 27).map (fun i => (i.zero, i.size, i.bytes)) = some (some (.agg #[.int .i64 0, .int .i64 0]), 2, 16) := by kernel_rfl
/-- the cells of some Pairs -/
def flat (l : List (Int × Int)) : List Value := l.flatMap fun x => [.int .i64 x.1, .int .i64 x.2]
theorem flat_snoc (l : List (Int × Int)) (x : Int × Int) : flat (l ++ [x]) = flat l ++ [.int .i64 x.1, .int .i64 x.2] := by simp [flat]
theorem flat_length (l : List (Int × Int)) : (flat l).length = l.length * 2 := by
  induction l with
  | nil => rfl
  | cons x l ih => simp only [flat, List.flatMap_cons, List.length_append, List.length_cons, List.length_nil] at *; omega
theorem flat_at : ∀ (l : List (Int × Int)) (i : Nat) (x : Int × Int), l[i]? = some x → (flat l)[i * 2]? = some (.int .i64 x.1) ∧ (flat l)[i * 2 + 1]? = some (.int .i64 x.2)
  | y :: l, 0, x, h => by simp at h; subst h; exact ⟨rfl, rfl⟩
  | y :: l, i + 1, x, h => by
    have := flat_at l i x (by simpa using h)
    have e : flat (y :: l) = .int .i64 y.1 :: .int .i64 y.2 :: flat l := rfl
    rw [e, show (i + 1) * 2 = i * 2 + 1 + 1 by omega, show i * 2 + 1 + 1 + 1 = (i * 2 + 1) + 1 + 1 by omega]
    simpa using this
/-- a slice of the call's own, as it is read -/
theorem row_slice {W : World} {base : Nat} {v : Value} {l : List (Int × Int)} (h : W.ownsRow base 27 2 v l.length (flat l)) (hl : l.length ≤ 4611686018427387904) : ∃ A cap, v = .slice A l.length cap ∧ SliceAt W A cap l := by
  rcases h.2 with ⟨rfl, h0⟩ | ⟨g, cap, cur, rfl, hb, hg, hc, _⟩
  · rw [h0]
    refine ⟨none, 0, rfl, by omega, hl, fun i x hi => ?_⟩
    have := (List.getElem?_eq_some_iff.1 hi).1
    omega
  · refine ⟨some ⟨g, 0, none⟩, cap, rfl, hc, hl, fun i x hi => ⟨g, 0, rfl, ?_, ?_⟩⟩
    · have hlt := (List.getElem?_eq_some_iff.1 hi).1
      rw [Nat.zero_add, h.cellAt (i * 2) (by omega)]; exact (flat_at l i x hi).1
    · have hlt := (List.getElem?_eq_some_iff.1 hi).1
      rw [Nat.zero_add, h.cellAt (i * 2 + 1) (by omega)]; exact (flat_at l i x hi).2
theorem two_cells (W : World) (u v : Value) (t : TypeId) : ∀ j x, [u, v][j]? = some x → (W.alloc (.cells #[u, v] t)).cell? ((⟨W.heap.size, 0, none⟩ : Addr).add j) = some x := cell_two_new W u v t
abbrev gathI (w : World) (m : Int) (pre : List (Int × Int)) (W : World) : Prop :=
  ((∃ v, Boxed W (w.heap.size + 1) 22 v ∧ W.ownsRow w.heap.size 27 2 v pre.length (flat pre) ∧ True) ∧ Boxed W w.heap.size 3 (.int .i64 m)) ∧ Below w.heap.size w W
theorem gathI_own (w : World) (m : Int) {B : Nat} (hB : w.heap.size ≤ B) : OwnFrom B (gathI w m) :=
  OwnFrom.and (OwnFrom.and (Own.from (holdsRow_own w.heap.size (w.heap.size + 1) 22 27 2 (fun pre : List (Int × Int) => pre.length) flat (fun _ _ => True)) _) (Own.from (boxed_own _ _ _) _)) (ownFrom_below (Nat.le_refl _) hB)
/-- left at the break: one round too many was begun -/
abbrev gathX (w : World) (m : Nat) (c : Code) (pre : List (Int × Int)) (W : World) : Prop :=
  ((∃ v, Boxed W (w.heap.size + 1) 22 v ∧ W.ownsRow w.heap.size 27 2 v (pre.take m).length (flat (pre.take m)) ∧ (c = .exit 0 ∧ m + 1 = pre.length)) ∧ Below w.heap.size w W)
theorem gathX_own (w : World) (m : Nat) (c : Code) {B : Nat} (hB : w.heap.size ≤ B) : OwnFrom B (gathX w m c) :=
  OwnFrom.and (Own.from (holdsRow_own w.heap.size (w.heap.size + 1) 22 27 2 (fun pre : List (Int × Int) => (pre.take m).length) (fun pre => flat (pre.take m)) (fun pre _ => c = .exit 0 ∧ m + 1 = pre.length)) _) (ownFrom_below (Nat.le_refl _) hB)
theorem eqF29 (g : Nat) (lb : Array Value) (w : World) : (binOp .eql 29 (.func (.func g) #[] lb) .nilFunc).run Try.prog w = .ok (.bool false) w := by kernel_rfl
/-- append inside a fence, up to the model's own bound on the room -/
theorem append_far {F : Fence} {n : Nat} {P : Program} (w : World) {ops : Array Oper} {rest : List Oper} {o : Oper} {a : Act} {Q : Exit → Act → World → Prop} (hg : o.guard = none) {s x : Operand} {t : TypeId}
    (hop : o.op = Op.call { callee := Callee.builtin Builtin.append, args := #[s, x], argTypes := #[t, t] }) (base : Nat) {e : TypeId} {i : TypeInfo} {z : Value} {size bytes : Nat} (h1 : P.underlying t = some (.slice e)) (h2 : P.info? e = some i) (h3 : i.zero = some z) (h4 : i.size = size) (h5 : i.bytes = bytes) (h6 : z.cells.size = size) (h7 : 0 < size)
    {v : Value} {k : Nat} {xs : List Value} (hs : a.eval s = v) (hown : w.ownsRow base e size v k xs) {ad : Addr} {m c : Nat} {news : List Value} (hx : a.eval x = .slice (some ad) m c) (hn : news.length = m * size)
    (hc : ∀ j u, news[j]? = some u → w.cell? (ad.add j) = some u) (h1c : ∀ u ∈ news, u.oneCell' = true) (b1 : k + m ≤ maxLen) (b2 : ((k + m) + (k + m) / 4 + 192) * bytes ≤ 281474976710656) (b3 : base ≤ w.heap.size)
    (hK : ∀ v' w', w'.ownsRow base e size v' (k + m) (xs ++ news) → w.grownBy w' v.ownBlock → wpListIn F n P ops Q rest (a.put o.dst v') w') : wpListIn F n P ops Q (o :: rest) a w := by
  obtain ⟨v', w', hr, r1, r2, _⟩ := run_append_own_wide (P := P) w base t o.type e i z size bytes h1 h2 h3 h4 h5 h6 h7 v k xs hown ad m c news hn hc h1c b1 b2 b3
  have hd : ∀ c, o.op ≠ .defer c := fun c hc => by rw [hop] at hc; cases hc
  have hrun : (execOp a.eval o).run P w = .ok (.value v') w' := by
    simp only [execOp, hop, resolve, invoke, builtin, Sem.run_bind, Sem.run_pure, Result.andThen_ok, List.map_toArray, List.map_cons, List.map_nil, hs, hx, hr]
  refine wpListIn_plain hg fun K hK' => ?_
  unfold Oper.wpIn
  rw [Oper.semAt_plain F _ _ hd, hrun]
  exact ⟨by simp [Oper.about, hop, resolve, Target.leads, Sem.run_pure], hK' _ _ (hK v' w' r1 r2)⟩
theorem kf_row {B : Nat} {W W' : World} (h : KeepsOthers W W') : KeepsFrom B W W' := h.from B
set_option maxRecDepth 100000 in
set_option maxHeartbeats 8000000 in
theorem gathered_any {g : Nat} {lb : Array Value} {xs : List (Int × Int)} {w : World} (m : Nat) (hseq : SeqT (fresh w) g lb xs w) (hg : ∀ args w, (callFunc g args).run Try.prog w = .ok (.enter g args) w) (hx : xs.length ≤ 14000000000000) :
    Calls Try.prog 18 #[.func (.func g) #[] lb, .int .i64 m] w fun e w' => ∃ v, e = .returned v ∧ w'.ownsRow w.heap.size 27 2 v (xs.take m).length (flat (xs.take m)) ∧ Later w w' := by
  obtain ⟨i0, hi, hz0, hz1, hz2⟩ := info_parts info27
  have hF := eqF29 g lb
  refine (callsIn_wide (n := 3)).1 ?_
  refine callsIn_of_wp_marks Try.func18 rfl trivial ?_ rfl
  simp only [Try.ntmps18, List.size_toArray, List.length_cons, List.length_nil, Nat.reduceAdd, Nat.reduceSub, Array.replicate_succ, Array.replicate_zero, List.push_toArray, List.append_toArray, List.nil_append, List.cons_append]
  gi_wp2
  have hB0 : Below w.heap.size w ((w.alloc (.cells #[.int .i64 m] 3)).alloc (.cells #[.slice none 0 0] 22)) := ((Later.refl w).alloc _).alloc _
  have bM := (Boxed.new w 3 (.int .i64 m)).alloc (.cells #[.slice none 0 0] 22)
  have bO := Boxed.new (w.alloc (.cells #[.int .i64 m] 3)) 22 (.slice none 0 0)
  rw [World.size_alloc] at bO
  have hsz : ((w.alloc (.cells #[.int .i64 m] 3)).alloc (.cells #[.slice none 0 0] 22)).heap.size = w.heap.size + 2 := by simp
  generalize (w.alloc (.cells #[.int .i64 m] 3)).alloc (.cells #[.slice none 0 0] 22) = W0 at *
  refine wpIn_rangeFunc_ownH rfl (by omega) (gf := g) (lb := lb) rfl trivial hg
    (hseq 2) fresh_t (fresh_b (by omega)) hB0 (fun _ => rfl)
    (fun pre W => gathI w m pre W ∧ pre.length ≤ m) (gathX w m) (OwnFrom.and (gathI_own w m (by omega)) (ownFrom_pure _ _)) (fun c => gathX_own w m c (by omega))
    ⟨⟨⟨⟨_, bO, World.ownsRow_nil .., trivial⟩, bM⟩, hB0⟩, Nat.zero_le _⟩
    (fun x a' W => ∃ Bx, w.heap.size + 1 < Bx ∧ Boxed2 W Bx (.int .i64 x.1) (.int .i64 x.2) ∧ a' = { tmps := #[.func (.func g) #[] lb, .int .i64 m, undef, .pointer (some ⟨w.heap.size, 0, none⟩), .slice none 0 0, .pointer (some ⟨w.heap.size + 1, 0, none⟩), .pointer (some ⟨Bx, 0, none⟩), .func (.func g) #[] lb, .bool false, undef, undef, undef, .func (.func g) #[] lb, .agg #[.int .i64 x.1, .int .i64 x.2], undef, undef, undef, undef, undef, undef, undef, undef, undef], defers := [] })
    (fun x a' _ X Y row hs hg hr => by obtain ⟨Bx, h1, h2, h3⟩ := hs; exact ⟨Bx, h1, boxed2_own Bx (fun (_ : Unit) => Value.int .i64 x.1) (fun (_ : Unit) => Value.int .i64 x.2) () X Y row h2 hg (fun r e => (hr r e).2), h3⟩)
    ?assign ?body ?done ?stop
  case assign =>
    rintro l pre x W K ⟨⟨⟨⟨v, bO1, hr1, _⟩, bM1⟩, hB1⟩, hp⟩ hK
    gi_wp2
    exact hK _ _ ((KeepsOthers.alloc _ _).from _) (below_chg ((Below.refl _ W).alloc hB1.size _)) ⟨⟨⟨⟨v, bO1.alloc _, hr1.alloc _, trivial⟩, bM1.alloc _⟩, hB1.alloc hB1.size _⟩, hp⟩ ⟨W.heap.size, bO1.lt, Boxed2.new W _ _, rfl⟩
  case body =>
    rintro l pre x a' W hl hr ⟨⟨⟨⟨v, bO1, hr1, _⟩, bM1⟩, hB1⟩, hp⟩ ⟨Bx, hBx, bX, rfl⟩ hlt
    have cO := bO1.cell
    have fO := bO1.frozen
    have cM := bM1.cell
    obtain ⟨cX0, cX1, _, _⟩ := bX.cells
    obtain ⟨A, cap, rfl, hsl⟩ : ∃ A cap, v = .slice A pre.length cap ∧ True := by
      rcases hr1.2 with ⟨rfl, h0⟩ | ⟨g', cap', cur, rfl, _⟩
      · exact ⟨none, 0, by rw [h0], trivial⟩
      · exact ⟨_, _, rfl, trivial⟩
    by_cases h1 : pre.length = m
    · have hm : decide ((pre.length : Int) = (m : Int)) = true := by simp [h1]
      have hm2 : ((pre.length : Int) == (m : Int)) = true := by simp [h1]
      have HM := hid h1
      clear h1
      gi_wp2
      have ht : (pre ++ [x]).take m = pre := by rw [← HM.out, List.take_left' rfl]
      refine ⟨KeepsFrom.refl _ _, ⟨⟨_, bO1, ?_, rfl, by rw [List.length_append, List.length_singleton, HM.out]⟩, hB1⟩⟩
      rw [ht]
      exact hr1
    · have hm2 : ((pre.length : Int) == (m : Int)) = false := by simp; omega
      have hlm : pre.length < m := by omega
      clear h1
      gi_wp2_with (gi_at_builtin; refine append_far _ rfl rfl w.heap.size (z := .agg #[.int .i64 0, .int .i64 0]) (size := 2) (bytes := 16) Try.underlying22 hi hz0 hz1 hz2 rfl (by decide) rfl (hr1.alloc _) (ad := ⟨W.heap.size, 0, none⟩) (m := 1) (c := 1) (news := [.int .i64 x.1, .int .i64 x.2]) rfl rfl (two_cells _ _ _ _) (by simp [Value.oneCell']) (by unfold maxLen; omega) (by omega) (by have := hB1.size; simp; omega) ?_; intro v' w1 hown' hgrow; obtain ⟨g', cap', rfl⟩ := ownsRow_succ hown'; obtain ⟨hv1, hv2, hr2, hk2, hb2⟩ := bO1.appended (by decide) hr1 hB1.size (by omega) hown' hgrow; have hc1 := hv1.cell; have hf1 := hv1.frozen)
      have bM2 := ((bM1.alloc (.cells #[.int .i64 x.1, .int .i64 x.2] 27)).kept hgrow (bM1.not_row (by decide) hr1)).other (B' := w.heap.size + 1) (by omega) (.slice (some ⟨g', 0, none⟩) (pre.length + 1) cap')
      refine ⟨hk2.from _, below_chg hb2, ⟨⟨⟨⟨_, hv2, ?_, trivial⟩, bM2⟩, hB1.trans hb2⟩, by rw [List.length_append, List.length_singleton]; omega⟩⟩
      rw [flat_snoc, List.length_append, List.length_singleton]
      exact hr2
  case done =>
    rintro D ys W hD rfl ⟨⟨⟨⟨v, bO1, hr1, _⟩, bM1⟩, hB1⟩, hp⟩ hK
    have cO := bO1.cell
    gi_wp2
    refine ⟨by simp, .inl ⟨_, _, rfl, run_takeDeferred hK, ?_⟩⟩
    have hB3 := hB1.trans (belowK_b (w := w) (Nat.le_refl _) _ D _ (.deferred none) (by omega) hK rfl rfl)
    refine ⟨_, results_tmp rfl _ _ _, v, rfl, ?_, hB3⟩
    rw [List.take_of_length_le hp]
    exact ownsRow_putObj hr1 _ hK rfl
  case stop =>
    rintro D c pre W hD hpre ⟨⟨v, bO1, hr1, rfl, hm⟩, hB1⟩ hK
    have cO := bO1.cell
    gi_wp2
    refine ⟨by simp, .inl ⟨_, _, rfl, run_takeDeferred hK, ?_⟩⟩
    have hB3 := hB1.trans (belowK_b (w := w) (Nat.le_refl _) _ D _ (.deferred none) (by omega) hK rfl rfl)
    refine ⟨_, results_tmp rfl _ _ _, v, rfl, ?_, hB3⟩
    obtain ⟨r, rfl⟩ := hpre
    rw [List.take_append_of_le_length (by omega)]
    exact ownsRow_putObj hr1 _ hK rfl
end Go.Proofs.Yteledidnhjioaaa.Sh
namespace Go.Proofs.Yteledidnhjioaaa.Sh
open Go.RowKit Go.Lib Go.Proofs Go.Shelf
set_option linter.unusedVariables false
set_option linter.unusedSimpArgs false
theorem shf_new {W : World} {sb c : Nat} (h : IsS W sb c none) (X : Nat → Prop) : Shf X W sb c .leaf := ⟨none, h, fun _ => False, rfl, fun _ _ h => h⟩
/-- one call on a Shelf of its own block, said by what it makes of the tree -/
theorem add_to {c : Nat} {f : (Int × Int) → (Int × Int) → Int} (hc : Comp c f) (x : Int × Int) {w : World} {sb : Nat} {T T' : Tr (Int × Int)} {b : Bool} (h : Shf (only sb) w sb c T) (hz : T.size + 1 ≤ 4611686018427387904) (e : T.put f x false = (T', !b)) :
    Calls Try.prog 22 #[.pointer (some ⟨sb, 0, none⟩), .agg #[.int .i64 x.1, .int .i64 x.2]] w fun e w' => e = .returned (.bool b) ∧ Shf (only sb) w' sb c T' ∧ Chg (only sb) w w' := by
  have k := add_any hc x h (fun b hb => by cases hb; exact h.lt) rfl hz
  rw [e] at k
  simpa using k
theorem lay_to {c : Nat} {f : (Int × Int) → (Int × Int) → Int} (hc : Comp c f) (x : Int × Int) {w : World} {sb : Nat} {T T' : Tr (Int × Int)} {b : Bool} (h : Shf (only sb) w sb c T) (hz : T.size + 1 ≤ 4611686018427387904) (e : T.put f x true = (T', b)) :
    Calls Try.prog 23 #[.pointer (some ⟨sb, 0, none⟩), .agg #[.int .i64 x.1, .int .i64 x.2]] w fun e w' => e = .returned (.bool b) ∧ Shf (only sb) w' sb c T' ∧ Chg (only sb) w w' := by
  have k := lay_any hc x h (fun b hb => by cases hb; exact h.lt) rfl hz
  rw [e] at k
  exact k
theorem remove_to {c : Nat} {f : (Int × Int) → (Int × Int) → Int} (hc : Comp c f) (x : Int × Int) {w : World} {sb : Nat} {T T' : Tr (Int × Int)} {b : Bool} (h : Shf (only sb) w sb c T) (hz : T.size + 1 ≤ 4611686018427387904) (e : T.out f x = (T', b)) :
    Calls Try.prog 24 #[.pointer (some ⟨sb, 0, none⟩), .agg #[.int .i64 x.1, .int .i64 x.2]] w fun e w' => e = .returned (.bool b) ∧ Shf (only sb) w' sb c T' ∧ Chg (only sb) w w' := by
  have k := remove_any hc x h (fun b hb => by cases hb; exact h.lt) rfl hz
  rw [e] at k
  exact k
abbrev T1 : Tr (Int × Int) := .node .leaf (5, 1) .leaf
abbrev T2 : Tr (Int × Int) := .node (.node .leaf (2, 3) .leaf) (5, 1) .leaf
abbrev T3 : Tr (Int × Int) := .node (.node .leaf (2, 3) .leaf) (5, 4) .leaf
abbrev T4 : Tr (Int × Int) := .node .leaf (5, 4) .leaf
set_option maxRecDepth 100000 in
set_option maxHeartbeats 8000000 in
theorem awake_any (w : World) : Calls Try.prog 16 #[] w fun e w' => e = .returned (.bool true) ∧ Later w w' := by
  obtain ⟨N, hN⟩ : ∃ N, w.heap.size = N := ⟨_, rfl⟩
  have hnew := new_any 31 w
  unfold newPost at hnew
  rw [hN] at hnew
  go_enter Try.func16, Try.ntmps16
  go_wp2_with fail
  go_at_call 30; refine hnew.mono ?_; rintro e w0 ⟨rfl, h0, hl0⟩
  have s0 := shf_new h0 (only N)
  go_wp2_with fail
  go_at_call 22; refine (add_to compK (5, 1) (T' := T1) (b := true) s0 (by simp [Tr.size]) (by rfl)).mono ?_; rintro e w1 ⟨rfl, s1, g1⟩
  go_wp2_with fail
  go_at_call 22; refine (add_to compK (5, 2) (T' := T1) (b := false) s1 (by simp [Tr.size]) (by rfl)).mono ?_; rintro e w2 ⟨rfl, s2, g2⟩
  go_wp2_with fail
  go_at_call 23; refine (lay_to compK (2, 3) (T' := T2) (b := false) s2 (by simp [Tr.size]) (by rfl)).mono ?_; rintro e w3 ⟨rfl, s3, g3⟩
  go_wp2_with fail
  go_at_call 23; refine (lay_to compK (5, 4) (T' := T3) (b := true) s3 (by simp [Tr.size]) (by rfl)).mono ?_; rintro e w4 ⟨rfl, s4, g4⟩
  go_wp2_with fail
  go_at_call 26; refine (len_any s4).mono ?_; rintro e w4' ⟨rfl, rfl⟩
  go_wp2_with fail
  go_at_call 33; refine (nth_any (T := T3) 1 s4 (by simp [Tr.size])).mono ?_; rintro e w5 ⟨he5, l5⟩
  have he5' : e = .returned (.tuple #[.agg #[.int .i64 5, .int .i64 4], .bool true]) := he5
  subst he5'
  have s5 := s4.later l5
  have s5' : Shf (only N) (w5.alloc (.cells #[.int .i64 5, .int .i64 4] 27)) N 31 T3 := s5.later Later.two
  go_wp2_with fail
  go_at_call 34; refine (rank_any compK (3, 0) s5' (by simp [Tr.size])).mono ?_; rintro e w6 ⟨he6, l6⟩
  have he6' : e = .returned (.int .i64 1) := he6
  subst he6'
  have s6 := s5'.later l6
  go_wp2_with fail
  go_at_call 24; refine (remove_to compK (2, 0) (T' := T4) (b := true) s6 (by simp [Tr.size]) (by rfl)).mono ?_; rintro e w7 ⟨rfl, s7, g7⟩
  go_wp2_with fail
  go_at_call 24; refine (remove_to compK (2, 0) (T' := T4) (b := false) s7 (by simp [Tr.size]) (by rfl)).mono ?_; rintro e w8 ⟨rfl, s8, g8⟩
  go_wp2_with fail
  go_ret
  have l5' : Later w4 w6 := (l5.next Later.two).next l6
  have g : Chg (only N) w w8 := hl0.chg.trans (g1.trans (g2.trans (g3.trans (g4.trans (l5'.chg.trans (g7.trans g8))))))
  exact ⟨rfl, g.below (Nat.le_refl _) (fun b hb => by cases hb; omega)⟩
end Go.Proofs.Yteledidnhjioaaa.Sh
namespace Go.Proofs.Yteledidnhjioaaa.Sh
open Go.RowKit Go.Lib Go.Proofs Go.Shelf
set_option linter.unusedVariables false
set_option linter.unusedSimpArgs false
theorem pick_any (x n : Int) (w : World) (h1 : 1 ≤ n) (h2 : n ≤ 4611686018427387904) : Calls Try.prog 21 #[.int .i64 x, .int .i64 n] w fun e w' => e = .returned (.int .i64 (x % n)) ∧ w = w' := by
  have hb := Int.tmod_lt_of_pos x (show 0 < n by omega)
  have hb2 : -n < x.tmod n := by
    have := Int.lt_tmod_of_pos x (show 0 < n by omega)
    omega
  have he : x % n = if x.tmod n < 0 then x.tmod n + n else x.tmod n := by
    have hr : x % n = (x.tmod n) % n := by
      have hh := Int.tmod_add_mul_tdiv x n
      conv => lhs; rw [← hh]
      rw [Int.add_mul_emod_self_left]
    rw [hr]
    split
    · rename_i h
      rw [← Int.add_emod_right, Int.emod_eq_of_lt (by omega) (by omega)]
    · rename_i h
      rw [Int.emod_eq_of_lt (by omega) (by omega)]
  rw [he]
  have hn0 : ¬ n < 1 := by omega
  have hnz : (n == 0) = false := by simp; omega
  by_cases hs : x.tmod n < 0
  · rw [if_pos hs]
    go_enter Try.func21, Try.ntmps21
    go_wp2
    go_ret
    exact ⟨rfl, rfl⟩
  · rw [if_neg hs]
    go_enter Try.func21, Try.ntmps21
    go_wp2
    go_ret
    exact ⟨rfl, rfl⟩
/-- the tree of what was added, one behind the other -/
def madeT (l : List (Int × Int)) : Tr (Int × Int) := l.foldl (fun T x => (T.put cmpR x false).1) .leaf
theorem madeT_snoc (l : List (Int × Int)) (x : Int × Int) : madeT (l ++ [x]) = ((madeT l).put cmpR x false).1 := by simp [madeT]
theorem madeT_size (l : List (Int × Int)) : (madeT l).size ≤ l.length := by
  suffices ∀ (l : List (Int × Int)) (T : Tr (Int × Int)), (l.foldl (fun T x => (T.put cmpR x false).1) T).size ≤ T.size + l.length by simpa [Tr.size, madeT] using this l .leaf
  intro l
  induction l with
  | nil => intro T; simp
  | cons x l ih =>
    intro T
    have h1 := ih (T.put cmpR x false).1
    have h2 := (Tr.put_size cmpR x false T).2
    simp only [List.foldl_cons, List.length_cons]
    omega
theorem take_snoc {α : Type} {l : List α} {k : Nat} {x : α} (h : l[k]? = some x) : l.take (k + 1) = l.take k ++ [x] := by
  rw [List.take_add_one, h]; rfl
set_option maxRecDepth 100000 in
set_option maxHeartbeats 8000000 in
theorem made_any {l : List (Int × Int)} {w : World} {A : Option Addr} {cap : Nat} (hl : SliceAt w A cap l) :
    Calls Try.prog 17 #[.slice A l.length cap] w fun e w' => e = .returned (.pointer (some ⟨w.heap.size, 0, none⟩)) ∧ Shf (only w.heap.size) w' w.heap.size 45 (madeT l) ∧ Later w w' := by
  obtain ⟨N, hN⟩ : ∃ N, w.heap.size = N := ⟨_, rfl⟩
  have hnew := new_any 45 w
  unfold newPost at hnew
  rw [hN] at hnew ⊢
  have hlm := hl.2.1
  go_enter Try.func17, Try.ntmps17
  go_wp2_with fail
  go_at_call 30; refine hnew.mono ?_; rintro e w0 ⟨rfl, h0, hl0⟩
  have s0 := shf_new h0 (only N)
  go_wp2_with fail
  go_loopw [4] (fun i wr => ∃ k : Nat, k ≤ l.length ∧ i = .int .i64 k ∧ Shf (only N) wr N 45 (madeT (l.take k)) ∧ Below N w wr) (fun i _ => l.length - (intOf i).toNat)
  case atStart => exact ⟨0, Nat.zero_le _, rfl, s0, by rw [← hN]; exact hl0⟩
  case round =>
    obtain ⟨k, hk, rfl, hs, hb⟩ := hrel
    have hbl : Later w wr := by rw [← hN] at hb; exact hb
    by_cases hlt : k < l.length
    · obtain ⟨x, hx⟩ : ∃ x, l[k]? = some x := ⟨_, List.getElem?_eq_getElem hlt⟩
      obtain ⟨b, o, rfl, c0, c1⟩ := hl.2.2 _ _ hx
      replace c0 := hbl.cell c0
      replace c1 := hbl.cell c1
      have hsz := madeT_size (l.take k)
      rw [List.length_take_of_le hk] at hsz
      have hadd := add_any (X := only N) compR x hs (fun b hb => by cases hb; exact hs.lt) rfl (by omega)
      have hts := hid (take_snoc hx)
      clear hx
      go_wp2_with (go_at_call 22; refine hadd.mono ?_; rintro e w1 ⟨rfl, s1, g1⟩)
      go_roundw
      case rel => exact ⟨k + 1, by omega, by go_num, by rw [hts.out, madeT_snoc]; exact s1, hb.trans (g1.below (by have := hb.size; omega) (fun b hb => by cases hb; omega))⟩
      case measure => simp [intOf]; omega
    · obtain rfl : k = l.length := by omega
      go_wp2
      go_ret
      rw [List.take_length] at hs
      exact ⟨rfl, hs, hbl⟩
end Go.Proofs.Yteledidnhjioaaa.Sh
