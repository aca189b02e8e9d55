import Derived.Test.YteledidnhjioaaaSiT
namespace Go.Proofs.Yteledidnhjioaaa.Sh
open Go.RowKit Go.Lib Go.Proofs Go.Shelf
set_option linter.unusedVariables false
set_option linter.unusedSimpArgs false
attribute [local go_sem] Oper.semAt_some
theorem append_pair_in {F : Fence} {n : Nat} {ops : Array Oper} {rest : List Oper} {o : Oper} {a : Act} {Q : Exit → Act → World → Prop} {W : World} {s t : Operand} {base g0 : Nat} {v : Value} {l : List (Int × Int)} {x : Int × Int} (hg : o.guard = none)
    (hop : o.op = Op.call { callee := Callee.builtin Builtin.append, args := #[s, t], argTypes := #[22, 22] }) (hs : a.eval s = v) (hx : a.eval t = .slice (some ⟨g0, 0, none⟩) 1 1) (hown : W.ownsRow base 27 2 v l.length (flat l))
    (hc : W.cell? ⟨g0, 0, none⟩ = some (.int .i64 x.1) ∧ W.cell? ⟨g0, 1, none⟩ = some (.int .i64 x.2)) (hz : l.length ≤ 8796093022200) (hb : base ≤ W.heap.size)
    (hK : ∀ g cap w', w'.ownsRow base 27 2 (.slice (some ⟨g, 0, none⟩) (l.length + 1) cap) (l ++ [x]).length (flat (l ++ [x])) → W.grownBy w' v.ownBlock → (v.ownBlock = some g ∨ W.heap.size ≤ g) → wpListIn F n Try.prog ops Q rest (a.put o.dst (.slice (some ⟨g, 0, none⟩) (l.length + 1) cap)) w') : wpListIn F n Try.prog ops Q (o :: rest) a W := by
  obtain ⟨g, cap, w', hr, h2, h3, h4, h5⟩ := run_append_pair (ty := o.type) hown hc hz hb
  have hd : ∀ c, o.op ≠ .defer c := fun c hc => by rw [hop] at hc; cases hc
  have hrun : (execOp a.eval o).run Try.prog W = .ok (.value (.slice (some ⟨g, 0, none⟩) (l.length + 1) cap)) w' := by
    simp only [execOp, hop, resolve, invoke, builtin, Sem.run_bind, Sem.run_pure, Result.andThen_ok, List.map_toArray, List.map_cons, List.map_nil, hs, hx, hr]
  refine wpListIn_plain hg fun K hK' => ?_
  unfold Oper.wpIn
  rw [Oper.semAt_plain F _ _ hd, hrun]
  exact ⟨by simp [Oper.about, hop, resolve, Target.leads, Sem.run_pure], hK' _ _ (hK g cap w' h2 h3 (h5.imp_right fun h => h.1))⟩
def gzI (Z : Nat → Prop) (w : World) (m hi : Nat) (pre : List (Int × Int)) (W : World) : Prop :=
  (∃ v, Boxed W (w.heap.size + 1) 22 v ∧ W.ownsRow w.heap.size 27 2 v pre.length (flat pre) ∧ ∀ b, v.ownBlock = some b → ¬ priv (w.heap.size + 4) hi b) ∧ Boxed W w.heap.size 3 (.int .i64 m) ∧ Chg Z w W ∧ (pre.length ≤ m ∧ w.heap.size + 4 ≤ hi) ∧ hi ≤ W.heap.size
def gzX (Z : Nat → Prop) (w : World) (m hi : Nat) (c : Code) (pre : List (Int × Int)) (W : World) : Prop :=
  (∃ v, Boxed W (w.heap.size + 1) 22 v ∧ W.ownsRow w.heap.size 27 2 v (pre.take m).length (flat (pre.take m)) ∧ ∀ b, v.ownBlock = some b → ¬ priv (w.heap.size + 4) hi b) ∧ Chg Z w W ∧ (c = .exit 0 ∧ m + 1 = pre.length ∧ w.heap.size + 4 ≤ hi)
theorem gz_row {Y Z : Nat → Prop} {w A B : World} {hi : Nat} {l : List (Int × Int)} {v : Value} (h1 : Boxed A (w.heap.size + 1) 22 v) (h2 : A.ownsRow w.heap.size 27 2 v l.length (flat l)) (h3 : ∀ b, v.ownBlock = some b → ¬ priv (w.heap.size + 4) hi b) (hh : w.heap.size + 4 ≤ hi) (c : Chg Y A B) (hZ : ∀ b, Z b → b < w.heap.size) (hY : ∀ b, Y b → Z b ∨ priv (w.heap.size + 4) hi b) :
    Boxed B (w.heap.size + 1) 22 v ∧ B.ownsRow w.heap.size 27 2 v l.length (flat l) :=
  ⟨boxed_turn h1 c (fun e => (hY _ e).elim (fun e => by have := hZ _ e; omega) (fun e => by have := e.1; omega)), own_chg h2 c (fun b hb e => (hY _ e).elim (fun e => by have := hZ _ e; have := own_ge h2 b hb; omega) (fun e => h3 b hb e))⟩
theorem gzI_chg {Y Z : Nat → Prop} {w A B : World} {m hi : Nat} {pre : List (Int × Int)} (h : gzI Z w m hi pre A) (c : Chg Y A B) (hZ : ∀ b, Z b → b < w.heap.size) (hY : ∀ b, Y b → Z b ∨ priv (w.heap.size + 4) hi b) : gzI Z w m hi pre B := by
  obtain ⟨⟨v, h1, h2, h3⟩, h4, h5, h6, h7⟩ := h
  obtain ⟨k1, k2⟩ := gz_row h1 h2 h3 h6.2 c hZ hY
  exact ⟨⟨v, k1, k2, h3⟩, boxed_turn h4 c (fun e => (hY _ e).elim (fun e => by have := hZ _ e; omega) (fun e => by have := e.1; omega)), chg_in h5 c (fun b e => (hY b e).imp id fun e => by have := e.1; omega), h6, Nat.le_trans h7 c.size⟩
theorem gzX_chg {Y Z : Nat → Prop} {w A B : World} {m hi : Nat} {c' : Code} {pre : List (Int × Int)} (h : gzX Z w m hi c' pre A) (c : Chg Y A B) (hZ : ∀ b, Z b → b < w.heap.size) (hY : ∀ b, Y b → Z b ∨ priv (w.heap.size + 4) hi b) : gzX Z w m hi c' pre B := by
  obtain ⟨⟨v, h1, h2, h3⟩, h5, h6⟩ := h
  obtain ⟨k1, k2⟩ := gz_row h1 h2 h3 h6.2.2 c hZ hY
  exact ⟨⟨v, k1, k2, h3⟩, chg_in h5 c (fun b e => (hY b e).imp id fun e => by have := e.1; omega), h6⟩
theorem gz_grown {A B : World} {row : Option Nat} {D : Nat} (hr : ∀ r, row = some r → D ≤ r ∧ ∃ o : Obj, A.heap[r]? = some o ∧ o.isCells = false) {b : Nat} {cs : Array Value} {t : TypeId} {f : Nat × Nat} (hb : A.heap[b]? = some (.cells cs t f)) : row ≠ some b := fun e => by
  obtain ⟨_, o, ho, hc⟩ := hr b e
  rw [hb] at ho; cases ho; cases hc
theorem gzI_own (Z : Nat → Prop) (w : World) (m hi : Nat) {D : Nat} (hD : w.heap.size ≤ D) : OwnFrom D (gzI Z w m hi) := by
  intro pre A B row h hg hr
  obtain ⟨⟨v, h1, h2, h3⟩, h4, h5, h6, h7⟩ := h
  have c : Chg (fun b => row = some b) A B := chg_grown hg
  exact ⟨⟨v, boxed_turn h1 c (gz_grown hr h1 (B := B)), own_chg h2 c (fun b hb e => by obtain ⟨_, _, cur, f, h⟩ := own_at h2 b hb; exact gz_grown hr h (B := B) e), h3⟩, boxed_turn h4 c (gz_grown hr h4 (B := B)), chg_in h5 c (fun b e => .inr (by have := (hr b e).1; omega)), h6, Nat.le_trans h7 c.size⟩
theorem gzX_own (Z : Nat → Prop) (w : World) (m hi : Nat) (c' : Code) {D : Nat} (hD : w.heap.size ≤ D) : OwnFrom D (gzX Z w m hi c') := by
  intro pre A B row h hg hr
  obtain ⟨⟨v, h1, h2, h3⟩, h5, h6⟩ := h
  have c : Chg (fun b => row = some b) A B := chg_grown hg
  exact ⟨⟨v, boxed_turn h1 c (gz_grown hr h1 (B := B)), own_chg h2 c (fun b hb e => by obtain ⟨_, _, cur, f, h⟩ := own_at h2 b hb; exact gz_grown hr h (B := B) e), h3⟩, chg_in h5 c (fun b e => .inr (by have := (hr b e).1; omega)), h6⟩
theorem gz_end {Z : Nat → Prop} {w W0 W w1 : World} {m hi g cap1 : Nat} {v : Value} {pre : List (Int × Int)} {x : Int × Int} {o : Obj} (hs0 : W0.heap.size = w.heap.size + 2) (bO : Boxed W (w.heap.size + 1) 22 v) (bM : Boxed W w.heap.size 3 (.int .i64 m)) (hr1 : W.ownsRow w.heap.size 27 2 v pre.length (flat pre))
    (hv : ∀ b, v.ownBlock = some b → ¬ priv (w.heap.size + 4) hi b) (hc1 : Chg Z w W) (hp : pre.length < m) (hh : w.heap.size + 4 ≤ hi) (hz1 : hi ≤ W.heap.size) (hgrow : (W.alloc o).grownBy w1 v.ownBlock)
    (hr2 : w1.ownsRow w.heap.size 27 2 (.slice (some ⟨g, 0, none⟩) (pre.length + 1) cap1) (pre ++ [x]).length (flat (pre ++ [x]))) (hat : v.ownBlock = some g ∨ (W.alloc o).heap.size ≤ g) :
    KeepsFrom W0.heap.size W (w1.setCell ⟨w.heap.size + 1, 0, none⟩ (.slice (some ⟨g, 0, none⟩) (pre.length + 1) cap1)) ∧ Chg (fun b => fresh w b ∧ ¬ priv (W0.heap.size + 2) hi b) W (w1.setCell ⟨w.heap.size + 1, 0, none⟩ (.slice (some ⟨g, 0, none⟩) (pre.length + 1) cap1)) ∧
      gzI Z w m hi (pre ++ [x]) (w1.setCell ⟨w.heap.size + 1, 0, none⟩ (.slice (some ⟨g, 0, none⟩) (pre.length + 1) cap1)) := by
  have lU : Later W (W.alloc o) := (Later.refl W).alloc o
  have cg : Chg (fun b => v.ownBlock = some b) (W.alloc o) w1 := chg_grown hgrow
  have hb : ∀ b, v.ownBlock = some b → w.heap.size ≤ b := fun b h => (own_at hr1 b h).1
  have hne : ∀ (b : Nat) (t : TypeId) (u : Value), t ≠ 27 → Boxed W b t u → ¬ v.ownBlock = some b := fun b t u ht hbx e => by
    obtain ⟨_, _, cur, f, h⟩ := own_at hr1 b e
    rw [show W.heap[b]? = _ from hbx] at h; injection h with h; injection h with _ h _; exact ht h
  have cs : Chg (only (w.heap.size + 1)) w1 (w1.setCell ⟨w.heap.size + 1, 0, none⟩ (.slice (some ⟨g, 0, none⟩) (pre.length + 1) cap1)) := Chg.set _ _ rfl
  have c1 : Chg (fun b => v.ownBlock = some b) W w1 := lU.chg.trans cg
  have ct : Chg (fun b => fresh w b ∧ ¬ priv (W0.heap.size + 2) hi b) W (w1.setCell ⟨w.heap.size + 1, 0, none⟩ (.slice (some ⟨g, 0, none⟩) (pre.length + 1) cap1)) :=
    (c1.mono fun b h => ⟨hb b h, fun hp => hv b h ⟨by have := hp.1; omega, hp.2⟩⟩).trans (cs.mono fun b h => by have : b = w.heap.size + 1 := h; exact ⟨by show w.heap.size ≤ b; omega, fun hp => by have := hp.1; omega⟩)
  have k1 : KeepsFrom W0.heap.size (W.alloc o) w1 := ⟨hgrow.size, fun k ob hk hob hc => (hgrow.block k (Array.getElem?_eq_some_iff.1 hob).1 (fun e => by
    obtain ⟨_, _, cur, f, h⟩ := own_at (hr1.alloc o) k e.symm
    rw [hob] at h; cases h; cases hc)).trans hob⟩
  have bO2 := boxed_turn bO c1 (hne _ _ _ (by decide) bO)
  have bM2 := boxed_turn bM c1 (hne _ _ _ (by decide) bM)
  refine ⟨((kf_later lU).trans k1).trans ((KeepsOthers.setCell _ _ _).from _), ct, ⟨_, bO2.set _, own_chg hr2 cs (fun b hb' h => ?_), fun b h => ?_⟩, bM2.other (by omega) _, chg_in hc1 ct (fun b e => .inr e.1), ⟨by rw [List.length_append, List.length_singleton]; omega, hh⟩, Nat.le_trans hz1 ct.size⟩
  · have : b = w.heap.size + 1 := h
    subst this
    obtain ⟨_, _, cur, f, h2⟩ := own_at hr2 _ hb'
    rw [show w1.heap[w.heap.size + 1]? = _ from bO2] at h2; cases h2
  · have e : g = b := by injection h
    subst e
    rcases hat with h | h
    · exact hv _ h
    · exact fun hp => by have := hp.2; rw [World.size_alloc] at h; omega
set_option maxRecDepth 100000 in
set_option maxHeartbeats 8000000 in
theorem gathered_z {g : Nat} {lb : Array Value} {xs : List (Int × Int)} {w : World} (m : Nat) {Z : Nat → Prop} {G : Nat → World → Prop} (hseq : SeqZ (fresh w) Z g lb xs G w) (hg : ∀ args w, (callFunc g args).run Try.prog w = .ok (.enter g args) w)
    (hZ : ∀ b, Z b → b < w.heap.size) (hG : ∀ k A V, G k A → Chg (fresh w) A V → G k V) (hx : xs.length ≤ 8796093022200) :
    Calls Try.prog 18 #[.func (.func g) #[] lb, .int .i64 m] w fun e V => ∃ v, e = .returned v ∧ V.ownsRow w.heap.size 27 2 v (xs.take m).length (flat (xs.take m)) ∧ Chg Z w V ∧ ∃ k, G k V := by
  have hF := eqF29 g lb
  refine (callsIn_wide (n := 3)).1 ?_
  refine callsIn_of_wp_marks Try.func18 rfl trivial ?_ rfl
  simp only [Try.ntmps18, List.size_toArray, List.length_cons, List.length_nil, Nat.reduceAdd, Nat.reduceSub, Array.replicate_succ, Array.replicate_zero, List.push_toArray, List.append_toArray, List.nil_append, List.cons_append]
  refine wpIn_wide.2 ?_
  have hB0 : Later w ((w.alloc (.cells #[.int .i64 m] 3)).alloc (.cells #[.slice none 0 0] 22)) := ((Later.refl w).alloc _).alloc _
  have bM := (Boxed.new w 3 (.int .i64 m)).alloc (.cells #[.slice none 0 0] 22)
  have bO := Boxed.new (w.alloc (.cells #[.int .i64 m] 3)) 22 (.slice none 0 0)
  rw [World.size_alloc] at bO
  have hsz : ((w.alloc (.cells #[.int .i64 m] 3)).alloc (.cells #[.slice none 0 0] 22)).heap.size = w.heap.size + 2 := by simp
  obtain ⟨W0, hW0⟩ : ∃ W0, (w.alloc (.cells #[.int .i64 m] 3)).alloc (.cells #[.slice none 0 0] 22) = W0 := ⟨_, rfl⟩
  rw [hW0] at hB0 bM bO hsz
  replace hW0 := hid hW0
  go_upto_block 0 with fail
  rw [hW0.out]
  have hfr : ∀ {hi b : Nat}, priv (W0.heap.size + 2) hi b → priv (w.heap.size + 4) hi b := fun h => ⟨by have := h.1; omega, h.2⟩
  refine block_z (w0 := w) (X := fresh w) (Z := Z) (xs := xs) (G := G) 6 (by rfl) hg hseq hB0 (fun b h => Nat.le_trans hB0.size h) (fun b h => by have := hZ b h; omega) (fun k A l o h hl => hG k A _ h (chg_put _ _ _ (by show w.heap.size ≤ l; omega)))
    (gzI Z w m) (gzX Z w m) (fun hi => gzI_own Z w m hi (by omega)) (fun hi c => gzX_own Z w m hi c (by omega))
    (fun hi s A V h c => gzI_chg h c hZ (fun b e => e.imp id hfr)) (fun hi k s A V h c => gzX_chg h c hZ (fun b e => e.imp id hfr))
    (fun hi V c h1 h2 => ?start) (fun hi pre W h => h.2.2.2.2) ?assign ?body ?done ?stop
  case start =>
    have n : ∀ j, j < 2 → ¬ (Z (w.heap.size + j) ∨ W0.heap.size ≤ w.heap.size + j) := fun j hj e => e.elim (fun e => by have := hZ _ e; omega) (fun e => by omega)
    exact ⟨⟨.slice none 0 0, boxed_turn bO c (n 1 (by omega)), World.ownsRow_nil .., fun b h => by cases h⟩, boxed_turn bM c (n 0 (by omega)), chg_in hB0.chg c (fun b e => e.imp id fun e => by omega), ⟨Nat.zero_le _, by omega⟩, h2⟩
  case assign =>
    intro l' y W K hK
    simp only [inTmps, List.setIfInBounds_toArray, List.set_cons_zero, List.set_cons_succ] at hK ⊢
    gi_wp2
    exact hK
  case body =>
    rintro hi l pre x Bx W hhi ⟨⟨v, bO1, hr1, hv⟩, bM1, hc1, ⟨hp, hh⟩, hz1⟩ bX hBx hlt
    simp only [inTmps, List.setIfInBounds_toArray, List.set_cons_zero, List.set_cons_succ]
    have cO := bO1.cell
    have fO := bO1.frozen
    have cM := bM1.cell
    obtain ⟨cX0, cX1, _, _⟩ := bX.cells
    obtain ⟨A, cap, rfl, hsl⟩ : ∃ A cap, v = .slice A pre.length cap ∧ True := by
      rcases hr1.2 with ⟨rfl, h0⟩ | ⟨g', cap', cur, rfl, _⟩
      · exact ⟨none, 0, by rw [h0], trivial⟩
      · exact ⟨_, _, rfl, trivial⟩
    by_cases h1 : pre.length = m
    · have hm : decide ((pre.length : Int) = (m : Int)) = true := by simp [h1]
      have hm2 : ((pre.length : Int) == (m : Int)) = true := by simp [h1]
      have HM := hid h1
      clear h1
      gi_wp2
      have ht : (pre ++ [x]).take m = pre := by rw [← HM.out, List.take_left' rfl]
      refine ⟨KeepsFrom.refl _ _, Chg.refl _ _, ⟨_, bO1, by rw [ht]; exact hr1, hv⟩, hc1, rfl, by rw [List.length_append, List.length_singleton, HM.out], hh⟩
    · have hm2 : ((pre.length : Int) == (m : Int)) = false := by simp; omega
      have hlm : pre.length < m := by omega
      have hWs := hc1.size
      clear h1
      gi_wp2_with (gi_at_builtin; refine append_pair_in rfl rfl rfl rfl (hr1.alloc _) (two_new _ _ _ _) (by omega) (by simp; omega) ?_; intro g' cap' w1 hr2 hgrow hat; have hne : ¬ (Value.slice A pre.length cap).ownBlock = some (w.heap.size + 1) := (fun e => by (obtain ⟨_, _, cur, f, h⟩ := own_at hr1 _ e; rw [show W.heap[w.heap.size + 1]? = _ from bO1] at h; cases h)); have b1 := boxed_turn (bO1.alloc (.cells #[.int .i64 x.1, .int .i64 x.2] 27)) (chg_grown hgrow) hne; have k1 := b1.cell; have k2 := b1.frozen)
      exact gz_end hsz bO1 bM1 hr1 hv hc1 hlm hh hz1 hgrow hr2 hat
  case done =>
    rintro hi D W hhi hD hK ⟨⟨v, bO1, hr1, hv⟩, bM1, hc1, ⟨hp, hh⟩, hz1⟩ hgk
    have cO := bO1.cell
    go_wp2_with fail
    refine ⟨by simp, .inl ⟨_, _, rfl, run_takeDeferred hK, ?_⟩⟩
    have c2 : Chg (fresh w) W (W.putObj D (.deferred none)) := chg_put _ _ _ (by show w.heap.size ≤ D; omega)
    refine ⟨_, results_tmp rfl _ _ _, v, rfl, ?_, chg_in hc1 c2 (fun b e => .inr e), _, hG _ _ _ hgk c2⟩
    rw [List.take_of_length_le hp]
    exact ownsRow_putObj hr1 _ hK rfl
  case stop =>
    rintro hi D c pre W hhi hD hK hpre ⟨⟨v, bO1, hr1, hv⟩, hc1, rfl, hm, hh⟩ hgk
    have cO := bO1.cell
    refine .inr ⟨rfl, ?_⟩
    go_wp2_with fail
    refine ⟨by simp, .inl ⟨_, _, rfl, run_takeDeferred hK, ?_⟩⟩
    have c2 : Chg (fresh w) W (W.putObj D (.deferred none)) := chg_put _ _ _ (by show w.heap.size ≤ D; omega)
    refine ⟨_, results_tmp rfl _ _ _, v, rfl, ?_, chg_in hc1 c2 (fun b e => .inr e), _, hG _ _ _ hgk c2⟩
    obtain ⟨r, rfl⟩ := hpre
    rw [List.take_append_of_le_length (by omega)]
    exact ownsRow_putObj hr1 _ hK rfl
end Go.Proofs.Yteledidnhjioaaa.Sh
