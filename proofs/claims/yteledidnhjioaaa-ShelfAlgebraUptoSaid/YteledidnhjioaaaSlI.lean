import Derived.Test.YteledidnhjioaaaSlF
namespace Go.Proofs.Yteledidnhjioaaa.Sh
open Go.RowKit Go.Lib Go.Proofs Go.Shelf
set_option linter.unusedVariables false
set_option linter.unusedSimpArgs false
set_option maxHeartbeats 2000000 in
theorem block_zs {e p : Nat} {g : Operand} {assign body : Code} {Q : Exit → Act → World → Prop} {a : Act} {w w0 : World} {X Z : Nat → Prop} {gf : Nat} {lb : Array Value} {xs : List (Int × Int)} {G : Nat → World → Prop}
    (hg : a.eval g = .func (.func gf) #[] lb) (eg : ∀ args w, (callFunc gf args).run Try.prog w = .ok (.enter gf args) w) (hseq : SeqZ X Z gf lb xs G w0) (hb0 : Later w0 w) (hX : ∀ b, w.heap.size ≤ b → X b) (hZ : ∀ b, Z b → b < w.heap.size)
    (hG : ∀ k A l o, G k A → w.heap.size ≤ l → G k (A.putObj l o))
    (I : Nat → List (Int × Int) → World → Prop) (Ix : Nat → Code → List (Int × Int) → World → Prop) (hI : ∀ hi, OwnFrom w.heap.size (I hi)) (hIx : ∀ hi c, OwnFrom w.heap.size (Ix hi c))
    (hIZ : ∀ hi s A B, I hi s A → Chg (fun b => Z b ∨ priv (w.heap.size + 2) hi b) A B → I hi s B) (hIxZ : ∀ hi c s A B, Ix hi c s A → Chg (fun b => Z b ∨ priv (w.heap.size + 2) hi b) A B → Ix hi c s B)
    (h0 : ∀ hi V, Chg (fun b => Z b ∨ w.heap.size ≤ b) w V → w.heap.size + 2 ≤ hi → hi ≤ V.heap.size → I hi [] V) (hsz : ∀ hi pre W, I hi pre W → hi ≤ W.heap.size)
    (hassign : ∀ (l : Nat) (x : Int × Int) (W : World) (K : Act → World → Prop), K { tmps := a.tmps.setIfInBounds p (pairV x), defers := [] } W →
      assign.wpIn (FW.inRound l) 1 Try.prog (Exit.then K (fun _ _ _ => False)) { tmps := a.tmps.setIfInBounds p (pairV x), defers := [] } W)
    (hbody : ∀ (hi l : Nat) (pre : List (Int × Int)) (x : Int × Int) (W : World), w.heap.size + 2 ≤ hi → I hi pre W → pre.length < xs.length →
      body.wpIn (FW.inRound l) 1 Try.prog (leftW w.heap.size (fun b => X b ∧ ¬ priv (w.heap.size + 2) hi b) (I hi) (Ix hi) (pre ++ [x]) W) { tmps := a.tmps.setIfInBounds p (pairV x), defers := [] } W)
    (hdone : ∀ (hi D : Nat) (W : World), w.heap.size + 2 ≤ hi → w.heap.size ≤ D → W.heap[D]? = some (.deferred (some [])) → I hi xs W → G xs.length W → Q .normal { a with defers := { target := .collected D, args := #[] } :: a.defers } W)
    (hstop : ∀ (hi D : Nat) (c : Code) (pre : List (Int × Int)) (W : World), w.heap.size + 2 ≤ hi → w.heap.size ≤ D → W.heap[D]? = some (.deferred (some [])) → pre <+: xs → Ix hi c pre W → G pre.length W →
      (c = .ret ∧ Q .ret { a with defers := { target := .collected D, args := #[] } :: a.defers } W) ∨ (c = .exit e ∧ Q .normal { a with defers := { target := .collected D, args := #[] } :: a.defers } W)) :
    (Code.block e (Code.rangeFunc g #[p] assign body)).wp Try.prog Q a w := by
  refine wp_block ((wpIn_wide (n := 3)).1 (wpIn_rangeFunc ?_))
  intro fn hfn
  obtain ⟨rec, hrec⟩ : ∃ rec : LoopState → Option Code → Loop, rec = fun st pe => { state := st, pending := pe, fn, tmps := a.tmps, params := #[p], assign, body, defers := w.heap.size } := ⟨_, rfl⟩
  obtain ⟨D, hD⟩ : ∃ D, w.heap.size = D := ⟨_, rfl⟩
  obtain ⟨W1, hW1⟩ : ∃ W1, (w.alloc (.deferred (some []))).alloc (.loop (rec .ready none)) = W1 := ⟨_, rfl⟩
  have hbk : Books D (rec .ready none) W1 := by
    rw [← hW1, ← hD]
    refine ⟨(Below.heap_alloc _ _ _ (by simp)).trans (World.alloc_heap_new w _), ?_⟩
    have := World.alloc_heap_new (w.alloc (.deferred (some []))) (.loop (rec .ready none))
    rwa [World.size_alloc] at this
  have hlw : Later w W1 := by rw [← hW1]; exact ((Later.refl w).alloc _).alloc _
  have hl1 : Later w0 W1 := by rw [← hW1]; exact hb0.next (((Later.refl w).alloc _).alloc _)
  have hs1 : W1.heap.size = D + 2 := by rw [← hW1, World.size_alloc, World.size_alloc, hD]
  rw [hD] at hX hZ hG hI hIx hIZ hIxZ h0 hbody hdone hstop
  have hz : ∀ x, (#[p].zip (encP x)).foldl (fun t (p, v) => t.setIfInBounds p v) a.tmps = a.tmps.setIfInBounds p (pairV x) := fun x => by
    rw [show (#[p].zip (encP x)) = #[(p, pairV x)] from by apply Array.ext'; simp [encP]]
    simp
  refine ⟨D + 1, [{ target := .collected D, args := #[] }], W1, { target := .fn (.func gf) lb, args := #[.func (.yield (D + 1)) #[] #[]] }, W1, gf, #[.func (.yield (D + 1)) #[] #[]] ++ lb, W1, ?_, ?_, fun f' hf' => trivial, ?_, (fun h => (by cases h)), ?_⟩
  · rw [← hW1, hrec, ← hD]; exact run_enterLoop_outer _ _ _ _ _
  · simp only [resolve, hg]; simp [go_sem]
  · simp [invoke, go_sem, eg]
  · refine (hseq (3 - 1) (D + 1) (fun hi pre W => I hi pre W ∧ Books D (rec .ready none) W) (fun hi pre W => ∃ c, Ix hi c pre W ∧ Books D (rec .done (some c)) W) W1 hl1
      (fun hi s A B row hs hg' hr => ⟨hI hi s A B row hs.1 hg' fun b eb => ?_, hs.2.own hg' fun b eb => (hr b eb).2⟩)
      (fun hi s A B row hs hg' hr => ?_)
      (fun hi s A B hs c => by rw [hs1] at c; exact ⟨hIZ hi s A B hs.1 c, hs.2.chg' c hZ (fun b h => h.1)⟩) (fun hi s A B hs c => by rw [hs1] at c; obtain ⟨k, h1, h2⟩ := hs; exact ⟨k, hIxZ hi k s A B h1 c, h2.chg' c hZ (fun b h => h.1)⟩) ?_ ?_).mono ?_
    · obtain ⟨hb, o, ho, hw⟩ := hr b eb
      exact ⟨by omega, o, ho, Obj.not_cells_of_walk hw⟩
    · obtain ⟨c, h1, h2⟩ := hs
      refine ⟨c, hIx hi c s A B row h1 hg' fun b eb => ?_, h2.own hg' fun b eb => (hr b eb).2⟩
      obtain ⟨hb, o, ho, hw⟩ := hr b eb
      exact ⟨by omega, o, ho, Obj.not_cells_of_walk hw⟩
    · -- a round
      rintro hi m pre x V hhi ⟨hi0, hb⟩ hlen
      rw [hs1] at hhi ⊢
      have hy := run_yield (P := Try.prog) (args := encP x) hb.2 (by rw [hrec]; rfl)
      rw [hrec] at hy
      dsimp only at hy
      rw [hz x] at hy
      refine YieldAt.anyDepth (m := 1) rfl m ⟨fn, _, assign, body, hy, roundIn_of_wpIn hfn (hassign _ x V _ ?_)⟩
      have la : Later V V := Later.refl V
      have hb2 := hb
      have hi2 := hi0
      have hsV := hsz _ _ _ hi0
      obtain ⟨X', hX'⟩ : ∃ X' : Nat → Prop, (fun b => X b ∧ ¬ priv (D + 2) hi b) = X' := ⟨_, rfl⟩
      have hXD : X' (D + 1) := by rw [← hX']; exact ⟨hX _ (by omega), fun h => by have := h.1; omega⟩
      rw [hX']
      obtain ⟨r2, hr2⟩ : ∃ r2, ({ rec .ready none with state := .busy } : Loop) = r2 := ⟨_, rfl⟩
      refine ⟨_, run_beginRound hb2.2 (by rw [hrec]), ?_⟩
      rw [hr2]
      have hb3 := hb2.turn r2
      have hi3 := (hI hi).putObj (.loop r2) hi2 (by omega) hb2.2 rfl
      have c3 : Chg X' V (V.putObj (D + 1) (.loop r2)) := (Later.chg la).trans (chg_put _ _ _ hXD)
      have hbd := hbody hi (D + 1) pre x _ hhi hi3 hlen
      rw [hX'] at hbd
      refine wpIn_mono hbd ?_
      have fin : ∀ (jump : Option Code) (Vz : World), KeepsFrom D (V.putObj (D + 1) (.loop r2)) Vz → Chg X' (V.putObj (D + 1) (.loop r2)) Vz →
          ∃ Vy, (Instr.endRound (D + 1) jump).run Try.prog Vz = .ok (.bool jump.isNone) Vy ∧ Vy = Vz.putObj (D + 1) (.loop (rec (if jump.isNone then .ready else .done) jump)) ∧ Books D (rec (if jump.isNone then .ready else .done) jump) Vy ∧ Chg X' V Vy := fun jump Vz hk hc => by
        have hbz := hb3.keep hk
        have hrun := run_endRound (P := Try.prog) jump hbz.2
        have hr3 : ({ r2 with state := if jump.isNone then .ready else .done, pending := jump } : Loop) = rec (if jump.isNone then .ready else .done) jump := by rw [← hr2, hrec]
        rw [hr3] at hrun
        exact ⟨_, hrun, rfl, hbz.turn _, (c3.trans hc).trans (chg_put _ _ _ hXD)⟩
      rintro ex az Vz hp
      cases ex with
      | normal =>
        obtain ⟨hk, hc, hi4⟩ := hp
        obtain ⟨Vy, hrun, hVy, hby, hcy⟩ := fin none Vz hk hc
        exact ⟨_, _, hrun, .inl ⟨rfl, ⟨by rw [hVy]; exact (hI hi).putObj _ hi4 (by omega) (hb3.keep hk).2 rfl, hby⟩, hcy⟩⟩
      | ret =>
        obtain ⟨hk, hc, hi4⟩ := hp
        obtain ⟨Vy, hrun, hVy, hby, hcy⟩ := fin (some .ret) Vz hk hc
        exact ⟨_, _, hrun, .inr ⟨rfl, ⟨.ret, by rw [hVy]; exact (hIx hi _).putObj _ hi4 (by omega) (hb3.keep hk).2 rfl, hby⟩, hcy⟩⟩
      | exit id =>
        obtain ⟨hk, hc, hi4⟩ := hp
        obtain ⟨Vy, hrun, hVy, hby, hcy⟩ := fin (some (.exit id)) Vz hk hc
        exact ⟨_, _, hrun, .inr ⟨rfl, ⟨.exit id, by rw [hVy]; exact (hIx hi _).putObj _ hi4 (by omega) (hb3.keep hk).2 rfl, hby⟩, hcy⟩⟩
      | goto t => exact hp.elim
      | panic ch => exact hp.elim
      | outgrown => exact hp.elim
    · -- at the start
      intro hi V hc hh hv
      rw [hs1] at hh hc
      exact ⟨h0 hi V ((Later.chg hlw).trans (hc.mono fun b h => h.imp id fun h => by omega)) hh hv, hbk.chg' hc hZ (fun b h => h)⟩
    · -- behind the function
      rintro ex V ⟨⟨v, rfl⟩, hi, hhi, (⟨⟨hi0, hb⟩, hgk⟩ | ⟨pre, hpre, ⟨c, hi0, hb⟩, hgk⟩)⟩
      all_goals rw [hs1] at hhi
      · have hrun := run_endLoop (P := Try.prog) hb.2 (by rw [hrec]; simp)
        refine ⟨none, _, by rw [hrec] at hrun; exact hrun, ?_⟩
        exact hdone hi D _ hhi (Nat.le_refl _) ((World.putObj_heap_other (by omega)).trans hb.1) ((hI hi).putObj _ hi0 (by omega) hb.2 rfl) (hG _ _ _ _ hgk (by omega))
      · have hrun := run_endLoop (P := Try.prog) hb.2 (by rw [hrec]; simp)
        rw [show (rec .done (some c)).pending = some c from by rw [hrec]] at hrun
        obtain ⟨Vx, hVx⟩ : ∃ Vx, V.putObj (D + 1) (.loop { rec .done (some c) with state := .exhausted, pending := some c }) = Vx := ⟨_, rfl⟩
        rw [hVx] at hrun
        refine ⟨some c, Vx, hrun, ?_⟩
        rcases hstop hi D c pre Vx hhi (Nat.le_refl _) (by rw [← hVx]; exact (World.putObj_heap_other (by omega)).trans hb.1) hpre (by rw [← hVx]; exact (hIx hi c).putObj _ hi0 (by omega) hb.2 rfl) (by rw [← hVx]; exact hG _ _ _ _ hgk (by omega)) with ⟨rfl, hq⟩ | ⟨rfl, hq⟩
        · exact wpIn_ret hq
        · refine wpIn_exit ?_
          show (if e = e then _ else _ : Prop)
          rw [if_pos rfl]
          exact hq
/-! ### the state within a range of ShelfAlgebra: the own count, two others, all else as it was -/
def algI (Wb : World) (N M1 M2 : Nat) (v1 v2 : Value) (hi : Nat) (pre : List (Int × Int)) (W : World) : Prop := ((Boxed W N 3 (.int .i64 pre.length) ∧ Boxed W M1 3 v1) ∧ Boxed W M2 3 v2) ∧ Later Wb W ∧ hi ≤ W.heap.size
def algX (xs : List (Int × Int)) (hi : Nat) (c : Code) (pre : List (Int × Int)) (W : World) : Prop := c = .ret ∧ ¬ pre <+: xs
theorem algI_own {Wb : World} {N M1 M2 : Nat} {v1 v2 : Value} (hi : Nat) {B : Nat} (hB : Wb.heap.size ≤ B) : OwnFrom B (algI Wb N M1 M2 v1 v2 hi) :=
  OwnFrom.and (OwnFrom.and (OwnFrom.and (Own.from (boxed_own _ _ _) _) (Own.from (boxed_own _ _ _) _)) (Own.from (boxed_own _ _ _) _)) (OwnFrom.and (ownFrom_below (Nat.le_refl _) hB) (fun _ A V row h hg _ => Nat.le_trans h hg.size))
theorem algI_chg {Wb : World} {N M1 M2 S : Nat} {v1 v2 : Value} {hi : Nat} {pre : List (Int × Int)} {Y : Nat → Prop} {A B : World} (h : algI Wb N M1 M2 v1 v2 hi pre A) (c : Chg Y A B) (hY : ∀ b, Y b → S ≤ b) (hN : N < S ∧ M1 < S ∧ M2 < S) (hS : Wb.heap.size ≤ S) : algI Wb N M1 M2 v1 v2 hi pre B := by
  obtain ⟨⟨⟨h1, h2⟩, h3⟩, h4, h5⟩ := h
  exact ⟨⟨⟨boxed_turn h1 c (fun e => by have := hY _ e; omega), boxed_turn h2 c (fun e => by have := hY _ e; omega)⟩, boxed_turn h3 c (fun e => by have := hY _ e; omega)⟩, Below.trans h4 (Chg.below c h4.size (fun b e => by have := hY _ e; omega)), Nat.le_trans h5 c.size⟩
/-- a round that counts one more -/
theorem algI_next {Wb : World} {N M1 M2 B : Nat} {v1 v2 : Value} {hi : Nat} {pre : List (Int × Int)} {x : Int × Int} {X : Nat → Prop} {W V : World} (h : algI Wb N M1 M2 v1 v2 hi pre W) (l : Later W V) (hX : X N) (hN : Wb.heap.size ≤ N) (hne : M1 ≠ N ∧ M2 ≠ N) :
    KeepsFrom B W (V.setCell ⟨N, 0, none⟩ (.int .i64 ((pre.length : Int) + 1))) ∧ Chg X W (V.setCell ⟨N, 0, none⟩ (.int .i64 ((pre.length : Int) + 1))) ∧ algI Wb N M1 M2 v1 v2 hi (pre ++ [x]) (V.setCell ⟨N, 0, none⟩ (.int .i64 ((pre.length : Int) + 1))) := by
  obtain ⟨⟨⟨h1, h2⟩, h3⟩, h4, h5⟩ := h
  have cz : Chg X V (V.setCell ⟨N, 0, none⟩ (.int .i64 ((pre.length : Int) + 1))) := Chg.set _ _ hX
  refine ⟨kf_later_set l _ _, l.chg.trans cz, ⟨⟨by rw [List.length_append]; exact (boxed_later h1 l).set _, (boxed_later h2 l).other (by omega) _⟩, (boxed_later h3 l).other (by omega) _⟩, Later.far (h4.next l) hN (Chg.set _ _ rfl), by have := l.size; have := cz.size; omega⟩
/-- .. with the marks of the ranges that are over -/
def algM (Wb : World) (N M1 M2 : Nat) (v1 v2 : Value) (Ds : List Nat) (hi : Nat) (pre : List (Int × Int)) (W : World) : Prop := algI Wb N M1 M2 v1 v2 hi pre W ∧ ∀ D ∈ Ds, W.heap[D]? = some (.deferred (some []))
theorem algM_own {Wb : World} {N M1 M2 : Nat} {v1 v2 : Value} {Ds : List Nat} (hi : Nat) {B : Nat} (hB : Wb.heap.size ≤ B) (hD : ∀ D ∈ Ds, D < B) : OwnFrom B (algM Wb N M1 M2 v1 v2 Ds hi) :=
  fun pre A V row h hg hr => ⟨algI_own hi hB pre A V row h.1 hg hr, fun D hm => (hg.block D (Array.getElem?_eq_some_iff.1 (h.2 D hm)).1 (fun e => by have := (hr D e.symm).1; have := hD D hm; omega)).trans (h.2 D hm)⟩
theorem algM_chg {Wb : World} {N M1 M2 S : Nat} {v1 v2 : Value} {Ds : List Nat} {hi : Nat} {pre : List (Int × Int)} {Y : Nat → Prop} {A B : World} (h : algM Wb N M1 M2 v1 v2 Ds hi pre A) (c : Chg Y A B) (hY : ∀ b, Y b → S ≤ b) (hN : N < S ∧ M1 < S ∧ M2 < S) (hS : Wb.heap.size ≤ S) (hD : ∀ D ∈ Ds, D < S) : algM Wb N M1 M2 v1 v2 Ds hi pre B :=
  ⟨algI_chg h.1 c hY hN hS, fun D hm => (c.block D (Array.getElem?_eq_some_iff.1 (h.2 D hm)).1 (fun e => by have := hY _ e; have := hD D hm; omega)).trans (h.2 D hm)⟩
theorem algM_next {Wb : World} {N M1 M2 B : Nat} {v1 v2 : Value} {Ds : List Nat} {hi : Nat} {pre : List (Int × Int)} {x : Int × Int} {X : Nat → Prop} {W V : World} (h : algM Wb N M1 M2 v1 v2 Ds hi pre W) (l : Later W V) (hX : X N) (hN : Wb.heap.size ≤ N) (hne : M1 ≠ N ∧ M2 ≠ N) :
    KeepsFrom B W (V.setCell ⟨N, 0, none⟩ (.int .i64 ((pre.length : Int) + 1))) ∧ Chg X W (V.setCell ⟨N, 0, none⟩ (.int .i64 ((pre.length : Int) + 1))) ∧ algM Wb N M1 M2 v1 v2 Ds hi (pre ++ [x]) (V.setCell ⟨N, 0, none⟩ (.int .i64 ((pre.length : Int) + 1))) := by
  obtain ⟨k1, k2, k3⟩ := algI_next (B := B) (x := x) h.1 l hX hN hne
  refine ⟨k1, k2, k3, fun D hm => ?_⟩
  have hd := h.2 D hm
  have hl := (Array.getElem?_eq_some_iff.1 hd).1
  have hDN : D ≠ N := fun e => by
    have h1 : W.heap[N]? = _ := h.1.1.1.1
    rw [← e, hd] at h1
    cases h1
  exact ((Chg.set (X := only N) V (N := N) (o := 0) (.int .i64 ((pre.length : Int) + 1)) rfl).block D (by have := l.size; omega) hDN).trans ((l.block D hl).trans hd)
end Go.Proofs.Yteledidnhjioaaa.Sh
