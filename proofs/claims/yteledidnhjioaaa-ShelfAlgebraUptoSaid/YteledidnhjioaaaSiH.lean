import Derived.Test.YteledidnhjioaaaSiC
import Derived.StillTailTactics
namespace Go.Proofs.Yteledidnhjioaaa.Sh
open Go.RowKit Go.Lib Go.Proofs Go.Shelf
set_option linter.unusedVariables false
set_option linter.unusedSimpArgs false
/-! ### a range over a sequence that counts: the function writes cells of its own (Z) between the rounds -/
/-- a function value that tells just these; behind it G holds of how many were handed over -/
def SeqW (X Z : Nat → Prop) (g : Nat) (lb : Array Value) (xs : List (Int × Int)) (G : Nat → World → Prop) (w0 : World) : Prop :=
  ∀ (n l : Nat) (J Jx : List (Int × Int) → World → Prop) (W : World), Later w0 W → AbidesFrom W.heap.size J → AbidesFrom W.heap.size Jx →
    (∀ s A B, J s A → Chg Z A B → J s B) → (∀ s A B, Jx s A → Chg Z A B → Jx s B) →
    (∀ m pre x W1, J pre W1 → pre.length < xs.length → YieldAt FW m Try.prog l (encP x) W1 fun e V =>
      (e = .returned (.bool true) ∧ J (pre ++ [x]) V ∧ Chg X W1 V) ∨ (e = .returned (.bool false) ∧ Jx (pre ++ [x]) V ∧ Chg X W1 V)) →
    J [] W → CallsIn FW n Try.prog g (#[.func (.yield l) #[] #[]] ++ lb) W fun e V =>
      (∃ v, e = .returned v) ∧ ((J xs V ∧ G xs.length V) ∨ ∃ pre, pre <+: xs ∧ Jx pre V ∧ G pre.length V)
/-- how a round may be left -/
def leftW (B : Nat) (X : Nat → Prop) (I : List (Int × Int) → World → Prop) (Ix : Code → List (Int × Int) → World → Prop) (xs : List (Int × Int)) (W : World) : Exit → Act → World → Prop
  | .normal, _, V => KeepsFrom B W V ∧ Chg X W V ∧ I xs V
  | .ret, _, V => KeepsFrom B W V ∧ Chg X W V ∧ Ix .ret xs V
  | .exit e, _, V => KeepsFrom B W V ∧ Chg X W V ∧ Ix (.exit e) xs V
  | _, _, _ => False
/-- the loop's own two blocks: the deferred calls' and the record's -/
def Books (D : Nat) (r : Loop) (W : World) : Prop := W.heap[D]? = some (.deferred (some [])) ∧ W.heap[D + 1]? = some (.loop r)
theorem Books.keep {D : Nat} {r : Loop} {W V : World} (h : Books D r W) (k : KeepsFrom D W V) : Books D r V := ⟨k.same _ _ (Nat.le_refl _) h.1 rfl, k.same _ _ (Nat.le_succ _) h.2 rfl⟩
theorem Books.lt {D : Nat} {r : Loop} {W : World} (h : Books D r W) : D + 1 < W.heap.size := (Array.getElem?_eq_some_iff.1 h.2).1
theorem Books.turn {D : Nat} {r : Loop} {W : World} (h : Books D r W) (r' : Loop) : Books D r' (W.putObj (D + 1) (.loop r')) := ⟨(World.putObj_heap_other (by omega)).trans h.1, World.putObj_heap_same h.lt⟩
theorem Books.own {D : Nat} {r : Loop} {W V : World} {row : Option Nat} (h : Books D r W) (hg : W.grownBy V row) (hr : ∀ b, row = some b → ∃ o : Obj, W.heap[b]? = some o ∧ o.isWalk = true) : Books D r V :=
  ⟨(grownBy_keeps hg hr h.1 rfl).trans h.1, (grownBy_keeps hg hr h.2 rfl).trans h.2⟩
theorem Books.chg {Z : Nat → Prop} {D : Nat} {r : Loop} {W V : World} (h : Books D r W) (c : Chg Z W V) (hz : ∀ b, Z b → b < D) : Books D r V := by
  have := h.lt
  exact ⟨(c.block D (by omega) (fun e => by have := hz _ e; omega)).trans h.1, (c.block (D + 1) (by omega) (fun e => by have := hz _ e; omega)).trans h.2⟩
set_option maxHeartbeats 2000000 in
theorem block_counts {e p : Nat} {g : Operand} {assign body : Code} {Q : Exit → Act → World → Prop} {a : Act} {w w0 : World} {X Z : Nat → Prop} {gf : Nat} {lb : Array Value} {xs : List (Int × Int)} {G : Nat → World → Prop} (q : Nat)
    (hg : a.eval g = .func (.func gf) #[] lb) (eg : ∀ args w, (callFunc gf args).run Try.prog w = .ok (.enter gf args) w) (hseq : SeqW X Z gf lb xs G w0) (hb0 : Later w0 w) (hX : ∀ b, w.heap.size ≤ b → X b) (hZ : ∀ b, Z b → b < w.heap.size)
    (hG : ∀ k A l o, G k A → w.heap.size ≤ l → G k (A.putObj l o))
    (I : List (Int × Int) → World → Prop) (Ix : Code → List (Int × Int) → World → Prop) (hI : OwnFrom w.heap.size I) (hIx : ∀ c, OwnFrom w.heap.size (Ix c))
    (hIZ : ∀ s A B, I s A → Chg Z A B → I s B) (hIxZ : ∀ c s A B, Ix c s A → Chg Z A B → Ix c s B) (h0 : I [] w) (hsz : ∀ pre W, I pre W → w.heap.size ≤ W.heap.size)
    (hassign : ∀ (l : Nat) (x : Int × Int) (W : World) (K : Act → World → Prop), K (inTmps a p q x W.heap.size) (W.alloc (.cells #[.int .i64 x.1, .int .i64 x.2] 27)) →
      assign.wpIn (FW.inRound l) 1 Try.prog (Exit.then K (fun _ _ _ => False)) { tmps := a.tmps.setIfInBounds p (pairV x), defers := [] } W)
    (hbody : ∀ (l : Nat) (pre : List (Int × Int)) (x : Int × Int) (Bx : Nat) (W : World), I pre W → Boxed2 W Bx (.int .i64 x.1) (.int .i64 x.2) → w.heap.size ≤ Bx → pre.length < xs.length →
      body.wpIn (FW.inRound l) 1 Try.prog (leftW w.heap.size X I Ix (pre ++ [x]) W) (inTmps a p q x Bx) W)
    (hdone : ∀ (D : Nat) (W : World), w.heap.size ≤ D → W.heap[D]? = some (.deferred (some [])) → I xs W → G xs.length W → Q .normal { a with defers := { target := .collected D, args := #[] } :: a.defers } W)
    (hstop : ∀ (D : Nat) (c : Code) (pre : List (Int × Int)) (W : World), w.heap.size ≤ D → W.heap[D]? = some (.deferred (some [])) → pre <+: xs → Ix c pre W → G pre.length W →
      (c = .ret ∧ Q .ret { a with defers := { target := .collected D, args := #[] } :: a.defers } W) ∨ (c = .exit e ∧ Q .normal { a with defers := { target := .collected D, args := #[] } :: a.defers } W)) :
    (Code.block e (Code.rangeFunc g #[p] assign body)).wp Try.prog Q a w := by
  refine wp_block ((wpIn_wide (n := 3)).1 (wpIn_rangeFunc ?_))
  intro fn hfn
  obtain ⟨rec, hrec⟩ : ∃ rec : LoopState → Option Code → Loop, rec = fun st pe => { state := st, pending := pe, fn, tmps := a.tmps, params := #[p], assign, body, defers := w.heap.size } := ⟨_, rfl⟩
  obtain ⟨D, hD⟩ : ∃ D, w.heap.size = D := ⟨_, rfl⟩
  obtain ⟨W1, hW1⟩ : ∃ W1, (w.alloc (.deferred (some []))).alloc (.loop (rec .ready none)) = W1 := ⟨_, rfl⟩
  have hbk : Books D (rec .ready none) W1 := by
    rw [← hW1, ← hD]
    refine ⟨(Below.heap_alloc _ _ _ (by simp)).trans (World.alloc_heap_new w _), ?_⟩
    have := World.alloc_heap_new (w.alloc (.deferred (some []))) (.loop (rec .ready none))
    rwa [World.size_alloc] at this
  have hI1 : I [] W1 := by rw [← hW1]; exact hI.alloc _ (hI.alloc _ h0)
  have hl1 : Later w0 W1 := by rw [← hW1]; exact hb0.next (((Later.refl w).alloc _).alloc _)
  have hs1 : W1.heap.size = D + 2 := by rw [← hW1, World.size_alloc, World.size_alloc, hD]
  rw [hD] at hX hZ hG hI hIx hsz hbody hdone hstop
  have hz : ∀ x, (#[p].zip (encP x)).foldl (fun t (p, v) => t.setIfInBounds p v) a.tmps = a.tmps.setIfInBounds p (pairV x) := fun x => by
    rw [show (#[p].zip (encP x)) = #[(p, pairV x)] from by apply Array.ext'; simp [encP]]
    simp
  refine ⟨D + 1, [{ target := .collected D, args := #[] }], W1, { target := .fn (.func gf) lb, args := #[.func (.yield (D + 1)) #[] #[]] }, W1, gf, #[.func (.yield (D + 1)) #[] #[]] ++ lb, W1, ?_, ?_, fun f' hf' => trivial, ?_, (fun h => (by cases h)), ?_⟩
  · rw [← hW1, hrec, ← hD]; exact run_enterLoop_outer _ _ _ _ _
  · simp only [resolve, hg]; simp [go_sem]
  · simp [invoke, go_sem, eg]
  · refine (hseq (3 - 1) (D + 1) (fun pre W => I pre W ∧ Books D (rec .ready none) W) (fun pre W => ∃ c, Ix c pre W ∧ Books D (rec .done (some c)) W) W1 hl1
      (fun s A B row hs hg' hr => ⟨hI s A B row hs.1 hg' fun b eb => ?_, hs.2.own hg' fun b eb => (hr b eb).2⟩)
      (fun s A B row hs hg' hr => ?_)
      (fun s A B hs c => ⟨hIZ s A B hs.1 c, hs.2.chg c hZ⟩) (fun s A B hs c => by obtain ⟨k, h1, h2⟩ := hs; exact ⟨k, hIxZ k s A B h1 c, h2.chg c hZ⟩) ?_ ⟨hI1, hbk⟩).mono ?_
    · obtain ⟨hb, o, ho, hw⟩ := hr b eb
      exact ⟨by omega, o, ho, Obj.not_cells_of_walk hw⟩
    · obtain ⟨c, h1, h2⟩ := hs
      refine ⟨c, hIx c s A B row h1 hg' fun b eb => ?_, h2.own hg' fun b eb => (hr b eb).2⟩
      obtain ⟨hb, o, ho, hw⟩ := hr b eb
      exact ⟨by omega, o, ho, Obj.not_cells_of_walk hw⟩
    · -- a round
      rintro m pre x V ⟨hi, hb⟩ hlen
      have hy := run_yield (P := Try.prog) (args := encP x) hb.2 (by rw [hrec]; rfl)
      rw [hrec] at hy
      dsimp only at hy
      rw [hz x] at hy
      refine YieldAt.anyDepth (m := 1) rfl m ⟨fn, _, assign, body, hy, roundIn_of_wpIn hfn (hassign _ x V _ ?_)⟩
      have la : Later V (V.alloc (.cells #[.int .i64 x.1, .int .i64 x.2] 27)) := (Later.refl V).alloc _
      have hb2 := hb.keep (kf_later la)
      have hi2 := hI.alloc (.cells #[.int .i64 x.1, .int .i64 x.2] 27) hi
      have bx := Boxed2.new V (.int .i64 x.1) (.int .i64 x.2)
      have hsV := hsz _ _ hi
      generalize V.alloc (.cells #[.int .i64 x.1, .int .i64 x.2] 27) = Va at la hb2 hi2 bx ⊢
      obtain ⟨r2, hr2⟩ : ∃ r2, ({ rec .ready none with state := .busy } : Loop) = r2 := ⟨_, rfl⟩
      refine ⟨_, run_beginRound hb2.2 (by rw [hrec]), ?_⟩
      rw [hr2]
      have hb3 := hb2.turn r2
      have hi3 := hI.putObj (.loop r2) hi2 (by omega) hb2.2 rfl
      have bx3 : Boxed2 (Va.putObj (D + 1) (.loop r2)) V.heap.size (.int .i64 x.1) (.int .i64 x.2) := bx.kept (grownBy_putObj' _ _ _) (fun e' => by injection e' with e'; have h2 := hb2.2; rw [← e', show Va.heap[V.heap.size]? = _ from bx] at h2; cases h2)
      have c3 : Chg X V (Va.putObj (D + 1) (.loop r2)) := (Later.chg la).trans (chg_put _ _ _ (hX _ (by omega)))
      refine wpIn_mono (hbody _ pre x V.heap.size _ hi3 bx3 (by omega) hlen) ?_
      have fin : ∀ (jump : Option Code) (Vz : World), KeepsFrom D (Va.putObj (D + 1) (.loop r2)) Vz → Chg X (Va.putObj (D + 1) (.loop r2)) Vz →
          ∃ Vy, (Instr.endRound (D + 1) jump).run Try.prog Vz = .ok (.bool jump.isNone) Vy ∧ Vy = Vz.putObj (D + 1) (.loop (rec (if jump.isNone then .ready else .done) jump)) ∧ Books D (rec (if jump.isNone then .ready else .done) jump) Vy ∧ Chg X V Vy := fun jump Vz hk hc => by
        have hbz := hb3.keep hk
        have hrun := run_endRound (P := Try.prog) jump hbz.2
        have hr3 : ({ r2 with state := if jump.isNone then .ready else .done, pending := jump } : Loop) = rec (if jump.isNone then .ready else .done) jump := by rw [← hr2, hrec]
        rw [hr3] at hrun
        exact ⟨_, hrun, rfl, hbz.turn _, (c3.trans hc).trans (chg_put _ _ _ (hX _ (by omega)))⟩
      rintro ex az Vz hp
      cases ex with
      | normal =>
        obtain ⟨hk, hc, hi4⟩ := hp
        obtain ⟨Vy, hrun, hVy, hby, hcy⟩ := fin none Vz hk hc
        exact ⟨_, _, hrun, .inl ⟨rfl, ⟨by rw [hVy]; exact hI.putObj _ hi4 (by omega) (hb3.keep hk).2 rfl, hby⟩, hcy⟩⟩
      | ret =>
        obtain ⟨hk, hc, hi4⟩ := hp
        obtain ⟨Vy, hrun, hVy, hby, hcy⟩ := fin (some .ret) Vz hk hc
        exact ⟨_, _, hrun, .inr ⟨rfl, ⟨.ret, by rw [hVy]; exact (hIx _).putObj _ hi4 (by omega) (hb3.keep hk).2 rfl, hby⟩, hcy⟩⟩
      | exit id =>
        obtain ⟨hk, hc, hi4⟩ := hp
        obtain ⟨Vy, hrun, hVy, hby, hcy⟩ := fin (some (.exit id)) Vz hk hc
        exact ⟨_, _, hrun, .inr ⟨rfl, ⟨.exit id, by rw [hVy]; exact (hIx _).putObj _ hi4 (by omega) (hb3.keep hk).2 rfl, hby⟩, hcy⟩⟩
      | goto t => exact hp.elim
      | panic ch => exact hp.elim
      | outgrown => exact hp.elim
    · -- behind the function
      rintro ex V ⟨⟨v, rfl⟩, (⟨⟨hi, hb⟩, hgk⟩ | ⟨pre, hpre, ⟨c, hi, hb⟩, hgk⟩)⟩
      · have hrun := run_endLoop (P := Try.prog) hb.2 (by rw [hrec]; simp)
        refine ⟨none, _, by rw [hrec] at hrun; exact hrun, ?_⟩
        exact hdone D _ (Nat.le_refl _) ((World.putObj_heap_other (by omega)).trans hb.1) (hI.putObj _ hi (by omega) hb.2 rfl) (hG _ _ _ _ hgk (by omega))
      · have hrun := run_endLoop (P := Try.prog) hb.2 (by rw [hrec]; simp)
        rw [show (rec .done (some c)).pending = some c from by rw [hrec]] at hrun
        obtain ⟨Vx, hVx⟩ : ∃ Vx, V.putObj (D + 1) (.loop { rec .done (some c) with state := .exhausted, pending := some c }) = Vx := ⟨_, rfl⟩
        rw [hVx] at hrun
        refine ⟨some c, Vx, hrun, ?_⟩
        rcases hstop D c pre Vx (Nat.le_refl _) (by rw [← hVx]; exact (World.putObj_heap_other (by omega)).trans hb.1) hpre (by rw [← hVx]; exact (hIx c).putObj _ hi (by omega) hb.2 rfl) (by rw [← hVx]; exact hG _ _ _ _ hgk (by omega)) with ⟨rfl, hq⟩ | ⟨rfl, hq⟩
        · exact wpIn_ret hq
        · refine wpIn_exit ?_
          show (if e = e then _ else _ : Prop)
          rw [if_pos rfl]
          exact hq
end Go.Proofs.Yteledidnhjioaaa.Sh
namespace Go.Proofs.Yteledidnhjioaaa.Sh
open Go.RowKit Go.Lib Go.Proofs Go.Shelf
set_option linter.unusedVariables false
set_option linter.unusedSimpArgs false
attribute [local go_sem] Oper.semAt_some
/-- the three counts -/
def Seen (W : World) (N : Nat) (a b c : Int) : Prop := W.heap[N]? = some (.cells #[.int .i64 a, .int .i64 b, .int .i64 c] 23 (0, 0))
theorem Seen.lt {W : World} {N : Nat} {a b c : Int} (h : Seen W N a b c) : N < W.heap.size := (Array.getElem?_eq_some_iff.1 h).1
theorem Seen.cells {W : World} {N : Nat} {a b c : Int} (h : Seen W N a b c) : W.cell? ⟨N, 0, none⟩ = some (.int .i64 a) ∧ W.cell? ⟨N, 1, none⟩ = some (.int .i64 b) ∧ W.cell? ⟨N, 2, none⟩ = some (.int .i64 c) ∧ W.frozen? ⟨N, 0, none⟩ = false ∧ W.frozen? ⟨N, 1, none⟩ = false ∧ W.frozen? ⟨N, 2, none⟩ = false := by
  have h' : W.heap[N]? = _ := h
  simp [World.cell?, World.frozen?, h']
theorem Seen.later {W V : World} {N : Nat} {a b c : Int} (h : Seen W N a b c) (k : Later W V) : Seen V N a b c := (k.block N h.lt).trans h
theorem Seen.chg {X : Nat → Prop} {W V : World} {N : Nat} {a b c : Int} (h : Seen W N a b c) (k : Chg X W V) (hx : ¬ X N) : Seen V N a b c := (k.block N h.lt hx).trans h
theorem Seen.set0 {W : World} {N : Nat} {a b c : Int} (h : Seen W N a b c) (x : Int) : Seen (W.setCell ⟨N, 0, none⟩ (.int .i64 x)) N x b c := by
  have h' : W.heap[N]? = _ := h
  simp [Seen, World.setCell, Array.getElem?_modify, h']
theorem Seen.set1 {W : World} {N : Nat} {a b c : Int} (h : Seen W N a b c) (x : Int) : Seen (W.setCell ⟨N, 1, none⟩ (.int .i64 x)) N a x c := by
  have h' : W.heap[N]? = _ := h
  simp [Seen, World.setCell, Array.getElem?_modify, h']
theorem Seen.set2 {W : World} {N : Nat} {a b c : Int} (h : Seen W N a b c) (x : Int) : Seen (W.setCell ⟨N, 2, none⟩ (.int .i64 x)) N a b x := by
  have h' : W.heap[N]? = _ := h
  simp [Seen, World.setCell, Array.getElem?_modify, h']
theorem Seen.put {W : World} {N l : Nat} {o : Obj} {a b c : Int} (h : Seen W N a b c) (hl : N ≠ l) : Seen (W.putObj l o) N a b c := (World.putObj_heap_other hl).trans h
theorem boxed_turn {X : Nat → Prop} {W V : World} {B : Nat} {t : TypeId} {v : Value} (h : Boxed W B t v) (k : Chg X W V) (hx : ¬ X B) : Boxed V B t v := (k.block B h.lt hx).trans h
theorem enters55 : ∀ args w, (callFunc 55 args).run Try.prog w = .ok (.enter 55 args) w := fun args w => enters_of Try.func55 (by kernel_rfl) rfl args w
abbrev listV (BP BL : Nat) : Value := .func (.func 55) #[] #[.pointer (some ⟨BP, 0, none⟩), .pointer (some ⟨BL, 0, none⟩)]
theorem list_any {w : World} {A : Option Addr} {n cap SN : Nat} : Calls Try.prog 13 #[.slice A n cap, .pointer (some ⟨SN, 0, none⟩)] w fun e V =>
    e = .returned (listV (w.heap.size + 1) w.heap.size) ∧ Later w V ∧ Boxed V w.heap.size 22 (.slice A n cap) ∧ Boxed V (w.heap.size + 1) 31 (.pointer (some ⟨SN, 0, none⟩)) := by
  have h1 := Boxed.new w 22 (.slice A n cap)
  have h2 := Boxed.new (w.alloc (.cells #[.slice A n cap] 22)) 31 (.pointer (some ⟨SN, 0, none⟩))
  rw [World.size_alloc] at h2
  have hl : Later w ((w.alloc (.cells #[.slice A n cap] 22)).alloc (.cells #[.pointer (some ⟨SN, 0, none⟩)] 31)) := ((Later.refl w).alloc _).alloc _
  go_enter Try.func13, Try.ntmps13
  go_wp2
  go_ret
  exact ⟨rfl, hl, h1.alloc _, h2⟩
theorem SliceAt.turn {X : Nat → Prop} {w0 W V : World} {A : Option Addr} {cap : Nat} {l : List (Int × Int)} (h : SliceAt w0 A cap l) (k : Later w0 W) (c : Chg X W V) (hx : ∀ f o, A = some ⟨f, o, none⟩ → f < w0.heap.size → ¬ X f) : SliceAt V A cap l :=
  ⟨h.1, h.2.1, fun i y hi => by
    obtain ⟨b, o, e, c0, c1⟩ := h.2.2 i y hi
    have hlt := cell_lt c0
    exact ⟨b, o, e, c.cell (k.cell c0) (hx b o e hlt), c.cell (k.cell c1) (hx b o e hlt)⟩⟩
set_option maxRecDepth 100000 in
set_option maxHeartbeats 8000000 in
theorem list_seq {X : Nat → Prop} {l : List (Int × Int)} {w0 : World} {A : Option Addr} {cap BL BP SN : Nat} {a b c : Int} (hl : SliceAt w0 A cap l) (bL : Boxed w0 BL 22 (.slice A l.length cap)) (bP : Boxed w0 BP 31 (.pointer (some ⟨SN, 0, none⟩))) (hs : Seen w0 SN a b c)
    (xL : ¬ X BL) (xP : ¬ X BP) (xS : ¬ X SN) (xA : ∀ f o, A = some ⟨f, o, none⟩ → l ≠ [] → f < w0.heap.size → ¬ X f ∧ f ≠ SN) (ha : 0 ≤ a ∧ a ≤ 1000) (hb : 0 ≤ b ∧ b ≤ 1000) (hc : 0 ≤ c ∧ c ≤ 1000000000000000) (hz : l.length ≤ 14000000000000) :
    SeqW X (only SN) 55 #[.pointer (some ⟨BP, 0, none⟩), .pointer (some ⟨BL, 0, none⟩)] l (fun k V => Seen V SN (a + 1) (b + 1) (c + k)) w0 := by
  intro n lp J Jx W hW hJ hJx hJz hJxz hY h0
  have eLS : BL ≠ SN := fun e => by have h1 : w0.heap[BL]? = _ := bL; rw [e, show w0.heap[SN]? = _ from hs] at h1; cases h1
  have ePS : BP ≠ SN := fun e => by have h1 : w0.heap[BP]? = _ := bP; rw [e, show w0.heap[SN]? = _ from hs] at h1; cases h1
  have hcap := hl.1
  have hsW := hs.later hW
  have bLW := bL.kept hW.grown (fun e => by cases e)
  have bPW := bP.kept hW.grown (fun e => by cases e)
  show CallsIn FW n Try.prog 55 #[.func (.yield lp) #[] #[], .pointer (some ⟨BP, 0, none⟩), .pointer (some ⟨BL, 0, none⟩)] W _
  refine callsIn_of_wp Try.func55 rfl trivial ?_ rfl
  simp only [Try.ntmps55, List.size_toArray, List.length_cons, List.length_nil, Nat.reduceAdd, Nat.reduceSub, Array.replicate_succ, Array.replicate_zero, List.push_toArray, List.append_toArray, List.nil_append, List.cons_append]
  have q0 := hsW.cells
  have p0 := bPW.cell
  gi_wp2
  refine wpIn_wide.2 ?_
  go_still_tail 7, (by kernel_rfl)
  change wpList _ _ _ _ _ W.drew
  rw [show IntKind.i64.wrap (a + 1) = a + 1 from by rw [IntKind.wrap_i64]; omega]
  have hsd : Seen W.drew SN a b c := hsW
  have q1 := hsd.cells
  clear q0
  have c1 : Chg (only SN) W (W.setCell ⟨SN, 0, none⟩ (.int .i64 (a + 1))).drew := (Chg.set (X := only SN) _ _ rfl).trans (Later.chg (Later.drew (Later.refl _)))
  have h1 := hJz _ _ _ h0 c1
  have s1 : Seen (W.setCell ⟨SN, 0, none⟩ (.int .i64 (a + 1))).drew SN (a + 1) b c := hsW.set0 (a + 1)
  go_wp2
  generalize (W.setCell ⟨SN, 0, none⟩ (.int .i64 (a + 1))).drew = W1 at c1 h1 s1 ⊢
  obtain ⟨Y, hYd⟩ : ∃ Y : Nat → Prop, Y = fun b => X b ∨ b = SN := ⟨_, rfl⟩
  have xY : ∀ b, X b → Y b := fun b h => by rw [hYd]; exact .inl h
  have sY : ∀ b, only SN b → Y b := fun b h => by rw [hYd]; exact .inr h
  have nL : ¬ Y BL := by rw [hYd]; exact fun h => h.elim xL eLS
  have nP : ¬ Y BP := by rw [hYd]; exact fun h => h.elim xP ePS
  have nA : ∀ f o, A = some ⟨f, o, none⟩ → l ≠ [] → f < w0.heap.size → ¬ Y f := fun f o e h0 h => by rw [hYd]; exact fun k => k.elim (xA f o e h0 h).1 (xA f o e h0 h).2
  have cY := c1.mono sY
  clear q1 p0 c1 hYd
  gi_wp2
  gi_loopw [4] (fun i wr => ∃ k : Nat, k ≤ l.length ∧ i = .int .i64 k ∧ J (l.take k) wr ∧ Seen wr SN (a + 1) b (c + k) ∧ Chg Y W wr) (fun i _ => l.length - (intOf i).toNat)
  case atStart => exact ⟨0, Nat.zero_le _, rfl, h1, by simpa using s1, cY⟩
  case round =>
    obtain ⟨k, hk, rfl, hj, hs1, hc1⟩ := hrel
    have cL := (boxed_turn bLW hc1 nL).cell
    have cP := (boxed_turn bPW hc1 nP).cell
    by_cases hlt : k < l.length
    · obtain ⟨x, hx⟩ : ∃ x, l[k]? = some x := ⟨_, List.getElem?_eq_getElem hlt⟩
      have q0 := hs1.cells
      gi_wp2
      refine wpIn_wide.2 ?_
      go_still_tail 7, (by kernel_rfl)
      change wpList _ _ _ _ _ wr.drew
      rw [show IntKind.i64.wrap (c + (k : Int) + 1) = c + (k : Int) + 1 from by rw [IntKind.wrap_i64]; omega]
      have hsd : Seen wr.drew SN (a + 1) b (c + k) := hs1
      have q1 := hsd.cells
      clear q0 cL cP
      have c2 : Chg (only SN) wr (wr.setCell ⟨SN, 2, none⟩ (.int .i64 (c + (k : Int) + 1))).drew := (Chg.set (X := only SN) _ _ rfl).trans (Later.chg (Later.drew (Later.refl _)))
      have h2 := hJz _ _ _ hj c2
      have s2 : Seen (wr.setCell ⟨SN, 2, none⟩ (.int .i64 (c + (k : Int) + 1))).drew SN (a + 1) b (c + (k : Int) + 1) := hs1.set2 (c + (k : Int) + 1)
      go_wp2
      generalize (wr.setCell ⟨SN, 2, none⟩ (.int .i64 (c + (k : Int) + 1))).drew = W2 at c2 h2 s2 ⊢
      have hc2 := hc1.trans (c2.mono sY)
      have cL := (boxed_turn bLW hc2 nL).cell
      obtain ⟨f, o, hA, k0, k1⟩ := (hl.turn hW hc2 (fun f o e h => nA f o e (fun e0 => by rw [e0] at hx; simp at hx) h)).2.2 _ _ hx
      subst hA
      have hyy : ∀ m, YieldAt FW m Try.prog lp #[.agg #[.int .i64 x.1, .int .i64 x.2]] W2 fun e V => (e = .returned (.bool true) ∧ J (l.take (k + 1)) V ∧ Chg X W2 V) ∨ (e = .returned (.bool false) ∧ Jx (l.take (k + 1)) V ∧ Chg X W2 V) := fun m => by
        have := hY m (l.take k) x W2 h2 (by rw [List.length_take_of_le hk]; exact hlt)
        rw [← take_snoc hx] at this
        exact this
      clear hx hY q1
      gi_wp2
      obtain ⟨fn, tmps, assign, body, hy, hR⟩ := hyy (n - 1)
      clear hyy
      rw [hy]
      refine ⟨fun h => (by cases h), ?_⟩
      refine hR.mono ?_
      clear hR hy
      rintro e V (⟨rfl, hj3, hc3⟩ | ⟨rfl, hx3, hc3⟩)
      · have s3 := s2.chg hc3 xS
        gi_wp2
        go_roundw
        case rel => exact ⟨k + 1, by omega, by go_num, hj3, by rw [show c + ((k + 1 : Nat) : Int) = c + (k : Int) + 1 by omega]; exact s3, hc2.trans (hc3.mono xY)⟩
        case measure => simp [intOf]; omega
      · have s3 := s2.chg hc3 xS
        have hc4 := hc2.trans (hc3.mono xY)
        have p1 := (boxed_turn bPW hc4 nP).cell
        have q1 := s3.cells
        gi_wp2
        refine wpIn_wide.2 ?_
        go_still_tail 7, (by kernel_rfl)
        change wpList _ _ _ _ _ V.drew
        rw [show IntKind.i64.wrap (b + 1) = b + 1 from by rw [IntKind.wrap_i64]; omega]
        have c5 : Chg (only SN) V (V.setCell ⟨SN, 1, none⟩ (.int .i64 (b + 1))).drew := (Chg.set (X := only SN) _ _ rfl).trans (Later.chg (Later.drew (Later.refl _)))
        have h5 := hJxz _ _ _ hx3 c5
        have s5 : Seen (V.setCell ⟨SN, 1, none⟩ (.int .i64 (b + 1))).drew SN (a + 1) (b + 1) (c + (k : Int) + 1) := s3.set1 (b + 1)
        have q2 : Seen V.drew SN (a + 1) b (c + (k : Int) + 1) := s3
        have q3 := q2.cells
        go_wp2
        generalize (V.setCell ⟨SN, 1, none⟩ (.int .i64 (b + 1))).drew = V5 at h5 s5 ⊢
        go_end0
        refine ⟨⟨_, rfl⟩, .inr ⟨l.take (k + 1), List.take_prefix _ _, h5, ?_⟩⟩
        rw [List.length_take_of_le (by omega), show c + ((k + 1 : Nat) : Int) = c + (k : Int) + 1 by omega]
        exact s5
    · obtain rfl : k = l.length := by omega
      have q1 := hs1.cells
      gi_wp2
      refine wpIn_wide.2 ?_
      go_still_tail 7, (by kernel_rfl)
      change wpList _ _ _ _ _ wr.drew
      rw [show IntKind.i64.wrap (b + 1) = b + 1 from by rw [IntKind.wrap_i64]; omega]
      have c5 : Chg (only SN) wr (wr.setCell ⟨SN, 1, none⟩ (.int .i64 (b + 1))).drew := (Chg.set (X := only SN) _ _ rfl).trans (Later.chg (Later.drew (Later.refl _)))
      have h5 := hJz _ _ _ hj c5
      have s5 : Seen (wr.setCell ⟨SN, 1, none⟩ (.int .i64 (b + 1))).drew SN (a + 1) (b + 1) (c + (l.length : Nat)) := hs1.set1 (b + 1)
      have q2 : Seen wr.drew SN (a + 1) b (c + (l.length : Nat)) := hs1
      have q3 := q2.cells
      go_wp2
      generalize (wr.setCell ⟨SN, 1, none⟩ (.int .i64 (b + 1))).drew = V5 at h5 s5 ⊢
      go_end0
      rw [List.take_length] at h5
      exact ⟨⟨_, rfl⟩, .inl ⟨h5, s5⟩⟩
end Go.Proofs.Yteledidnhjioaaa.Sh
