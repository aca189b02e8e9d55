import Derived.Test.YteledidnhjioaaaShK
import Derived.Shelf.RegionOpen
import Derived.OrdersIn
import Derived.Deep.Quiet
import Derived.Deep.QuietTactic
import Derived.BigQuiet
import Derived.StillTailTactics
namespace Go.Proofs.Yteledidnhjioaaa.Sh
open Go.RowKit Go.Lib Go.Proofs Go.Shelf
set_option linter.unusedVariables false
/-! ### a region that draws its order, in a round: what is shown of it outside holds within -/
def noDefer (ops : Array Oper) : Bool := ops.all fun o => match o.op with | .defer _ => false | _ => true
theorem noDefer_at {ops : Array Oper} (h : noDefer ops = true) {i : Nat} {o : Oper} (ho : ops[i]? = some o) : ∀ c, o.op ≠ .defer c := by
  intro c hc
  obtain ⟨hi, rfl⟩ := Array.getElem?_eq_some_iff.1 ho
  have := (Array.all_eq_true.1 h) i hi
  rw [hc] at this
  cases this
theorem op_round {P : Program} {ops : Array Oper} {Q : Exit → Act → World → Prop} {l n i : Nat} {K K' : Act → World → Prop} {a : Act} {w : World} (hd : noDefer ops = true) (hQ : ¬ LetsOut Q) (hk : ∀ a w, K a w → K' a w)
    (h : wpOp P ops Q i K a w) : wpOpIn (Fence.wide.inRound l) n P ops Q i K' a w := by
  unfold wpOp at h
  unfold wpOpIn
  cases ho : ops[i]? with
  | none => rw [ho] at h; exact hk _ _ h
  | some o =>
    rw [ho] at h
    dsimp only at h ⊢
    by_cases hw : Region.wanted o (yielded ops a.tmps) = true
    · rw [if_pos hw] at h ⊢
      have h' := h.resolve_right fun k => hQ k.2
      refine ⟨fun _ _ => trivial, ?_⟩
      have e : (Oper.semAt (Fence.wide.inRound l).round a.eval o) = execOp a.eval o := Oper.semAt_some l _ _ (noDefer_at hd ho)
      rw [e]
      unfold Oper.wp at h'
      generalize (execOp a.eval o).run P w = r at h' ⊢
      cases r with
      | ok x w' =>
        cases x <;> simp only [Oper.upon, Oper.uponIn] at h' ⊢ <;>
          first
            | exact hk _ _ h'
            | exact ⟨fun k => (by cases k), (callsIn_wide.2 (h'.mono (fun e w'' he => by cases e <;> first | exact hk _ _ he | exact he)))⟩
            | exact ⟨fun k => (by cases k), fun c cs _ => let ⟨v, w', r, s⟩ := (h'.mono (fun _ _ he => hk _ _ he)) c cs; ⟨v, w', r, stepsIn_wide.2 s⟩⟩
            | exact h'.elim
      | halt x w' => cases x <;> simp only [Oper.upon, Oper.uponIn] at h' ⊢ <;> exact h'
    · rw [if_neg hw] at h ⊢
      exact ⟨fun _ _ => trivial, hk _ _ h⟩
theorem any_round {P : Program} {ops : Array Oper} {Q : Exit → Act → World → Prop} {md : Region.Mode} {l n : Nat} (hd : noDefer ops = true) (hQ : ¬ LetsOut Q) : ∀ (fuel : Nat) (listed : Array Bool) (a : Act) (w : World), wpAny P md ops Q fuel listed a w → wpAnyIn (Fence.wide.inRound l) n P md ops Q fuel listed a w
  | 0, _, _, _, h => h
  | fuel + 1, _, _, _, h => ⟨h.1, fun i hi => op_round hd hQ (fun a w k => any_round hd hQ fuel _ a w k) (h.2 i hi)⟩
theorem region_round_quiet {P : Program} {id l n : Nat} {Q : Exit → Act → World → Prop} {a : Act} {w : World} {o : List Oper} (hm : P.follows .mixedOrders = true) (hB : Region.lexB .any o.toArray = true) (hd : noDefer o.toArray = true) (hQ : ¬ LetsOut Q)
    (h : wpQuiet P o.toArray (fun w' => ∃ n, w' = w.drewN n) (fun a' => ∀ w', (∃ n, w' = w.drewN n) → Q .normal a' w') o a) : (Code.region id o.toArray true).wpIn (Fence.wide.inRound l) n P Q a w := by
  refine wpIn_region_any hm (any_round hd hQ _ _ _ _ ?_)
  simp only [Region.lexB, Bool.and_eq_true] at hB
  refine wpAny_of_quiet (C := fun w' => ∃ n, w' = w.drewN n) (Q := fun a' => ∀ w', (∃ n, w' = w.drewN n) → Q .normal a' w') (fun _ w' hw' h => h w' hw') _ _ _ _ ⟨1, rfl⟩ ?_
  have := wpAnyQ_lex (C := fun w' => ∃ n, w' = w.drewN n) (md := .any) hB.1 o 0 (Array.replicate o.toArray.size false) a (by simp) (by simpa using hB.2) h
  simpa using this
theorem region_round_held {P : Program} {id l n : Nat} {Q : Exit → Act → World → Prop} {a : Act} {w : World} {ops : Array Oper} (S : World → Prop) (hm : P.follows .mixedOrders = true) (hd : noDefer ops = true) (hQ : ¬ LetsOut Q) (hS : S w.drew)
    (h : S w.drew → wpAnyH P .any ops Q S ops.size (Array.replicate ops.size false) a w.drew) : (Code.region id ops true).wpIn (Fence.wide.inRound l) n P Q a w :=
  wpIn_region_any hm (any_round hd hQ _ _ _ _ (wpAny_of_held _ _ _ _ (h hS)))
/-! ### a region that draws its order, whose loads and calls keep a class of worlds -/
theorem region_class {P : Program} {id : Nat} {Q : Exit → Act → World → Prop} {a : Act} {w : World} {o : List Oper} (Good : World → Prop) (hm : P.follows .mixedOrders = true) (hB : Region.lexB .any o.toArray = true) (hG : Good w.drew)
    (h : wpQuiet P o.toArray (fun w' => ∃ p : {W' : World // Good W'}, w' = p.1) (fun a' => ∀ w', Good w' → Q .normal a' w') o a) : (Code.region id o.toArray true).wp P Q a w :=
  wp_region_quiet (C := fun w' => ∃ p : {W' : World // Good W'}, w' = p.1) hm hB ⟨⟨w.drew, hG⟩, rfl⟩ (by
    have : (fun a' => ∀ w', (∃ p : {W' : World // Good W'}, w' = p.1) → Q .normal a' w') = (fun a' => ∀ w', Good w' → Q .normal a' w') := by
      funext a'
      exact propext ⟨fun k w' g => k w' ⟨⟨w', g⟩, rfl⟩, fun k w' ⟨p, e⟩ => e ▸ k p.1 p.2⟩
    rw [this]
    exact h)
theorem region_round_class {P : Program} {id l n : Nat} {Q : Exit → Act → World → Prop} {a : Act} {w : World} {o : List Oper} (Good : World → Prop) (hm : P.follows .mixedOrders = true) (hB : Region.lexB .any o.toArray = true) (hd : noDefer o.toArray = true) (hQ : ¬ LetsOut Q) (hG : Good w.drew)
    (h : wpQuiet P o.toArray (fun w' => ∃ p : {W' : World // Good W'}, w' = p.1) (fun a' => ∀ w', Good w' → Q .normal a' w') o a) : (Code.region id o.toArray true).wpIn (Fence.wide.inRound l) n P Q a w := by
  refine wpIn_region_any hm (any_round hd hQ _ _ _ _ ?_)
  simp only [Region.lexB, Bool.and_eq_true] at hB
  refine wpAny_of_quiet (C := fun w' => ∃ p : {W' : World // Good W'}, w' = p.1) (Q := fun a' => ∀ w', Good w' → Q .normal a' w') (fun _ w' ⟨p, e⟩ h => h w' (e ▸ p.2)) _ _ _ _ ⟨⟨w.drew, hG⟩, rfl⟩ ?_
  have := wpAnyQ_lex (C := fun w' => ∃ p : {W' : World // Good W'}, w' = p.1) (md := .any) hB.1 o 0 (Array.replicate o.toArray.size false) a (by simp) (by simpa using hB.2) h
  simpa using this
end Go.Proofs.Yteledidnhjioaaa.Sh
namespace Go.Proofs.Yteledidnhjioaaa.Sh
open Go.RowKit Go.Lib Go.Proofs Go.Shelf
set_option linter.unusedVariables false
/-- a world of a class -/
structure InG (G : World → Prop) where
  W : World
  h : G W
/-- a region that draws its order, whose loads and calls keep a class of worlds -/
theorem region_in {P : Program} {id : Nat} {Q : Exit → Act → World → Prop} {a : Act} {w : World} {o : List Oper} (Good : World → Prop) (hm : P.follows .mixedOrders = true) (hB : Region.lexB .any o.toArray = true) (hG : Good w.drew)
    (h : wpQuiet P o.toArray (fun w' => ∃ p : InG Good, w' = p.W) (fun a' => ∀ w', Good w' → Q .normal a' w') o a) : (Code.region id o.toArray true).wp P Q a w :=
  wp_region_quiet (C := fun w' => ∃ p : InG Good, w' = p.W) hm hB ⟨⟨w.drew, hG⟩, rfl⟩ (by
    have : (fun a' => ∀ w', (∃ p : InG Good, w' = p.W) → Q .normal a' w') = (fun a' => ∀ w', Good w' → Q .normal a' w') := by
      funext a'
      exact propext ⟨fun k w' g => k w' ⟨⟨w', g⟩, rfl⟩, fun k w' ⟨p, e⟩ => e ▸ k p.W p.h⟩
    rw [this]
    exact h)
theorem region_round_in {P : Program} {id l n : Nat} {Q : Exit → Act → World → Prop} {a : Act} {w : World} {o : List Oper} (Good : World → Prop) (hm : P.follows .mixedOrders = true) (hB : Region.lexB .any o.toArray = true) (hd : noDefer o.toArray = true) (hQ : ¬ LetsOut Q) (hG : Good w.drew)
    (h : wpQuiet P o.toArray (fun w' => ∃ p : InG Good, w' = p.W) (fun a' => ∀ w', Good w' → Q .normal a' w') o a) : (Code.region id o.toArray true).wpIn (Fence.wide.inRound l) n P Q a w := by
  refine wpIn_region_any hm (any_round hd hQ _ _ _ _ ?_)
  simp only [Region.lexB, Bool.and_eq_true] at hB
  refine wpAny_of_quiet (C := fun w' => ∃ p : InG Good, w' = p.W) (Q := fun a' => ∀ w', Good w' → Q .normal a' w') (fun _ w' ⟨p, e⟩ h => h w' (e ▸ p.h)) _ _ _ _ ⟨⟨w.drew, hG⟩, rfl⟩ ?_
  have := wpAnyQ_lex (C := fun w' => ∃ p : InG Good, w' = p.W) (md := .any) hB.1 o 0 (Array.replicate o.toArray.size false) a (by simp) (by simpa using hB.2) h
  simpa using this
end Go.Proofs.Yteledidnhjioaaa.Sh
namespace Go.Proofs.Yteledidnhjioaaa.Sh
open Go.RowKit Go.Lib Go.Proofs Go.Shelf
set_option linter.unusedVariables false
set_option linter.unusedSimpArgs false
/-! ### a region that draws its order: what only reads, then a tail in its own order: in the fenced form, which knows a call of yield -/
theorem opIn_of_st {P : Program} {ops : Array Oper} {Q : Exit → Act → World → Prop} {n i : Nat} {a : Act} {w : World} {K : Act → Prop} {K' : Act → World → Prop} (h : ∀ a, K a → K' a w) (hh : stOp P ops w i K a) : wpOpIn Fence.wide n P ops Q i K' a w := by
  unfold stOp at hh
  unfold wpOpIn
  cases ho : ops[i]? with
  | none => rw [ho] at hh; exact h _ hh
  | some o =>
    rw [ho] at hh
    dsimp only at hh ⊢
    by_cases hw : Region.wanted o (yielded ops a.tmps) = true
    · rw [if_pos hw] at hh ⊢
      refine ⟨fun _ _ => trivial, ?_⟩
      have e : Oper.semAt Fence.wide.round a.eval o = execOp a.eval o := rfl
      rw [e]
      unfold Oper.still at hh
      generalize (execOp a.eval o).run P w = r at hh ⊢
      cases r with
      | ok x w' =>
        cases x <;> simp only [Oper.stillUpon] at hh <;> simp only [Oper.uponIn]
        case enter f args =>
          obtain ⟨rfl, v, hc, hn⟩ := hh
          exact ⟨fun k => (by cases k), callsIn_wide.2 (hc.mono fun e w'' ⟨he, hw⟩ => by subst he; subst hw; exact h _ hn)⟩
        all_goals (obtain ⟨rfl, h2⟩ := hh; exact h _ h2)
      | halt x w' => simp only [Oper.stillUpon] at hh
    · rw [if_neg hw] at hh ⊢
      exact ⟨fun _ _ => trivial, h _ hh⟩
theorem anyIn_of_head {P : Program} {md : Region.Mode} {ops : Array Oper} {w : World} {m n g : Nat} {L : Array Bool → Act → Prop} {Q' : Exit → Act → World → Prop} (hL : ∀ listed a, L listed a → wpAnyIn Fence.wide m P md ops Q' g listed a w) :
    ∀ (f : Nat) (listed : Array Bool) (a : Act), wpAnyL P md ops w n L f listed a → wpAnyIn Fence.wide m P md ops Q' (f + g) listed a w
  | 0, listed, a, h => by rw [Nat.zero_add]; exact hL _ _ h
  | f + 1, listed, a, h => by
    rw [show f + 1 + g = (f + g) + 1 by omega]
    exact ⟨fun h0 => absurd h0 h.1, fun i hi => opIn_of_st (fun a' h' => anyIn_of_head hL f _ a' h') (h.2 i hi).2⟩
theorem anyIn_of_seq {P : Program} {md : Region.Mode} {ops : Array Oper} {m : Nat} {Q' : Exit → Act → World → Prop} : ∀ (l : List Oper) (k : Nat) (listed : Array Bool) (a : Act) (w : World), (∀ j, l[j]? = ops[k + j]?) →
    Region.seqB md ops l.length k listed = true → wpListIn Fence.wide m P ops Q' l a w → wpAnyIn Fence.wide m P md ops Q' l.length listed a w
  | [], _, _, _, _, _, hB, h => ⟨by simpa [Region.seqB] using hB, h⟩
  | o :: l, k, listed, a, w, hl, hB, h => by
    have h0 : ops[k]? = some o := by simpa using (hl 0).symm
    simp only [List.length_cons, Region.seqB, Bool.and_eq_true, decide_eq_true_eq] at hB
    refine ⟨fun h1 => (by rw [hB.1] at h1; cases h1), fun i hi => ?_⟩
    rw [hB.1] at hi
    have hik : i = k := by simpa using hi
    subst hik
    have hw : wpOpIn Fence.wide m P ops Q' i (wpListIn Fence.wide m P ops Q' l) a w := by unfold wpOpIn; simp only [h0]; exact h
    exact wpOpIn_mono (fun a' w' h' => anyIn_of_seq l (i + 1) _ a' w' (fun j => by have := hl (j + 1); simpa [Nat.add_assoc, Nat.add_comm 1 j] using this) hB.2 h') hw
theorem region_yield_tail {P : Program} {id m : Nat} {Q : Exit → Act → World → Prop} {a : Act} {w : World} {l : List Oper} (n : Nat) (hm : P.follows .mixedOrders = true) (hB : Region.lexTailB .any l.toArray n = true)
    (h : wpStill P l.toArray w.drew (fun a' => wpListIn Fence.wide m P l.toArray Q (l.drop n) a' w.drew) (l.take n) a) : (Code.region id l.toArray true).wp P Q a w := by
  simp only [Region.lexTailB, Bool.and_eq_true, decide_eq_true_eq] at hB
  obtain ⟨⟨⟨⟨hsel, hn⟩, hs⟩, hc⟩, hlex⟩ := hB
  have hn' : n < l.length := by simpa using hn
  have htl : (l.take n).length = n := by simp; omega
  have hdl : (l.drop n).length = l.toArray.size - n := by simp
  have inv0 : HeadInv .any l.toArray n (Array.replicate l.toArray.size false) :=
    ⟨by simp, fun j oj _ hl => (by rw [getD_replicate_false] at hl; cases hl), fun t _ ht => getD_in (by simpa using ht) (getD_replicate_false _ _)⟩
  have H := wpAnyL_lex (md := .any) (g := l.toArray.size - n) hsel hs hc hn (l.take n) 0 _ a (fun j hj => by
    have hj' : j < n := by rw [htl] at hj; exact hj
    simp [hj']) (by simpa using htl) inv0 (by rw [htl]; exact hlex) h
  refine (wpIn_wide (n := m)).1 (wpIn_region_any hm ?_)
  have := anyIn_of_head (Q' := Q) (m := m) (g := l.toArray.size - n) (fun listed a' hL => by
    have := anyIn_of_seq (md := .any) (Q' := Q) (m := m) (l.drop n) n listed a' w.drew (fun j => by simp [List.getElem?_drop]) (by rw [hdl]; exact hL.1) hL.2
    rwa [hdl] at this) _ _ _ H
  rw [htl, show n + (l.toArray.size - n) = l.toArray.size by omega] at this
  exact this
end Go.Proofs.Yteledidnhjioaaa.Sh
namespace Go.Proofs.Yteledidnhjioaaa.Sh
open Go.RowKit Go.Lib Go.Proofs Go.Shelf
set_option linter.unusedVariables false
set_option linter.unusedSimpArgs false
attribute [local go_sem] Oper.semAt_some
/-- a slice of Pairs, as it is read -/
def SliceAt (W : World) (A : Option Addr) (cap : Nat) (l : List (Int × Int)) : Prop :=
  l.length ≤ cap ∧ l.length ≤ 4611686018427387904 ∧ ∀ i x, l[i]? = some x → ∃ b o, A = some ⟨b, o, none⟩ ∧ W.cell? ⟨b, o + i * 2, none⟩ = some (.int .i64 x.1) ∧ W.cell? ⟨b, o + i * 2 + 1, none⟩ = some (.int .i64 x.2)
theorem SliceAt.later {W W' : World} {A : Option Addr} {cap : Nat} {l : List (Int × Int)} (h : SliceAt W A cap l) (k : Later W W') : SliceAt W' A cap l :=
  ⟨h.1, h.2.1, fun i x hi => by obtain ⟨b, o, ha, h0, h1⟩ := h.2.2 i x hi; exact ⟨b, o, ha, k.cell h0, k.cell h1⟩⟩
theorem prefix_snoc {α : Type} {pre want : List α} {x : α} (h : pre <+: want) (hx : want[pre.length]? = some x) : pre ++ [x] <+: want := by
  obtain ⟨r, rfl⟩ := h
  rw [List.getElem?_append_right (Nat.le_refl _), Nat.sub_self] at hx
  cases r with
  | nil => simp at hx
  | cons y r => simp at hx; subst hx; exact ⟨r, by simp⟩
theorem prefix_snoc_iff {α : Type} {pre want : List α} {x : α} (h : pre ++ [x] <+: want) : want[pre.length]? = some x := by
  obtain ⟨r, rfl⟩ := h
  simp
/-- all that comes to lie -/
abbrev fresh (w : World) : Nat → Prop := fun b => w.heap.size ≤ b
theorem chg_below {w A B : World} (h : Chg (fresh w) A B) (hs : w.heap.size ≤ A.heap.size) : Below w.heap.size A B :=
  ⟨h.os, h.tape, h.output, h.size, fun k hk => h.block k (by omega) (fun e => by have : w.heap.size ≤ k := e; omega)⟩
theorem below_chg {w A B : World} (h : Below w.heap.size A B) : Chg (fresh w) A B :=
  ⟨h.os, h.tape, h.output, h.size, fun k _ hx => h.block k (by have : ¬ w.heap.size ≤ k := hx; omega)⟩
theorem fresh_t {w A B C : World} (h : Chg (fresh w) A B) (k : Chg (fresh w) B C) : Chg (fresh w) A C := h.trans k
theorem fresh_b {w w' : World} (hw : w.heap.size ≤ w'.heap.size) (W : World) (l : Nat) (o o' : Obj) (hl : w'.heap.size ≤ l) (h : W.heap[l]? = some o) (_ : o.isCells = false) (_ : o.isWalk = false) : Chg (fresh w) W (W.putObj l o') :=
  have hg := grownBy_putObj' W l o'
  ⟨hg.os, hg.tape, hg.output, hg.size, fun k hk hx => hg.block k hk (fun e => by cases e; exact hx (Nat.le_trans hw hl))⟩
/-- a block of two cells -/
def Boxed2 (W : World) (B : Nat) (u v : Value) : Prop := W.heap[B]? = some (.cells #[u, v] 27 (0, 0))
theorem Boxed2.lt {W : World} {B : Nat} {u v : Value} (h : Boxed2 W B u v) : B < W.heap.size := (Array.getElem?_eq_some_iff.1 h).1
theorem Boxed2.cells {W : World} {B : Nat} {u v : Value} (h : Boxed2 W B u v) : W.cell? ⟨B, 0, none⟩ = some u ∧ W.cell? ⟨B, 1, none⟩ = some v ∧ W.frozen? ⟨B, 0, none⟩ = false ∧ W.frozen? ⟨B, 1, none⟩ = false := by
  have h' : W.heap[B]? = some (.cells #[u, v] 27 (0, 0)) := h
  simp [World.cell?, World.frozen?, h']
theorem Boxed2.new (W : World) (u v : Value) : Boxed2 (W.alloc (.cells #[u, v] 27)) W.heap.size u v := World.alloc_heap_new W _
theorem Boxed2.kept {W W' : World} {row : Option Nat} {B : Nat} {u v : Value} (h : Boxed2 W B u v) (hg : W.grownBy W' row) (hne : some B ≠ row) : Boxed2 W' B u v := (hg.block B h.lt hne).trans h
theorem boxed2_own {β : Type} (B : Nat) (f g : β → Value) : Own (fun s W => Boxed2 W B (f s) (g s)) := fun s X Y row hs hg hrow =>
  hs.kept hg (fun e' => by obtain ⟨o, ho, hc⟩ := hrow B e'.symm; rw [show X.heap[B]? = _ from hs] at ho; cases ho; cases hc)
theorem kf_set (B : Nat) (W : World) (n b : Nat) (v : Value) : KeepsFrom B W ((W.drewN n).setCell ⟨b, 0, none⟩ v) :=
  KeepsFrom.trans (Y := W.drewN n) ⟨Nat.le_refl _, fun k o _ h _ => h⟩ ((KeepsOthers.setCell _ _ _).from _)
/-- in a round of told -/
abbrev toldI (w : World) (A : Option Addr) (cap : Nat) (want : List (Int × Int)) (pre : List (Int × Int)) (W : World) : Prop :=
  (((Boxed W w.heap.size 22 (.slice A want.length cap) ∧ Boxed W (w.heap.size + 1 + 1) 3 (.int .i64 pre.length)) ∧ Boxed W (w.heap.size + 1) 4 (.bool false)) ∧ Below w.heap.size w W) ∧ pre <+: want
abbrev toldX (w : World) (want : List (Int × Int)) (c : Code) (pre : List (Int × Int)) (W : World) : Prop :=
  (Boxed W (w.heap.size + 1) 4 (.bool false) ∧ Below w.heap.size w W) ∧ (c = .ret ∧ ¬ pre <+: want)
theorem toldI_own (w : World) (A : Option Addr) (cap : Nat) (want : List (Int × Int)) {B : Nat} (hB : w.heap.size ≤ B) : OwnFrom B (toldI w A cap want) :=
  OwnFrom.and (OwnFrom.and (OwnFrom.and (OwnFrom.and (Own.from (boxed_own _ _ _) _) (Own.from (boxed_own _ _ _) _)) (Own.from (boxed_own _ _ _) _)) (ownFrom_below (Nat.le_refl _) hB)) (ownFrom_pure _ _)
theorem toldX_own (w : World) (want : List (Int × Int)) (c : Code) {B : Nat} (hB : w.heap.size ≤ B) : OwnFrom B (toldX w want c) :=
  OwnFrom.and (OwnFrom.and (Own.from (boxed_own _ _ _) _) (ownFrom_below (Nat.le_refl _) hB)) (ownFrom_pure _ _)
set_option maxRecDepth 100000 in
set_option maxHeartbeats 8000000 in
theorem told_any {g : Nat} {lb : Array Value} {xs want : List (Int × Int)} {w : World} {A : Option Addr} {cap : Nat} (hseq : SeqT (fresh w) g lb xs w) (hg : ∀ args w, (callFunc g args).run Try.prog w = .ok (.enter g args) w) (hw : SliceAt w A cap want) (hx : xs.length ≤ 4611686018427387904) :
    Calls Try.prog 25 #[.func (.func g) #[] lb, .slice A want.length cap] w fun e w' => e = .returned (.bool (decide (xs = want))) ∧ Later w w' := by
  have hwl := hw.1
  have hwm := hw.2.1
  refine (callsIn_wide (n := 3)).1 ?_
  refine callsIn_of_wp_marks Try.func25 rfl trivial ?_ rfl
  simp only [Try.ntmps25, List.size_toArray, List.length_cons, List.length_nil, Nat.reduceAdd, Nat.reduceSub, Array.replicate_succ, Array.replicate_zero, List.push_toArray, List.append_toArray, List.nil_append, List.cons_append]
  gi_wp2
  have hB0 : Below w.heap.size w (((w.alloc (.cells #[.slice A want.length cap] 22)).alloc (.cells #[.bool false] 4)).alloc (.cells #[.int .i64 0] 3)) := (((Later.refl w).alloc _).alloc _).alloc _
  have bW := ((Boxed.new w 22 (.slice A want.length cap)).alloc (.cells #[.bool false] 4)).alloc (.cells #[.int .i64 0] 3)
  have bR := (Boxed.new (w.alloc (.cells #[.slice A want.length cap] 22)) 4 (.bool false)).alloc (.cells #[.int .i64 0] 3)
  have bN := Boxed.new ((w.alloc (.cells #[.slice A want.length cap] 22)).alloc (.cells #[.bool false] 4)) 3 (.int .i64 0)
  simp only [World.size_alloc] at bR bN
  have hsz : (((w.alloc (.cells #[.slice A want.length cap] 22)).alloc (.cells #[.bool false] 4)).alloc (.cells #[.int .i64 0] 3)).heap.size = w.heap.size + 3 := by simp
  generalize ((w.alloc (.cells #[.slice A want.length cap] 22)).alloc (.cells #[.bool false] 4)).alloc (.cells #[.int .i64 0] 3) = W0 at *
  refine wpIn_rangeFunc_ownH rfl (by omega) (gf := g) (lb := lb) rfl trivial hg
    (hseq 2) fresh_t (fresh_b (by omega)) hB0 (fun _ => rfl)
    (toldI w A cap want) (toldX w want) (toldI_own w A cap want (by omega)) (fun c => toldX_own w want c (by omega))
    ⟨⟨⟨⟨bW, bN⟩, bR⟩, hB0⟩, List.nil_prefix⟩
    (fun x a' W => ∃ Bx, w.heap.size + 1 + 1 < Bx ∧ Boxed2 W Bx (.int .i64 x.1) (.int .i64 x.2) ∧ a' = { tmps := #[.func (.func g) #[] lb, .slice A want.length cap, undef, .pointer (some ⟨w.heap.size, 0, none⟩), .pointer (some ⟨w.heap.size + 1, 0, none⟩), .pointer (some ⟨w.heap.size + 1 + 1, 0, none⟩), .pointer (some ⟨Bx, 0, none⟩), .func (.func g) #[] lb, .agg #[.int .i64 x.1, .int .i64 x.2], undef, undef, undef, undef, undef, undef, undef, undef, undef, undef, undef, undef, undef, undef, undef, undef, undef, undef], defers := [] })
    (fun x a' _ X Y row hs hg hr => by obtain ⟨Bx, h1, h2, h3⟩ := hs; exact ⟨Bx, h1, boxed2_own Bx (fun (_ : Unit) => Value.int .i64 x.1) (fun (_ : Unit) => Value.int .i64 x.2) () X Y row h2 hg (fun r e => (hr r e).2), h3⟩)
    ?assign ?body ?done ?stop
  case assign =>
    rintro l pre x W K ⟨⟨⟨⟨bW1, bN1⟩, bR1⟩, hB1⟩, hp⟩ hK
    gi_wp2
    exact hK _ _ ((KeepsOthers.alloc _ _).from _) (below_chg ((Below.refl _ W).alloc hB1.size _)) ⟨⟨⟨⟨bW1.alloc _, bN1.alloc _⟩, bR1.alloc _⟩, hB1.alloc hB1.size _⟩, hp⟩ ⟨W.heap.size, bN1.lt, Boxed2.new W _ _, rfl⟩
  case body =>
    rintro l pre x a' W hl hr ⟨⟨⟨⟨bW1, bN1⟩, bR1⟩, hB1⟩, hp⟩ ⟨Bx, hBx, bX, rfl⟩ hlt
    have cW := bW1.cell
    have cN := bN1.cell
    have cR := bR1.cell
    have fN := bN1.frozen
    have fR := bR1.frozen
    obtain ⟨cX0, cX1, _, _⟩ := bX.cells
    by_cases h1 : want.length ≤ pre.length
    · gi_wp2
      refine region_round_quiet (by kernel_rfl) (by kernel_rfl) (by kernel_rfl) (by rintro ⟨_, _, h⟩; exact h) ?_
      repeat (go_big_quiet_step (fail))
      refine wpQuiet_nil ?_
      intro _ hw'
      obtain ⟨nq, hw''⟩ := hw'
      subst hw''
      gi_wp2
      exact ⟨kf_set _ _ _ _ _, ⟨(show Boxed (W.drewN nq) _ _ _ from bR1).set _, (below_drewN hB1 nq).setCell (p := ⟨w.heap.size + 1, 0, none⟩) (by simp) _⟩, rfl, fun h => by have := h.length_le; simp at this; omega⟩
    · obtain ⟨y, hy⟩ : ∃ y, want[pre.length]? = some y := ⟨want[pre.length]'(by omega), List.getElem?_eq_getElem (by omega)⟩
      obtain ⟨b, o, rfl, cy0, cy1⟩ := hw.2.2 _ _ hy
      replace cy0 := Later.cell hB1 cy0
      replace cy1 := Later.cell hB1 cy1
      by_cases hxy : x = y
      · subst hxy
        have hp' := prefix_snoc hp hy
        have hh1 : decide (want.length ≤ pre.length) = false := by simpa using h1
        have hh2 : (pre.length : Int) < want.length := by omega
        have hh0 : (0 : Int) ≤ (pre.length : Int) := by omega
        clear hy hw h1
        gi_wp2
        refine region_round_quiet (by kernel_rfl) (by kernel_rfl) (by kernel_rfl) (by rintro ⟨_, _, h⟩; exact h) ?_
        repeat (go_big_quiet_step (fail))
        refine wpQuiet_nil ?_
        intro _ hw'
        obtain ⟨nq, hw''⟩ := hw'
        subst hw''
        gi_wp2
        exact ⟨kf_set _ _ _ _ _, below_chg ((below_drewN (Below.refl _ W) nq).setCell (p := ⟨w.heap.size + 1 + 1, 0, none⟩) (by simp; omega) _),
          ⟨⟨⟨(show Boxed (W.drewN nq) _ _ _ from bW1).other (by omega) _, by rw [List.length_append]; exact (show Boxed (W.drewN nq) _ _ _ from bN1).set _⟩, (show Boxed (W.drewN nq) _ _ _ from bR1).other (by omega) _⟩, (below_drewN hB1 nq).setCell (p := ⟨w.heap.size + 1 + 1, 0, none⟩) (by simp; omega) _⟩, hp'⟩
      · have hh1 : decide (want.length ≤ pre.length) = false := by simpa using h1
        have hh2 : (pre.length : Int) < want.length := by omega
        have hh0 : (0 : Int) ≤ (pre.length : Int) := by omega
        have hnp : ¬ pre ++ [x] <+: want := fun h => hxy (by have := prefix_snoc_iff h; rw [hy] at this; exact (Option.some.inj this).symm)
        clear hw h1 hy
        obtain ⟨y1, y2⟩ := y
        by_cases hx1 : x.1 = y1
        · subst hx1
          have hx2 : ¬ x.2 = y2 := fun h => hxy (by subst h; rfl)
          clear hxy
          gi_wp2
          refine region_round_quiet (by kernel_rfl) (by kernel_rfl) (by kernel_rfl) (by rintro ⟨_, _, h⟩; exact h) ?_
          repeat (go_big_quiet_step (fail))
          refine wpQuiet_nil ?_
          intro _ hw'
          obtain ⟨nq, hw''⟩ := hw'
          subst hw''
          gi_wp2
          exact ⟨kf_set _ _ _ _ _, ⟨(show Boxed (W.drewN nq) _ _ _ from bR1).set _, (below_drewN hB1 nq).setCell (p := ⟨w.heap.size + 1, 0, none⟩) (by simp) _⟩, rfl, hnp⟩
        · clear hxy
          gi_wp2
          refine region_round_quiet (by kernel_rfl) (by kernel_rfl) (by kernel_rfl) (by rintro ⟨_, _, h⟩; exact h) ?_
          repeat (go_big_quiet_step (fail))
          refine wpQuiet_nil ?_
          intro _ hw'
          obtain ⟨nq, hw''⟩ := hw'
          subst hw''
          gi_wp2
          exact ⟨kf_set _ _ _ _ _, ⟨(show Boxed (W.drewN nq) _ _ _ from bR1).set _, (below_drewN hB1 nq).setCell (p := ⟨w.heap.size + 1, 0, none⟩) (by simp) _⟩, rfl, hnp⟩
  case done =>
    rintro D ys W hD rfl ⟨⟨⟨⟨bW1, bN1⟩, bR1⟩, hB1⟩, hp⟩ hK
    have cW := bW1.cell
    have cN := bN1.cell
    have cR := bR1.cell
    have fR := bR1.frozen
    gi_wp2
    have hK' : (W.setCell ⟨w.heap.size + 1, 0, none⟩ (.bool ((ys.length : Int) == (want.length : Int)))).heap[D]? = some (.deferred (some [])) := (KeepsOthers.setCell _ _ _).same D _ hK rfl
    have bR2 := bR1.set (.bool ((ys.length : Int) == (want.length : Int)))
    have hB2 := hB1.setCell (p := ⟨w.heap.size + 1, 0, none⟩) (by simp) (.bool ((ys.length : Int) == (want.length : Int)))
    refine ⟨by simp, .inl ⟨_, _, rfl, run_takeDeferred hK', ?_⟩⟩
    have hB3 := hB2.trans (belowK_b (w := w) (Nat.le_refl _) _ D _ (.deferred none) (by omega) hK' rfl rfl)
    have bR3 := (bR2.kept (grownBy_putObj' _ D (.deferred none)) (fun e => by cases e; rw [show _ = _ from bR2] at hK'; cases hK')).cell
    have hv : ((ys.length : Int) == (want.length : Int)) = decide (ys = want) := by
      rw [Bool.eq_iff_iff]
      simp only [beq_iff_eq, decide_eq_true_eq]
      constructor
      · intro h; exact hp.eq_of_length (by omega)
      · intro h; rw [h]
    generalize (W.setCell ⟨w.heap.size + 1, 0, none⟩ (.bool ((ys.length : Int) == (want.length : Int)))).putObj D (.deferred none) = Wf at bR3 hB3 ⊢
    rw [hv] at bR3
    exact ⟨_, by simp [results, Try.results25, go_sem, bR3], rfl, hB3⟩
  case stop =>
    rintro D c pre W hD hpre ⟨⟨bR1, hB1⟩, rfl, hnp⟩ hK
    have cR := bR1.cell
    gi_wp2
    refine ⟨by simp, .inl ⟨_, _, rfl, run_takeDeferred hK, ?_⟩⟩
    have hB3 := hB1.trans (belowK_b (w := w) (Nat.le_refl _) _ D _ (.deferred none) (by omega) hK rfl rfl)
    have bR3 := (bR1.kept (grownBy_putObj' _ D (.deferred none)) (fun e => by cases e; rw [show _ = _ from bR1] at hK; cases hK)).cell
    have hv : decide (xs = want) = false := by
      simp only [decide_eq_false_iff_not]
      intro h; exact hnp (h ▸ hpre)
    rw [hv]
    exact ⟨_, by simp [results, Try.results25, go_sem, bR3], rfl, hB3⟩
end Go.Proofs.Yteledidnhjioaaa.Sh
