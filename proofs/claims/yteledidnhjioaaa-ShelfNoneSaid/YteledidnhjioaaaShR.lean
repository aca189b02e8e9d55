import Derived.Test.YteledidnhjioaaaShK
import Derived.Shelf.RegionOpen
import Derived.OrdersIn
import Derived.Deep.Quiet
import Derived.Deep.QuietTactic
import Derived.BigQuiet
import Derived.StillTailTactics
namespace Go.Proofs.Yteledidnhjioaaa.Sh
open Go.RowKit Go.Lib Go.Proofs Go.Shelf
set_option linter.unusedVariables false
/-! ### a region that draws its order, in a round: what is shown of it outside holds within -/
def noDefer (ops : Array Oper) : Bool := ops.all fun o => match o.op with | .defer _ => false | _ => true
theorem noDefer_at {ops : Array Oper} (h : noDefer ops = true) {i : Nat} {o : Oper} (ho : ops[i]? = some o) : ∀ c, o.op ≠ .defer c := by
  intro c hc
  obtain ⟨hi, rfl⟩ := Array.getElem?_eq_some_iff.1 ho
  have := (Array.all_eq_true.1 h) i hi
  rw [hc] at this
  cases this
theorem op_round {P : Program} {ops : Array Oper} {Q : Exit → Act → World → Prop} {l n i : Nat} {K K' : Act → World → Prop} {a : Act} {w : World} (hd : noDefer ops = true) (hQ : ¬ LetsOut Q) (hk : ∀ a w, K a w → K' a w)
    (h : wpOp P ops Q i K a w) : wpOpIn (Fence.wide.inRound l) n P ops Q i K' a w := by
  unfold wpOp at h
  unfold wpOpIn
  cases ho : ops[i]? with
  | none => rw [ho] at h; exact hk _ _ h
  | some o =>
    rw [ho] at h
    dsimp only at h ⊢
    by_cases hw : Region.wanted o (yielded ops a.tmps) = true
    · rw [if_pos hw] at h ⊢
      have h' := h.resolve_right fun k => hQ k.2
      refine ⟨fun _ _ => trivial, ?_⟩
      have e : (Oper.semAt (Fence.wide.inRound l).round a.eval o) = execOp a.eval o := Oper.semAt_some l _ _ (noDefer_at hd ho)
      rw [e]
      unfold Oper.wp at h'
      generalize (execOp a.eval o).run P w = r at h' ⊢
      cases r with
      | ok x w' =>
        cases x <;> simp only [Oper.upon, Oper.uponIn] at h' ⊢ <;>
          first
            | exact hk _ _ h'
            | exact ⟨fun k => (by cases k), (callsIn_wide.2 (h'.mono (fun e w'' he => by cases e <;> first | exact hk _ _ he | exact he)))⟩
            | exact ⟨fun k => (by cases k), fun c cs _ => let ⟨v, w', r, s⟩ := (h'.mono (fun _ _ he => hk _ _ he)) c cs; ⟨v, w', r, stepsIn_wide.2 s⟩⟩
            | exact h'.elim
      | halt x w' => cases x <;> simp only [Oper.upon, Oper.uponIn] at h' ⊢ <;> exact h'
    · rw [if_neg hw] at h ⊢
      exact ⟨fun _ _ => trivial, hk _ _ h⟩
theorem any_round {P : Program} {ops : Array Oper} {Q : Exit → Act → World → Prop} {md : Region.Mode} {l n : Nat} (hd : noDefer ops = true) (hQ : ¬ LetsOut Q) : ∀ (fuel : Nat) (listed : Array Bool) (a : Act) (w : World), wpAny P md ops Q fuel listed a w → wpAnyIn (Fence.wide.inRound l) n P md ops Q fuel listed a w
  | 0, _, _, _, h => h
  | fuel + 1, _, _, _, h => ⟨h.1, fun i hi => op_round hd hQ (fun a w k => any_round hd hQ fuel _ a w k) (h.2 i hi)⟩
theorem region_round_quiet {P : Program} {id l n : Nat} {Q : Exit → Act → World → Prop} {a : Act} {w : World} {o : List Oper} (hm : P.follows .mixedOrders = true) (hB : Region.lexB .any o.toArray = true) (hd : noDefer o.toArray = true) (hQ : ¬ LetsOut Q)
    (h : wpQuiet P o.toArray (fun w' => ∃ n, w' = w.drewN n) (fun a' => ∀ w', (∃ n, w' = w.drewN n) → Q .normal a' w') o a) : (Code.region id o.toArray true).wpIn (Fence.wide.inRound l) n P Q a w := by
  refine wpIn_region_any hm (any_round hd hQ _ _ _ _ ?_)
  simp only [Region.lexB, Bool.and_eq_true] at hB
  refine wpAny_of_quiet (C := fun w' => ∃ n, w' = w.drewN n) (Q := fun a' => ∀ w', (∃ n, w' = w.drewN n) → Q .normal a' w') (fun _ w' hw' h => h w' hw') _ _ _ _ ⟨1, rfl⟩ ?_
  have := wpAnyQ_lex (C := fun w' => ∃ n, w' = w.drewN n) (md := .any) hB.1 o 0 (Array.replicate o.toArray.size false) a (by simp) (by simpa using hB.2) h
  simpa using this
theorem region_round_held {P : Program} {id l n : Nat} {Q : Exit → Act → World → Prop} {a : Act} {w : World} {ops : Array Oper} (S : World → Prop) (hm : P.follows .mixedOrders = true) (hd : noDefer ops = true) (hQ : ¬ LetsOut Q) (hS : S w.drew)
    (h : S w.drew → wpAnyH P .any ops Q S ops.size (Array.replicate ops.size false) a w.drew) : (Code.region id ops true).wpIn (Fence.wide.inRound l) n P Q a w :=
  wpIn_region_any hm (any_round hd hQ _ _ _ _ (wpAny_of_held _ _ _ _ (h hS)))
/-! ### a region that draws its order, whose loads and calls keep a class of worlds -/
theorem region_class {P : Program} {id : Nat} {Q : Exit → Act → World → Prop} {a : Act} {w : World} {o : List Oper} (Good : World → Prop) (hm : P.follows .mixedOrders = true) (hB : Region.lexB .any o.toArray = true) (hG : Good w.drew)
    (h : wpQuiet P o.toArray (fun w' => ∃ p : {W' : World // Good W'}, w' = p.1) (fun a' => ∀ w', Good w' → Q .normal a' w') o a) : (Code.region id o.toArray true).wp P Q a w :=
  wp_region_quiet (C := fun w' => ∃ p : {W' : World // Good W'}, w' = p.1) hm hB ⟨⟨w.drew, hG⟩, rfl⟩ (by
    have : (fun a' => ∀ w', (∃ p : {W' : World // Good W'}, w' = p.1) → Q .normal a' w') = (fun a' => ∀ w', Good w' → Q .normal a' w') := by
      funext a'
      exact propext ⟨fun k w' g => k w' ⟨⟨w', g⟩, rfl⟩, fun k w' ⟨p, e⟩ => e ▸ k p.1 p.2⟩
    rw [this]
    exact h)
theorem region_round_class {P : Program} {id l n : Nat} {Q : Exit → Act → World → Prop} {a : Act} {w : World} {o : List Oper} (Good : World → Prop) (hm : P.follows .mixedOrders = true) (hB : Region.lexB .any o.toArray = true) (hd : noDefer o.toArray = true) (hQ : ¬ LetsOut Q) (hG : Good w.drew)
    (h : wpQuiet P o.toArray (fun w' => ∃ p : {W' : World // Good W'}, w' = p.1) (fun a' => ∀ w', Good w' → Q .normal a' w') o a) : (Code.region id o.toArray true).wpIn (Fence.wide.inRound l) n P Q a w := by
  refine wpIn_region_any hm (any_round hd hQ _ _ _ _ ?_)
  simp only [Region.lexB, Bool.and_eq_true] at hB
  refine wpAny_of_quiet (C := fun w' => ∃ p : {W' : World // Good W'}, w' = p.1) (Q := fun a' => ∀ w', Good w' → Q .normal a' w') (fun _ w' ⟨p, e⟩ h => h w' (e ▸ p.2)) _ _ _ _ ⟨⟨w.drew, hG⟩, rfl⟩ ?_
  have := wpAnyQ_lex (C := fun w' => ∃ p : {W' : World // Good W'}, w' = p.1) (md := .any) hB.1 o 0 (Array.replicate o.toArray.size false) a (by simp) (by simpa using hB.2) h
  simpa using this
end Go.Proofs.Yteledidnhjioaaa.Sh
namespace Go.Proofs.Yteledidnhjioaaa.Sh
open Go.RowKit Go.Lib Go.Proofs Go.Shelf
set_option linter.unusedVariables false
/-- a world of a class -/
structure InG (G : World → Prop) where
  W : World
  h : G W
/-- a region that draws its order, whose loads and calls keep a class of worlds -/
theorem region_in {P : Program} {id : Nat} {Q : Exit → Act → World → Prop} {a : Act} {w : World} {o : List Oper} (Good : World → Prop) (hm : P.follows .mixedOrders = true) (hB : Region.lexB .any o.toArray = true) (hG : Good w.drew)
    (h : wpQuiet P o.toArray (fun w' => ∃ p : InG Good, w' = p.W) (fun a' => ∀ w', Good w' → Q .normal a' w') o a) : (Code.region id o.toArray true).wp P Q a w :=
  wp_region_quiet (C := fun w' => ∃ p : InG Good, w' = p.W) hm hB ⟨⟨w.drew, hG⟩, rfl⟩ (by
    have : (fun a' => ∀ w', (∃ p : InG Good, w' = p.W) → Q .normal a' w') = (fun a' => ∀ w', Good w' → Q .normal a' w') := by
      funext a'
      exact propext ⟨fun k w' g => k w' ⟨⟨w', g⟩, rfl⟩, fun k w' ⟨p, e⟩ => e ▸ k p.W p.h⟩
    rw [this]
    exact h)
theorem region_round_in {P : Program} {id l n : Nat} {Q : Exit → Act → World → Prop} {a : Act} {w : World} {o : List Oper} (Good : World → Prop) (hm : P.follows .mixedOrders = true) (hB : Region.lexB .any o.toArray = true) (hd : noDefer o.toArray = true) (hQ : ¬ LetsOut Q) (hG : Good w.drew)
    (h : wpQuiet P o.toArray (fun w' => ∃ p : InG Good, w' = p.W) (fun a' => ∀ w', Good w' → Q .normal a' w') o a) : (Code.region id o.toArray true).wpIn (Fence.wide.inRound l) n P Q a w := by
  refine wpIn_region_any hm (any_round hd hQ _ _ _ _ ?_)
  simp only [Region.lexB, Bool.and_eq_true] at hB
  refine wpAny_of_quiet (C := fun w' => ∃ p : InG Good, w' = p.W) (Q := fun a' => ∀ w', Good w' → Q .normal a' w') (fun _ w' ⟨p, e⟩ h => h w' (e ▸ p.h)) _ _ _ _ ⟨⟨w.drew, hG⟩, rfl⟩ ?_
  have := wpAnyQ_lex (C := fun w' => ∃ p : InG Good, w' = p.W) (md := .any) hB.1 o 0 (Array.replicate o.toArray.size false) a (by simp) (by simpa using hB.2) h
  simpa using this
end Go.Proofs.Yteledidnhjioaaa.Sh
namespace Go.Proofs.Yteledidnhjioaaa.Sh
open Go.RowKit Go.Lib Go.Proofs Go.Shelf
set_option linter.unusedVariables false
set_option linter.unusedSimpArgs false
/-! ### a region that draws its order: what only reads, then a tail in its own order: in the fenced form, which knows a call of yield -/
theorem opIn_of_st {P : Program} {ops : Array Oper} {Q : Exit → Act → World → Prop} {n i : Nat} {a : Act} {w : World} {K : Act → Prop} {K' : Act → World → Prop} (h : ∀ a, K a → K' a w) (hh : stOp P ops w i K a) : wpOpIn Fence.wide n P ops Q i K' a w := by
  unfold stOp at hh
  unfold wpOpIn
  cases ho : ops[i]? with
  | none => rw [ho] at hh; exact h _ hh
  | some o =>
    rw [ho] at hh
    dsimp only at hh ⊢
    by_cases hw : Region.wanted o (yielded ops a.tmps) = true
    · rw [if_pos hw] at hh ⊢
      refine ⟨fun _ _ => trivial, ?_⟩
      have e : Oper.semAt Fence.wide.round a.eval o = execOp a.eval o := rfl
      rw [e]
      unfold Oper.still at hh
      generalize (execOp a.eval o).run P w = r at hh ⊢
      cases r with
      | ok x w' =>
        cases x <;> simp only [Oper.stillUpon] at hh <;> simp only [Oper.uponIn]
        case enter f args =>
          obtain ⟨rfl, v, hc, hn⟩ := hh
          exact ⟨fun k => (by cases k), callsIn_wide.2 (hc.mono fun e w'' ⟨he, hw⟩ => by subst he; subst hw; exact h _ hn)⟩
        all_goals (obtain ⟨rfl, h2⟩ := hh; exact h _ h2)
      | halt x w' => simp only [Oper.stillUpon] at hh
    · rw [if_neg hw] at hh ⊢
      exact ⟨fun _ _ => trivial, h _ hh⟩
theorem anyIn_of_head {P : Program} {md : Region.Mode} {ops : Array Oper} {w : World} {m n g : Nat} {L : Array Bool → Act → Prop} {Q' : Exit → Act → World → Prop} (hL : ∀ listed a, L listed a → wpAnyIn Fence.wide m P md ops Q' g listed a w) :
    ∀ (f : Nat) (listed : Array Bool) (a : Act), wpAnyL P md ops w n L f listed a → wpAnyIn Fence.wide m P md ops Q' (f + g) listed a w
  | 0, listed, a, h => by rw [Nat.zero_add]; exact hL _ _ h
  | f + 1, listed, a, h => by
    rw [show f + 1 + g = (f + g) + 1 by omega]
    exact ⟨fun h0 => absurd h0 h.1, fun i hi => opIn_of_st (fun a' h' => anyIn_of_head hL f _ a' h') (h.2 i hi).2⟩
theorem anyIn_of_seq {P : Program} {md : Region.Mode} {ops : Array Oper} {m : Nat} {Q' : Exit → Act → World → Prop} : ∀ (l : List Oper) (k : Nat) (listed : Array Bool) (a : Act) (w : World), (∀ j, l[j]? = ops[k + j]?) →
    Region.seqB md ops l.length k listed = true → wpListIn Fence.wide m P ops Q' l a w → wpAnyIn Fence.wide m P md ops Q' l.length listed a w
  | [], _, _, _, _, _, hB, h => ⟨by simpa [Region.seqB] using hB, h⟩
  | o :: l, k, listed, a, w, hl, hB, h => by
    have h0 : ops[k]? = some o := by simpa using (hl 0).symm
    simp only [List.length_cons, Region.seqB, Bool.and_eq_true, decide_eq_true_eq] at hB
    refine ⟨fun h1 => (by rw [hB.1] at h1; cases h1), fun i hi => ?_⟩
    rw [hB.1] at hi
    have hik : i = k := by simpa using hi
    subst hik
    have hw : wpOpIn Fence.wide m P ops Q' i (wpListIn Fence.wide m P ops Q' l) a w := by unfold wpOpIn; simp only [h0]; exact h
    exact wpOpIn_mono (fun a' w' h' => anyIn_of_seq l (i + 1) _ a' w' (fun j => by have := hl (j + 1); simpa [Nat.add_assoc, Nat.add_comm 1 j] using this) hB.2 h') hw
theorem region_yield_tail {P : Program} {id m : Nat} {Q : Exit → Act → World → Prop} {a : Act} {w : World} {l : List Oper} (n : Nat) (hm : P.follows .mixedOrders = true) (hB : Region.lexTailB .any l.toArray n = true)
    (h : wpStill P l.toArray w.drew (fun a' => wpListIn Fence.wide m P l.toArray Q (l.drop n) a' w.drew) (l.take n) a) : (Code.region id l.toArray true).wp P Q a w := by
  simp only [Region.lexTailB, Bool.and_eq_true, decide_eq_true_eq] at hB
  obtain ⟨⟨⟨⟨hsel, hn⟩, hs⟩, hc⟩, hlex⟩ := hB
  have hn' : n < l.length := by simpa using hn
  have htl : (l.take n).length = n := by simp; omega
  have hdl : (l.drop n).length = l.toArray.size - n := by simp
  have inv0 : HeadInv .any l.toArray n (Array.replicate l.toArray.size false) :=
    ⟨by simp, fun j oj _ hl => (by rw [getD_replicate_false] at hl; cases hl), fun t _ ht => getD_in (by simpa using ht) (getD_replicate_false _ _)⟩
  have H := wpAnyL_lex (md := .any) (g := l.toArray.size - n) hsel hs hc hn (l.take n) 0 _ a (fun j hj => by
    have hj' : j < n := by rw [htl] at hj; exact hj
    simp [hj']) (by simpa using htl) inv0 (by rw [htl]; exact hlex) h
  refine (wpIn_wide (n := m)).1 (wpIn_region_any hm ?_)
  have := anyIn_of_head (Q' := Q) (m := m) (g := l.toArray.size - n) (fun listed a' hL => by
    have := anyIn_of_seq (md := .any) (Q' := Q) (m := m) (l.drop n) n listed a' w.drew (fun j => by simp [List.getElem?_drop]) (by rw [hdl]; exact hL.1) hL.2
    rwa [hdl] at this) _ _ _ H
  rw [htl, show n + (l.toArray.size - n) = l.toArray.size by omega] at this
  exact this
end Go.Proofs.Yteledidnhjioaaa.Sh
