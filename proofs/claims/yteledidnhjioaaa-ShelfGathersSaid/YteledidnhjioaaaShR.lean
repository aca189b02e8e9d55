import Derived.Test.YteledidnhjioaaaShM
import Derived.Shelf.RegionOpen
import Derived.OrdersIn
import Derived.Deep.Quiet
import Derived.Deep.QuietTactic
import Derived.BigQuiet
namespace Go.Proofs.Yteledidnhjioaaa.Sh
open Go.RowKit Go.Lib Go.Proofs Go.Shelf
set_option linter.unusedVariables false
/-! ### a region that draws its order, in a round: what is shown of it outside holds within -/
def noDefer (ops : Array Oper) : Bool := ops.all fun o => match o.op with | .defer _ => false | _ => true
theorem noDefer_at {ops : Array Oper} (h : noDefer ops = true) {i : Nat} {o : Oper} (ho : ops[i]? = some o) : ∀ c, o.op ≠ .defer c := by
  intro c hc
  obtain ⟨hi, rfl⟩ := Array.getElem?_eq_some_iff.1 ho
  have := (Array.all_eq_true.1 h) i hi
  rw [hc] at this
  cases this
theorem op_round {P : Program} {ops : Array Oper} {Q : Exit → Act → World → Prop} {l n i : Nat} {K K' : Act → World → Prop} {a : Act} {w : World} (hd : noDefer ops = true) (hQ : ¬ LetsOut Q) (hk : ∀ a w, K a w → K' a w)
    (h : wpOp P ops Q i K a w) : wpOpIn (Fence.wide.inRound l) n P ops Q i K' a w := by
  unfold wpOp at h
  unfold wpOpIn
  cases ho : ops[i]? with
  | none => rw [ho] at h; exact hk _ _ h
  | some o =>
    rw [ho] at h
    dsimp only at h ⊢
    by_cases hw : Region.wanted o (yielded ops a.tmps) = true
    · rw [if_pos hw] at h ⊢
      have h' := h.resolve_right fun k => hQ k.2
      refine ⟨fun _ _ => trivial, ?_⟩
      have e : (Oper.semAt (Fence.wide.inRound l).round a.eval o) = execOp a.eval o := Oper.semAt_some l _ _ (noDefer_at hd ho)
      rw [e]
      unfold Oper.wp at h'
      generalize (execOp a.eval o).run P w = r at h' ⊢
      cases r with
      | ok x w' =>
        cases x <;> simp only [Oper.upon, Oper.uponIn] at h' ⊢ <;>
          first
            | exact hk _ _ h'
            | exact ⟨fun k => (by cases k), (callsIn_wide.2 (h'.mono (fun e w'' he => by cases e <;> first | exact hk _ _ he | exact he)))⟩
            | exact ⟨fun k => (by cases k), fun c cs _ => let ⟨v, w', r, s⟩ := (h'.mono (fun _ _ he => hk _ _ he)) c cs; ⟨v, w', r, stepsIn_wide.2 s⟩⟩
            | exact h'.elim
      | halt x w' => cases x <;> simp only [Oper.upon, Oper.uponIn] at h' ⊢ <;> exact h'
    · rw [if_neg hw] at h ⊢
      exact ⟨fun _ _ => trivial, hk _ _ h⟩
theorem any_round {P : Program} {ops : Array Oper} {Q : Exit → Act → World → Prop} {md : Region.Mode} {l n : Nat} (hd : noDefer ops = true) (hQ : ¬ LetsOut Q) : ∀ (fuel : Nat) (listed : Array Bool) (a : Act) (w : World), wpAny P md ops Q fuel listed a w → wpAnyIn (Fence.wide.inRound l) n P md ops Q fuel listed a w
  | 0, _, _, _, h => h
  | fuel + 1, _, _, _, h => ⟨h.1, fun i hi => op_round hd hQ (fun a w k => any_round hd hQ fuel _ a w k) (h.2 i hi)⟩
theorem region_round_quiet {P : Program} {id l n : Nat} {Q : Exit → Act → World → Prop} {a : Act} {w : World} {o : List Oper} (hm : P.follows .mixedOrders = true) (hB : Region.lexB .any o.toArray = true) (hd : noDefer o.toArray = true) (hQ : ¬ LetsOut Q)
    (h : wpQuiet P o.toArray (fun w' => ∃ n, w' = w.drewN n) (fun a' => ∀ w', (∃ n, w' = w.drewN n) → Q .normal a' w') o a) : (Code.region id o.toArray true).wpIn (Fence.wide.inRound l) n P Q a w := by
  refine wpIn_region_any hm (any_round hd hQ _ _ _ _ ?_)
  simp only [Region.lexB, Bool.and_eq_true] at hB
  refine wpAny_of_quiet (C := fun w' => ∃ n, w' = w.drewN n) (Q := fun a' => ∀ w', (∃ n, w' = w.drewN n) → Q .normal a' w') (fun _ w' hw' h => h w' hw') _ _ _ _ ⟨1, rfl⟩ ?_
  have := wpAnyQ_lex (C := fun w' => ∃ n, w' = w.drewN n) (md := .any) hB.1 o 0 (Array.replicate o.toArray.size false) a (by simp) (by simpa using hB.2) h
  simpa using this
theorem region_round_held {P : Program} {id l n : Nat} {Q : Exit → Act → World → Prop} {a : Act} {w : World} {ops : Array Oper} (S : World → Prop) (hm : P.follows .mixedOrders = true) (hd : noDefer ops = true) (hQ : ¬ LetsOut Q) (hS : S w.drew)
    (h : S w.drew → wpAnyH P .any ops Q S ops.size (Array.replicate ops.size false) a w.drew) : (Code.region id ops true).wpIn (Fence.wide.inRound l) n P Q a w :=
  wpIn_region_any hm (any_round hd hQ _ _ _ _ (wpAny_of_held _ _ _ _ (h hS)))
/-! ### a region that draws its order, whose loads and calls keep a class of worlds -/
theorem region_class {P : Program} {id : Nat} {Q : Exit → Act → World → Prop} {a : Act} {w : World} {o : List Oper} (Good : World → Prop) (hm : P.follows .mixedOrders = true) (hB : Region.lexB .any o.toArray = true) (hG : Good w.drew)
    (h : wpQuiet P o.toArray (fun w' => ∃ p : {W' : World // Good W'}, w' = p.1) (fun a' => ∀ w', Good w' → Q .normal a' w') o a) : (Code.region id o.toArray true).wp P Q a w :=
  wp_region_quiet (C := fun w' => ∃ p : {W' : World // Good W'}, w' = p.1) hm hB ⟨⟨w.drew, hG⟩, rfl⟩ (by
    have : (fun a' => ∀ w', (∃ p : {W' : World // Good W'}, w' = p.1) → Q .normal a' w') = (fun a' => ∀ w', Good w' → Q .normal a' w') := by
      funext a'
      exact propext ⟨fun k w' g => k w' ⟨⟨w', g⟩, rfl⟩, fun k w' ⟨p, e⟩ => e ▸ k p.1 p.2⟩
    rw [this]
    exact h)
theorem region_round_class {P : Program} {id l n : Nat} {Q : Exit → Act → World → Prop} {a : Act} {w : World} {o : List Oper} (Good : World → Prop) (hm : P.follows .mixedOrders = true) (hB : Region.lexB .any o.toArray = true) (hd : noDefer o.toArray = true) (hQ : ¬ LetsOut Q) (hG : Good w.drew)
    (h : wpQuiet P o.toArray (fun w' => ∃ p : {W' : World // Good W'}, w' = p.1) (fun a' => ∀ w', Good w' → Q .normal a' w') o a) : (Code.region id o.toArray true).wpIn (Fence.wide.inRound l) n P Q a w := by
  refine wpIn_region_any hm (any_round hd hQ _ _ _ _ ?_)
  simp only [Region.lexB, Bool.and_eq_true] at hB
  refine wpAny_of_quiet (C := fun w' => ∃ p : {W' : World // Good W'}, w' = p.1) (Q := fun a' => ∀ w', Good w' → Q .normal a' w') (fun _ w' ⟨p, e⟩ h => h w' (e ▸ p.2)) _ _ _ _ ⟨⟨w.drew, hG⟩, rfl⟩ ?_
  have := wpAnyQ_lex (C := fun w' => ∃ p : {W' : World // Good W'}, w' = p.1) (md := .any) hB.1 o 0 (Array.replicate o.toArray.size false) a (by simp) (by simpa using hB.2) h
  simpa using this
end Go.Proofs.Yteledidnhjioaaa.Sh
