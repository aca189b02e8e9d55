import Derived.Test.YteledidnhjioaaaShR
namespace Go.Proofs.Yteledidnhjioaaa.Sh
open Go.RowKit Go.Lib Go.Proofs Go.Shelf
set_option linter.unusedVariables false
/-- a world of a class -/
structure InG (G : World → Prop) where
  W : World
  h : G W
/-- a region that draws its order, whose loads and calls keep a class of worlds -/
theorem region_in {P : Program} {id : Nat} {Q : Exit → Act → World → Prop} {a : Act} {w : World} {o : List Oper} (Good : World → Prop) (hm : P.follows .mixedOrders = true) (hB : Region.lexB .any o.toArray = true) (hG : Good w.drew)
    (h : wpQuiet P o.toArray (fun w' => ∃ p : InG Good, w' = p.W) (fun a' => ∀ w', Good w' → Q .normal a' w') o a) : (Code.region id o.toArray true).wp P Q a w :=
  wp_region_quiet (C := fun w' => ∃ p : InG Good, w' = p.W) hm hB ⟨⟨w.drew, hG⟩, rfl⟩ (by
    have : (fun a' => ∀ w', (∃ p : InG Good, w' = p.W) → Q .normal a' w') = (fun a' => ∀ w', Good w' → Q .normal a' w') := by
      funext a'
      exact propext ⟨fun k w' g => k w' ⟨⟨w', g⟩, rfl⟩, fun k w' ⟨p, e⟩ => e ▸ k p.W p.h⟩
    rw [this]
    exact h)
theorem region_round_in {P : Program} {id l n : Nat} {Q : Exit → Act → World → Prop} {a : Act} {w : World} {o : List Oper} (Good : World → Prop) (hm : P.follows .mixedOrders = true) (hB : Region.lexB .any o.toArray = true) (hd : noDefer o.toArray = true) (hQ : ¬ LetsOut Q) (hG : Good w.drew)
    (h : wpQuiet P o.toArray (fun w' => ∃ p : InG Good, w' = p.W) (fun a' => ∀ w', Good w' → Q .normal a' w') o a) : (Code.region id o.toArray true).wpIn (Fence.wide.inRound l) n P Q a w := by
  refine wpIn_region_any hm (any_round hd hQ _ _ _ _ ?_)
  simp only [Region.lexB, Bool.and_eq_true] at hB
  refine wpAny_of_quiet (C := fun w' => ∃ p : InG Good, w' = p.W) (Q := fun a' => ∀ w', Good w' → Q .normal a' w') (fun _ w' ⟨p, e⟩ h => h w' (e ▸ p.h)) _ _ _ _ ⟨⟨w.drew, hG⟩, rfl⟩ ?_
  have := wpAnyQ_lex (C := fun w' => ∃ p : InG Good, w' = p.W) (md := .any) hB.1 o 0 (Array.replicate o.toArray.size false) a (by simp) (by simpa using hB.2) h
  simpa using this
end Go.Proofs.Yteledidnhjioaaa.Sh
