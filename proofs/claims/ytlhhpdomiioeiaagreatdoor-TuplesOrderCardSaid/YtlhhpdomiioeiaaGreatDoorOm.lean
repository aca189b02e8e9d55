import Derived.Test.YtlhhpdomiioeiaaGreatDoorOl
namespace Go.Proofs.YtlhhpdomiioeiaaGreatDoor.Tu
open Go.RowKit Go.Lib Go.Proofs
set_option linter.unusedVariables false
set_option linter.unusedSimpArgs false
/-- what is left behind the k-th text -/
def restL : Nat → List Int
  | 0 => LB
  | 1 => [1, 49, 1, 114, 1, 117, 1, 97, 0, 0, 0]
  | 2 => [1, 114, 1, 117, 1, 97, 0, 0, 0]
  | 3 => [1, 117, 1, 97, 0, 0, 0]
  | 4 => [1, 97, 0, 0, 0]
  | 5 => [0, 0, 0]
  | 6 => [0, 0]
  | _ => [0]
/-- the tuple behind the k-th text -/
def tupA : Nat → Array Value
  | 0 => #[.string ⟨#[]⟩, .string ⟨#[]⟩, .string ⟨#[]⟩, .string ⟨#[]⟩, .string ⟨#[]⟩, .string ⟨#[]⟩, .string ⟨#[]⟩, .slice none 0 0]
  | 1 => #[.string ⟨#[100]⟩, .string ⟨#[]⟩, .string ⟨#[]⟩, .string ⟨#[]⟩, .string ⟨#[]⟩, .string ⟨#[]⟩, .string ⟨#[]⟩, .slice none 0 0]
  | 2 => #[.string ⟨#[100]⟩, .string ⟨#[49]⟩, .string ⟨#[]⟩, .string ⟨#[]⟩, .string ⟨#[]⟩, .string ⟨#[]⟩, .string ⟨#[]⟩, .slice none 0 0]
  | 3 => #[.string ⟨#[100]⟩, .string ⟨#[49]⟩, .string ⟨#[114]⟩, .string ⟨#[]⟩, .string ⟨#[]⟩, .string ⟨#[]⟩, .string ⟨#[]⟩, .slice none 0 0]
  | 4 => #[.string ⟨#[100]⟩, .string ⟨#[49]⟩, .string ⟨#[114]⟩, .string ⟨#[117]⟩, .string ⟨#[]⟩, .string ⟨#[]⟩, .string ⟨#[]⟩, .slice none 0 0]
  | _ => #[.string ⟨#[100]⟩, .string ⟨#[49]⟩, .string ⟨#[114]⟩, .string ⟨#[117]⟩, .string ⟨#[97]⟩, .string ⟨#[]⟩, .string ⟨#[]⟩, .slice none 0 0]
/-- what the loop keeps: the reader, the tuple, all else -/
structure Dk (W0 W : World) (r T k : Nat) : Prop where
  rd : Rd W r (restL k)
  tp : W.heap[T]? = some (.cells (tupA k) 29 (0, 0))
  ch : Chg (fun b => b = r ∨ b = T) W0 W
theorem str1 (x : UInt8) (y : Int) (h : (x.toNat : Int) = y) : strOfNums [y] = ⟨#[x]⟩ := by
  subst h
  simp [strOfNums]
theorem Rd.set {W : World} {r T o : Nat} {L : List Int} (v : Value) (h : Rd W r L) (hT : r < T) : Rd (W.setCell ⟨T, o, none⟩ v) r L := by
  obtain ⟨A, c, h1, h2, h3, h4⟩ := h.r
  refine ⟨A, c, (Below.heap_setCell W ⟨T, o, none⟩ v r (fun e => by have e : r = T := e; omega)).trans h1, h2, fun i x hi => ?_, h4⟩
  obtain ⟨g, p, e, hc⟩ := h3 i x hi
  have := h4 g p e
  refine ⟨g, p, e, ?_⟩
  rw [cell_other v (show g ≠ T by omega)]
  exact hc
theorem Rd.later {W V : World} {r : Nat} {L : List Int} (h : Rd W r L) (l : Later W V) : Rd V r L := by
  obtain ⟨A, c, h1, h2, h3, h4⟩ := h.r
  exact ⟨A, c, later_blk l h1, h2, h3.later l, h4⟩
end Go.Proofs.YtlhhpdomiioeiaaGreatDoor.Tu
