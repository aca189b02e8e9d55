import Derived.Test.YteledidnhjioaaaProg
import Derived.Test.YteledidnhjioaaaShA
import Derived.WalkKit
import Derived.WalkLawsBesides
import Derived.WalkSpells
import Derived.Below
import Derived.LoopTactic
import Derived.Outline
import Derived.IntWalk
import Derived.Deep.LoopGhost
import Derived.Deep.RegionHeld3
import Derived.BigRegion
import Derived.RegionTactic
import Derived.StillTailTactics
import Derived.KernelRfl
import Derived.OwnWalk
import Derived.Lib.Hide
namespace Go.Proofs.Yteledidnhjioaaa.Sh
open Go.RowKit Go.Lib Go.Proofs
set_option linter.unusedVariables false
/-! ### blocks -/
def Up (ok : Nat → Prop) (B : Nat) : Prop := ∀ b, B ≤ b → ok b
theorem Up.mono {ok : Nat → Prop} {B B' : Nat} (h : Up ok B) (hb : B ≤ B') : Up ok B' := fun b k => h b (Nat.le_trans hb k)
theorem cell_lt {W : World} {b o : Nat} {v : Value} (h : W.cell? ⟨b, o, none⟩ = some v) : b < W.heap.size := by
  unfold World.cell? at h
  rcases Nat.lt_or_ge b W.heap.size with k | k
  · exact k
  · rw [Array.getElem?_eq_none k] at h; simp at h
/-- from W on nothing that was there has turned -/
abbrev Later (W W' : World) : Prop := Below W.heap.size W W'
theorem Later.cell {W W' : World} (h : Later W W') {b o : Nat} {v : Value} (k : W.cell? ⟨b, o, none⟩ = some v) : W'.cell? ⟨b, o, none⟩ = some v := (Below.cell h (p := ⟨b, o, none⟩) (cell_lt k)).trans k
theorem Later.next {W A A' : World} (h : Later W A) (k : Later A A') : Later W A' := Below.trans h (Below.mono k h.size)
theorem Later.drew {W A : World} (h : Later W A) : Later W A.drew := Below.drew h
theorem Later.refl (W : World) : Later W W := Below.refl _ _
theorem Later.alloc {W A : World} (h : Later W A) (o : Obj) : Later W (A.alloc o) := Below.alloc h h.size o
theorem Later.two {W : World} {x y : Value} {t : TypeId} : Later W (W.alloc (.cells #[x, y] t)) := (Later.refl W).alloc _
/-- W but for the blocks that are not ok -/
structure Keeps (ok : Nat → Prop) (W W' : World) : Prop where
  size : W.heap.size ≤ W'.heap.size
  cell : ∀ b o, ok b → b < W.heap.size → W'.cell? ⟨b, o, none⟩ = W.cell? ⟨b, o, none⟩
theorem Keeps.refl (ok : Nat → Prop) (W : World) : Keeps ok W W := ⟨Nat.le_refl _, fun _ _ _ _ => rfl⟩
theorem Keeps.trans {ok : Nat → Prop} {A B C : World} (h : Keeps ok A B) (k : Keeps ok B C) : Keeps ok A C := ⟨Nat.le_trans h.size k.size, fun b o hb hl => (k.cell b o hb (Nat.lt_of_lt_of_le hl h.size)).trans (h.cell b o hb hl)⟩
theorem Later.keeps {ok : Nat → Prop} {W W' : World} (h : Later W W') : Keeps ok W W' := ⟨h.size, fun b o _ hl => Below.cell h (p := ⟨b, o, none⟩) hl⟩
theorem Keeps.set {ok : Nat → Prop} (W : World) {N o : Nat} (v : Value) (h : ¬ ok N) : Keeps ok W (W.setCell ⟨N, o, none⟩ v) :=
  ⟨by simp, fun b o' hb _ => World.cell?_setCell_other _ _ _ _ (by intro e; cases e; exact h hb)⟩
theorem Keeps.mono {ok ok' : Nat → Prop} {A B : World} (h : Keeps ok A B) (k : ∀ b, ok' b → ok b) : Keeps ok' A B := ⟨h.size, fun b o hb => h.cell b o (k b hb)⟩
/-! ### trees in memory -/
/-- the heap holds the tree T at p, in blocks that are ok -/
def IsT (ok : Nat → Prop) (W : World) : Option Addr → Tr (Int × Int) → Prop
  | p, .leaf => p = none
  | p, .node l x r => ∃ (b : Nat) (pl pr : Option Addr), p = some ⟨b, 0, none⟩ ∧ ok b ∧ W.cell? ⟨b, 0, none⟩ = some (.int .i64 x.1) ∧ W.cell? ⟨b, 1, none⟩ = some (.int .i64 x.2) ∧ W.cell? ⟨b, 2, none⟩ = some (.pointer pl) ∧ W.cell? ⟨b, 3, none⟩ = some (.pointer pr) ∧ W.cell? ⟨b, 4, none⟩ = some (.int .i64 (l.size + r.size + 1 : Nat)) ∧ W.cell? ⟨b, 5, none⟩ = some (.int .i64 (max l.tall r.tall + 1 : Nat)) ∧ IsT ok W pl l ∧ IsT ok W pr r
theorem IsT.keep {ok : Nat → Prop} {A B : World} (h : Keeps ok A B) : ∀ {p : Option Addr} {T : Tr (Int × Int)}, IsT ok A p T → IsT ok B p T
  | _, .leaf, ht => ht
  | _, .node _ _ _, ⟨b, pl, pr, hp, hb, h0, h1, h2, h3, h4, h5, hl, hr⟩ =>
    have c : ∀ o, B.cell? ⟨b, o, none⟩ = A.cell? ⟨b, o, none⟩ := fun o => h.cell b o hb (cell_lt h0)
    ⟨b, pl, pr, hp, hb, (c _).trans h0, (c _).trans h1, (c _).trans h2, (c _).trans h3, (c _).trans h4, (c _).trans h5, IsT.keep h hl, IsT.keep h hr⟩
theorem IsT.later {ok : Nat → Prop} {A B : World} {p : Option Addr} {T : Tr (Int × Int)} (h : IsT ok A p T) (k : Later A B) : IsT ok B p T := IsT.keep k.keeps h
theorem IsT.mono {ok ok' : Nat → Prop} {A : World} (h : ∀ b, b < A.heap.size → ok b → ok' b) : ∀ {p : Option Addr} {T : Tr (Int × Int)}, IsT ok A p T → IsT ok' A p T
  | _, .leaf, ht => ht
  | _, .node _ _ _, ⟨b, pl, pr, hp, hb, h0, h1, h2, h3, h4, h5, hl, hr⟩ => ⟨b, pl, pr, hp, h b (cell_lt h0) hb, h0, h1, h2, h3, h4, h5, IsT.mono h hl, IsT.mono h hr⟩
theorem IsT.nodeK {ok : Nat → Prop} {W : World} {p : Option Addr} {l r : Tr (Int × Int)} {x : Int × Int} (h : IsT ok W p (.node l x r)) : ∃ (b : Nat) (pl pr : Option Addr), p = some ⟨b, 0, none⟩ ∧ ok b ∧
    (∀ W', Keeps ok W W' → W'.cell? ⟨b, 0, none⟩ = some (.int .i64 x.1) ∧ W'.cell? ⟨b, 1, none⟩ = some (.int .i64 x.2) ∧ W'.cell? ⟨b, 2, none⟩ = some (.pointer pl) ∧ W'.cell? ⟨b, 3, none⟩ = some (.pointer pr)) ∧ (∀ W', Keeps ok W W' → IsT ok W' pl l) ∧ (∀ W', Keeps ok W W' → IsT ok W' pr r) := by
  obtain ⟨b, pl, pr, hp, hb, h0, h1, h2, h3, h4, h5, hl, hr⟩ := h
  refine ⟨b, pl, pr, hp, hb, fun W' k => ?_, fun W' k => hl.keep k, fun W' k => hr.keep k⟩
  have c : ∀ o, W'.cell? ⟨b, o, none⟩ = W.cell? ⟨b, o, none⟩ := fun o => k.cell b o hb (cell_lt h0)
  exact ⟨(c _).trans h0, (c _).trans h1, (c _).trans h2, (c _).trans h3⟩
theorem IsT.node {ok : Nat → Prop} {W : World} {p : Option Addr} {l r : Tr (Int × Int)} {x : Int × Int} (h : IsT ok W p (.node l x r)) : ∃ (b : Nat) (pl pr : Option Addr), p = some ⟨b, 0, none⟩ ∧ ok b ∧
    (∀ W', Later W W' → W'.cell? ⟨b, 0, none⟩ = some (.int .i64 x.1) ∧ W'.cell? ⟨b, 1, none⟩ = some (.int .i64 x.2) ∧ W'.cell? ⟨b, 2, none⟩ = some (.pointer pl) ∧ W'.cell? ⟨b, 3, none⟩ = some (.pointer pr)) ∧ (∀ W', Later W W' → IsT ok W' pl l) ∧ (∀ W', Later W W' → IsT ok W' pr r) := by
  obtain ⟨b, pl, pr, hp, hb, hc, hl, hr⟩ := IsT.nodeK h
  exact ⟨b, pl, pr, hp, hb, fun W' k => hc W' k.keeps, fun W' k => hl W' k.keeps, fun W' k => hr W' k.keeps⟩
theorem count_any {ok : Nat → Prop} {w : World} {p : Option Addr} {T : Tr (Int × Int)} (h : IsT ok w p T) :
    Calls Try.prog 62 #[.pointer p] w fun e w' => e = .returned (.int .i64 T.size) ∧ w = w' := by
  cases T with
  | leaf =>
    obtain rfl : p = none := h
    go_enter Try.func62, Try.ntmps62
    go_wp2
    go_ret
    exact ⟨rfl, rfl⟩
  | node l x r =>
    obtain ⟨b, pl, pr, rfl, hb, h0, h1, h2, h3, h4, h5, hl, hr⟩ := h
    clear hl hr h0 h1 h2 h3 h5
    go_enter Try.func62, Try.ntmps62
    go_wp2
    go_ret
    exact ⟨rfl, rfl⟩
theorem height_any {ok : Nat → Prop} {w : World} {p : Option Addr} {T : Tr (Int × Int)} (h : IsT ok w p T) :
    Calls Try.prog 91 #[.pointer p] w fun e w' => e = .returned (.int .i64 T.tall) ∧ w = w' := by
  cases T with
  | leaf =>
    obtain rfl : p = none := h
    go_enter Try.func91, Try.ntmps91
    go_wp2
    go_ret
    exact ⟨rfl, rfl⟩
  | node l x r =>
    obtain ⟨b, pl, pr, rfl, hb, h0, h1, h2, h3, h4, h5, hl, hr⟩ := h
    clear hl hr h0 h1 h2 h3 h4
    go_enter Try.func91, Try.ntmps91
    go_wp2
    go_ret
    exact ⟨rfl, rfl⟩
theorem two_new (w : World) (u v : Value) (t : TypeId) : (w.alloc (.cells #[u, v] t)).cell? ⟨w.heap.size, 0, none⟩ = some u ∧ (w.alloc (.cells #[u, v] t)).cell? ⟨w.heap.size, 1, none⟩ = some v := by
  rw [World.cell?_alloc_new, World.cell?_alloc_new]
  exact ⟨rfl, rfl⟩
theorem node_new {ok : Nat → Prop} {W : World} {pl pr : Option Addr} {l r : Tr (Int × Int)} {x : Int × Int} {s t : Int} (hl : IsT ok W pl l) (hr : IsT ok W pr r) (h : ok W.heap.size) (es : s = (l.size + r.size + 1 : Nat)) (et : t = (max l.tall r.tall + 1 : Nat)) :
    IsT ok (W.alloc (.cells #[.int .i64 x.1, .int .i64 x.2, .pointer pl, .pointer pr, .int .i64 s, .int .i64 t] 98)).drew (some ⟨W.heap.size, 0, none⟩) (.node l x r) := by
  subst es et
  have hb : Later W (W.alloc (.cells #[.int .i64 x.1, .int .i64 x.2, .pointer pl, .pointer pr, .int .i64 (l.size + r.size + 1 : Nat), .int .i64 (max l.tall r.tall + 1 : Nat)] 98)).drew := ((Later.refl W).alloc _).drew
  refine ⟨_, pl, pr, rfl, h, ?_, ?_, ?_, ?_, ?_, ?_, hl.later hb, hr.later hb⟩ <;> (rw [World.cell?_drew, World.cell?_alloc_new]; rfl)
set_option maxRecDepth 100000 in
set_option maxHeartbeats 4000000 in
theorem join_any {ok : Nat → Prop} {w : World} {pl pr : Option Addr} {l r : Tr (Int × Int)} (x : Int × Int) (hu : Up ok w.heap.size) (hl : IsT ok w pl l) (hr : IsT ok w pr r) (hs : l.size + r.size + 1 ≤ 4611686018427387904) :
    Calls Try.prog 83 #[.pointer pl, .agg #[.int .i64 x.1, .int .i64 x.2], .pointer pr] w fun e w' => ∃ p, e = .returned (.pointer p) ∧ IsT ok w' p (.node l x r) ∧ Later w w' := by
  have hl2 := Tr.tall_le l
  have hr2 := Tr.tall_le r
  go_enter Try.func83, Try.ntmps83
  go_wp2
  have hB : Later w (w.alloc (.cells #[.int .i64 x.1, .int .i64 x.2] 27)) := Later.two
  have hc := two_new w (.int .i64 x.1) (.int .i64 x.2) 27
  have hz : (w.alloc (.cells #[.int .i64 x.1, .int .i64 x.2] 27)).heap.size = w.heap.size + 1 := World.size_alloc _ _
  obtain ⟨W0, hW0⟩ : ∃ W0, w.alloc (.cells #[.int .i64 x.1, .int .i64 x.2] 27) = W0 := ⟨_, rfl⟩
  rw [hW0] at hc hB hz ⊢
  replace hl := hl.later hB
  replace hr := hr.later hB
  obtain ⟨N, hN⟩ : ∃ N, w.heap.size = N := ⟨_, rfl⟩
  rw [hN] at hc hz hu ⊢
  have hbox : ∀ W', Later W0 W' → W'.cell? ⟨N, 0, none⟩ = some (.int .i64 x.1) ∧ W'.cell? ⟨N, 1, none⟩ = some (.int .i64 x.2) := fun W' h => ⟨h.cell hc.1, h.cell hc.2⟩
  have hb0 := Later.refl W0
  clear hW0 hc
  go_region_held3 (fun W' => Later W0 W') (first | assumption | exact Later.drew (by assumption) | exact Later.alloc (by assumption) _) (first | (go_at_call 62; (first | with_reducible refine (count_any (hl.later (by assumption))).mono ?_ | with_reducible refine (count_any (hr.later (by assumption))).mono ?_); rintro e w' ⟨rfl, rfl⟩) | (go_at_call 91; (first | with_reducible refine (height_any (hl.later (by assumption))).mono ?_ | with_reducible refine (height_any (hr.later (by assumption))).mono ?_); rintro e w' ⟨rfl, rfl⟩))
  all_goals go_wp2
  all_goals
    go_ret
    refine ⟨_, rfl, ?_, hB.next ((hb0.alloc _).drew)⟩
    rw [← hz]
    refine node_new hl hr (hu _ (by omega)) ?_ ?_
    · rw [IntWalk.i64_in (↑l.size + ↑r.size : Int) (by omega), IntWalk.i64_in _ (by omega)]; omega
    · (try split) <;> (rw [IntWalk.i64_in _ (by omega)]; omega)
end Go.Proofs.Yteledidnhjioaaa.Sh
