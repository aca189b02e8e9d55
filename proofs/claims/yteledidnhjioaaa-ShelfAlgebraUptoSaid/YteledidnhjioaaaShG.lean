import Derived.Test.YteledidnhjioaaaShE
import Derived.Laws.EntriesVeiled
import Derived.RangeFuncNested
namespace Go.Proofs.Yteledidnhjioaaa.Sh
open Go.RowKit Go.Lib Go.Proofs
set_option linter.unusedVariables false
set_option linter.unusedSimpArgs false
/-- the Shelf's own block -/
def IsS (W : World) (sb c : Nat) (p : Option Addr) : Prop := W.heap[sb]? = some (.cells #[.func (.func c) #[] #[], .pointer p] 91 (0, 0))
/-- a tree in blocks that are not of X -/
def Tree (X : Nat → Prop) (W : World) (p : Option Addr) (T : Tr (Int × Int)) : Prop := ∃ ok : Nat → Prop, IsT ok W p T ∧ ∀ b, X b → ¬ ok b
def Shf (X : Nat → Prop) (W : World) (sb c : Nat) (T : Tr (Int × Int)) : Prop := ∃ p, IsS W sb c p ∧ Tree X W p T
/-- what is not of X lies as it lay -/
structure Chg (X : Nat → Prop) (W W' : World) : Prop where
  os : W'.os = W.os
  tape : W'.tape = W.tape
  output : W'.output = W.output
  size : W.heap.size ≤ W'.heap.size
  block : ∀ k, k < W.heap.size → ¬ X k → W'.heap[k]? = W.heap[k]?
theorem Chg.refl (X : Nat → Prop) (W : World) : Chg X W W := ⟨rfl, rfl, rfl, Nat.le_refl _, fun _ _ _ => rfl⟩
theorem Chg.trans {X : Nat → Prop} {A B C : World} (h : Chg X A B) (k : Chg X B C) : Chg X A C :=
  ⟨k.os.trans h.os, k.tape.trans h.tape, k.output.trans h.output, Nat.le_trans h.size k.size, fun i hi hx => (k.block i (Nat.lt_of_lt_of_le hi h.size) hx).trans (h.block i hi hx)⟩
theorem Later.chg {X : Nat → Prop} {A B : World} (h : Later A B) : Chg X A B := ⟨h.os, h.tape, h.output, h.size, fun k hk _ => h.block k hk⟩
theorem Chg.mono {X Y : Nat → Prop} {A B : World} (h : Chg X A B) (k : ∀ b, X b → Y b) : Chg Y A B := ⟨h.os, h.tape, h.output, h.size, fun i hi hy => h.block i hi (fun hx => hy (k i hx))⟩
theorem Chg.set {X : Nat → Prop} (W : World) {N o : Nat} (v : Value) (h : X N) : Chg X W (W.setCell ⟨N, o, none⟩ v) :=
  ⟨rfl, rfl, rfl, by simp, fun k hk hx => Below.heap_setCell _ _ _ _ (fun e => hx (by rw [e]; exact h))⟩
theorem Chg.below {X : Nat → Prop} {B : Nat} {W W' : World} (h : Chg X W W') (hB : B ≤ W.heap.size) (hX : ∀ b, X b → B ≤ b) : Below B W W' :=
  ⟨h.os, h.tape, h.output, h.size, fun k hk => h.block k (by omega) (fun hx => by have := hX k hx; omega)⟩
theorem Chg.keeps {X ok : Nat → Prop} {W W' : World} (h : Chg X W W') (hx : ∀ b, X b → ¬ ok b) : Keeps ok W W' :=
  ⟨h.size, fun b o hb hl => World.cell?_of_block (w := W) (a := ⟨b, o, none⟩) (h.block b hl (fun k => hx b k hb))⟩
theorem Tree.keep {X : Nat → Prop} {W W' : World} {p : Option Addr} {T : Tr (Int × Int)} (h : Tree X W p T) (k : Chg X W W') : Tree X W' p T := by
  obtain ⟨ok, ht, hx⟩ := h
  exact ⟨ok, ht.keep (k.keeps hx), hx⟩
theorem Tree.more {X Y : Nat → Prop} {W : World} {p : Option Addr} {T : Tr (Int × Int)} (h : Tree X W p T) (k : ∀ b, Y b → b < W.heap.size → X b) : Tree Y W p T := by
  obtain ⟨ok, ht, hx⟩ := h
  exact ⟨fun b => ok b ∧ b < W.heap.size, ht.mono fun b hb ho => ⟨ho, hb⟩, fun b hy ho => hx b (k b hy ho.2) ho.1⟩
/-- the blocks that are the tree's, and all that come -/
theorem Tree.up {X : Nat → Prop} {W : World} {p : Option Addr} {T : Tr (Int × Int)} (h : Tree X W p T) (hX : ∀ b, X b → b < W.heap.size) : ∃ ok : Nat → Prop, Up ok W.heap.size ∧ IsT ok W p T ∧ ∀ b, X b → ¬ ok b := by
  obtain ⟨ok, ht, hx⟩ := h
  refine ⟨fun b => ok b ∧ b < W.heap.size ∨ W.heap.size ≤ b, fun b hb => .inr hb, ht.mono fun b hb ho => .inl ⟨ho, hb⟩, fun b hxb ho => ?_⟩
  rcases ho with ho | ho
  · exact hx b hxb ho.1
  · have := hX b hxb; omega
theorem IsS.keep {X : Nat → Prop} {W W' : World} {sb c : Nat} {p : Option Addr} (h : IsS W sb c p) (k : Chg X W W') (hx : ¬ X sb) : IsS W' sb c p :=
  (k.block sb (Array.getElem?_eq_some_iff.1 h).1 hx).trans h
theorem IsS.later {W W' : World} {sb c : Nat} {p : Option Addr} (h : IsS W sb c p) (k : Later W W') : IsS W' sb c p := (k.block sb (Array.getElem?_eq_some_iff.1 h).1).trans h
theorem IsS.lt {W : World} {sb c : Nat} {p : Option Addr} (h : IsS W sb c p) : sb < W.heap.size := (Array.getElem?_eq_some_iff.1 h).1
theorem IsS.cells {W : World} {sb c : Nat} {p : Option Addr} (h : IsS W sb c p) : W.cell? ⟨sb, 0, none⟩ = some (.func (.func c) #[] #[]) ∧ W.cell? ⟨sb, 1, none⟩ = some (.pointer p) ∧ W.frozen? ⟨sb, 1, none⟩ = false := by
  have h' : W.heap[sb]? = some (.cells #[.func (.func c) #[] #[], .pointer p] 91 (0, 0)) := h
  simp [World.cell?, World.frozen?, h']
theorem IsS.set {W : World} {sb c : Nat} {p q : Option Addr} (h : IsS W sb c p) : IsS (W.setCell ⟨sb, 1, none⟩ (.pointer q)) sb c q := by
  have h' : W.heap[sb]? = some (.cells #[.func (.func c) #[] #[], .pointer p] 91 (0, 0)) := h
  simp [IsS, World.setCell, Array.getElem?_modify, h']
theorem Shf.later {X : Nat → Prop} {W W' : World} {sb c : Nat} {T : Tr (Int × Int)} (h : Shf X W sb c T) (k : Later W W') : Shf X W' sb c T := by
  obtain ⟨p, hs, ht⟩ := h
  exact ⟨p, hs.later k, ht.keep k.chg⟩
/-- another Shelf's doing -/
theorem Shf.keep {X Y : Nat → Prop} {W W' : World} {sb c : Nat} {T : Tr (Int × Int)} (h : Shf X W sb c T) (k : Chg Y W W') (hxy : ∀ b, Y b → X b) (hx : ¬ Y sb) : Shf X W' sb c T := by
  obtain ⟨p, hs, ht⟩ := h
  exact ⟨p, hs.keep k hx, ht.keep (k.mono hxy)⟩
theorem Shf.more {X Y : Nat → Prop} {W : World} {sb c : Nat} {T : Tr (Int × Int)} (h : Shf X W sb c T) (k : ∀ b, Y b → b < W.heap.size → X b) : Shf Y W sb c T := by
  obtain ⟨p, hs, ht⟩ := h
  exact ⟨p, hs, ht.more k⟩
theorem Shf.lt {X : Nat → Prop} {W : World} {sb c : Nat} {T : Tr (Int × Int)} (h : Shf X W sb c T) : sb < W.heap.size := by
  obtain ⟨p, hs, ht⟩ := h
  exact hs.lt
abbrev only (sb : Nat) : Nat → Prop := fun b => b = sb
def newPost (w : World) (c : Nat) (e : Ending) (w' : World) : Prop := e = .returned (.pointer (some ⟨w.heap.size, 0, none⟩)) ∧ IsS w' w.heap.size c none ∧ Later w w'
theorem eqF54 (c : Nat) (w : World) : (binOp .eql 54 (.func (.func c) #[] #[]) .nilFunc).run Try.prog w = .ok (.bool false) w := by kernel_rfl
theorem eqN54 (w : World) : (binOp .eql 54 .nilFunc .nilFunc).run Try.prog w = .ok (.bool true) w := by kernel_rfl
set_option maxRecDepth 100000 in
theorem new_any (c : Nat) (w : World) : Calls Try.prog 30 #[.func (.func c) #[] #[]] w (newPost w c) := by
  have hF := eqF54 c
  go_enter Try.func30, Try.ntmps30
  go_wp2
  go_ret
  exact ⟨rfl, World.alloc_heap_new w _, (Later.refl w).alloc _⟩
set_option maxRecDepth 100000 in
theorem new_nil (w : World) : Calls Try.prog 30 #[.nilFunc] w fun e w' => e = .returned (.pointer none) ∧ w = w' := by
  have hF := eqN54
  go_enter Try.func30, Try.ntmps30
  go_wp2
  go_ret
  exact ⟨rfl, rfl⟩
set_option maxRecDepth 100000 in
set_option maxHeartbeats 8000000 in
theorem add_any {X : Nat → Prop} {c : Nat} {f : (Int × Int) → (Int × Int) → Int} (hc : Comp c f) (x : Int × Int) {w : World} {sb : Nat} {T : Tr (Int × Int)} (h : Shf X w sb c T) (hX : ∀ b, X b → b < w.heap.size) (hsb : X sb) (hz : T.size + 1 ≤ 4611686018427387904) :
    Calls Try.prog 22 #[.pointer (some ⟨sb, 0, none⟩), .agg #[.int .i64 x.1, .int .i64 x.2]] w fun e w' => e = .returned (.bool (!(T.put f x false).2)) ∧ Shf X w' sb c (T.put f x false).1 ∧ Chg (only sb) w w' := by
  obtain ⟨p, hs, ht⟩ := h
  obtain ⟨ok, hu, ht, hx⟩ := ht.up hX
  have hB : Later w (w.alloc (.cells #[.int .i64 x.1, .int .i64 x.2] 27)) := Later.two
  have hxx := two_new w (.int .i64 x.1) (.int .i64 x.2) 27
  obtain ⟨W0, hW0⟩ : ∃ W0, w.alloc (.cells #[.int .i64 x.1, .int .i64 x.2] 27) = W0 := ⟨_, rfl⟩
  obtain ⟨N, hN⟩ : ∃ N, w.heap.size = N := ⟨_, rfl⟩
  rw [hW0] at hxx hB
  rw [hN] at hxx hu
  have hsc : ∀ W', Later W0 W' → W'.cell? ⟨sb, 0, none⟩ = some (.func (.func c) #[] #[]) ∧ W'.cell? ⟨sb, 1, none⟩ = some (.pointer p) ∧ W'.frozen? ⟨sb, 1, none⟩ = false := fun W' k => ((hs.later hB).later k).cells
  have hbox : ∀ W', Later W0 W' → W'.cell? ⟨N, 0, none⟩ = some (.int .i64 x.1) ∧ W'.cell? ⟨N, 1, none⟩ = some (.int .i64 x.2) := fun W' k => ⟨k.cell hxx.1, k.cell hxx.2⟩
  have hp : ∀ W', Later W0 W' → Calls Try.prog 60 #[.pointer (some ⟨sb, 0, none⟩), .pointer p, .agg #[.int .i64 x.1, .int .i64 x.2], .bool false] W' (putPost ok W' (T.put f x false)) := fun W' k => put_any hc x false sb T W' p ok (hu.mono (by have := k.size; have := hB.size; omega)) ((ht.later hB).later k) (hsc W' k).1 hz
  have hb0 := Later.refl W0
  obtain ⟨R, hR⟩ : ∃ R, T.put f x false = R := ⟨_, rfl⟩
  rw [hR] at hp ⊢
  clear hxx ht
  go_enter Try.func22, Try.ntmps22
  go_wp2_with fail
  clear hW0
  go_region_held3 (fun W' => Later W0 W') (first | assumption | exact Later.drew (by assumption) | exact Later.next (by assumption) hb1) (first | (go_at_call 60; (with_reducible refine (hp _ (by assumption)).mono ?_); rintro e w2 ⟨q, rfl, hq, hb1⟩))
  go_wp2_with fail
  go_ret
  have hf : Later w _ := hB.next (show Later W0 w2 by assumption)
  have hcg : Chg (only sb) w (w2.setCell ⟨sb, 1, none⟩ (.pointer q)) := hf.chg.trans (Chg.set _ _ rfl)
  exact ⟨rfl, ⟨q, (hs.later hf).set, ok, hq.keep (Keeps.set _ _ (hx _ hsb)), hx⟩, hcg⟩
set_option maxRecDepth 100000 in
set_option maxHeartbeats 8000000 in
theorem lay_any {X : Nat → Prop} {c : Nat} {f : (Int × Int) → (Int × Int) → Int} (hc : Comp c f) (x : Int × Int) {w : World} {sb : Nat} {T : Tr (Int × Int)} (h : Shf X w sb c T) (hX : ∀ b, X b → b < w.heap.size) (hsb : X sb) (hz : T.size + 1 ≤ 4611686018427387904) :
    Calls Try.prog 23 #[.pointer (some ⟨sb, 0, none⟩), .agg #[.int .i64 x.1, .int .i64 x.2]] w fun e w' => e = .returned (.bool ((T.put f x true).2)) ∧ Shf X w' sb c (T.put f x true).1 ∧ Chg (only sb) w w' := by
  obtain ⟨p, hs, ht⟩ := h
  obtain ⟨ok, hu, ht, hx⟩ := ht.up hX
  have hB : Later w (w.alloc (.cells #[.int .i64 x.1, .int .i64 x.2] 27)) := Later.two
  have hxx := two_new w (.int .i64 x.1) (.int .i64 x.2) 27
  obtain ⟨W0, hW0⟩ : ∃ W0, w.alloc (.cells #[.int .i64 x.1, .int .i64 x.2] 27) = W0 := ⟨_, rfl⟩
  obtain ⟨N, hN⟩ : ∃ N, w.heap.size = N := ⟨_, rfl⟩
  rw [hW0] at hxx hB
  rw [hN] at hxx hu
  have hsc : ∀ W', Later W0 W' → W'.cell? ⟨sb, 0, none⟩ = some (.func (.func c) #[] #[]) ∧ W'.cell? ⟨sb, 1, none⟩ = some (.pointer p) ∧ W'.frozen? ⟨sb, 1, none⟩ = false := fun W' k => ((hs.later hB).later k).cells
  have hbox : ∀ W', Later W0 W' → W'.cell? ⟨N, 0, none⟩ = some (.int .i64 x.1) ∧ W'.cell? ⟨N, 1, none⟩ = some (.int .i64 x.2) := fun W' k => ⟨k.cell hxx.1, k.cell hxx.2⟩
  have hp : ∀ W', Later W0 W' → Calls Try.prog 60 #[.pointer (some ⟨sb, 0, none⟩), .pointer p, .agg #[.int .i64 x.1, .int .i64 x.2], .bool true] W' (putPost ok W' (T.put f x true)) := fun W' k => put_any hc x true sb T W' p ok (hu.mono (by have := k.size; have := hB.size; omega)) ((ht.later hB).later k) (hsc W' k).1 hz
  have hb0 := Later.refl W0
  obtain ⟨R, hR⟩ : ∃ R, T.put f x true = R := ⟨_, rfl⟩
  rw [hR] at hp ⊢
  clear hxx ht
  go_enter Try.func23, Try.ntmps23
  go_wp2_with fail
  clear hW0
  go_region_held3 (fun W' => Later W0 W') (first | assumption | exact Later.drew (by assumption) | exact Later.next (by assumption) hb1) (first | (go_at_call 60; (with_reducible refine (hp _ (by assumption)).mono ?_); rintro e w2 ⟨q, rfl, hq, hb1⟩))
  go_wp2_with fail
  go_ret
  have hf : Later w _ := hB.next (show Later W0 w2 by assumption)
  have hcg : Chg (only sb) w (w2.setCell ⟨sb, 1, none⟩ (.pointer q)) := hf.chg.trans (Chg.set _ _ rfl)
  exact ⟨rfl, ⟨q, (hs.later hf).set, ok, hq.keep (Keeps.set _ _ (hx _ hsb)), hx⟩, hcg⟩
set_option maxRecDepth 100000 in
set_option maxHeartbeats 8000000 in
theorem remove_any {X : Nat → Prop} {c : Nat} {f : (Int × Int) → (Int × Int) → Int} (hc : Comp c f) (x : Int × Int) {w : World} {sb : Nat} {T : Tr (Int × Int)} (h : Shf X w sb c T) (hX : ∀ b, X b → b < w.heap.size) (hsb : X sb) (hz : T.size + 1 ≤ 4611686018427387904) :
    Calls Try.prog 24 #[.pointer (some ⟨sb, 0, none⟩), .agg #[.int .i64 x.1, .int .i64 x.2]] w fun e w' => e = .returned (.bool ((T.out f x).2)) ∧ Shf X w' sb c (T.out f x).1 ∧ Chg (only sb) w w' := by
  obtain ⟨p, hs, ht⟩ := h
  obtain ⟨ok, hu, ht, hx⟩ := ht.up hX
  have hB : Later w (w.alloc (.cells #[.int .i64 x.1, .int .i64 x.2] 27)) := Later.two
  have hxx := two_new w (.int .i64 x.1) (.int .i64 x.2) 27
  obtain ⟨W0, hW0⟩ : ∃ W0, w.alloc (.cells #[.int .i64 x.1, .int .i64 x.2] 27) = W0 := ⟨_, rfl⟩
  obtain ⟨N, hN⟩ : ∃ N, w.heap.size = N := ⟨_, rfl⟩
  rw [hW0] at hxx hB
  rw [hN] at hxx hu
  have hsc : ∀ W', Later W0 W' → W'.cell? ⟨sb, 0, none⟩ = some (.func (.func c) #[] #[]) ∧ W'.cell? ⟨sb, 1, none⟩ = some (.pointer p) ∧ W'.frozen? ⟨sb, 1, none⟩ = false := fun W' k => ((hs.later hB).later k).cells
  have hbox : ∀ W', Later W0 W' → W'.cell? ⟨N, 0, none⟩ = some (.int .i64 x.1) ∧ W'.cell? ⟨N, 1, none⟩ = some (.int .i64 x.2) := fun W' k => ⟨k.cell hxx.1, k.cell hxx.2⟩
  have hp : ∀ W', Later W0 W' → Calls Try.prog 61 #[.pointer (some ⟨sb, 0, none⟩), .pointer p, .agg #[.int .i64 x.1, .int .i64 x.2]] W' (putPost ok W' (T.out f x)) := fun W' k => out_any hc x sb T W' p ok (hu.mono (by have := k.size; have := hB.size; omega)) ((ht.later hB).later k) (hsc W' k).1 hz
  have hb0 := Later.refl W0
  obtain ⟨R, hR⟩ : ∃ R, T.out f x = R := ⟨_, rfl⟩
  rw [hR] at hp ⊢
  clear hxx ht
  go_enter Try.func24, Try.ntmps24
  go_wp2_with fail
  clear hW0
  go_region_held3 (fun W' => Later W0 W') (first | assumption | exact Later.drew (by assumption) | exact Later.next (by assumption) hb1) (first | (go_at_call 61; (with_reducible refine (hp _ (by assumption)).mono ?_); rintro e w2 ⟨q, rfl, hq, hb1⟩))
  go_wp2_with fail
  go_ret
  have hf : Later w _ := hB.next (show Later W0 w2 by assumption)
  have hcg : Chg (only sb) w (w2.setCell ⟨sb, 1, none⟩ (.pointer q)) := hf.chg.trans (Chg.set _ _ rfl)
  exact ⟨rfl, ⟨q, (hs.later hf).set, ok, hq.keep (Keeps.set _ _ (hx _ hsb)), hx⟩, hcg⟩
end Go.Proofs.Yteledidnhjioaaa.Sh
