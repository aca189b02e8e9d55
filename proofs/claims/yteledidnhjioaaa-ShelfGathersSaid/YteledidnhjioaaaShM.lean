import Derived.Test.YteledidnhjioaaaShL
namespace Go.Proofs.Yteledidnhjioaaa.Sh
open Go.RowKit Go.Lib Go.Proofs Go.Shelf
set_option linter.unusedVariables false
set_option linter.unusedSimpArgs false
/-- what All hands out -/
structure AllAt (X : Nat → Prop) (W : World) (bt : Nat) (T : Tr (Int × Int)) : Prop where
  tree : ∃ p, W.cell? ⟨bt, 0, none⟩ = some (.pointer p) ∧ Tree X W p T
abbrev allV (bt : Nat) : Value := .func (.func 57) #[] #[.pointer (some ⟨bt, 0, none⟩)]
theorem all_any {X : Nat → Prop} {c : Nat} {w : World} {sb : Nat} {T : Tr (Int × Int)} (h : Shf X w sb c T) :
    Calls Try.prog 19 #[.pointer (some ⟨sb, 0, none⟩)] w fun e w' => e = .returned (allV w.heap.size) ∧ Later w w' ∧ AllAt X w' w.heap.size T := by
  obtain ⟨p, hs, ht⟩ := h
  have hcs := hs.cells
  have hla : Later w (w.alloc (.cells #[.pointer p] 89)) := (Later.refl w).alloc _
  have hcl : (w.alloc (.cells #[.pointer p] 89)).cell? ⟨w.heap.size, 0, none⟩ = some (.pointer p) := by rw [World.cell?_alloc_new]; rfl
  have htr := ht.keep hla.chg
  clear hs ht
  go_enter Try.func19, Try.ntmps19
  go_wp2
  go_ret
  exact ⟨rfl, hla, ⟨p, hcl, htr⟩⟩
/-- what From hands out -/
structure FromAt (X : Nat → Prop) (W : World) (c bt cb xb : Nat) (x : Int × Int) (T : Tr (Int × Int)) : Prop where
  tree : ∃ p, W.cell? ⟨bt, 0, none⟩ = some (.pointer p) ∧ Tree X W p T
  cmp : W.cell? ⟨cb, 0, none⟩ = some (.func (.func c) #[] #[])
  x0 : W.cell? ⟨xb, 0, none⟩ = some (.int .i64 x.1)
  x1 : W.cell? ⟨xb, 1, none⟩ = some (.int .i64 x.2)
abbrev fromV (bt cb xb : Nat) : Value := .func (.func 64) #[] #[.pointer (some ⟨bt, 0, none⟩), .pointer (some ⟨cb, 0, none⟩), .pointer (some ⟨xb, 0, none⟩)]
def fromPost (X : Nat → Prop) (c : Nat) (x : Int × Int) (T : Tr (Int × Int)) (w : World) (e : Ending) (w' : World) : Prop :=
  ∃ bt cb xb, e = .returned (fromV bt cb xb) ∧ w.heap.size ≤ bt ∧ w.heap.size ≤ cb ∧ w.heap.size ≤ xb ∧ Later w w' ∧ FromAt X w' c bt cb xb x T
theorem three_from (w : World) (x y u v : Value) (t t' : TypeId) :
    ((((w.alloc (.cells #[x, y] 27)).alloc (.cells #[u] t)).alloc (.cells #[v] t')).drew.cell? ⟨w.heap.size, 0, none⟩ = some x) ∧ ((((w.alloc (.cells #[x, y] 27)).alloc (.cells #[u] t)).alloc (.cells #[v] t')).drew.cell? ⟨w.heap.size, 1, none⟩ = some y) ∧
    ((((w.alloc (.cells #[x, y] 27)).alloc (.cells #[u] t)).alloc (.cells #[v] t')).drew.cell? ⟨w.heap.size + 1, 0, none⟩ = some u) ∧ ((((w.alloc (.cells #[x, y] 27)).alloc (.cells #[u] t)).alloc (.cells #[v] t')).drew.cell? ⟨w.heap.size + 1 + 1, 0, none⟩ = some v) := by
  have h1 := two_new w x y 27
  have h2 : ((w.alloc (.cells #[x, y] 27)).alloc (.cells #[u] t)).cell? ⟨w.heap.size + 1, 0, none⟩ = some u := by
    have := World.cell?_alloc_new (w.alloc (.cells #[x, y] 27)) #[u] t 0
    rw [World.size_alloc] at this
    exact this
  have h3 : (((w.alloc (.cells #[x, y] 27)).alloc (.cells #[u] t)).alloc (.cells #[v] t')).cell? ⟨w.heap.size + 1 + 1, 0, none⟩ = some v := by
    have := World.cell?_alloc_new ((w.alloc (.cells #[x, y] 27)).alloc (.cells #[u] t)) #[v] t' 0
    rw [World.size_alloc, World.size_alloc] at this
    exact this
  have l1 : Later (w.alloc (.cells #[x, y] 27)) (((w.alloc (.cells #[x, y] 27)).alloc (.cells #[u] t)).alloc (.cells #[v] t')).drew := (((Later.refl _).alloc _).alloc _).drew
  have l2 : Later ((w.alloc (.cells #[x, y] 27)).alloc (.cells #[u] t)) (((w.alloc (.cells #[x, y] 27)).alloc (.cells #[u] t)).alloc (.cells #[v] t')).drew := ((Later.refl _).alloc _).drew
  exact ⟨l1.cell h1.1, l1.cell h1.2, l2.cell h2, h3⟩
set_option maxRecDepth 100000 in
set_option maxHeartbeats 4000000 in
theorem from_any {X : Nat → Prop} {c : Nat} (x : Int × Int) {w : World} {sb : Nat} {T : Tr (Int × Int)} (h : Shf X w sb c T) :
    Calls Try.prog 28 #[.pointer (some ⟨sb, 0, none⟩), .agg #[.int .i64 x.1, .int .i64 x.2]] w (fromPost X c x T w) := by
  obtain ⟨p, hs, ht⟩ := h
  have hB : Later w (w.alloc (.cells #[.int .i64 x.1, .int .i64 x.2] 27)) := Later.two
  have hxx := two_new w (.int .i64 x.1) (.int .i64 x.2) 27
  have hcs := (hs.later hB).cells
  have hcs2 := fun o => ((hs.later hB).later ((Later.refl _).alloc o)).cells
  have hcs3 := fun o o' => (((hs.later hB).later ((Later.refl _).alloc o)).later ((Later.refl _).alloc o')).cells
  go_enter Try.func28, Try.ntmps28
  go_wp2
  go_region
  all_goals go_wp2
  all_goals
    go_ret
    first
      | (have hh := three_from w (.int .i64 x.1) (.int .i64 x.2) (.func (.func c) #[] #[]) (.pointer p) 54 89
         have hl : Later w ((((w.alloc (.cells #[.int .i64 x.1, .int .i64 x.2] 27)).alloc (.cells #[.func (.func c) #[] #[]] 54)).alloc (.cells #[.pointer p] 89)).drew) := ((Later.two.alloc _).alloc _).drew
         exact ⟨w.heap.size + 1 + 1, w.heap.size + 1, w.heap.size, rfl, by omega, by omega, Nat.le_refl _, hl, ⟨p, hh.2.2.2, ht.keep hl.chg⟩, hh.2.2.1, hh.1, hh.2.1⟩)
      | (have hh := three_from w (.int .i64 x.1) (.int .i64 x.2) (.pointer p) (.func (.func c) #[] #[]) 89 54
         have hl : Later w ((((w.alloc (.cells #[.int .i64 x.1, .int .i64 x.2] 27)).alloc (.cells #[.pointer p] 89)).alloc (.cells #[.func (.func c) #[] #[]] 54)).drew) := ((Later.two.alloc _).alloc _).drew
         exact ⟨w.heap.size + 1, w.heap.size + 1 + 1, w.heap.size, rfl, by omega, by omega, Nat.le_refl _, hl, ⟨p, hh.2.2.1, ht.keep hl.chg⟩, hh.2.2.2, hh.1, hh.2.1⟩)
end Go.Proofs.Yteledidnhjioaaa.Sh
