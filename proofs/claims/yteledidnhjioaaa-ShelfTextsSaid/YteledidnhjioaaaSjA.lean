import Derived.Test.YteledidnhjioaaaSiG
namespace Go.Proofs.Yteledidnhjioaaa.St
open Go.RowKit Go.Lib Go.Proofs Go.Shelf Go.Proofs.Yteledidnhjioaaa.Sh
set_option linter.unusedVariables false
set_option linter.unusedSimpArgs false
/-- the heap holds the tree T of texts at p, in blocks that are ok -/
def IsT (ok : Nat → Prop) (W : World) : Option Addr → Tr ByteArray → Prop
  | p, .leaf => p = none
  | p, .node l x r => ∃ (b : Nat) (pl pr : Option Addr), p = some ⟨b, 0, none⟩ ∧ ok b ∧ W.cell? ⟨b, 0, none⟩ = some (.string x) ∧ W.cell? ⟨b, 1, none⟩ = some (.pointer pl) ∧ W.cell? ⟨b, 2, none⟩ = some (.pointer pr) ∧
    W.cell? ⟨b, 3, none⟩ = some (.int .i64 (l.size + r.size + 1 : Nat)) ∧ W.cell? ⟨b, 4, none⟩ = some (.int .i64 (max l.tall r.tall + 1 : Nat)) ∧ IsT ok W pl l ∧ IsT ok W pr r
theorem IsT.keep {ok : Nat → Prop} {A B : World} (h : Keeps ok A B) : ∀ {p : Option Addr} {T : Tr ByteArray}, IsT ok A p T → IsT ok B p T
  | _, .leaf, ht => ht
  | _, .node _ _ _, ⟨b, pl, pr, hp, hb, h0, h2, h3, h4, h5, hl, hr⟩ =>
    have c : ∀ o, B.cell? ⟨b, o, none⟩ = A.cell? ⟨b, o, none⟩ := fun o => h.cell b o hb (cell_lt h0)
    ⟨b, pl, pr, hp, hb, (c _).trans h0, (c _).trans h2, (c _).trans h3, (c _).trans h4, (c _).trans h5, IsT.keep h hl, IsT.keep h hr⟩
theorem IsT.later {ok : Nat → Prop} {A B : World} {p : Option Addr} {T : Tr ByteArray} (h : IsT ok A p T) (k : Later A B) : IsT ok B p T := IsT.keep k.keeps h
theorem IsT.mono {ok ok' : Nat → Prop} {A : World} (h : ∀ b, b < A.heap.size → ok b → ok' b) : ∀ {p : Option Addr} {T : Tr ByteArray}, IsT ok A p T → IsT ok' A p T
  | _, .leaf, ht => ht
  | _, .node _ _ _, ⟨b, pl, pr, hp, hb, h0, h2, h3, h4, h5, hl, hr⟩ => ⟨b, pl, pr, hp, h b (cell_lt h0) hb, h0, h2, h3, h4, h5, IsT.mono h hl, IsT.mono h hr⟩
theorem IsT.nodeK {ok : Nat → Prop} {W : World} {p : Option Addr} {l r : Tr ByteArray} {x : ByteArray} (h : IsT ok W p (.node l x r)) : ∃ (b : Nat) (pl pr : Option Addr), p = some ⟨b, 0, none⟩ ∧ ok b ∧
    (∀ W', Keeps ok W W' → W'.cell? ⟨b, 0, none⟩ = some (.string x) ∧ W'.cell? ⟨b, 1, none⟩ = some (.pointer pl) ∧ W'.cell? ⟨b, 2, none⟩ = some (.pointer pr)) ∧ (∀ W', Keeps ok W W' → IsT ok W' pl l) ∧ (∀ W', Keeps ok W W' → IsT ok W' pr r) := by
  obtain ⟨b, pl, pr, hp, hb, h0, h2, h3, h4, h5, hl, hr⟩ := h
  refine ⟨b, pl, pr, hp, hb, fun W' k => ?_, fun W' k => hl.keep k, fun W' k => hr.keep k⟩
  have c : ∀ o, W'.cell? ⟨b, o, none⟩ = W.cell? ⟨b, o, none⟩ := fun o => k.cell b o hb (cell_lt h0)
  exact ⟨(c _).trans h0, (c _).trans h2, (c _).trans h3⟩
theorem IsT.node {ok : Nat → Prop} {W : World} {p : Option Addr} {l r : Tr ByteArray} {x : ByteArray} (h : IsT ok W p (.node l x r)) : ∃ (b : Nat) (pl pr : Option Addr), p = some ⟨b, 0, none⟩ ∧ ok b ∧
    (∀ W', Later W W' → W'.cell? ⟨b, 0, none⟩ = some (.string x) ∧ W'.cell? ⟨b, 1, none⟩ = some (.pointer pl) ∧ W'.cell? ⟨b, 2, none⟩ = some (.pointer pr)) ∧ (∀ W', Later W W' → IsT ok W' pl l) ∧ (∀ W', Later W W' → IsT ok W' pr r) := by
  obtain ⟨b, pl, pr, hp, hb, hc, hl, hr⟩ := IsT.nodeK h
  exact ⟨b, pl, pr, hp, hb, fun W' k => hc W' k.keeps, fun W' k => hl W' k.keeps, fun W' k => hr W' k.keeps⟩
theorem count_any {ok : Nat → Prop} {w : World} {p : Option Addr} {T : Tr ByteArray} (h : IsT ok w p T) :
    Calls Try.prog 75 #[.pointer p] w fun e w' => e = .returned (.int .i64 T.size) ∧ w = w' := by
  cases T with
  | leaf =>
    obtain rfl : p = none := h
    go_enter Try.func75, Try.ntmps75
    go_wp2
    go_ret
    exact ⟨rfl, rfl⟩
  | node l x r =>
    obtain ⟨b, pl, pr, rfl, hb, h0, h2, h3, h4, h5, hl, hr⟩ := h
    clear hl hr h0 h2 h3 h5
    go_enter Try.func75, Try.ntmps75
    go_wp2
    go_ret
    exact ⟨rfl, rfl⟩
theorem height_any {ok : Nat → Prop} {w : World} {p : Option Addr} {T : Tr ByteArray} (h : IsT ok w p T) :
    Calls Try.prog 92 #[.pointer p] w fun e w' => e = .returned (.int .i64 T.tall) ∧ w = w' := by
  cases T with
  | leaf =>
    obtain rfl : p = none := h
    go_enter Try.func92, Try.ntmps92
    go_wp2
    go_ret
    exact ⟨rfl, rfl⟩
  | node l x r =>
    obtain ⟨b, pl, pr, rfl, hb, h0, h2, h3, h4, h5, hl, hr⟩ := h
    clear hl hr h0 h2 h3 h4
    go_enter Try.func92, Try.ntmps92
    go_wp2
    go_ret
    exact ⟨rfl, rfl⟩
theorem node_new {ok : Nat → Prop} {W : World} {pl pr : Option Addr} {l r : Tr ByteArray} {x : ByteArray} {s t : Int} (hl : IsT ok W pl l) (hr : IsT ok W pr r) (h : ok W.heap.size) (es : s = (l.size + r.size + 1 : Nat)) (et : t = (max l.tall r.tall + 1 : Nat)) :
    IsT ok (W.alloc (.cells #[.string x, .pointer pl, .pointer pr, .int .i64 s, .int .i64 t] 108)) (some ⟨W.heap.size, 0, none⟩) (.node l x r) := by
  subst es et
  have hb : Later W (W.alloc (.cells #[.string x, .pointer pl, .pointer pr, .int .i64 (l.size + r.size + 1 : Nat), .int .i64 (max l.tall r.tall + 1 : Nat)] 108)) := (Later.refl W).alloc _
  refine ⟨_, pl, pr, rfl, h, ?_, ?_, ?_, ?_, ?_, hl.later hb, hr.later hb⟩ <;> (rw [World.cell?_alloc_new]; rfl)
set_option maxRecDepth 100000 in
set_option maxHeartbeats 4000000 in
theorem join_any {ok : Nat → Prop} {w : World} {pl pr : Option Addr} {l r : Tr ByteArray} (x : ByteArray) (hu : Up ok w.heap.size) (hl : IsT ok w pl l) (hr : IsT ok w pr r) (hs : l.size + r.size + 1 ≤ 4611686018427387904) :
    Calls Try.prog 86 #[.pointer pl, .string x, .pointer pr] w fun e w' => ∃ p, e = .returned (.pointer p) ∧ IsT ok w' p (.node l x r) ∧ Later w w' := by
  have hl2 := Tr.tall_le l
  have hr2 := Tr.tall_le r
  go_enter Try.func86, Try.ntmps86
  go_wp2_with (first | (go_at_call 75; (first | with_reducible refine (count_any hl).mono ?_ | with_reducible refine (count_any hr).mono ?_); rintro e w' ⟨rfl, rfl⟩) | (go_at_call 92; (first | with_reducible refine (height_any hl).mono ?_ | with_reducible refine (height_any hr).mono ?_); rintro e w' ⟨rfl, rfl⟩))
  all_goals
    go_ret
    refine ⟨_, rfl, ?_, (Later.refl w).alloc _⟩
    refine node_new hl hr (hu _ (by omega)) ?_ ?_
    · (try rw [IntWalk.i64_in (↑l.size + ↑r.size : Int) (by omega), IntWalk.i64_in _ (by omega)]); omega
    · (try split) <;> (try rw [IntWalk.i64_in _ (by omega)]) <;> omega
end Go.Proofs.Yteledidnhjioaaa.St
