import Derived.Test.YtlhhpdomiioeiaaGreatDoorOc
import Derived.Test.YtlhhpdomiioeiaaGreatDoorShelf
namespace Go.Proofs.YtlhhpdomiioeiaaGreatDoor.Tu
open Go.RowKit Go.Lib Go.Proofs
set_option linter.unusedVariables false
set_option linter.unusedSimpArgs false
/-! ### the one tuple of 'awake': d:1#r@u:a -/
theorem later_drewN (w : World) (n : Nat) : Later w (w.drewN n) := below_drewN (Below.refl _ _) _
/-- some number stands in the library's variable -/
abbrev MX (w : World) : Prop := ∃ m : Int, w.cell? ⟨1, 0, none⟩ = some (.int .i64 m)
theorem MX.later {w V : World} (h : MX w) (l : Later w V) : MX V := by
  obtain ⟨m, hm⟩ := h
  exact ⟨m, l.cell hm⟩
theorem cut_any (s sep a b : ByteArray) (f : Bool) (h : (⟨(Lib.cut s.data.toList sep.data.toList).1.toArray⟩ : ByteArray) = a ∧ (⟨(Lib.cut s.data.toList sep.data.toList).2.1.toArray⟩ : ByteArray) = b ∧ (Lib.cut s.data.toList sep.data.toList).2.2 = f) (hs : s.size < 4294967281) (w : World) (hm : MX w) :
    Calls Tryz.prog 45 #[.string s, .string sep] w fun e w' => e = .returned (.tuple #[.string a, .string b, .bool f]) ∧ Later w w' := by
  obtain ⟨m, hm⟩ := hm
  obtain ⟨rfl, rfl, rfl⟩ := h
  exact (Any.strings_Cut { Tryz.laysM145 with } s sep m w hs hm).mono fun e w' ⟨h1, n, h2⟩ => ⟨h1, by rw [h2]; exact later_drewN w n⟩
theorem name_e : True := trivial
theorem cells2 (W : World) (a b : Value) (t : TypeId) : ∀ V, Later (W.alloc (.cells #[a, b] t)) V → V.cell? ⟨W.heap.size, 0, none⟩ = some a ∧ V.cell? ⟨W.heap.size, 1, none⟩ = some b := fun V l => by
  have h' := World.alloc_heap_new W (.cells #[a, b] t)
  exact ⟨l.cell (by simp only [World.cell?, h']; rfl), l.cell (by simp only [World.cell?, h']; rfl)⟩
theorem cells3 (W : World) (a b c : Value) (t : TypeId) : ∀ V, Later (W.alloc (.cells #[a, b, c] t)) V → V.cell? ⟨W.heap.size, 0, none⟩ = some a ∧ V.cell? ⟨W.heap.size, 1, none⟩ = some b ∧ V.cell? ⟨W.heap.size, 2, none⟩ = some c := fun V l => by
  have h' := World.alloc_heap_new W (.cells #[a, b, c] t)
  exact ⟨l.cell (by simp only [World.cell?, h']; rfl), l.cell (by simp only [World.cell?, h']; rfl), l.cell (by simp only [World.cell?, h']; rfl)⟩
set_option maxHeartbeats 8000000 in
set_option maxRecDepth 100000 in
theorem otext_c (w : World) : Calls Tryz.prog 15 #[.agg #[.string ⟨#[100]⟩, .string ⟨#[49]⟩]] w fun e w' => e = .returned (.tuple #[.string ⟨#[100, 58, 49]⟩, .int .i64 0]) ∧ Later w w' := by
  have l1 : Later w (w.alloc (.cells #[.string ⟨#[100]⟩, .string ⟨#[49]⟩] 23)) := (Later.refl w).alloc _
  have k1 := fun W => name_100 W
  have k2 := fun W => id_49 W
  go_enter Tryz.func15, Tryz.ntmps15
  go_wp2_with (first
    | (go_at_call 34; refine (k1 _).mono ?_; rintro e w3 ⟨rfl, rfl⟩)
    | (go_at_call 37; refine (k2 _).mono ?_; rintro e w3 ⟨rfl, rfl⟩))
  go_ret2
  exact ⟨rfl, l1⟩
set_option maxHeartbeats 8000000 in
set_option maxRecDepth 100000 in
theorem stext_c (w : World) : Calls Tryz.prog 16 #[.agg #[.string ⟨#[117]⟩, .string ⟨#[97]⟩, .string ⟨#[]⟩]] w fun e w' => e = .returned (.tuple #[.string ⟨#[117, 58, 97]⟩, .int .i64 0]) ∧ Later w w' := by
  have l1 : Later w (w.alloc (.cells #[.string ⟨#[117]⟩, .string ⟨#[97]⟩, .string ⟨#[]⟩] 25)) := (Later.refl w).alloc _
  have k1 := fun W => name_117 W
  have k2 := fun W => id_97 W
  go_enter Tryz.func16, Tryz.ntmps16
  go_wp2_with (first
    | (go_at_call 34; refine (k1 _).mono ?_; rintro e w3 ⟨rfl, rfl⟩)
    | (go_at_call 37; refine (k2 _).mono ?_; rintro e w3 ⟨rfl, rfl⟩))
  go_ret2
  exact ⟨rfl, l1⟩
set_option maxHeartbeats 8000000 in
set_option maxRecDepth 100000 in
theorem kind_c (w : World) : Calls Tryz.prog 35 #[.agg #[.string ⟨#[117]⟩, .string ⟨#[97]⟩, .string ⟨#[]⟩]] w fun e w' => e = .returned (.int .i64 1) ∧ Later w w' := by
  have l1 : Later w (w.alloc (.cells #[.string ⟨#[117]⟩, .string ⟨#[97]⟩, .string ⟨#[]⟩] 25)) := (Later.refl w).alloc _
  have hc := cells3 w (.string ⟨#[117]⟩) (.string ⟨#[97]⟩) (.string ⟨#[]⟩) 25
  have k1 := fun W => stext_c W
  go_enter Tryz.func35, Tryz.ntmps35
  go_upto_region 1 with fail
  generalize w.alloc (.cells #[.string ⟨#[117]⟩, .string ⟨#[97]⟩, .string ⟨#[]⟩] 25) = W1 at l1 hc ⊢
  obtain ⟨p0, p1, p2⟩ := hc W1 (Later.refl _)
  go_wp2_with (go_at_call 16; refine (k1 _).mono ?_; rintro e w3 ⟨rfl, l3⟩; obtain ⟨q0, q1, q2⟩ := hc _ l3)
  go_ret
  exact ⟨rfl, l1.next l3⟩
set_option maxHeartbeats 8000000 in
set_option maxRecDepth 100000 in
theorem args_c (w : World) : Calls Tryz.prog 36 #[.slice none 0 0] w fun e w' => e = .returned (.int .i64 0) ∧ w = w' := by
  go_enter Tryz.func36, Tryz.ntmps36
  go_wp2_with fail
  go_loopw [10] (fun i wr => i = .int .i64 0 ∧ w = wr) (fun i _ => 0)
  case atStart => exact ⟨rfl, rfl⟩
  case round =>
    obtain ⟨rfl, rfl⟩ := hrel
    go_wp2_with fail
    go_ret
    exact ⟨rfl, rfl⟩
end Go.Proofs.YtlhhpdomiioeiaaGreatDoor.Tu
