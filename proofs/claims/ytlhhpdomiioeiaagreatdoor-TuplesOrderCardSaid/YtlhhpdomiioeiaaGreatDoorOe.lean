import Derived.Test.YtlhhpdomiioeiaaGreatDoorOd
import Derived.Laws.ResultCell
import Derived.Laws.Rows
namespace Go.Proofs.YtlhhpdomiioeiaaGreatDoor.Tu
open Go.RowKit Go.Lib Go.Proofs
set_option linter.unusedVariables false
set_option linter.unusedSimpArgs false
theorem ret_row {P : Program} {fn : Func} {p u : Tmp} {ty : TypeId} (h : fn.results = #[.cell p ty, .tmp u]) (tmps : Array Value) (w : World) (g : Nat) (t : TypeId) (cs : Array Value) (fr : Nat × Nat) (d : TypeDesc)
    (hp : tmps.getD p undef = .pointer (some ⟨g, 0, none⟩)) (hg : w.heap[g]? = some (.cells cs t fr))
    (hu : P.underlying ty = some d) (hd : (match d with | .struct _ | .array _ _ => true | _ => false) = true) (hi : (P.info? ty).map (·.size) = some cs.size) :
    (results fn tmps).run P w = .ok (.tuple #[.agg cs, tmps.getD u undef]) w := by
  rw [results_cell_tmp h, hp]
  simp [asAddr, run_loadVar_row w g t ty cs fr d hg hu hd hi]
theorem two_f {W : World} {B t : Nat} {a b : Value} (h : W.heap[B]? = some (.cells #[a, b] t (0, 0))) : (W.cell? ⟨B, 0, none⟩ = some a ∧ W.cell? ⟨B, 1, none⟩ = some b) ∧ W.frozen? ⟨B, 0, none⟩ = false ∧ W.frozen? ⟨B, 1, none⟩ = false := by
  simp [World.cell?, World.frozen?, h]
theorem two_set {W : World} {B t : Nat} {a b : Value} (x y : Value) (h : W.heap[B]? = some (.cells #[a, b] t (0, 0))) : ((W.setCell ⟨B, 0, none⟩ x).setCell ⟨B, 1, none⟩ y).heap[B]? = some (.cells #[x, y] t (0, 0)) := by
  simp [World.setCell, Array.getElem?_modify, h]
theorem three_f {W : World} {B t : Nat} {a b c : Value} (h : W.heap[B]? = some (.cells #[a, b, c] t (0, 0))) : (W.cell? ⟨B, 0, none⟩ = some a ∧ W.cell? ⟨B, 1, none⟩ = some b ∧ W.cell? ⟨B, 2, none⟩ = some c) ∧ W.frozen? ⟨B, 0, none⟩ = false ∧ W.frozen? ⟨B, 1, none⟩ = false ∧ W.frozen? ⟨B, 2, none⟩ = false := by
  simp [World.cell?, World.frozen?, h]
theorem three_set {W : World} {B t : Nat} {a b c : Value} (x y z : Value) (h : W.heap[B]? = some (.cells #[a, b, c] t (0, 0))) : (((W.setCell ⟨B, 0, none⟩ x).setCell ⟨B, 1, none⟩ y).setCell ⟨B, 2, none⟩ z).heap[B]? = some (.cells #[x, y, z] t (0, 0)) := by
  simp [World.setCell, Array.getElem?_modify, h]
theorem eight_set {W : World} {B t : Nat} {a b c d e f g h' : Value} (x0 x1 x2 x3 x4 x5 x6 x7 : Value) (h : W.heap[B]? = some (.cells #[a, b, c, d, e, f, g, h'] t (0, 0))) : ((((((((W.setCell ⟨B, 0, none⟩ x0).setCell ⟨B, 1, none⟩ x1).setCell ⟨B, 2, none⟩ x2).setCell ⟨B, 3, none⟩ x3).setCell ⟨B, 4, none⟩ x4).setCell ⟨B, 5, none⟩ x5).setCell ⟨B, 6, none⟩ x6).setCell ⟨B, 7, none⟩ x7).heap[B]? = some (.cells #[x0, x1, x2, x3, x4, x5, x6, x7] t (0, 0)) := by
  simp [World.setCell, Array.getElem?_modify, h]
theorem later_blk {W V : World} (l : Later W V) {B : Nat} {o : Obj} (h : W.heap[B]? = some o) : V.heap[B]? = some o := (l.block B (Array.getElem?_eq_some_iff.1 h).1).trans h
theorem later_set {W V : World} (l : Later W V) {B o : Nat} (hb : W.heap.size ≤ B) (v : Value) : Later W (V.setCell ⟨B, o, none⟩ v) :=
  ⟨l.os, l.tape, l.output, by simpa using l.size, fun k hk => (Below.heap_setCell V ⟨B, o, none⟩ v k (fun e => by have e : k = B := e; omega)).trans (l.block k hk)⟩
theorem cut_d1 : (⟨(Lib.cut (⟨#[100, 58, 49]⟩ : ByteArray).data.toList (⟨#[58]⟩ : ByteArray).data.toList).1.toArray⟩ : ByteArray) = ⟨#[100]⟩ ∧ (⟨(Lib.cut (⟨#[100, 58, 49]⟩ : ByteArray).data.toList (⟨#[58]⟩ : ByteArray).data.toList).2.1.toArray⟩ : ByteArray) = ⟨#[49]⟩ ∧ (Lib.cut (⟨#[100, 58, 49]⟩ : ByteArray).data.toList (⟨#[58]⟩ : ByteArray).data.toList).2.2 = true := by decide +kernel
theorem cut_ua : (⟨(Lib.cut (⟨#[117, 58, 97]⟩ : ByteArray).data.toList (⟨#[58]⟩ : ByteArray).data.toList).1.toArray⟩ : ByteArray) = ⟨#[117]⟩ ∧ (⟨(Lib.cut (⟨#[117, 58, 97]⟩ : ByteArray).data.toList (⟨#[58]⟩ : ByteArray).data.toList).2.1.toArray⟩ : ByteArray) = ⟨#[97]⟩ ∧ (Lib.cut (⟨#[117, 58, 97]⟩ : ByteArray).data.toList (⟨#[58]⟩ : ByteArray).data.toList).2.2 = true := by decide +kernel
theorem cut_a : (⟨(Lib.cut (⟨#[97]⟩ : ByteArray).data.toList (⟨#[35]⟩ : ByteArray).data.toList).1.toArray⟩ : ByteArray) = ⟨#[97]⟩ ∧ (⟨(Lib.cut (⟨#[97]⟩ : ByteArray).data.toList (⟨#[35]⟩ : ByteArray).data.toList).2.1.toArray⟩ : ByteArray) = ⟨#[]⟩ ∧ (Lib.cut (⟨#[97]⟩ : ByteArray).data.toList (⟨#[35]⟩ : ByteArray).data.toList).2.2 = false := by decide +kernel
set_option maxHeartbeats 8000000 in
set_option maxRecDepth 100000 in
theorem object_c (w : World) (hm : MX w) : Calls Tryz.prog 46 #[.string ⟨#[100, 58, 49]⟩] w fun e w' => e = .returned (.tuple #[.agg #[.string ⟨#[100]⟩, .string ⟨#[49]⟩], .int .i64 0]) ∧ Later w w' := by
  have l1 : Later w (w.alloc (.cells #[.string ⟨#[]⟩, .string ⟨#[]⟩] 23)) := (Later.refl w).alloc _
  have hB : (w.alloc (.cells #[.string ⟨#[]⟩, .string ⟨#[]⟩] 23)).heap[w.heap.size]? = some (.cells #[.string ⟨#[]⟩, .string ⟨#[]⟩] 23 (0, 0)) := World.alloc_heap_new _ _
  have k1 := fun W (h : Later w W) => cut_any _ _ _ _ _ cut_d1 (by decide) W (hm.later h)
  have k2 := fun W => otext_c W
  go_enter Tryz.func46, Tryz.ntmps46
  go_upto_region 1 with fail
  generalize w.alloc (.cells #[.string ⟨#[]⟩, .string ⟨#[]⟩] 23) = W1 at l1 hB ⊢
  obtain ⟨B, hBe⟩ : ∃ B, w.heap.size = B := ⟨_, rfl⟩
  rw [hBe] at hB ⊢
  replace hBe := hid hBe
  go_upto_region 5 with (go_at_call 45; refine (k1 _ l1).mono ?_; rintro e w3 ⟨rfl, l3⟩)
  have hc := cells2 w3 (.string ⟨#[100]⟩) (.string ⟨#[49]⟩) 23
  have l4 : Later w3 (w3.alloc (.cells #[.string ⟨#[100]⟩, .string ⟨#[49]⟩] 23)) := (Later.refl _).alloc _
  generalize w3.alloc (.cells #[.string ⟨#[100]⟩, .string ⟨#[49]⟩] 23) = W4 at hc l4 ⊢
  obtain ⟨p0, p1⟩ := hc W4 (Later.refl _)
  go_upto_region 8 with (go_at_call 15; refine (k2 _).mono ?_; rintro e w5 ⟨rfl, l5⟩; obtain ⟨q0, q1⟩ := hc _ l5)
  have hB5 := later_blk ((l3.next l4).next l5) hB
  obtain ⟨⟨z0, z1⟩, g0, g1⟩ := two_f hB5
  have hle : w.heap.size ≤ B := by rw [hBe.out]; exact Nat.le_refl _
  have lend := later_set (later_set (((l1.next l3).next l4).next l5) (o := 0) hle (.string ⟨#[100]⟩)) (o := 1) hle (.string ⟨#[49]⟩)
  have hend := two_set (.string ⟨#[100]⟩) (.string ⟨#[49]⟩) hB5
  clear p0 p1 hc
  go_wp2_with fail
  refine bodyPost_ret (ret_row Tryz.results46 _ _ B 23 _ (0, 0) _ rfl hend Tryz.underlying23 rfl (by kernel_rfl)) rfl ?_
  exact ⟨rfl, lend⟩
end Go.Proofs.YtlhhpdomiioeiaaGreatDoor.Tu
