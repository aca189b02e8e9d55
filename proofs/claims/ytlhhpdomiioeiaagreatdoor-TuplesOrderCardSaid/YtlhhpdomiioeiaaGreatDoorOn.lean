import Derived.Test.YtlhhpdomiioeiaaGreatDoorOm
namespace Go.Proofs.YtlhhpdomiioeiaaGreatDoor.Tu
open Go.RowKit Go.Lib Go.Proofs
set_option linter.unusedVariables false
set_option linter.unusedSimpArgs false
theorem chg_blk {X : Nat → Prop} {W V : World} (h : Chg X W V) {B : Nat} {o : Obj} (hB : W.heap[B]? = some o) (hx : ¬ X B) : V.heap[B]? = some o := (h.block B (Array.getElem?_eq_some_iff.1 hB).1 hx).trans hB
theorem Dk.next {W0 W V : World} {r T k o : Nat} (x : Value) (h : Dk W0 W r T k) (hT : r < T) (hr : Rd V r (restL (k + 1))) (hc : Chg (only r) W V) (ht : ∀ U : World, U.heap[T]? = some (.cells (tupA k) 29 (0, 0)) → (U.setCell ⟨T, o, none⟩ x).heap[T]? = some (.cells (tupA (k + 1)) 29 (0, 0))) : Dk W0 (V.setCell ⟨T, o, none⟩ x) r T (k + 1) :=
  ⟨hr.set x hT, ht V (chg_blk hc h.tp (fun e => by have e : T = r := e; omega)), (h.ch.trans (hc.mono (fun b e => .inl e))).trans (Chg.set _ _ (.inr rfl))⟩
theorem ix_0 (T : Nat) (W : World) : (Instr.index 73 (.agg #[.pointer (some ⟨T, 0, none⟩), .pointer (some ⟨T, 1, none⟩), .pointer (some ⟨T, 2, none⟩), .pointer (some ⟨T, 3, none⟩), .pointer (some ⟨T, 4, none⟩), .pointer (some ⟨T, 5, none⟩), .pointer (some ⟨T, 6, none⟩)]) (.int .i64 0)).run Tryz.prog W = .ok (.pointer (some ⟨T, 0, none⟩)) W := by kernel_rfl
theorem ix_1 (T : Nat) (W : World) : (Instr.index 73 (.agg #[.pointer (some ⟨T, 0, none⟩), .pointer (some ⟨T, 1, none⟩), .pointer (some ⟨T, 2, none⟩), .pointer (some ⟨T, 3, none⟩), .pointer (some ⟨T, 4, none⟩), .pointer (some ⟨T, 5, none⟩), .pointer (some ⟨T, 6, none⟩)]) (.int .i64 1)).run Tryz.prog W = .ok (.pointer (some ⟨T, 1, none⟩)) W := by kernel_rfl
theorem ix_2 (T : Nat) (W : World) : (Instr.index 73 (.agg #[.pointer (some ⟨T, 0, none⟩), .pointer (some ⟨T, 1, none⟩), .pointer (some ⟨T, 2, none⟩), .pointer (some ⟨T, 3, none⟩), .pointer (some ⟨T, 4, none⟩), .pointer (some ⟨T, 5, none⟩), .pointer (some ⟨T, 6, none⟩)]) (.int .i64 2)).run Tryz.prog W = .ok (.pointer (some ⟨T, 2, none⟩)) W := by kernel_rfl
theorem ix_3 (T : Nat) (W : World) : (Instr.index 73 (.agg #[.pointer (some ⟨T, 0, none⟩), .pointer (some ⟨T, 1, none⟩), .pointer (some ⟨T, 2, none⟩), .pointer (some ⟨T, 3, none⟩), .pointer (some ⟨T, 4, none⟩), .pointer (some ⟨T, 5, none⟩), .pointer (some ⟨T, 6, none⟩)]) (.int .i64 3)).run Tryz.prog W = .ok (.pointer (some ⟨T, 3, none⟩)) W := by kernel_rfl
theorem ix_4 (T : Nat) (W : World) : (Instr.index 73 (.agg #[.pointer (some ⟨T, 0, none⟩), .pointer (some ⟨T, 1, none⟩), .pointer (some ⟨T, 2, none⟩), .pointer (some ⟨T, 3, none⟩), .pointer (some ⟨T, 4, none⟩), .pointer (some ⟨T, 5, none⟩), .pointer (some ⟨T, 6, none⟩)]) (.int .i64 4)).run Tryz.prog W = .ok (.pointer (some ⟨T, 4, none⟩)) W := by kernel_rfl
theorem ix_5 (T : Nat) (W : World) : (Instr.index 73 (.agg #[.pointer (some ⟨T, 0, none⟩), .pointer (some ⟨T, 1, none⟩), .pointer (some ⟨T, 2, none⟩), .pointer (some ⟨T, 3, none⟩), .pointer (some ⟨T, 4, none⟩), .pointer (some ⟨T, 5, none⟩), .pointer (some ⟨T, 6, none⟩)]) (.int .i64 5)).run Tryz.prog W = .ok (.pointer (some ⟨T, 5, none⟩)) W := by kernel_rfl
theorem ix_6 (T : Nat) (W : World) : (Instr.index 73 (.agg #[.pointer (some ⟨T, 0, none⟩), .pointer (some ⟨T, 1, none⟩), .pointer (some ⟨T, 2, none⟩), .pointer (some ⟨T, 3, none⟩), .pointer (some ⟨T, 4, none⟩), .pointer (some ⟨T, 5, none⟩), .pointer (some ⟨T, 6, none⟩)]) (.int .i64 6)).run Tryz.prog W = .ok (.pointer (some ⟨T, 6, none⟩)) W := by kernel_rfl
theorem tup_0 (T : Nat) (U : World) (h : U.heap[T]? = some (.cells (tupA 0) 29 (0, 0))) : (U.setCell ⟨T, 0, none⟩ (.string ⟨#[100]⟩)).heap[T]? = some (.cells (tupA 1) 29 (0, 0)) := by
  simp [World.setCell, Array.getElem?_modify, h, tupA]
theorem tup_1 (T : Nat) (U : World) (h : U.heap[T]? = some (.cells (tupA 1) 29 (0, 0))) : (U.setCell ⟨T, 1, none⟩ (.string ⟨#[49]⟩)).heap[T]? = some (.cells (tupA 2) 29 (0, 0)) := by
  simp [World.setCell, Array.getElem?_modify, h, tupA]
theorem tup_2 (T : Nat) (U : World) (h : U.heap[T]? = some (.cells (tupA 2) 29 (0, 0))) : (U.setCell ⟨T, 2, none⟩ (.string ⟨#[114]⟩)).heap[T]? = some (.cells (tupA 3) 29 (0, 0)) := by
  simp [World.setCell, Array.getElem?_modify, h, tupA]
theorem tup_3 (T : Nat) (U : World) (h : U.heap[T]? = some (.cells (tupA 3) 29 (0, 0))) : (U.setCell ⟨T, 3, none⟩ (.string ⟨#[117]⟩)).heap[T]? = some (.cells (tupA 4) 29 (0, 0)) := by
  simp [World.setCell, Array.getElem?_modify, h, tupA]
theorem tup_4 (T : Nat) (U : World) (h : U.heap[T]? = some (.cells (tupA 4) 29 (0, 0))) : (U.setCell ⟨T, 4, none⟩ (.string ⟨#[97]⟩)).heap[T]? = some (.cells (tupA 5) 29 (0, 0)) := by
  simp [World.setCell, Array.getElem?_modify, h, tupA]
theorem tup_5 (T : Nat) (U : World) (h : U.heap[T]? = some (.cells (tupA 5) 29 (0, 0))) : (U.setCell ⟨T, 5, none⟩ (.string (⟨#[]⟩ : ByteArray))).heap[T]? = some (.cells (tupA 6) 29 (0, 0)) := by
  simp [World.setCell, Array.getElem?_modify, h, tupA]
theorem tup_6 (T : Nat) (U : World) (h : U.heap[T]? = some (.cells (tupA 6) 29 (0, 0))) : (U.setCell ⟨T, 6, none⟩ (.string (⟨#[]⟩ : ByteArray))).heap[T]? = some (.cells (tupA 7) 29 (0, 0)) := by
  simp [World.setCell, Array.getElem?_modify, h, tupA]
theorem rt_0 {w : World} {r : Nat} (h : Rd w r (restL 0)) : Calls Tryz.prog 30 #[.pointer (some ⟨r, 0, none⟩), .int .i64 64] w fun e w' => e = .returned (.string ⟨#[100]⟩) ∧ Rd w' r (restL 1) ∧ Chg (only r) w w' := by
  have k := rtext_1 (L := restL 1) 64 h (by decide) (by decide) (by decide)
  rw [str1 100 100 rfl] at k
  exact k
theorem rt_1 {w : World} {r : Nat} (h : Rd w r (restL 1)) : Calls Tryz.prog 30 #[.pointer (some ⟨r, 0, none⟩), .int .i64 64] w fun e w' => e = .returned (.string ⟨#[49]⟩) ∧ Rd w' r (restL 2) ∧ Chg (only r) w w' := by
  have k := rtext_1 (L := restL 2) 64 h (by decide) (by decide) (by decide)
  rw [str1 49 49 rfl] at k
  exact k
theorem rt_2 {w : World} {r : Nat} (h : Rd w r (restL 2)) : Calls Tryz.prog 30 #[.pointer (some ⟨r, 0, none⟩), .int .i64 64] w fun e w' => e = .returned (.string ⟨#[114]⟩) ∧ Rd w' r (restL 3) ∧ Chg (only r) w w' := by
  have k := rtext_1 (L := restL 3) 64 h (by decide) (by decide) (by decide)
  rw [str1 114 114 rfl] at k
  exact k
theorem rt_3 {w : World} {r : Nat} (h : Rd w r (restL 3)) : Calls Tryz.prog 30 #[.pointer (some ⟨r, 0, none⟩), .int .i64 64] w fun e w' => e = .returned (.string ⟨#[117]⟩) ∧ Rd w' r (restL 4) ∧ Chg (only r) w w' := by
  have k := rtext_1 (L := restL 4) 64 h (by decide) (by decide) (by decide)
  rw [str1 117 117 rfl] at k
  exact k
theorem rt_4 {w : World} {r : Nat} (h : Rd w r (restL 4)) : Calls Tryz.prog 30 #[.pointer (some ⟨r, 0, none⟩), .int .i64 64] w fun e w' => e = .returned (.string ⟨#[97]⟩) ∧ Rd w' r (restL 5) ∧ Chg (only r) w w' := by
  have k := rtext_1 (L := restL 5) 64 h (by decide) (by decide) (by decide)
  rw [str1 97 97 rfl] at k
  exact k
theorem rt_5 {w : World} {r : Nat} (h : Rd w r (restL 5)) : Calls Tryz.prog 30 #[.pointer (some ⟨r, 0, none⟩), .int .i64 64] w fun e w' => e = .returned (.string (⟨#[]⟩ : ByteArray)) ∧ Rd w' r (restL 6) ∧ Chg (only r) w w' :=
  rtext_0 (L := restL 6) 64 h (by decide) (by decide) (by decide)
theorem rt_6 {w : World} {r : Nat} (h : Rd w r (restL 6)) : Calls Tryz.prog 30 #[.pointer (some ⟨r, 0, none⟩), .int .i64 64] w fun e w' => e = .returned (.string (⟨#[]⟩ : ByteArray)) ∧ Rd w' r (restL 7) ∧ Chg (only r) w w' :=
  rtext_0 (L := restL 7) 64 h (by decide) (by decide) (by decide)
set_option maxHeartbeats 16000000 in
set_option maxRecDepth 100000 in
theorem decode_c {w : World} {g : Nat} (hb : ∀ j u, LV[j]? = some u → w.cell? ((⟨g, 0, none⟩ : Addr).add j) = some u) : Calls Tryz.prog 13 #[.slice (some ⟨g, 0, none⟩) 13 13] w fun e w' => e = .returned (.tuple #[t0V, .int .i64 0]) ∧ Later w w' := by
  have l1 : Later w (w.alloc zO) := (Later.refl w).alloc _
  have hB : (w.alloc zO).heap[w.heap.size]? = some (.cells #[.string ⟨#[]⟩, .string ⟨#[]⟩, .string ⟨#[]⟩, .string ⟨#[]⟩, .string ⟨#[]⟩, .string ⟨#[]⟩, .string ⟨#[]⟩, .slice none 0 0] 29 (0, 0)) := World.alloc_heap_new _ _
  have hb1 : ∀ j u, LV[j]? = some u → (w.alloc zO).cell? ((⟨g, 0, none⟩ : Addr).add j) = some u := fun j u hj => by
    have h := hb j u hj
    rw [add_plain] at h ⊢
    exact l1.cell h
  have hbs : w.heap.size < (w.alloc zO).heap.size := by rw [World.size_alloc]; omega
  go_enter Tryz.func13, Tryz.ntmps13
  go_upto_region 1 with fail
  generalize w.alloc zO = W1 at l1 hB hb1 hbs ⊢
  obtain ⟨B, hBe⟩ : ∃ B, w.heap.size = B := ⟨_, rfl⟩
  rw [hBe] at hB hbs ⊢
  replace hBe := hid hBe
  have km := rmake_c hb1
  replace hb1 := hid hb1
  clear hb
  go_upto_region 2 with (go_at_call 29; refine km.mono ?_; rintro e w2 ⟨r, rfl, rd2, l2, hr⟩)
  clear km hb1
  have hrl : r < w2.heap.size := by
    obtain ⟨A, c, h, _⟩ := rd2.r
    exact (Array.getElem?_eq_some_iff.1 h).1
  have la3 : Later w2 (w2.alloc zO) := (Later.refl _).alloc _
  have hT : (w2.alloc zO).heap[w2.heap.size]? = some (.cells (tupA 0) 29 (0, 0)) := World.alloc_heap_new _ _
  have rd3 := rd2.later la3
  have hB3 := later_blk (l2.next la3) hB
  have l3 := (l1.next l2).next la3
  have hz2 : B < w2.heap.size := Nat.lt_of_lt_of_le hbs l2.size
  go_upto_region 3 with fail
  generalize w2.alloc zO = W3 at hT rd3 hB3 l3 ⊢
  obtain ⟨T, hTe⟩ : ∃ T, w2.heap.size = T := ⟨_, rfl⟩
  rw [hTe] at hT hrl hz2 ⊢
  clear la3 rd2 l2 hTe
  have hBr : B ≠ r := by omega
  have hBT : B ≠ T := by omega
  have hwB : w.heap.size ≤ B := by rw [hBe.out]; exact Nat.le_refl _
  have hwr : w.heap.size ≤ r := by rw [hBe.out]; omega
  have hd0 : Dk W3 W3 r T 0 := ⟨rd3, hT, Chg.refl _ _⟩
  go_wp2_with fail
  go_loopw [27] (fun i wr => ∃ k : Nat, k ≤ 7 ∧ i = .int .i64 k ∧ Dk W3 wr r T k) (fun i _ => 7 - (RowKit.intOf i).toNat)
  case atStart => exact ⟨0, by omega, rfl, hd0⟩
  case round =>
    obtain ⟨k, hk, rfl, hd⟩ := hrel
    have hk2 : k = 0 ∨ k = 1 ∨ k = 2 ∨ k = 3 ∨ k = 4 ∨ k = 5 ∨ k = 6 ∨ k = 7 := by omega
    clear hk
    rcases hk2 with rfl | rfl | rfl | rfl | rfl | rfl | rfl | rfl
    · have kr := rt_0 hd.rd
      have hix := fun W => ix_0 T W
      go_wp2_with (go_at_call 30; refine kr.mono ?_; rintro e w4 ⟨rfl, rd4, c4⟩; have hT4 := chg_blk c4 hd.tp (fun e => by have e : T = r := e; omega); obtain ⟨⟨p0, p1, p2, p3, p4, p5, p6, p7⟩, g0, g1, g2, g3, g4, g5, g6, g7⟩ := eight hT4)
      have hn := hd.next (o := 0) (.string ⟨#[100]⟩) hrl rd4 c4 (tup_0 T)
      go_roundw
      case rel => exact ⟨1, by omega, by go_num, hn⟩
      case measure => simp [RowKit.intOf]
    · have kr := rt_1 hd.rd
      have hix := fun W => ix_1 T W
      go_wp2_with (go_at_call 30; refine kr.mono ?_; rintro e w4 ⟨rfl, rd4, c4⟩; have hT4 := chg_blk c4 hd.tp (fun e => by have e : T = r := e; omega); obtain ⟨⟨p0, p1, p2, p3, p4, p5, p6, p7⟩, g0, g1, g2, g3, g4, g5, g6, g7⟩ := eight hT4)
      have hn := hd.next (o := 1) (.string ⟨#[49]⟩) hrl rd4 c4 (tup_1 T)
      go_roundw
      case rel => exact ⟨2, by omega, by go_num, hn⟩
      case measure => simp [RowKit.intOf]
    · have kr := rt_2 hd.rd
      have hix := fun W => ix_2 T W
      go_wp2_with (go_at_call 30; refine kr.mono ?_; rintro e w4 ⟨rfl, rd4, c4⟩; have hT4 := chg_blk c4 hd.tp (fun e => by have e : T = r := e; omega); obtain ⟨⟨p0, p1, p2, p3, p4, p5, p6, p7⟩, g0, g1, g2, g3, g4, g5, g6, g7⟩ := eight hT4)
      have hn := hd.next (o := 2) (.string ⟨#[114]⟩) hrl rd4 c4 (tup_2 T)
      go_roundw
      case rel => exact ⟨3, by omega, by go_num, hn⟩
      case measure => simp [RowKit.intOf]
    · have kr := rt_3 hd.rd
      have hix := fun W => ix_3 T W
      go_wp2_with (go_at_call 30; refine kr.mono ?_; rintro e w4 ⟨rfl, rd4, c4⟩; have hT4 := chg_blk c4 hd.tp (fun e => by have e : T = r := e; omega); obtain ⟨⟨p0, p1, p2, p3, p4, p5, p6, p7⟩, g0, g1, g2, g3, g4, g5, g6, g7⟩ := eight hT4)
      have hn := hd.next (o := 3) (.string ⟨#[117]⟩) hrl rd4 c4 (tup_3 T)
      go_roundw
      case rel => exact ⟨4, by omega, by go_num, hn⟩
      case measure => simp [RowKit.intOf]
    · have kr := rt_4 hd.rd
      have hix := fun W => ix_4 T W
      go_wp2_with (go_at_call 30; refine kr.mono ?_; rintro e w4 ⟨rfl, rd4, c4⟩; have hT4 := chg_blk c4 hd.tp (fun e => by have e : T = r := e; omega); obtain ⟨⟨p0, p1, p2, p3, p4, p5, p6, p7⟩, g0, g1, g2, g3, g4, g5, g6, g7⟩ := eight hT4)
      have hn := hd.next (o := 4) (.string ⟨#[97]⟩) hrl rd4 c4 (tup_4 T)
      go_roundw
      case rel => exact ⟨5, by omega, by go_num, hn⟩
      case measure => simp [RowKit.intOf]
    · have kr := rt_5 hd.rd
      have hix := fun W => ix_5 T W
      go_wp2_with (go_at_call 30; refine kr.mono ?_; rintro e w4 ⟨rfl, rd4, c4⟩; have hT4 := chg_blk c4 hd.tp (fun e => by have e : T = r := e; omega); obtain ⟨⟨p0, p1, p2, p3, p4, p5, p6, p7⟩, g0, g1, g2, g3, g4, g5, g6, g7⟩ := eight hT4)
      have hn := hd.next (o := 5) (.string (⟨#[]⟩ : ByteArray)) hrl rd4 c4 (tup_5 T)
      go_roundw
      case rel => exact ⟨6, by omega, by go_num, hn⟩
      case measure => simp [RowKit.intOf]
    · have kr := rt_6 hd.rd
      have hix := fun W => ix_6 T W
      go_wp2_with (go_at_call 30; refine kr.mono ?_; rintro e w4 ⟨rfl, rd4, c4⟩; have hT4 := chg_blk c4 hd.tp (fun e => by have e : T = r := e; omega); obtain ⟨⟨p0, p1, p2, p3, p4, p5, p6, p7⟩, g0, g1, g2, g3, g4, g5, g6, g7⟩ := eight hT4)
      have hn := hd.next (o := 6) (.string (⟨#[]⟩ : ByteArray)) hrl rd4 c4 (tup_6 T)
      go_roundw
      case rel => exact ⟨7, by omega, by go_num, hn⟩
      case measure => simp [RowKit.intOf]
    · have hT7 : wr.heap[T]? = some (.cells #[.string ⟨#[100]⟩, .string ⟨#[49]⟩, .string ⟨#[114]⟩, .string ⟨#[117]⟩, .string ⟨#[97]⟩, .string ⟨#[]⟩, .string ⟨#[]⟩, .slice none 0 0] 29 (0, 0)) := hd.tp
      have ku := ruint_0 (L := []) hd.rd (by decide)
      go_upto_region 12 with (go_at_call 31; refine ku.mono ?_; rintro e w5 ⟨rfl, rd5, c5⟩)
      have hT5 := chg_blk c5 hT7 (fun e => by have e : T = r := e; omega)
      have c35 := hd.ch.trans (c5.mono (fun b e => .inl e))
      go_loopw [41] (fun i V => i = .int .u64 0 ∧ w5 = V) (fun i _ => 0)
      case atStart => exact ⟨rfl, rfl⟩
      case round =>
        obtain ⟨rfl, rfl⟩ := hrel
        obtain ⟨q0, q1, q2, q3, q4, q5, q6, q7⟩ := (eight hT5).1
        have ke := rend_c rd5
        have km := fun W => may_c W
        go_upto_region 21 with (first
          | (go_at_call 33; refine ke.mono ?_; rintro e w6 ⟨rfl, rfl⟩)
          | (go_at_call 14; refine (km _).mono ?_; rintro e w7 ⟨rfl, l7⟩))
        clear q0 q1 q2 q3 q4 q5 q6 q7
        have hB5 := chg_blk c35 hB3 (fun e => by rcases e with e | e <;> omega)
        have hB7 := later_blk l7 hB5
        have hT7' := later_blk l7 hT5
        obtain ⟨q0, q1, q2, q3, q4, q5, q6, q7⟩ := (eight hT7').1
        obtain ⟨⟨p0, p1, p2, p3, p4, p5, p6, p7⟩, g0, g1, g2, g3, g4, g5, g6, g7⟩ := eight hB7
        have hend := eight_set (.string ⟨#[100]⟩) (.string ⟨#[49]⟩) (.string ⟨#[114]⟩) (.string ⟨#[117]⟩) (.string ⟨#[97]⟩) (.string ⟨#[]⟩) (.string ⟨#[]⟩) (.slice none 0 0) hB7
        have l7w : Later w w7 := (l3.thensX c35 (fun b e => by rcases e with e | e <;> omega)).next l7
        have lend := eight_later l7w hwB (.string ⟨#[100]⟩) (.string ⟨#[49]⟩) (.string ⟨#[114]⟩) (.string ⟨#[117]⟩) (.string ⟨#[97]⟩) (.string ⟨#[]⟩) (.string ⟨#[]⟩) (.slice none 0 0)
        go_wp2_with fail
        refine bodyPost_ret (ret_row Tryz.results13 _ _ B 29 _ (0, 0) _ rfl hend Tryz.underlying29 rfl (by kernel_rfl)) rfl ?_
        exact ⟨rfl, lend⟩
end Go.Proofs.YtlhhpdomiioeiaaGreatDoor.Tu
