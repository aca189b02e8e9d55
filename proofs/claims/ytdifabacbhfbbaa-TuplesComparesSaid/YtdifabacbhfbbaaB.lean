import Derived.Test.YtdifabacbhfbbaaA
import Derived.Deep.DeepCutAuto
import Derived.Lib.Strings
namespace Go.Proofs.Ytdifabacbhfbbaa
open Go.RowKit Go.Lib

theorem letsB_eq (f0 f1 f2 f3 f4 f5 f6 t0 t1 t2 t3 t4 t5 t6 : ByteArray) : letsB f0 f1 f2 f3 f4 f5 f6 t0 t1 t2 t3 t4 t5 t6 = (one f0 t0 && (one f1 t1 && (one f2 t2 && (one f3 t3 && (one f4 t4 && (one f5 t5 && one f6 t6)))))) := by
  unfold letsB upTo
  have h : List.range 7 = [0, 1, 2, 3, 4, 5, 6] := by decide
  rw [h]
  simp [pairs]
theorem one_none (t : ByteArray) : one ⟨#[]⟩ t = true := by unfold one; rw [Lib.toList_data]; rfl
theorem one_same (t : ByteArray) : one t t = true := by simp [one]
theorem one_more (t : ByteArray) : one (t ++ ⟨#[120]⟩) t = false := by
  unfold one
  rw [Lib.toList_data, Lib.toList_data]
  simp
theorem bcell {W w1 : World} (hb : Below W.heap.size W w1) : (∀ b o, b < W.heap.size → w1.cell? ⟨b, o, none⟩ = W.cell? ⟨b, o, none⟩) ∧ (∀ b o, b < W.heap.size → w1.frozen? ⟨b, o, none⟩ = W.frozen? ⟨b, o, none⟩) :=
  ⟨fun b o h => hb.cell (p := ⟨b, o, none⟩) h, fun b o h => hb.frozen (p := ⟨b, o, none⟩) h⟩

def Boxes (f0 f1 f2 f3 f4 f5 f6 t0 t1 t2 t3 t4 t5 t6 : ByteArray) (a : Option Addr) (n c : Nat) (B : Nat) (wx : World) : Prop :=
  B + 1 < wx.heap.size ∧
  wx.cell? ⟨B, 0, none⟩ = some (.string f0) ∧ wx.cell? ⟨B, 1, none⟩ = some (.string f1) ∧ wx.cell? ⟨B, 2, none⟩ = some (.string f2) ∧ wx.cell? ⟨B, 3, none⟩ = some (.string f3) ∧ wx.cell? ⟨B, 4, none⟩ = some (.string f4) ∧ wx.cell? ⟨B, 5, none⟩ = some (.string f5) ∧ wx.cell? ⟨B, 6, none⟩ = some (.string f6) ∧
  wx.cell? ⟨B + 1, 0, none⟩ = some (.string t0) ∧ wx.cell? ⟨B + 1, 1, none⟩ = some (.string t1) ∧ wx.cell? ⟨B + 1, 2, none⟩ = some (.string t2) ∧ wx.cell? ⟨B + 1, 3, none⟩ = some (.string t3) ∧ wx.cell? ⟨B + 1, 4, none⟩ = some (.string t4) ∧ wx.cell? ⟨B + 1, 5, none⟩ = some (.string t5) ∧ wx.cell? ⟨B + 1, 6, none⟩ = some (.string t6) ∧ wx.cell? ⟨B + 1, 7, none⟩ = some (.slice a n c)
theorem Boxes.on {f0 f1 f2 f3 f4 f5 f6 t0 t1 t2 t3 t4 t5 t6 : ByteArray} {a : Option Addr} {n c B : Nat} {w w1 : World} (h : Boxes f0 f1 f2 f3 f4 f5 f6 t0 t1 t2 t3 t4 t5 t6 a n c B w) (hb : Below w.heap.size w w1) : Boxes f0 f1 f2 f3 f4 f5 f6 t0 t1 t2 t3 t4 t5 t6 a n c B w1 := by
  have hz := hb.size
  unfold Boxes at *
  have hc := (bcell hb).1
  rw [hc B 0 (by omega), hc B 1 (by omega), hc B 2 (by omega), hc B 3 (by omega), hc B 4 (by omega), hc B 5 (by omega), hc B 6 (by omega), hc (B + 1) 0 (by omega), hc (B + 1) 1 (by omega), hc (B + 1) 2 (by omega), hc (B + 1) 3 (by omega), hc (B + 1) 4 (by omega), hc (B + 1) 5 (by omega), hc (B + 1) 6 (by omega), hc (B + 1) 7 (by omega)]
  exact ⟨by omega, h.2⟩
theorem Boxes.mk (f0 f1 f2 f3 f4 f5 f6 t0 t1 t2 t3 t4 t5 t6 : ByteArray) (a : Option Addr) (n c : Nat) (w : World) : Boxes f0 f1 f2 f3 f4 f5 f6 t0 t1 t2 t3 t4 t5 t6 a n c w.heap.size ((w.alloc (.cells #[.string f0, .string f1, .string f2, .string f3, .string f4, .string f5, .string f6] 25)).alloc (.cells #[.string t0, .string t1, .string t2, .string t3, .string t4, .string t5, .string t6, .slice a n c] 30)) := by
  unfold Boxes
  simp [go_sem]
theorem only0 (f0 t0 t1 t2 t3 t4 t5 t6 : ByteArray) : letsB f0 ⟨#[]⟩ ⟨#[]⟩ ⟨#[]⟩ ⟨#[]⟩ ⟨#[]⟩ ⟨#[]⟩ t0 t1 t2 t3 t4 t5 t6 = one f0 t0 := by
  rw [letsB_eq]; simp [one_none]
theorem only1 (f1 t0 t1 t2 t3 t4 t5 t6 : ByteArray) : letsB ⟨#[]⟩ f1 ⟨#[]⟩ ⟨#[]⟩ ⟨#[]⟩ ⟨#[]⟩ ⟨#[]⟩ t0 t1 t2 t3 t4 t5 t6 = one f1 t1 := by
  rw [letsB_eq]; simp [one_none]
theorem only2 (f2 t0 t1 t2 t3 t4 t5 t6 : ByteArray) : letsB ⟨#[]⟩ ⟨#[]⟩ f2 ⟨#[]⟩ ⟨#[]⟩ ⟨#[]⟩ ⟨#[]⟩ t0 t1 t2 t3 t4 t5 t6 = one f2 t2 := by
  rw [letsB_eq]; simp [one_none]
theorem only3 (f3 t0 t1 t2 t3 t4 t5 t6 : ByteArray) : letsB ⟨#[]⟩ ⟨#[]⟩ ⟨#[]⟩ f3 ⟨#[]⟩ ⟨#[]⟩ ⟨#[]⟩ t0 t1 t2 t3 t4 t5 t6 = one f3 t3 := by
  rw [letsB_eq]; simp [one_none]
theorem only4 (f4 t0 t1 t2 t3 t4 t5 t6 : ByteArray) : letsB ⟨#[]⟩ ⟨#[]⟩ ⟨#[]⟩ ⟨#[]⟩ f4 ⟨#[]⟩ ⟨#[]⟩ t0 t1 t2 t3 t4 t5 t6 = one f4 t4 := by
  rw [letsB_eq]; simp [one_none]
theorem only5 (f5 t0 t1 t2 t3 t4 t5 t6 : ByteArray) : letsB ⟨#[]⟩ ⟨#[]⟩ ⟨#[]⟩ ⟨#[]⟩ ⟨#[]⟩ f5 ⟨#[]⟩ t0 t1 t2 t3 t4 t5 t6 = one f5 t5 := by
  rw [letsB_eq]; simp [one_none]
theorem only6 (f6 t0 t1 t2 t3 t4 t5 t6 : ByteArray) : letsB ⟨#[]⟩ ⟨#[]⟩ ⟨#[]⟩ ⟨#[]⟩ ⟨#[]⟩ ⟨#[]⟩ f6 t0 t1 t2 t3 t4 t5 t6 = one f6 t6 := by
  rw [letsB_eq]; simp [one_none]

set_option maxHeartbeats 8000000 in
set_option maxRecDepth 100000 in
theorem filters_any (f0 f1 f2 f3 f4 f5 f6 t0 t1 t2 t3 t4 t5 t6 : ByteArray) (a : Option Addr) (n c : Nat) (which : Int) (w : World) (ht1 : t1.size ≤ 140737488351232) :
    Calls Try.prog 3 #[.agg #[.string f0, .string f1, .string f2, .string f3, .string f4, .string f5, .string f6], .agg #[.string t0, .string t1, .string t2, .string t3, .string t4, .string t5, .string t6, .slice a n c], .int .i64 which] w fun e w' => e = .returned (.bool true) ∧ Below w.heap.size w w' := by
  have HL := hid (letsB_eq f0 f1 f2 f3 f4 f5 f6 t0 t1 t2 t3 t4 t5 t6)
  have hbx := Boxes.mk f0 f1 f2 f3 f4 f5 f6 t0 t1 t2 t3 t4 t5 t6 a n c w
  have hbw : Below w.heap.size w ((w.alloc (.cells #[.string f0, .string f1, .string f2, .string f3, .string f4, .string f5, .string f6] 25)).alloc (.cells #[.string t0, .string t1, .string t2, .string t3, .string t4, .string t5, .string t6, .slice a n c] 30)) := (((Below.refl _ _).alloc (Nat.le_refl _) _).alloc (by simp) _)
  have hzw := hbw.size
  go_enter Try.func3, Try.ntmps3
  go_upto_region 1 with fail
  go_cut [7] (fun s7 wx => s7 = .bool (one f0 t0 && (one f1 t1 && (one f2 t2 && one f6 t6))) ∧ Boxes f0 f1 f2 f3 f4 f5 f6 t0 t1 t2 t3 t4 t5 t6 a n c w.heap.size wx ∧ Below w.heap.size w wx)
  case first =>
    have h0 := only0 f0 t0 t1 t2 t3 t4 t5 t6
    cases x0 : one f0 t0
    · rw [x0] at h0
      have hL : (one f0 t0 && (one f1 t1 && (one f2 t2 && one f6 t6))) = false := by simp [x0]
      have HL2 := hid hL
      clear hL x0
      go_wp2_with (go_at_call 6; refine (lets_any _ _ _ _ _ _ _ _ _ _ _ _ _ _ a n c _).mono ?_; rintro e w1 ⟨rfl, hb1⟩; have hbw := Below.trans hbw (hb1.mono (by omega)); have hbx := Boxes.on hbx hb1; have hbx' := hbx; unfold Boxes at hbx'; obtain ⟨hz, c0, c1, c2, c3, c4, c5, c6, c7, c8, c9, c10, c11, c12, c13, c14⟩ := hbx')
      go_meet
      exact ⟨by rw [HL2.out], hbx, hbw⟩
    rw [x0] at h0
    have h1 := only1 f1 t0 t1 t2 t3 t4 t5 t6
    cases x1 : one f1 t1
    · rw [x1] at h1
      have hL : (one f0 t0 && (one f1 t1 && (one f2 t2 && one f6 t6))) = false := by simp [x1]
      have HL2 := hid hL
      clear hL x0 x1
      go_wp2_with (go_at_call 6; refine (lets_any _ _ _ _ _ _ _ _ _ _ _ _ _ _ a n c _).mono ?_; rintro e w1 ⟨rfl, hb1⟩; have hbw := Below.trans hbw (hb1.mono (by omega)); have hbx := Boxes.on hbx hb1; have hbx' := hbx; unfold Boxes at hbx'; obtain ⟨hz, c0, c1, c2, c3, c4, c5, c6, c7, c8, c9, c10, c11, c12, c13, c14⟩ := hbx')
      go_meet
      exact ⟨by rw [HL2.out], hbx, hbw⟩
    rw [x1] at h1
    have h2 := only2 f2 t0 t1 t2 t3 t4 t5 t6
    cases x2 : one f2 t2
    · rw [x2] at h2
      have hL : (one f0 t0 && (one f1 t1 && (one f2 t2 && one f6 t6))) = false := by simp [x2]
      have HL2 := hid hL
      clear hL x0 x1 x2
      go_wp2_with (go_at_call 6; refine (lets_any _ _ _ _ _ _ _ _ _ _ _ _ _ _ a n c _).mono ?_; rintro e w1 ⟨rfl, hb1⟩; have hbw := Below.trans hbw (hb1.mono (by omega)); have hbx := Boxes.on hbx hb1; have hbx' := hbx; unfold Boxes at hbx'; obtain ⟨hz, c0, c1, c2, c3, c4, c5, c6, c7, c8, c9, c10, c11, c12, c13, c14⟩ := hbx')
      go_meet
      exact ⟨by rw [HL2.out], hbx, hbw⟩
    rw [x2] at h2
    have h6 := only6 f6 t0 t1 t2 t3 t4 t5 t6
    cases x6 : one f6 t6
    · rw [x6] at h6
      have hL : (one f0 t0 && (one f1 t1 && (one f2 t2 && one f6 t6))) = false := by simp [x6]
      have HL2 := hid hL
      clear hL x0 x1 x2 x6
      go_wp2_with (go_at_call 6; refine (lets_any _ _ _ _ _ _ _ _ _ _ _ _ _ _ a n c _).mono ?_; rintro e w1 ⟨rfl, hb1⟩; have hbw := Below.trans hbw (hb1.mono (by omega)); have hbx := Boxes.on hbx hb1; have hbx' := hbx; unfold Boxes at hbx'; obtain ⟨hz, c0, c1, c2, c3, c4, c5, c6, c7, c8, c9, c10, c11, c12, c13, c14⟩ := hbx')
      go_meet
      exact ⟨by rw [HL2.out], hbx, hbw⟩
    rw [x6] at h6
    have hL : (one f0 t0 && (one f1 t1 && (one f2 t2 && one f6 t6))) = true := by rw [x0, x1, x2, x6]; rfl
    have HL2 := hid hL
    clear hL x0 x1 x2 x6
    go_wp2_with (go_at_call 6; refine (lets_any _ _ _ _ _ _ _ _ _ _ _ _ _ _ a n c _).mono ?_; rintro e w1 ⟨rfl, hb1⟩; have hbw := Below.trans hbw (hb1.mono (by omega)); have hbx := Boxes.on hbx hb1; have hbx' := hbx; unfold Boxes at hbx'; obtain ⟨hz, c0, c1, c2, c3, c4, c5, c6, c7, c8, c9, c10, c11, c12, c13, c14⟩ := hbx')
    go_meet
    exact ⟨by rw [HL2.out], hbx, hbw⟩
  case rest =>
    clear hbx hbw hzw
    obtain ⟨rfl, hbx, hbw⟩ := hcut
    have hzw := hbw.size
    have hbx' := hbx
    unfold Boxes at hbx'
    obtain ⟨hz, c0, c1, c2, c3, c4, c5, c6, c7, c8, c9, c10, c11, c12, c13, c14⟩ := hbx'
    generalize hB1 : (one f0 t0 && (one f1 t1 && (one f2 t2 && one f6 t6))) = b1
    have HB1 := hid hB1
    clear hB1
    have hfull : letsB f0 f1 f2 f3 f4 f5 f6 t0 t1 t2 t3 t4 t5 t6 = (b1 && (one f3 t3 && (one f4 t4 && one f5 t5))) := by
      rw [HL.out, ← HB1.out]
      cases one f0 t0 <;> cases one f1 t1 <;> cases one f2 t2 <;> cases one f3 t3 <;> cases one f4 t4 <;> cases one f5 t5 <;> cases one f6 t6 <;> rfl
    have HF := hid hfull
    clear hfull
    go_upto_region 2 with fail
    go_cut [7] (fun s7 wx => s7 = .bool (letsB f0 f1 f2 f3 f4 f5 f6 t0 t1 t2 t3 t4 t5 t6) ∧ Boxes f0 f1 f2 f3 f4 f5 f6 t0 t1 t2 t3 t4 t5 t6 a n c w.heap.size wx ∧ Below w.heap.size w wx)
    case first =>
      cases b1
      · go_wp2
        go_meet
        exact ⟨by rw [HF.out]; rfl, hbx, hbw⟩
      have HF2 : Hid (letsB f0 f1 f2 f3 f4 f5 f6 t0 t1 t2 t3 t4 t5 t6 = (one f3 t3 && (one f4 t4 && one f5 t5))) := by rw [Bool.true_and] at HF; exact HF
      have h3 := only3 f3 t0 t1 t2 t3 t4 t5 t6
      cases x3 : one f3 t3
      · rw [x3] at h3
        have hL : (one f3 t3 && (one f4 t4 && one f5 t5)) = false := by simp [x3]
        have HL2 := hid hL
        clear hL x3
        go_wp2_with (go_at_call 6; refine (lets_any _ _ _ _ _ _ _ _ _ _ _ _ _ _ a n c _).mono ?_; rintro e w1 ⟨rfl, hb1⟩; have hbw := Below.trans hbw (hb1.mono (by omega)); have hbx := Boxes.on hbx hb1; have hbx' := hbx; unfold Boxes at hbx'; obtain ⟨hz, c0, c1, c2, c3, c4, c5, c6, c7, c8, c9, c10, c11, c12, c13, c14⟩ := hbx')
        go_meet
        exact ⟨by rw [HF2.out, HL2.out], hbx, hbw⟩
      rw [x3] at h3
      have h4 := only4 f4 t0 t1 t2 t3 t4 t5 t6
      cases x4 : one f4 t4
      · rw [x4] at h4
        have hL : (one f3 t3 && (one f4 t4 && one f5 t5)) = false := by simp [x4]
        have HL2 := hid hL
        clear hL x3 x4
        go_wp2_with (go_at_call 6; refine (lets_any _ _ _ _ _ _ _ _ _ _ _ _ _ _ a n c _).mono ?_; rintro e w1 ⟨rfl, hb1⟩; have hbw := Below.trans hbw (hb1.mono (by omega)); have hbx := Boxes.on hbx hb1; have hbx' := hbx; unfold Boxes at hbx'; obtain ⟨hz, c0, c1, c2, c3, c4, c5, c6, c7, c8, c9, c10, c11, c12, c13, c14⟩ := hbx')
        go_meet
        exact ⟨by rw [HF2.out, HL2.out], hbx, hbw⟩
      rw [x4] at h4
      have h5 := only5 f5 t0 t1 t2 t3 t4 t5 t6
      cases x5 : one f5 t5
      · rw [x5] at h5
        have hL : (one f3 t3 && (one f4 t4 && one f5 t5)) = false := by simp [x5]
        have HL2 := hid hL
        clear hL x3 x4 x5
        go_wp2_with (go_at_call 6; refine (lets_any _ _ _ _ _ _ _ _ _ _ _ _ _ _ a n c _).mono ?_; rintro e w1 ⟨rfl, hb1⟩; have hbw := Below.trans hbw (hb1.mono (by omega)); have hbx := Boxes.on hbx hb1; have hbx' := hbx; unfold Boxes at hbx'; obtain ⟨hz, c0, c1, c2, c3, c4, c5, c6, c7, c8, c9, c10, c11, c12, c13, c14⟩ := hbx')
        go_meet
        exact ⟨by rw [HF2.out, HL2.out], hbx, hbw⟩
      rw [x5] at h5
      have hL : (one f3 t3 && (one f4 t4 && one f5 t5)) = true := by rw [x3, x4, x5]; rfl
      have HL2 := hid hL
      clear hL x3 x4 x5
      go_wp2_with (go_at_call 6; refine (lets_any _ _ _ _ _ _ _ _ _ _ _ _ _ _ a n c _).mono ?_; rintro e w1 ⟨rfl, hb1⟩; have hbw := Below.trans hbw (hb1.mono (by omega)); have hbx := Boxes.on hbx hb1; have hbx' := hbx; unfold Boxes at hbx'; obtain ⟨hz, c0, c1, c2, c3, c4, c5, c6, c7, c8, c9, c10, c11, c12, c13, c14⟩ := hbx')
      go_meet
      exact ⟨by rw [HF2.out, HL2.out], hbx, hbw⟩
    case rest =>
      clear hbx hbw hzw HF HB1 HL c0 c1 c2 c3 c4 c5 c6 c7 c8 c9 c10 c11 c12 c13 c14
      clear hz
      obtain ⟨rfl, hbx, hbw⟩ := hcut
      have hzw := hbw.size
      have hbx' := hbx
      unfold Boxes at hbx'
      obtain ⟨hz, c0, c1, c2, c3, c4, c5, c6, c7, c8, c9, c10, c11, c12, c13, c14⟩ := hbx'
      have hn : letsB ⟨#[]⟩ ⟨#[]⟩ ⟨#[]⟩ ⟨#[]⟩ ⟨#[]⟩ ⟨#[]⟩ ⟨#[]⟩ t0 t1 t2 t3 t4 t5 t6 = true := by rw [letsB_eq]; simp [one_none]
      have hs : letsB t0 t1 t2 t3 t4 t5 t6 t0 t1 t2 t3 t4 t5 t6 = true := by rw [letsB_eq]; simp [one_same]
      go_upto_region 5 with (go_at_call 6; refine (lets_any _ _ _ _ _ _ _ _ _ _ _ _ _ _ a n c _).mono ?_; rintro e w1 ⟨rfl, hb1⟩; have hbw := Below.trans hbw (hb1.mono (by omega)); have hbx := Boxes.on hbx hb1; have hbx' := hbx; unfold Boxes at hbx'; obtain ⟨hz, c0, c1, c2, c3, c4, c5, c6, c7, c8, c9, c10, c11, c12, c13, c14⟩ := hbx')
      go_upto_region 8 with (go_at_call 6; refine (lets_any _ _ _ _ _ _ _ _ _ _ _ _ _ _ a n c _).mono ?_; rintro e w2 ⟨rfl, hb2⟩; have hz2 := hb2.size; simp [go_sem] at hz2; have hbw2 := Below.trans (hbw.alloc (by omega) _) (hb2.mono (by simp [go_sem]; omega)); have hbx2 := Boxes.on (Boxes.on hbx ((Below.refl _ _).alloc (Nat.le_refl _) _)) hb2; obtain ⟨hc2, hf2⟩ := bcell hb2)
      have hbx' := hbx2
      unfold Boxes at hbx'
      obtain ⟨hzz, d0, d1, d2, d3, d4, d5, d6, d7, d8, d9, d10, d11, d12, d13, d14⟩ := hbx'
      have g0 : w2.cell? ⟨w1.heap.size, 0, none⟩ = some (.string t0) := by rw [hc2 _ _ (by simp [go_sem])]; simp [go_sem]
      have gf0 : w2.frozen? ⟨w1.heap.size, 0, none⟩ = false := by rw [hf2 _ _ (by simp [go_sem])]; simp [go_sem]
      have g1 : w2.cell? ⟨w1.heap.size, 1, none⟩ = some (.string t1) := by rw [hc2 _ _ (by simp [go_sem])]; simp [go_sem]
      have gf1 : w2.frozen? ⟨w1.heap.size, 1, none⟩ = false := by rw [hf2 _ _ (by simp [go_sem])]; simp [go_sem]
      have g2 : w2.cell? ⟨w1.heap.size, 2, none⟩ = some (.string t2) := by rw [hc2 _ _ (by simp [go_sem])]; simp [go_sem]
      have gf2 : w2.frozen? ⟨w1.heap.size, 2, none⟩ = false := by rw [hf2 _ _ (by simp [go_sem])]; simp [go_sem]
      have g3 : w2.cell? ⟨w1.heap.size, 3, none⟩ = some (.string t3) := by rw [hc2 _ _ (by simp [go_sem])]; simp [go_sem]
      have gf3 : w2.frozen? ⟨w1.heap.size, 3, none⟩ = false := by rw [hf2 _ _ (by simp [go_sem])]; simp [go_sem]
      have g4 : w2.cell? ⟨w1.heap.size, 4, none⟩ = some (.string t4) := by rw [hc2 _ _ (by simp [go_sem])]; simp [go_sem]
      have gf4 : w2.frozen? ⟨w1.heap.size, 4, none⟩ = false := by rw [hf2 _ _ (by simp [go_sem])]; simp [go_sem]
      have g5 : w2.cell? ⟨w1.heap.size, 5, none⟩ = some (.string t5) := by rw [hc2 _ _ (by simp [go_sem])]; simp [go_sem]
      have gf5 : w2.frozen? ⟨w1.heap.size, 5, none⟩ = false := by rw [hf2 _ _ (by simp [go_sem])]; simp [go_sem]
      have g6 : w2.cell? ⟨w1.heap.size, 6, none⟩ = some (.string t6) := by rw [hc2 _ _ (by simp [go_sem])]; simp [go_sem]
      have gf6 : w2.frozen? ⟨w1.heap.size, 6, none⟩ = false := by rw [hf2 _ _ (by simp [go_sem])]; simp [go_sem]
      clear hc2 hf2 hbx hbx2 hn hs
      have hz3 : w.heap.size ≤ w1.heap.size := hbw.size
      by_cases w0 : which = 0
      · subst w0
        have hq : letsB ⟨#[]⟩ t1 t2 t3 t4 t5 t6 t0 t1 t2 t3 t4 t5 t6 = true := by rw [letsB_eq]; simp [one_none, one_same]
        go_wp2_with (go_at_call 6; refine (lets_any _ _ _ _ _ _ _ _ _ _ _ _ _ _ a n c _).mono ?_; rintro e w3 ⟨rfl, hb3⟩)
        go_ret
        exact ⟨rfl, (hbw2.setCell (by omega) _).trans (hb3.mono (by simp [go_sem]; omega))⟩
      have w0b : (which == 0) = false := by simpa using w0
      by_cases w1 : which = 1
      · subst w1
        have hq : letsB t0 ⟨#[]⟩ t2 t3 t4 t5 t6 t0 t1 t2 t3 t4 t5 t6 = true := by rw [letsB_eq]; simp [one_none, one_same]
        go_wp2_with (go_at_call 6; refine (lets_any _ _ _ _ _ _ _ _ _ _ _ _ _ _ a n c _).mono ?_; rintro e w3 ⟨rfl, hb3⟩)
        go_ret
        exact ⟨rfl, (hbw2.setCell (by omega) _).trans (hb3.mono (by simp [go_sem]; omega))⟩
      have w1b : (which == 1) = false := by simpa using w1
      by_cases w2 : which = 2
      · subst w2
        have hq : letsB t0 t1 ⟨#[]⟩ t3 t4 t5 t6 t0 t1 t2 t3 t4 t5 t6 = true := by rw [letsB_eq]; simp [one_none, one_same]
        go_wp2_with (go_at_call 6; refine (lets_any _ _ _ _ _ _ _ _ _ _ _ _ _ _ a n c _).mono ?_; rintro e w3 ⟨rfl, hb3⟩)
        go_ret
        exact ⟨rfl, (hbw2.setCell (by omega) _).trans (hb3.mono (by simp [go_sem]; omega))⟩
      have w2b : (which == 2) = false := by simpa using w2
      by_cases w3 : which = 3
      · subst w3
        have hq : letsB t0 t1 t2 ⟨#[]⟩ ⟨#[]⟩ ⟨#[]⟩ t6 t0 t1 t2 t3 t4 t5 t6 = true := by rw [letsB_eq]; simp [one_none, one_same]
        go_wp2_with (go_at_call 6; refine (lets_any _ _ _ _ _ _ _ _ _ _ _ _ _ _ a n c _).mono ?_; rintro e w3 ⟨rfl, hb3⟩)
        go_ret
        exact ⟨rfl, (((hbw2.setCell (by omega) _).setCell (by omega) _).setCell (by omega) _).trans (hb3.mono (by simp [go_sem]; omega))⟩
      have w3b : (which == 3) = false := by simpa using w3
      by_cases w4 : which = 4
      · subst w4
        have hq : letsB t0 t1 t2 t3 t4 t5 ⟨#[]⟩ t0 t1 t2 t3 t4 t5 t6 = true := by rw [letsB_eq]; simp [one_none, one_same]
        go_wp2_with (go_at_call 6; refine (lets_any _ _ _ _ _ _ _ _ _ _ _ _ _ _ a n c _).mono ?_; rintro e w3 ⟨rfl, hb3⟩)
        go_ret
        exact ⟨rfl, (hbw2.setCell (by omega) _).trans (hb3.mono (by simp [go_sem]; omega))⟩
      have w4b : (which == 4) = false := by simpa using w4
      by_cases w5 : which = 5
      · subst w5
        have hq : letsB t0 (t1 ++ ⟨#[120]⟩) t2 t3 t4 t5 t6 t0 t1 t2 t3 t4 t5 t6 = false := by rw [letsB_eq]; simp [one_more]
        have hsz : t1.size + 1 ≤ 9223372036854775807 := by omega
        go_wp2_with (go_at_call 6; refine (lets_any _ _ _ _ _ _ _ _ _ _ _ _ _ _ a n c _).mono ?_; rintro e w3 ⟨rfl, hb3⟩)
        go_ret
        exact ⟨rfl, (hbw2.setCell (by omega) _).trans (hb3.mono (by simp [go_sem]; omega))⟩
      have w5b : (which == 5) = false := by simpa using w5
      have hq : letsB t0 t1 t2 t3 t4 t5 t6 t0 t1 t2 t3 t4 t5 t6 = true := by rw [letsB_eq]; simp [one_same]
      go_wp2_with (go_at_call 6; refine (lets_any _ _ _ _ _ _ _ _ _ _ _ _ _ _ a n c _).mono ?_; rintro e w3 ⟨rfl, hb3⟩)
      go_ret
      exact ⟨rfl, hbw2.trans (hb3.mono (by omega))⟩
end Go.Proofs.Ytdifabacbhfbbaa
