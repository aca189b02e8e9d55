import Derived.Test.YteledidnhjioaaaSjC
import Derived.Laws.Strings
namespace Go.Proofs.Yteledidnhjioaaa.St
open Go.RowKit Go.Lib Go.Proofs Go.Shelf Go.Proofs.Yteledidnhjioaaa.Sh
set_option linter.unusedVariables false
set_option linter.unusedSimpArgs false
theorem less_irrefl : ∀ x : List UInt8, Op.bytesLess x x = false
  | [] => rfl
  | a :: x => by
    have h : ¬ a < a := by rw [UInt8.lt_iff_toNat_lt]; omega
    simp [Op.bytesLess, h, less_irrefl x]
theorem less_asymm : ∀ x y : List UInt8, Op.bytesLess x y = true → Op.bytesLess y x = false
  | _, [], h => by cases ‹List UInt8› <;> simp [Op.bytesLess] at h
  | [], _ :: _, _ => rfl
  | a :: x, b :: y, h => by
    simp only [Op.bytesLess, Bool.or_eq_true, decide_eq_true_eq, Bool.and_eq_true, beq_iff_eq] at h
    rcases h with h | ⟨rfl, h⟩
    · have h' := UInt8.lt_iff_toNat_lt.1 h
      have h1 : ¬ b < a := by rw [UInt8.lt_iff_toNat_lt]; omega
      have h2 : ¬ b = a := fun e => by rw [e] at h'; omega
      simp [Op.bytesLess, h1, h2]
    · have h1 : ¬ a < a := by rw [UInt8.lt_iff_toNat_lt]; omega
      simp [Op.bytesLess, h1, less_asymm x y h]
theorem less_trans : ∀ x y z : List UInt8, Op.bytesLess x y = true → Op.bytesLess y z = true → Op.bytesLess x z = true
  | _, [], _, h, _ => by cases ‹List UInt8› <;> simp [Op.bytesLess] at h
  | _, _ :: _, [], _, h => by simp [Op.bytesLess] at h
  | [], _ :: _, _ :: _, _, _ => rfl
  | a :: x, b :: y, d :: z, h, k => by
    simp only [Op.bytesLess, Bool.or_eq_true, decide_eq_true_eq, Bool.and_eq_true, beq_iff_eq] at h k ⊢
    rcases h with h | ⟨rfl, h⟩
    · rcases k with k | ⟨rfl, k⟩
      · exact .inl (by rw [UInt8.lt_iff_toNat_lt] at *; omega)
      · exact .inl h
    · rcases k with k | ⟨rfl, k⟩
      · exact .inl k
      · exact .inr ⟨rfl, less_trans x y z h k⟩
theorem less_total : ∀ x y : List UInt8, Op.bytesLess x y = false → Op.bytesLess y x = false → x = y
  | [], [], _, _ => rfl
  | _ :: _, [], _, h => by simp [Op.bytesLess] at h
  | [], _ :: _, h, _ => by simp [Op.bytesLess] at h
  | a :: x, b :: y, h, k => by
    simp only [Op.bytesLess, Bool.or_eq_false_iff, decide_eq_false_iff_not, Bool.and_eq_false_iff, beq_eq_false_iff_ne] at h k
    have e : a = b := by
      apply UInt8.toNat_inj.1
      have h1 := h.1
      have k1 := k.1
      rw [UInt8.lt_iff_toNat_lt] at h1 k1
      omega
    subst e
    rw [less_total x y (h.2.resolve_left (fun n => n rfl)) (k.2.resolve_left (fun n => n rfl))]
abbrev less (a b : ByteArray) : Bool := Op.bytesLess a.toList b.toList
theorem less_same {a b : ByteArray} (h : less a b = false) (k : less b a = false) : a = b := by
  have := less_total _ _ h k
  rw [ByteArray.toList_eq, ByteArray.toList_eq] at this
  exact ByteArray.ext (Array.ext' this)
def cmpD (a b : ByteArray) : Int := if less b a = true then -1 else if less a b = true then 1 else 0
theorem cmpD_lt (a b : ByteArray) : cmpD a b < 0 ↔ less b a = true := by unfold cmpD; split <;> (try split) <;> simp_all
theorem cmpD_gt (a b : ByteArray) : 0 < cmpD a b ↔ less a b = true := by
  unfold cmpD
  by_cases h : less b a = true
  · have := less_asymm _ _ h
    simp [h, this]
  · by_cases k : less a b = true <;> simp [h, k]
theorem cmpD_eq (a b : ByteArray) : cmpD a b = 0 ↔ a = b := by
  constructor
  · intro h
    have h1 : ¬ cmpD a b < 0 := by omega
    have h2 : ¬ 0 < cmpD a b := by omega
    rw [cmpD_lt] at h1
    rw [cmpD_gt] at h2
    exact less_same (by simpa using h2) (by simpa using h1)
  · rintro rfl
    simp [cmpD, less, less_irrefl]
theorem ordD : Ord cmpD := ⟨fun a b => by rw [cmpD_lt, cmpD_gt], fun a b d => by simp only [cmpD_lt]; exact fun h k => less_trans _ _ _ k h, fun a b d h => by rw [(cmpD_eq a b).1 h], fun a b d h => by rw [(cmpD_eq a b).1 h]⟩
/-- function number c compares as f tells -/
structure Comp (c : Nat) (f : ByteArray → ByteArray → Int) : Prop where
  calls : ∀ (a b : ByteArray) (w : World), Calls Try.prog c #[.string a, .string b] w fun e w' => e = .returned (.int .i64 (f a b)) ∧ Later w w'
  enters : ∀ args w, (callFunc c args).run Try.prog w = .ok (.enter c args) w
  ord : Ord f
theorem down_any (a b : ByteArray) (w : World) : Calls Try.prog 36 #[.string a, .string b] w fun e w' => e = .returned (.int .i64 (cmpD a b)) ∧ Later w w' := by
  have hb0 := Later.refl w
  by_cases h1 : less b a = true
  · have h2 := less_asymm _ _ h1
    have h3 : (a.toList == b.toList) = false := by
      simp only [beq_eq_false_iff_ne, ne_eq]
      intro e
      rw [less, e, less_irrefl] at h1
      cases h1
    have h4 : cmpD a b = -1 := by simp [cmpD, h1]
    go_enter Try.func36, Try.ntmps36
    go_wp2
    go_ret
    exact ⟨by rw [h4]; rfl, hb0⟩
  · have h1' : Op.bytesLess b.toList a.toList = false := by simpa using h1
    by_cases h2 : Op.bytesLess a.toList b.toList = true
    · have h4 : cmpD a b = 1 := by simp [cmpD, less, h1', h2]
      clear h1
      go_enter Try.func36, Try.ntmps36
      go_wp2
      go_ret
      exact ⟨by rw [h4]; rfl, hb0⟩
    · have h2' : Op.bytesLess a.toList b.toList = false := by simpa using h2
      have h4 : cmpD a b = 0 := by simp [cmpD, less, h1', h2']
      have h5 : (a.toList == b.toList) = true := by simp [less_total _ _ h2' h1']
      clear h1 h2
      go_enter Try.func36, Try.ntmps36
      go_wp2
      go_ret
      exact ⟨by rw [h4]; rfl, hb0⟩
theorem compD : Comp 36 cmpD := ⟨down_any, fun args w => enters_of Try.func36 (by kernel_rfl) rfl args w, ordD⟩
def putPost (ok : Nat → Prop) (w : World) (T : Tr ByteArray × Bool) (e : Ending) (w' : World) : Prop :=
  ∃ q, e = .returned (.tuple #[.pointer q, .bool T.2]) ∧ IsT ok w' q T.1 ∧ Later w w'
set_option maxRecDepth 100000 in
set_option maxHeartbeats 8000000 in
theorem put_any {c : Nat} {f : ByteArray → ByteArray → Int} (hc : Comp c f) (x : ByteArray) (over : Bool) (sb : Nat) : ∀ (T : Tr ByteArray) (w : World) (p : Option Addr) (ok : Nat → Prop), Up ok w.heap.size → IsT ok w p T →
    w.cell? ⟨sb, 0, none⟩ = some (.func (.func c) #[] #[]) → T.size + 1 ≤ 4611686018427387904 →
    Calls Try.prog 67 #[.pointer (some ⟨sb, 0, none⟩), .pointer p, .string x, .bool over] w (putPost ok w (T.put f x over))
  | .leaf, w, p, ok, hu, h, hs, hz => by
    obtain rfl : p = none := h
    have hj := join_any (ok := ok) (w := w) (pl := none) (pr := none) (l := .leaf) (r := .leaf) x hu rfl rfl (by simp [Tr.size])
    go_enter Try.func67, Try.ntmps67
    go_wp2_with (go_at_call 86; refine hj.mono ?_; rintro e w1 ⟨q, rfl, ht, hb1⟩)
    go_ret2
    exact ⟨q, rfl, ht, hb1⟩
  | .node l y r, w, p, ok, hu, h, hs, hz => by
    have hs2 := hz
    simp only [Tr.size] at hs2
    have h0 := h
    obtain ⟨b, pl, pr, rfl, hb, hcn, hl, hr⟩ := IsT.node h0
    have hsc : ∀ W', Later w W' → W'.cell? ⟨sb, 0, none⟩ = some (.func (.func c) #[] #[]) := fun W' k => k.cell (hs)
    have hu0 : ∀ W', Later w W' → Up ok W'.heap.size := fun W' k => hu.mono k.size
    have hb0 := Later.refl w
    have ihl : ∀ W', Later w W' → Calls Try.prog 67 #[.pointer (some ⟨sb, 0, none⟩), .pointer pl, .string x, .bool over] W' (putPost ok W' (l.put f x over)) := fun W' k => put_any hc x over sb l W' pl ok (hu0 _ k) (hl _ k) (hsc _ k) (by omega)
    have ihr : ∀ W', Later w W' → Calls Try.prog 67 #[.pointer (some ⟨sb, 0, none⟩), .pointer pr, .string x, .bool over] W' (putPost ok W' (r.put f x over)) := fun W' k => put_any hc x over sb r W' pr ok (hu0 _ k) (hr _ k) (hsc _ k) (by omega)
    have hen := hc.enters
    have hcc := hc.calls
    have hpl := Tr.put_size f x over l
    have hpr := Tr.put_size f x over r
    unfold Tr.put
    clear hs hz
    by_cases h1 : f x y < 0
    · rw [if_pos h1]
      go_enter Try.func67, Try.ntmps67
      go_wp2_with fail
      go_region_held3 (fun W' => Later w W') (first | assumption | exact Later.drew (by assumption) | exact Later.next (by assumption) hb1) (first | ((with_reducible refine (hcc _ _ _).mono ?_); rintro e w1 ⟨rfl, hb1⟩))
      go_wp2_with fail
      go_wp2_with (go_at_call 67; (with_reducible refine (ihl _ (by assumption)).mono ?_); rintro e w2 ⟨q, rfl, hq, hb1⟩; have hl2 : Later w w2 := Later.next (by assumption) hb1)
      go_wp2_with fail
      go_region_held3 (fun W' => Later w W') (first | assumption | exact Later.drew (by assumption) | exact Later.next (by assumption) hb1) (first | (go_at_call 87; (with_reducible refine (even_any y (hu0 _ (by assumption)) (hq.later (Later.refl _).drew) (hr _ (by assumption)) (by omega)).mono ?_); rintro e w3 ⟨q3, rfl, hq3, hb1⟩))
      go_wp2_with fail
      go_ret2
      exact ⟨q3, rfl, hq3, (show Later w _ by assumption)⟩
    · rw [if_neg h1]
      by_cases h2 : 0 < f x y
      · rw [if_pos h2]
        go_enter Try.func67, Try.ntmps67
        go_wp2_with fail
        go_region_held3 (fun W' => Later w W') (first | assumption | exact Later.drew (by assumption) | exact Later.next (by assumption) hb1) (first | ((with_reducible refine (hcc _ _ _).mono ?_); rintro e w1 ⟨rfl, hb1⟩))
        go_wp2_with fail
        go_wp2_with (go_at_call 67; (with_reducible refine (ihr _ (by assumption)).mono ?_); rintro e w2 ⟨q, rfl, hq, hb1⟩; have hl2 : Later w w2 := Later.next (by assumption) hb1)
        go_wp2_with fail
        go_region_held3 (fun W' => Later w W') (first | assumption | exact Later.drew (by assumption) | exact Later.next (by assumption) hb1) (first | (go_at_call 87; (with_reducible refine (even_any y (hu0 _ (by assumption)) (hl _ (by assumption)) (hq.later (Later.refl _).drew) (by omega)).mono ?_); rintro e w3 ⟨q3, rfl, hq3, hb1⟩))
        go_wp2_with fail
        go_ret2
        exact ⟨q3, rfl, hq3, (show Later w _ by assumption)⟩
      · rw [if_neg h2]
        cases over with
        | true =>
          go_enter Try.func67, Try.ntmps67
          go_wp2_with fail
          go_region_held3 (fun W' => Later w W') (first | assumption | exact Later.drew (by assumption) | exact Later.next (by assumption) hb1) (first | ((with_reducible refine (hcc _ _ _).mono ?_); rintro e w1 ⟨rfl, hb1⟩))
          go_wp2_with fail
          go_region_held3 (fun W' => Later w W') (first | assumption | exact Later.drew (by assumption) | exact Later.next (by assumption) hb1) (first | (go_at_call 86; (with_reducible refine (join_any x (hu0 _ (by assumption)) (hl _ (by assumption)) (hr _ (by assumption)) (by omega)).mono ?_); rintro e w3 ⟨q3, rfl, hq3, hb1⟩))
          go_wp2_with fail
          go_ret2
          exact ⟨q3, rfl, hq3, (show Later w _ by assumption)⟩
        | false =>
          go_enter Try.func67, Try.ntmps67
          go_wp2_with fail
          go_region_held3 (fun W' => Later w W') (first | assumption | exact Later.drew (by assumption) | exact Later.next (by assumption) hb1) (first | ((with_reducible refine (hcc _ _ _).mono ?_); rintro e w1 ⟨rfl, hb1⟩))
          go_wp2_with fail
          go_ret2
          exact ⟨_, rfl, h0.later (show Later w _ by assumption), (show Later w _ by assumption)⟩
set_option maxRecDepth 100000 in
set_option maxHeartbeats 8000000 in
theorem out_any {c : Nat} {f : ByteArray → ByteArray → Int} (hc : Comp c f) (x : ByteArray) (sb : Nat) : ∀ (T : Tr ByteArray) (w : World) (p : Option Addr) (ok : Nat → Prop), Up ok w.heap.size → IsT ok w p T →
    w.cell? ⟨sb, 0, none⟩ = some (.func (.func c) #[] #[]) → T.size + 1 ≤ 4611686018427387904 →
    Calls Try.prog 76 #[.pointer (some ⟨sb, 0, none⟩), .pointer p, .string x] w (putPost ok w (T.out f x))
  | .leaf, w, p, ok, hu, h, hs, hz => by
    obtain rfl : p = none := h
    go_enter Try.func76, Try.ntmps76
    go_wp2_with fail
    go_ret2
    exact ⟨none, rfl, rfl, Later.refl w⟩
  | .node l y r, w, p, ok, hu, h, hs, hz => by
    have hs2 := hz
    simp only [Tr.size] at hs2
    have h0 := h
    obtain ⟨b, pl, pr, rfl, hb, hcn, hl, hr⟩ := IsT.node h0
    have hsc : ∀ W', Later w W' → W'.cell? ⟨sb, 0, none⟩ = some (.func (.func c) #[] #[]) := fun W' k => k.cell (hs)
    have hu0 : ∀ W', Later w W' → Up ok W'.heap.size := fun W' k => hu.mono k.size
    have hb0 := Later.refl w
    have ihl : ∀ W', Later w W' → Calls Try.prog 76 #[.pointer (some ⟨sb, 0, none⟩), .pointer pl, .string x] W' (putPost ok W' (l.out f x)) := fun W' k => out_any hc x sb l W' pl ok (hu0 _ k) (hl _ k) (hsc _ k) (by omega)
    have ihr : ∀ W', Later w W' → Calls Try.prog 76 #[.pointer (some ⟨sb, 0, none⟩), .pointer pr, .string x] W' (putPost ok W' (r.out f x)) := fun W' k => out_any hc x sb r W' pr ok (hu0 _ k) (hr _ k) (hsc _ k) (by omega)
    have hen := hc.enters
    have hcc := hc.calls
    have hpl := Tr.out_size f x l
    have hpr := Tr.out_size f x r
    unfold Tr.out
    clear hs hz
    by_cases h1 : f x y < 0
    · rw [if_pos h1]
      go_enter Try.func76, Try.ntmps76
      go_wp2_with fail
      go_region_held3 (fun W' => Later w W') (first | assumption | exact Later.drew (by assumption) | exact Later.next (by assumption) hb1) (first | ((with_reducible refine (hcc _ _ _).mono ?_); rintro e w1 ⟨rfl, hb1⟩))
      go_wp2_with fail
      go_wp2_with (go_at_call 76; (with_reducible refine (ihl _ (by assumption)).mono ?_); rintro e w2 ⟨q, rfl, hq, hb1⟩; have hl2 : Later w w2 := Later.next (by assumption) hb1)
      go_wp2_with fail
      go_region_held3 (fun W' => Later w W') (first | assumption | exact Later.drew (by assumption) | exact Later.next (by assumption) hb1) (first | (go_at_call 87; (with_reducible refine (even_any y (hu0 _ (by assumption)) (hq.later (Later.refl _).drew) (hr _ (by assumption)) (by omega)).mono ?_); rintro e w3 ⟨q3, rfl, hq3, hb1⟩))
      go_wp2_with fail
      go_ret2
      exact ⟨q3, rfl, hq3, (show Later w _ by assumption)⟩
    · rw [if_neg h1]
      by_cases h2 : 0 < f x y
      · rw [if_pos h2]
        go_enter Try.func76, Try.ntmps76
        go_wp2_with fail
        go_region_held3 (fun W' => Later w W') (first | assumption | exact Later.drew (by assumption) | exact Later.next (by assumption) hb1) (first | ((with_reducible refine (hcc _ _ _).mono ?_); rintro e w1 ⟨rfl, hb1⟩))
        go_wp2_with fail
        go_wp2_with (go_at_call 76; (with_reducible refine (ihr _ (by assumption)).mono ?_); rintro e w2 ⟨q, rfl, hq, hb1⟩; have hl2 : Later w w2 := Later.next (by assumption) hb1)
        go_wp2_with fail
        go_region_held3 (fun W' => Later w W') (first | assumption | exact Later.drew (by assumption) | exact Later.next (by assumption) hb1) (first | (go_at_call 87; (with_reducible refine (even_any y (hu0 _ (by assumption)) (hl _ (by assumption)) (hq.later (Later.refl _).drew) (by omega)).mono ?_); rintro e w3 ⟨q3, rfl, hq3, hb1⟩))
        go_wp2_with fail
        go_ret2
        exact ⟨q3, rfl, hq3, (show Later w _ by assumption)⟩
      · rw [if_neg h2]
        cases r with
        | leaf =>
          obtain rfl : pr = none := hr _ hb0
          go_enter Try.func76, Try.ntmps76
          go_wp2_with fail
          go_region_held3 (fun W' => Later w W') (first | assumption | exact Later.drew (by assumption) | exact Later.next (by assumption) hb1) (first | ((with_reducible refine (hcc _ _ _).mono ?_); rintro e w1 ⟨rfl, hb1⟩))
          go_wp2_with fail
          go_ret2
          exact ⟨_, rfl, (hl _ (by assumption)), (show Later w _ by assumption)⟩
        | node a b2 d =>
          obtain ⟨br, prl, prr, hpre, _⟩ := IsT.node (hr _ hb0)
          subst hpre
          have hsz := Tr.first_size a b2 d
          simp only [Tr.size] at hs2
          have hfi : ∀ W', Later w W' → Calls Try.prog 88 #[.pointer (some ⟨br, 0, none⟩)] W' (firstPost ok W' a b2 d) := fun W' k => first_any a b2 d W' _ ok (hu0 _ k) (hr _ k) (by omega)
          dsimp only
          obtain ⟨y2, hy2⟩ : ∃ y2, (Tr.first a b2 d).1 = y2 := ⟨_, rfl⟩
          obtain ⟨T2, hT2⟩ : ∃ T2, (Tr.first a b2 d).2 = T2 := ⟨_, rfl⟩
          rw [hT2] at hsz
          rw [hy2, hT2]
          go_enter Try.func76, Try.ntmps76
          go_wp2_with fail
          go_region_held3 (fun W' => Later w W') (first | assumption | exact Later.drew (by assumption) | exact Later.next (by assumption) hb1) (first | ((with_reducible refine (hcc _ _ _).mono ?_); rintro e w1 ⟨rfl, hb1⟩))
          go_wp2_with (go_at_call 88; (with_reducible refine (hfi _ (by assumption)).mono ?_); rintro e w2 ⟨q, rfl, hq, hb1⟩; have hl2 : Later w w2 := Later.next (by assumption) hb1)
          rw [hT2] at hq
          have hl3 : Later w w2 := Later.next (by assumption) hb1
          have hb3 := Later.refl w2
          have hcn3 := hcn w2 hl3
          have hll3 := hl w2 hl3
          have hu3 := hu0 w2 hl3
          clear hcn hsc ihl hfi hcc hen hb1
          go_wp2_with (go_at_call 87; (with_reducible refine (even_any y2 hu3 hll3 hq (by omega)).mono ?_); rintro e w4 ⟨q5, rfl, hq5, hb1⟩)
          go_ret2
          exact ⟨q5, rfl, hq5, hl3.next hb1⟩
end Go.Proofs.Yteledidnhjioaaa.St
