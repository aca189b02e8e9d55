import Derived.Test.YteledidnhjioaaaShS
import Derived.Test.YteledidnhjioaaaShO
namespace Go.Proofs.Yteledidnhjioaaa.Sh
open Go.RowKit Go.Lib Go.Proofs Go.Shelf
set_option linter.unusedVariables false
set_option linter.unusedSimpArgs false
set_option maxRecDepth 100000 in
set_option maxHeartbeats 8000000 in
theorem find_ref (x : Int × Int) {l : List (Int × Int)} {w : World} {A : Option Addr} {cap : Nat} (hl : SliceAt w A cap l) (hr : Rises cmpR l) :
    Calls Try.prog 77 #[.slice A l.length cap, .agg #[.int .i64 x.1, .int .i64 x.2]] w fun e w' => e = .returned (.int .i64 (atL cmpR x l)) ∧ Later w w' := by
  have hcap := hl.1
  have hmax := hl.2.1
  have hB : Later w (w.alloc (.cells #[.int .i64 x.1, .int .i64 x.2] 27)) := Later.two
  have hxx := (two_new w (.int .i64 x.1) (.int .i64 x.2) 27).1
  have hl0 := hl.later hB
  obtain ⟨W0, hW0⟩ : ∃ W0, w.alloc (.cells #[.int .i64 x.1, .int .i64 x.2] 27) = W0 := ⟨_, rfl⟩
  obtain ⟨N, hN⟩ : ∃ N, w.heap.size = N := ⟨_, rfl⟩
  rw [hW0] at hB hxx hl0
  rw [hN] at hxx
  clear hl
  go_enter Try.func77, Try.ntmps77
  go_wp2_with fail
  go_loopw [5] (fun i wr => ∃ k : Nat, k ≤ l.length ∧ i = .int .i64 k ∧ Later W0 wr ∧ ∀ (j : Nat) (y : Int × Int), j < k → l[j]? = some y → ¬ cmpR x y = 0) (fun i _ => l.length - (intOf i).toNat)
  case atStart => exact ⟨0, Nat.zero_le _, rfl, Later.refl _, fun j y hj => by omega⟩
  case round =>
    obtain ⟨k, hk, rfl, hb, hn⟩ := hrel
    by_cases hlt : k < l.length
    · obtain ⟨y, hy⟩ : ∃ y, l[k]? = some y := ⟨_, List.getElem?_eq_getElem hlt⟩
      obtain ⟨b, o, rfl, c0, c1⟩ := (hl0.later hb).2.2 _ _ hy
      have cx := hb.cell hxx
      by_cases h1 : y.1 = x.1
      · have hat := atL_at ordR hr hy ((cmpR_eq x y).2 h1.symm)
        have hb1 : (y.1 == x.1) = true := by simp [h1]
        have hfin := hB.next hb
        clear h1 hn hy hl0
        go_wp2_with fail
        go_quiet (fail)
        go_wp2_with fail
        go_ret
        exact ⟨by rw [hat]; rfl, below_drewN hfin _⟩
      · have hb1 : (y.1 == x.1) = false := by simp [h1]
        have hn' : ∀ (j : Nat) (z : Int × Int), j < k + 1 → l[j]? = some z → ¬ cmpR x z = 0 := fun j z hj hz => by
          by_cases e : j = k
          · subst e
            rw [hy] at hz
            cases hz
            exact fun h => h1 ((cmpR_eq x y).1 h).symm
          · exact hn j z (by omega) hz
        clear h1 hn hy
        go_wp2_with fail
        go_quiet (fail)
        go_wp2_with fail
        go_roundw
        case rel => exact ⟨k + 1, by omega, by go_num, below_drewN hb _, hn'⟩
        case measure => simp [intOf]; omega
    · obtain rfl : k = l.length := by omega
      have hat : atL cmpR x l = -1 := atL_none (hasL_none _ fun j y hj => hn j y (List.getElem?_eq_some_iff.1 hj).1 hj)
      have hfin := hB.next hb
      clear hn hk hlt
      go_wp2_with fail
      go_ret
      exact ⟨by rw [hat]; rfl, hfin⟩
set_option maxRecDepth 100000 in
set_option maxHeartbeats 8000000 in
theorem rank_ref (x : Int × Int) {l : List (Int × Int)} {w : World} {A : Option Addr} {cap : Nat} (hl : SliceAt w A cap l) :
    Calls Try.prog 66 #[.slice A l.length cap, .agg #[.int .i64 x.1, .int .i64 x.2]] w fun e w' => e = .returned (.int .i64 (rankL cmpR x l : Nat)) ∧ Later w w' := by
  have hcap := hl.1
  have hmax := hl.2.1
  have hB : Later w (w.alloc (.cells #[.int .i64 x.1, .int .i64 x.2] 27)) := Later.two
  have hxx := (two_new w (.int .i64 x.1) (.int .i64 x.2) 27).1
  have hl0 := hl.later hB
  obtain ⟨W0, hW0⟩ : ∃ W0, w.alloc (.cells #[.int .i64 x.1, .int .i64 x.2] 27) = W0 := ⟨_, rfl⟩
  obtain ⟨N, hN⟩ : ∃ N, w.heap.size = N := ⟨_, rfl⟩
  rw [hW0] at hB hxx hl0
  rw [hN] at hxx
  clear hl
  go_enter Try.func66, Try.ntmps66
  go_wp2_with fail
  go_loopw [5, 6] (fun n i wr => ∃ k : Nat, k ≤ l.length ∧ i = .int .i64 k ∧ n = .int .i64 (rankL cmpR x (l.take k) : Nat) ∧ Later W0 wr) (fun _ i _ => l.length - (intOf i).toNat)
  case atStart => exact ⟨0, Nat.zero_le _, rfl, rfl, Later.refl _⟩
  case round =>
    obtain ⟨k, hk, rfl, rfl, hb⟩ := hrel
    have hrk := rankL_take (c := cmpR) x l k
    by_cases hlt : k < l.length
    · obtain ⟨y, hy⟩ : ∃ y, l[k]? = some y := ⟨_, List.getElem?_eq_getElem hlt⟩
      obtain ⟨b, o, rfl, c0, c1⟩ := (hl0.later hb).2.2 _ _ hy
      have cx := hb.cell hxx
      have hsn := take_snoc hy
      obtain ⟨R, hR⟩ : ∃ R, rankL cmpR x (l.take k) = R := ⟨_, rfl⟩
      rw [hR] at hrk ⊢
      by_cases h1 : y.1 < x.1
      · have hrs : Hid (rankL cmpR x (l.take (k + 1)) = R + 1) := hid (by rw [hsn, rankL_snoc, if_pos ((cmpR_lt _ _).2 h1), hR])
        have hb1 : decide (y.1 < x.1) = true := by simp [h1]
        clear h1 hsn hy hR
        go_wp2_with fail
        go_quiet (fail)
        go_wp2_with fail
        go_roundw
        case rel => exact ⟨k + 1, by omega, by go_num, by rw [hrs.out]; go_num, below_drewN hb _⟩
        case measure => simp [intOf]; omega
      · have hrs : Hid (rankL cmpR x (l.take (k + 1)) = R) := hid (by rw [hsn, rankL_snoc, if_neg (fun h => h1 ((cmpR_lt _ _).1 h)), hR])
        have hb1 : decide (y.1 < x.1) = false := by simp [h1]
        clear h1 hsn hy hR
        go_wp2_with fail
        go_quiet (fail)
        go_wp2_with fail
        go_roundw
        case rel => exact ⟨k + 1, by omega, by go_num, by rw [hrs.out], below_drewN hb _⟩
        case measure => simp [intOf]; omega
    · obtain rfl : k = l.length := by omega
      rw [List.take_length]
      have hfin := hB.next hb
      clear hk hlt hrk
      go_wp2_with fail
      go_ret
      exact ⟨rfl, hfin⟩
set_option maxRecDepth 100000 in
set_option maxHeartbeats 8000000 in
theorem same_ref {a b : List (Int × Int)} {w : World} {A B : Option Addr} {ca cb : Nat} (ha : SliceAt w A ca a) (hb : SliceAt w B cb b) :
    Calls Try.prog 14 #[.slice A a.length ca, .slice B b.length cb] w fun e w' => e = .returned (.bool (decide (a = b))) ∧ Later w w' := by
  have h1 := ha.1
  have h2 := ha.2.1
  have h3 := hb.1
  have h4 := hb.2.1
  by_cases hab : a.length = b.length
  · obtain ⟨n, hn⟩ : ∃ n, a.length = n := ⟨_, rfl⟩
    have hbn : b.length = n := by rw [← hab, hn]
    rw [hn] at h1 h2 ⊢
    rw [hbn] at h3 h4 ⊢
    clear hab
    replace hn := hid hn
    replace hbn := hid hbn
    go_enter Try.func14, Try.ntmps14
    go_wp2_with fail
    go_loopw [5] (fun i wr => ∃ k : Nat, k ≤ n ∧ i = .int .i64 k ∧ Later w wr ∧ Hid (a.take k = b.take k)) (fun i _ => n - (intOf i).toNat)
    case atStart => exact ⟨0, Nat.zero_le _, rfl, Later.refl _, hid (by simp)⟩
    case round =>
      obtain ⟨k, hk, rfl, hk0, hs⟩ := hrel
      by_cases hlt : k < n
      · obtain ⟨x, hx⟩ : ∃ x, a[k]? = some x := ⟨_, List.getElem?_eq_getElem (by rw [hn.out]; exact hlt)⟩
        obtain ⟨y, hy⟩ : ∃ y, b[k]? = some y := ⟨_, List.getElem?_eq_getElem (by rw [hbn.out]; exact hlt)⟩
        obtain ⟨p, o, rfl, c0, c1⟩ := (ha.later hk0).2.2 _ _ hx
        obtain ⟨q, o', rfl, d0, d1⟩ := (hb.later hk0).2.2 _ _ hy
        by_cases hxy : x = y
        · subst hxy
          have hs' : Hid (a.take (k + 1) = b.take (k + 1)) := hid (by rw [take_snoc hx, take_snoc hy, hs.out])
          clear hx hy hs
          go_wp2_with fail
          go_quiet (fail)
          go_wp2_with fail
          go_roundw
          case rel => exact ⟨k + 1, by omega, by go_num, below_drewN hk0 _, hs'⟩
          case measure => simp [intOf]; omega
        · have hne : ¬ a = b := fun e => by rw [e, hy] at hx; cases hx; exact hxy rfl
          clear hx hy hs
          by_cases hx1 : x.1 = y.1
          · have hx2 : ¬ x.2 = y.2 := fun e => hxy (Prod.ext hx1 e)
            have hx2' : (x.2 == y.2) = false := by simp [hx2]
            go_wp2_with fail
            go_quiet (fail)
            go_wp2_with fail
            go_ret
            exact ⟨by rw [decide_eq_false hne]; rfl, below_drewN hk0 _⟩
          · have hx1' : (x.1 == y.1) = false := by simp [hx1]
            go_wp2_with fail
            go_quiet (fail)
            go_wp2_with fail
            go_ret
            exact ⟨by rw [decide_eq_false hne]; rfl, below_drewN hk0 _⟩
      · obtain rfl : k = n := by omega
        have hab : a = b := by
          have := hs.out
          rwa [List.take_of_length_le (by rw [hn.out]; exact Nat.le_refl _), List.take_of_length_le (by rw [hbn.out]; exact Nat.le_refl _)] at this
        go_wp2_with fail
        go_ret
        exact ⟨by rw [decide_eq_true hab]; rfl, hk0⟩
  · have hne : ¬ a = b := fun e => hab (by rw [e])
    have hbb : ((a.length : Int) == (b.length : Int)) = false := by simp; omega
    go_enter Try.func14, Try.ntmps14
    go_wp2_with fail
    go_ret
    exact ⟨by rw [decide_eq_false hne]; rfl, Later.refl _⟩
theorem addr_plus (b f n : Nat) : (⟨b, f, none⟩ : Addr).add n = ⟨b, f + n, none⟩ := by
  unfold Addr.add
  split
  · next h => rw [h, Nat.add_zero]
  · rfl
set_option maxRecDepth 100000 in
theorem from_ref (x : Int × Int) {l : List (Int × Int)} {w : World} {A : Option Addr} {cap : Nat} (hl : SliceAt w A cap l) :
    Calls Try.prog 29 #[.slice A l.length cap, .agg #[.int .i64 x.1, .int .i64 x.2]] w fun e w' => ∃ A' cap', e = .returned (.slice A' (l.drop (rankL cmpR x l)).length cap') ∧ Later w w' ∧ SliceAt w' A' cap' (l.drop (rankL cmpR x l)) ∧ (∀ b o, A' = some ⟨b, o, none⟩ → ∃ o', A = some ⟨b, o', none⟩) := by
  have hB : Later w (w.alloc (.cells #[.int .i64 x.1, .int .i64 x.2] 27)) := Later.two
  have hxx := two_new w (.int .i64 x.1) (.int .i64 x.2) 27
  have hk := rank_ref x (hl.later hB)
  have hle : rankL cmpR x l ≤ l.length := by have := rankL_take (c := cmpR) x l l.length; rwa [List.take_length] at this
  go_enter Try.func29, Try.ntmps29
  obtain ⟨R, hR⟩ : ∃ R, rankL cmpR x l = R := ⟨_, rfl⟩
  rw [hR] at hk hle ⊢
  have hcap := hl.1
  have hmax := hl.2.1
  go_wp2_with fail
  go_at_call 66; refine hk.mono ?_; rintro e W1 ⟨rfl, l1⟩
  have hl1 := hl.later (hB.next l1)
  have hW := hB.next l1
  rcases A with _ | a
  · have hnil : l = [] := by
      cases l with
      | nil => rfl
      | cons y t => obtain ⟨b, o, e, _⟩ := hl.2.2 0 y rfl; cases e
    subst hnil
    obtain rfl : R = 0 := by simpa using hle
    clear hR hl hB hxx hk
    go_wp2_with fail
    all_goals (go_ret; exact ⟨none, _, rfl, hW, by simpa using hl1, fun b o e => by cases e⟩)
  · have hone : 0 < l.length → ∃ b o, a = ⟨b, o, none⟩ := fun h => by
      obtain ⟨b, o, e, _⟩ := hl.2.2 0 _ (List.getElem?_eq_getElem h)
      exact ⟨b, o, by injection e⟩
    by_cases hc : cap = R
    · subst hc
      have hlc : l.length = cap := by omega
      have hd : l.drop cap = [] := List.drop_eq_nil_of_le (by omega)
      go_wp2_with fail
      go_ret
      exact ⟨some a, 0, by rw [hd]; rfl, hW, ⟨by rw [hd]; simp, by rw [hd]; simp, fun i z hz => by rw [hd] at hz; simp at hz⟩, fun b o e => ⟨o, e⟩⟩
    · go_wp2_with fail
      go_ret
      refine ⟨some (a.add (R * 2)), cap - R, by rw [List.length_drop]; rfl, hW, ⟨by rw [List.length_drop]; omega, by rw [List.length_drop]; omega, fun i z hz => ?_⟩, fun b o e => ?_⟩
      · rw [List.getElem?_drop] at hz
        obtain ⟨b, o, e, k0, k1⟩ := hl1.2.2 _ _ hz
        injection e with e
        refine ⟨b, o + R * 2, by rw [e, addr_plus], ?_, ?_⟩
        · rw [show o + R * 2 + i * 2 = o + (R + i) * 2 by omega]; exact k0
        · rw [show o + R * 2 + i * 2 = o + (R + i) * 2 by omega]; exact k1
      · by_cases h0 : R = 0
        · subst h0
          exact ⟨o, e⟩
        · obtain ⟨b', o', rfl⟩ := hone (by omega)
          rw [addr_plus] at e
          injection e with e
          injection e with e1 _
          exact ⟨o', by rw [e1]⟩
end Go.Proofs.Yteledidnhjioaaa.Sh
