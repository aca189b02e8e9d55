import Derived.Test.YtdifabacbhfbbaaTb
import Derived.Deep.Quiet
import Derived.BigQuiet
namespace Go.Proofs.Ytdifabacbhfbbaa.Tu
open Go.RowKit Go.Lib Go.Proofs
set_option linter.unusedVariables false
set_option linter.unusedSimpArgs false
/-- a world of a class -/
structure InG (G : World → Prop) where
  W : World
  h : G W
/-- a region that draws its order, whose loads and calls keep a class of worlds -/
theorem region_in {P : Program} {id : Nat} {Q : Exit → Act → World → Prop} {a : Act} {w : World} {o : List Oper} (Good : World → Prop) (hm : P.follows .mixedOrders = true) (hB : Region.lexB .any o.toArray = true) (hG : Good w.drew)
    (h : wpQuiet P o.toArray (fun w' => ∃ p : InG Good, w' = p.W) (fun a' => ∀ w', Good w' → Q .normal a' w') o a) : (Code.region id o.toArray true).wp P Q a w :=
  wp_region_quiet (C := fun w' => ∃ p : InG Good, w' = p.W) hm hB ⟨⟨w.drew, hG⟩, rfl⟩ (by
    have : (fun a' => ∀ w', (∃ p : InG Good, w' = p.W) → Q .normal a' w') = (fun a' => ∀ w', Good w' → Q .normal a' w') := by
      funext a'
      exact propext ⟨fun k w' g => k w' ⟨⟨w', g⟩, rfl⟩, fun k w' ⟨p, e⟩ => e ▸ k p.W p.h⟩
    rw [this]
    exact h)
set_option maxHeartbeats 8000000 in
set_option maxRecDepth 100000 in
theorem same_texts {l : List ByteArray} {w : World} {A B : Option Addr} {n c c' : Nat} (hA : TxtAt w A l) (hB : TxtAt w B l) (hn : l.length = n) (hz : n ≤ 8796093022080) :
    Calls Try.prog 54 #[.slice A n c, .slice B n c'] w fun e w' => e = .returned (.bool true) ∧ Later w w' := by
  go_enter Try.func54, Try.ntmps54
  go_wp2_with fail
  go_loopw [5] (fun i wr => ∃ k : Nat, k ≤ n ∧ i = .int .i64 k ∧ Later w wr) (fun i _ => n - (intOf i).toNat)
  case atStart => exact ⟨0, Nat.zero_le _, rfl, Later.refl _⟩
  case round =>
    obtain ⟨k, hk, rfl, lk⟩ := hrel
    by_cases hlt : k < n
    · obtain ⟨s, hs⟩ : ∃ s, l[k]? = some s := ⟨_, List.getElem?_eq_getElem (by omega)⟩
      obtain ⟨b, o, rfl, _⟩ := hA k s hs
      obtain ⟨b', o', rfl, _⟩ := hB k s hs
      have hG0 := Later.drew (Later.refl wr)
      obtain ⟨Good, hGd⟩ : ∃ G : World → Prop, ∀ W', G W' ↔ Later wr W' := ⟨_, fun _ => Iff.rfl⟩
      replace hG0 := (hGd _).2 hG0
      have hne : Nonempty (InG Good) := ⟨⟨_, hG0⟩⟩
      have f0 : ∀ q : InG Good, q.W.cell? ⟨b, o + k, none⟩ = some (.string s) ∧ q.W.cell? ⟨b', o' + k, none⟩ = some (.string s) := fun q => by
        have lq := lk.next ((hGd _).1 q.h)
        obtain ⟨b1, o1, e1, c1⟩ := hA.later lq k s hs
        obtain ⟨b2, o2, e2, c2⟩ := hB.later lq k s hs
        cases e1; cases e2
        exact ⟨c1, c2⟩
      replace hGd := hid hGd
      clear hs
      go_wp2_with fail
      refine region_in Good (by kernel_rfl) (by kernel_rfl) hG0 ?_
      repeat (go_big_quiet_step (fail))
      refine wpQuiet_nil ?_
      intro V8 hw8
      have l68 := (hGd.out _).1 hw8
      clear hG0 hGd hne f0 hw8 Good
      go_wp2_with fail
      go_roundw
      case rel => exact ⟨k + 1, by omega, by go_num, lk.next l68⟩
      case measure => simp [intOf]; omega
    · obtain rfl : k = n := by omega
      go_wp2_with fail
      go_ret
      exact ⟨rfl, lk⟩
set_option maxHeartbeats 8000000 in
set_option maxRecDepth 100000 in
theorem kept_texts {l : List ByteArray} {w : World} {B : Option Addr} {g n c c' : Nat} (hA : LentAt w g c (l ++ marks)) (hB : TxtAt w B l) (hn : l.length = n) (hz : n ≤ 8796093022080) :
    Calls Try.prog 41 #[.slice (some ⟨g, 0, none⟩) n c, .slice B n c'] w fun e w' => e = .returned (.bool true) ∧ Later w w' := by
  have hcap := hA.len
  rw [List.length_append, marks_len, hn] at hcap
  have q1 : (0 : Int) ≤ (n : Int) + 24 := by omega
  have q2 : (n : Int) + 24 ≤ (c : Int) := by omega
  go_enter Try.func41, Try.ntmps41
  go_wp2_with fail
  go_loopw [6] (fun i wr => ∃ k : Nat, k ≤ n + 24 ∧ i = .int .i64 k ∧ Later w wr) (fun i _ => n + 24 - (intOf i).toNat)
  case atStart => exact ⟨0, Nat.zero_le _, rfl, Later.refl _⟩
  case round =>
    obtain ⟨k, hk, rfl, lk⟩ := hrel
    by_cases hlt : k < n + 24
    · have hG0 := Later.drew (Later.refl wr)
      obtain ⟨Good, hGd⟩ : ∃ G : World → Prop, ∀ W', G W' ↔ Later wr W' := ⟨_, fun _ => Iff.rfl⟩
      replace hG0 := (hGd _).2 hG0
      have hne : Nonempty (InG Good) := ⟨⟨_, hG0⟩⟩
      by_cases hkn : k < n
      · obtain ⟨s, hs⟩ : ∃ s, l[k]? = some s := ⟨_, List.getElem?_eq_getElem (by omega)⟩
        obtain ⟨b', o', rfl, _⟩ := hB k s hs
        have f0 : ∀ q : InG Good, q.W.cell? ⟨g, k, none⟩ = some (.string s) ∧ q.W.cell? ⟨b', o' + k, none⟩ = some (.string s) := fun q => by
          have lq := lk.next ((hGd _).1 q.h)
          obtain ⟨b2, o2, e2, c2⟩ := hB.later lq k s hs
          cases e2
          exact ⟨(hA.later lq).cell k s (by rw [List.getElem?_append_left (by omega)]; exact hs), c2⟩
        replace hGd := hid hGd
        clear hs
        have hd1 : decide (n ≤ k) = false := by simp; omega
        have hd2 : decide ((k : Int) < (n : Int)) = true := by simp; omega
        go_wp2_with fail
        refine region_in Good (by kernel_rfl) (by kernel_rfl) hG0 ?_
        repeat (go_big_quiet_step (fail))
        refine wpQuiet_nil ?_
        intro V8 hw8
        have l68 := (hGd.out _).1 hw8
        clear hG0 hGd hne f0 hw8 Good
        go_wp2_with fail
        go_roundw
        case rel => exact ⟨k + 1, by omega, by go_num, lk.next l68⟩
        case measure => simp [intOf]; omega
      · obtain ⟨j, rfl⟩ : ∃ j, k = n + j := ⟨k - n, by omega⟩
        have f0 : ∀ q : InG Good, q.W.cell? ⟨g, n + j, none⟩ = some (.string (strOfNums (mkN 1 (j : Int)))) := fun q => by
          have lq := lk.next ((hGd _).1 q.h)
          exact (hA.later lq).cell (n + j) _ (by rw [List.getElem?_append_right (by omega), hn, Nat.add_sub_cancel_left]; exact marks_at (by omega))
        have hm : ∀ q : InG Good, Calls Try.prog 30 #[.int .i64 1, .int .i64 ((n : Int) + (j : Int) - (n : Int))] q.W fun e w'' => e = .returned (.string (strOfNums (mkN 1 (j : Int)))) ∧ ∃ p' : InG Good, w'' = p'.W := fun q => by
          rw [show (n : Int) + (j : Int) - (n : Int) = (j : Int) by omega]
          exact (mark_any 1 (j : Int) q.W).mono fun e w'' hh => ⟨hh.1, ⟨w'', (hGd _).2 (((hGd _).1 q.h).next hh.2)⟩, rfl⟩
        replace hGd := hid hGd
        have hd1 : decide ((n : Int) ≤ (n : Int) + (j : Int)) = true := by simp; omega
        have hd2 : decide ((n : Int) + (j : Int) < (n : Int)) = false := by simp; omega
        have hd3 : wrap64 ((n : Int) + (j : Int) - (n : Int)) = (j : Int) := by unfold wrap64; omega
        go_wp2_with fail
        refine region_in Good (by kernel_rfl) (by kernel_rfl) hG0 ?_
        repeat (go_big_quiet_step ((first | (go_at_call 30; with_reducible exact hm _))))
        refine wpQuiet_nil ?_
        intro V8 hw8
        have l68 := (hGd.out _).1 hw8
        clear hG0 hGd hne f0 hw8 hm Good
        go_wp2_with fail
        go_roundw
        case rel => exact ⟨n + j + 1, by omega, by go_num, lk.next l68⟩
        case measure => simp [intOf]; omega
    · obtain rfl : k = n + 24 := by omega
      go_wp2_with fail
      go_ret
      exact ⟨rfl, lk⟩
end Go.Proofs.Ytdifabacbhfbbaa.Tu
