import Derived.Test.YtdifabacbhfbbaaTg
namespace Go.Proofs.Ytdifabacbhfbbaa.Tu
open Go.RowKit Go.Lib Go.Proofs
set_option linter.unusedVariables false
set_option linter.unusedSimpArgs false
/-- the same arguments, wherever their texts lie: the first of a row -/
def ArgsTo (W : World) (g : Nat) (L : List Arg) : Prop := ∀ (i : Nat) (a : Arg), L[i]? = some a → ∃ TA tc, Seven W g (i * 7) a.x (.slice TA a.l.length tc) ∧ TxtAt W TA a.l
theorem LA.to {W : World} {g cap : Nat} {L : List Arg} (h : LA W g cap L) : ArgsTo W g L := fun i a hi => by
  obtain ⟨tg, tc, h7, hl⟩ := h.arg i a hi
  exact ⟨_, tc, h7, hl.txt (List.prefix_append _ _)⟩
set_option maxHeartbeats 8000000 in
set_option maxRecDepth 100000 in
theorem same_args {L : List Arg} {w : World} {B : Option Addr} {g n c c' : Nat} (hA : ∀ W, Later w W → ArgsTo W g L) (hB : ArgsAt w B L) (hn : L.length = n) (hz : n ≤ 2000000000000) :
    Calls Try.prog 31 #[.slice (some ⟨g, 0, none⟩) n c, .slice B n c'] w fun e w' => e = .returned (.bool true) ∧ Later w w' := by
  go_enter Try.func31, Try.ntmps31
  go_wp2_with fail
  go_loopw [5] (fun i wr => ∃ k : Nat, k ≤ n ∧ i = .int .i64 k ∧ Later w wr) (fun i _ => n - (intOf i).toNat)
  case atStart => exact ⟨0, Nat.zero_le _, rfl, Later.refl _⟩
  case round =>
    obtain ⟨k, hk, rfl, lk⟩ := hrel
    by_cases hlt : k < n
    · obtain ⟨a, ha⟩ : ∃ a, L[k]? = some a := ⟨_, List.getElem?_eq_getElem (by omega)⟩
      obtain ⟨T1, t1, s1, x1⟩ := hA wr lk k a ha
      obtain ⟨b', o', T2, t2, rfl, s2, x2, hlz⟩ := hB.later lk k a ha
      obtain ⟨m, hm⟩ : ∃ m, a.l.length = m := ⟨_, rfl⟩
      have hG0 := Later.drew (Later.refl wr)
      obtain ⟨Good, hGd⟩ : ∃ G : World → Prop, ∀ W', G W' ↔ Later wr W' := ⟨_, fun _ => Iff.rfl⟩
      replace hG0 := (hGd _).2 hG0
      have hne : Nonempty (InG Good) := ⟨⟨_, hG0⟩⟩
      have f0 : ∀ q : InG Good, Seven q.W g (k * 7) a.x (.slice T1 a.l.length t1) ∧ Seven q.W b' (o' + k * 7) a.x (.slice T2 a.l.length t2) := fun q => ⟨s1.later ((hGd _).1 q.h), s2.later ((hGd _).1 q.h)⟩
      have hm2 : ∀ q : InG Good, Calls Try.prog 39 #[a.x.v (.slice T1 a.l.length t1), a.x.v (.slice T2 a.l.length t2)] q.W fun e w'' => e = .returned (.bool true) ∧ ∃ p' : InG Good, w'' = p'.W := fun q => (same_arg a.x (x1.later ((hGd _).1 q.h)) (x2.later ((hGd _).1 q.h)) rfl hlz).mono fun e w'' hh => ⟨hh.1, ⟨w'', (hGd _).2 (((hGd _).1 q.h).next hh.2)⟩, rfl⟩
      unfold Seven at f0
      rw [hm] at f0 hm2
      replace hGd := hid hGd
      clear ha s1 s2 x1 x2 hlz
      go_wp2_with fail
      refine region_in Good (by kernel_rfl) (by kernel_rfl) hG0 ?_
      repeat (go_big_quiet_step ((first | (go_at_call 39; with_reducible exact hm2 _))))
      refine wpQuiet_nil ?_
      intro V8 hw8
      have l68 := (hGd.out _).1 hw8
      clear hG0 hGd hne f0 hw8 hm2 Good
      go_wp2_with fail
      go_roundw
      case rel => exact ⟨k + 1, by omega, by go_num, lk.next l68⟩
      case measure => simp [intOf]; omega
    · obtain rfl : k = n := by omega
      go_wp2_with fail
      go_ret
      exact ⟨rfl, lk⟩
set_option maxHeartbeats 8000000 in
set_option maxRecDepth 100000 in
theorem kept_args {L : List Arg} {w : World} {B : Option Addr} {g n c c' : Nat} (hA : LA w g c L) (hB : ArgsAt w B L) (hn : L.length = n) (hz : n ≤ 2000000000000) :
    Calls Try.prog 19 #[.slice (some ⟨g, 0, none⟩) n c, .slice B n c'] w fun e w' => e = .returned (.bool true) ∧ Later w w' := by
  have hcap := hA.len
  rw [hn] at hcap
  have q1 : (0 : Int) ≤ (n : Int) + 24 := by omega
  have q2 : (n : Int) + 24 ≤ (c : Int) := by omega
  go_enter Try.func19, Try.ntmps19
  go_wp2_with fail
  go_loopw [6] (fun i wr => ∃ k : Nat, k ≤ n + 24 ∧ i = .int .i64 k ∧ Later w wr) (fun i _ => n + 24 - (intOf i).toNat)
  case atStart => exact ⟨0, Nat.zero_le _, rfl, Later.refl _⟩
  case round =>
    obtain ⟨k, hk, rfl, lk⟩ := hrel
    by_cases hlt : k < n + 24
    · have hG0 := Later.drew (Later.refl wr)
      obtain ⟨Good, hGd⟩ : ∃ G : World → Prop, ∀ W', G W' ↔ Later wr W' := ⟨_, fun _ => Iff.rfl⟩
      replace hG0 := (hGd _).2 hG0
      have hne : Nonempty (InG Good) := ⟨⟨_, hG0⟩⟩
      by_cases hkn : k < n
      · obtain ⟨a, ha⟩ : ∃ a, L[k]? = some a := ⟨_, List.getElem?_eq_getElem (by omega)⟩
        obtain ⟨tg, t1, s1, x1⟩ := (hA.later lk).arg k a ha
        obtain ⟨b', o', T2, t2, rfl, s2, x2, hlz⟩ := hB.later lk k a ha
        obtain ⟨m, hm⟩ : ∃ m, a.l.length = m := ⟨_, rfl⟩
        have f0 : ∀ q : InG Good, Seven q.W g (k * 7) a.x (.slice (some ⟨tg, 0, none⟩) a.l.length t1) ∧ Seven q.W b' (o' + k * 7) a.x (.slice T2 a.l.length t2) := fun q => ⟨s1.later ((hGd _).1 q.h), s2.later ((hGd _).1 q.h)⟩
        have hm2 : ∀ q : InG Good, Calls Try.prog 32 #[a.x.v (.slice (some ⟨tg, 0, none⟩) a.l.length t1), a.x.v (.slice T2 a.l.length t2)] q.W fun e w'' => e = .returned (.bool true) ∧ ∃ p' : InG Good, w'' = p'.W := fun q => (kept_arg a.x (x1.later ((hGd _).1 q.h)) (x2.later ((hGd _).1 q.h)) rfl hlz).mono fun e w'' hh => ⟨hh.1, ⟨w'', (hGd _).2 (((hGd _).1 q.h).next hh.2)⟩, rfl⟩
        unfold Seven at f0
        rw [hm] at f0 hm2
        replace hGd := hid hGd
        clear ha s1 s2 x1 x2 hlz
        have hd1 : decide (n ≤ k) = false := by simp; omega
        have hd2 : decide ((k : Int) < (n : Int)) = true := by simp; omega
        go_wp2_with fail
        refine region_in Good (by kernel_rfl) (by kernel_rfl) hG0 ?_
        repeat (go_big_quiet_step ((first | (go_at_call 32; with_reducible exact hm2 _))))
        refine wpQuiet_nil ?_
        intro V8 hw8
        have l68 := (hGd.out _).1 hw8
        clear hG0 hGd hne f0 hw8 hm2 Good
        go_wp2_with fail
        go_roundw
        case rel => exact ⟨k + 1, by omega, by go_num, lk.next l68⟩
        case measure => simp [intOf]; omega
      · obtain ⟨j, rfl⟩ : ∃ j, k = n + j := ⟨k - n, by omega⟩
        have f0 : ∀ q : InG Good, q.W.cell? ⟨g, (n + j) * 7, none⟩ = some (.string (strOfNums (mkN 1 (j : Int)))) := fun q => by
          have h := (hA.later (lk.next ((hGd _).1 q.h))).mark j (by omega)
          rw [hn] at h
          exact h
        have hm : ∀ q : InG Good, Calls Try.prog 30 #[.int .i64 1, .int .i64 ((n : Int) + (j : Int) - (n : Int))] q.W fun e w'' => e = .returned (.string (strOfNums (mkN 1 (j : Int)))) ∧ ∃ p' : InG Good, w'' = p'.W := fun q => by
          rw [show (n : Int) + (j : Int) - (n : Int) = (j : Int) by omega]
          exact (mark_any 1 (j : Int) q.W).mono fun e w'' hh => ⟨hh.1, ⟨w'', (hGd _).2 (((hGd _).1 q.h).next hh.2)⟩, rfl⟩
        replace hGd := hid hGd
        have hd1 : decide ((n : Int) ≤ (n : Int) + (j : Int)) = true := by simp; omega
        have hd2 : decide ((n : Int) + (j : Int) < (n : Int)) = false := by simp; omega
        go_wp2_with fail
        refine region_in Good (by kernel_rfl) (by kernel_rfl) hG0 ?_
        repeat (go_big_quiet_step ((first | (go_at_call 30; with_reducible exact hm _))))
        refine wpQuiet_nil ?_
        intro V8 hw8
        have l68 := (hGd.out _).1 hw8
        clear hG0 hGd hne f0 hw8 hm Good
        go_wp2_with fail
        go_roundw
        case rel => exact ⟨n + j + 1, by omega, by go_num, lk.next l68⟩
        case measure => simp [intOf]; omega
    · obtain rfl : k = n + 24 := by omega
      go_wp2_with fail
      go_ret
      exact ⟨rfl, lk⟩
end Go.Proofs.Ytdifabacbhfbbaa.Tu
