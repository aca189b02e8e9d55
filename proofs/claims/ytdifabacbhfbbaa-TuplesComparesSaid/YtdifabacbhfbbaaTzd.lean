import Derived.Test.YtdifabacbhfbbaaTzc
namespace Go.Proofs.Ytdifabacbhfbbaa.Tu
open Go.RowKit Go.Lib Go.Proofs
set_option linter.unusedVariables false
set_option linter.unusedSimpArgs false
set_option maxHeartbeats 16000000 in
set_option maxRecDepth 100000 in
theorem sameargs_ref {L M : List Arg} {w : World} {A B : Option Addr} {n m c c' : Nat} (hL : ∀ a ∈ L, a.x.r < 4294967296) (hM : ∀ a ∈ M, a.x.r < 4294967296) (hA : ArgsAt w A L) (hB : ArgsAt w B M) (hn : L.length = n) (hm : M.length = m) (hz : n ≤ 2000000000000) :
    Calls Try.prog 25 #[.slice A n c, .slice B m c'] w fun e w' => e = .returned (.bool (allA L M)) ∧ Later w w' := by
  obtain ⟨R, hR⟩ : ∃ R, allA L M = R := ⟨_, rfl⟩
  rw [hR]
  replace hR := hid hR
  by_cases hnm : n = m
  · subst hnm
    go_enter Try.func25, Try.ntmps25
    go_wp2_with fail
    go_loopw [5] (fun i wr => ∃ k : Nat, k ≤ n ∧ i = .int .i64 k ∧ Hid (R = allA (L.drop k) (M.drop k)) ∧ Later w wr) (fun i _ => n - (intOf i).toNat)
    case atStart => exact ⟨0, Nat.zero_le _, rfl, hid hR.out.symm, Later.refl _⟩
    case round =>
      obtain ⟨k, hk, rfl, hp, lk⟩ := hrel
      by_cases hlt : k < n
      · obtain ⟨a, ha⟩ : ∃ a, L[k]? = some a := ⟨_, List.getElem?_eq_getElem (by omega)⟩
        obtain ⟨a', ha'⟩ : ∃ a, M[k]? = some a := ⟨_, List.getElem?_eq_getElem (by omega)⟩
        obtain ⟨b, o, TA, tc, rfl, h7, ht, hlz⟩ := hA.later lk k a ha
        obtain ⟨b', o', TB, tc', rfl, h7', ht', hlz'⟩ := hB.later lk k a' ha'
        have hp2 : Hid (R = (sameA a a' && allA (L.drop (k + 1)) (M.drop (k + 1)))) := hid (by rw [hp.out, allA_drop ha ha'])
        have hr1 := hL a (List.mem_of_getElem? ha)
        have hr2 := hM a' (List.mem_of_getElem? ha')
        obtain ⟨x, l⟩ := a
        obtain ⟨y, l'⟩ := a'
        obtain ⟨n1, hn1⟩ : ∃ n1, l.length = n1 := ⟨_, rfl⟩
        obtain ⟨n2, hn2⟩ : ∃ n2, l'.length = n2 := ⟨_, rfl⟩
        simp only at h7 h7' ht ht' hlz hlz' hr1 hr2
        rw [hn1] at h7 hlz
        rw [hn2] at h7' hlz'
        have hG0 := Later.drew (Later.refl wr)
        obtain ⟨Good, hGd⟩ : ∃ G : World → Prop, ∀ W', G W' ↔ Later wr W' := ⟨_, fun _ => Iff.rfl⟩
        replace hG0 := (hGd _).2 hG0
        have hne : Nonempty (InG Good) := ⟨⟨_, hG0⟩⟩
        have f0 : ∀ q : InG Good, Seven q.W b (o + k * 7) x (.slice TA n1 tc) ∧ Seven q.W b' (o' + k * 7) y (.slice TB n2 tc') := fun q => ⟨h7.later ((hGd _).1 q.h), h7'.later ((hGd _).1 q.h)⟩
        obtain ⟨z, hz2⟩ : ∃ z, sameP x.val y.val l l' = z := ⟨_, rfl⟩
        have hm2 : ∀ q : InG Good, Calls Try.prog 37 #[x.val.v (.slice TA n1 tc), y.val.v (.slice TB n2 tc')] q.W fun e w'' => e = .returned (.bool z) ∧ ∃ p' : InG Good, w'' = p'.W := fun q => by
          rw [← hz2]
          exact (sameval_ref2 x.val y.val hr1 hr2 (ht.later ((hGd _).1 q.h)) (ht'.later ((hGd _).1 q.h)) hn1 hn2 hlz hlz').mono fun e w'' hh => ⟨hh.1, ⟨w'', (hGd _).2 (((hGd _).1 q.h).next hh.2)⟩, rfl⟩
        have hp3 : Hid (R = ((x.name.toList == y.name.toList && z) && allA (L.drop (k + 1)) (M.drop (k + 1)))) := hid (by rw [hp2.out]; unfold sameA; rw [hz2])
        unfold Seven at f0
        replace hGd := hid hGd
        clear ha ha' hp h7 h7' ht ht' hlz hlz' hn1 hn2 hp2 hz2 hr1 hr2
        cases hnn : (x.name.toList == y.name.toList) with
        | false =>
          have hr : Hid (R = false) := hid (by rw [hp3.out, hnn]; rfl)
          clear hp3
          go_wp2_with fail
          refine region_in Good (by kernel_rfl) (by kernel_rfl) hG0 ?_
          repeat (go_big_quiet_step (fail))
          refine wpQuiet_nil ?_
          intro V8 hw8
          have l68 := (hGd.out _).1 hw8
          clear hG0 hGd hne f0 hw8 hm2 Good
          go_wp2_with fail
          go_ret
          exact ⟨by rw [hr.out]; rfl, lk.next l68⟩
        | true =>
          cases z with
          | false =>
            have hr : Hid (R = false) := hid (by rw [hp3.out, hnn]; rfl)
            clear hp3
            go_wp2_with fail
            refine region_in Good (by kernel_rfl) (by kernel_rfl) hG0 ?_
            repeat (go_big_quiet_step ((first | (go_at_call 37; with_reducible exact hm2 _))))
            refine wpQuiet_nil ?_
            intro V8 hw8
            have l68 := (hGd.out _).1 hw8
            clear hG0 hGd hne f0 hw8 hm2 Good
            go_wp2_with fail
            go_ret
            exact ⟨by rw [hr.out]; rfl, lk.next l68⟩
          | true =>
            have hr : Hid (R = allA (L.drop (k + 1)) (M.drop (k + 1))) := hid (by rw [hp3.out, hnn]; rfl)
            clear hp3
            go_wp2_with fail
            refine region_in Good (by kernel_rfl) (by kernel_rfl) hG0 ?_
            repeat (go_big_quiet_step ((first | (go_at_call 37; with_reducible exact hm2 _))))
            refine wpQuiet_nil ?_
            intro V8 hw8
            have l68 := (hGd.out _).1 hw8
            clear hG0 hGd hne f0 hw8 hm2 Good
            go_wp2_with fail
            go_roundw
            case rel => exact ⟨k + 1, by omega, by go_num, hr, lk.next l68⟩
            case measure => simp [intOf]; omega
      · obtain rfl : k = n := by omega
        have hr : Hid (R = true) := hid (by rw [hp.out, allA_end hn hm])
        go_wp2_with fail
        go_ret
        exact ⟨by rw [hr.out]; rfl, lk⟩
  · have hr : Hid (R = false) := hid (by rw [← hR.out, allA_len (by rw [hn, hm]; exact hnm)])
    have hd : ((n : Int) == (m : Int)) = false := by simp; omega
    have hd2 : ((n : Int) != (m : Int)) = true := by simp; omega
    go_enter Try.func25, Try.ntmps25
    go_wp2_with fail
    go_ret
    exact ⟨by rw [hr.out]; rfl, Later.refl _⟩
end Go.Proofs.Ytdifabacbhfbbaa.Tu
