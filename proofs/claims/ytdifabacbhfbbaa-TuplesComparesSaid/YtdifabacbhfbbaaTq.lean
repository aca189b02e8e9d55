import Derived.Test.YtdifabacbhfbbaaTp
namespace Go.Proofs.Ytdifabacbhfbbaa.Tu
open Go.RowKit Go.Lib Go.Proofs
set_option linter.unusedVariables false
set_option linter.unusedSimpArgs false
theorem bytes_ext {s t : ByteArray} (h : s.toList = t.toList) : s = t := by
  rw [Lib.toList_data, Lib.toList_data] at h
  cases s; cases t
  congr 1
  exact Array.toList_inj.1 h
set_option maxHeartbeats 8000000 in
set_option maxRecDepth 100000 in
theorem eq_texts {l m : List ByteArray} {w : World} {A B : Option Addr} {n1 n2 c c' : Nat} (hA : TxtAt w A l) (hB : TxtAt w B m) (hn1 : l.length = n1) (hn2 : m.length = n2) (hz : n1 ≤ 8796093022080) :
    Calls Try.prog 44 #[.slice A n1 c, .slice B n2 c'] w fun e w' => e = .returned (.bool (decide (l = m))) ∧ Later w w' := by
  obtain ⟨R, hR⟩ : ∃ R : Bool, decide (l = m) = R := ⟨_, rfl⟩
  rw [hR]
  replace hR := hid hR
  by_cases hnn : n1 = n2
  · subst hnn
    go_enter Try.func44, Try.ntmps44
    go_wp2_with fail
    go_loopw [13] (fun i wr => ∃ k : Nat, k ≤ n1 ∧ i = .int .i64 k ∧ l.take k = m.take k ∧ Later w wr) (fun i _ => n1 - (intOf i).toNat)
    case atStart => exact ⟨0, Nat.zero_le _, rfl, rfl, Later.refl _⟩
    case round =>
      obtain ⟨k, hk, rfl, hp, lk⟩ := hrel
      by_cases hlt : k < n1
      · cases hs : l[k]? with
        | none => exact absurd (List.getElem?_eq_none_iff.1 hs) (by omega)
        | some s =>
          cases ht : m[k]? with
          | none => exact absurd (List.getElem?_eq_none_iff.1 ht) (by omega)
          | some t =>
            obtain ⟨b, o, rfl, _⟩ := hA k s hs
            obtain ⟨b', o', rfl, _⟩ := hB k t ht
            have hG0 := Later.drew (Later.refl wr)
            obtain ⟨Good, hGd⟩ : ∃ G : World → Prop, ∀ W', G W' ↔ Later wr W' := ⟨_, fun _ => Iff.rfl⟩
            replace hG0 := (hGd _).2 hG0
            have hne : Nonempty (InG Good) := ⟨⟨_, hG0⟩⟩
            have f0 : ∀ q : InG Good, q.W.cell? ⟨b, o + k, none⟩ = some (.string s) ∧ q.W.cell? ⟨b', o' + k, none⟩ = some (.string t) := fun q => by
              have lq := lk.next ((hGd _).1 q.h)
              obtain ⟨b1, o1, e1, c1⟩ := hA.later lq k s hs
              obtain ⟨b2, o2, e2, c2⟩ := hB.later lq k t ht
              cases e1; cases e2
              exact ⟨c1, c2⟩
            replace hGd := hid hGd
            have hsn : Hid (s = t → l.take (k + 1) = m.take (k + 1)) := hid (fun e => by rw [take_snoc hs, take_snoc ht, hp, e])
            have hsx : Hid (s ≠ t → R = false) := hid (fun e => by
              rw [← hR.out]
              refine decide_eq_false (fun h => e ?_)
              rw [h, ht] at hs
              injection hs with hs
              exact hs.symm)
            clear hs ht hp
            by_cases hst : s = t
            · have hb : (s.toList == t.toList) = true := by simp [hst]
              have hp2 := hsn.out hst
              clear hsn hsx
              replace hst := hid hst
              replace hp2 := hid hp2
              go_wp2_with fail
              refine region_in Good (by kernel_rfl) (by kernel_rfl) hG0 ?_
              repeat (go_big_quiet_step (fail))
              refine wpQuiet_nil ?_
              intro V8 hw8
              have l68 := (hGd.out _).1 hw8
              clear hG0 hGd hne f0 hw8 Good
              go_wp2_with fail
              go_roundw
              case rel => exact ⟨k + 1, by omega, by go_num, hp2.out, lk.next l68⟩
              case measure => simp [intOf]; omega
            · have hb : (s.toList == t.toList) = false := by
                rw [beq_eq_false_iff_ne]
                exact fun e => hst (bytes_ext e)
              have hr := hid (hsx.out hst)
              clear hsn hsx
              replace hst := hid hst
              go_wp2_with fail
              refine region_in Good (by kernel_rfl) (by kernel_rfl) hG0 ?_
              repeat (go_big_quiet_step (fail))
              refine wpQuiet_nil ?_
              intro V8 hw8
              have l68 := (hGd.out _).1 hw8
              clear hG0 hGd hne f0 hw8 Good
              go_wp2_with fail
              go_ret
              exact ⟨by rw [hr.out]; rfl, lk.next l68⟩
      · obtain rfl : k = n1 := by omega
        have hr : Hid (R = true) := hid (by
          rw [← hR.out]
          rw [List.take_of_length_le (by omega), List.take_of_length_le (by omega)] at hp
          exact decide_eq_true hp)
        clear hp
        go_wp2_with fail
        go_ret
        exact ⟨by rw [hr.out]; rfl, lk⟩
  · have hr : Hid (R = false) := hid (by rw [← hR.out]; exact decide_eq_false (fun h => hnn (by rw [← hn1, ← hn2, h])))
    have hd : decide ((n1 : Int) = (n2 : Int)) = false := by simp; omega
    go_enter Try.func44, Try.ntmps44
    go_wp2_with fail
    go_ret
    exact ⟨by rw [hr.out]; rfl, Later.refl _⟩
end Go.Proofs.Ytdifabacbhfbbaa.Tu
