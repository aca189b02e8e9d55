import Derived.Test.YtdifabacbhfbbaaTzb
namespace Go.Proofs.Ytdifabacbhfbbaa.Tu
open Go.RowKit Go.Lib Go.Proofs
set_option linter.unusedVariables false
set_option linter.unusedSimpArgs false
attribute [local go_sem] run_store_float
set_option maxHeartbeats 8000000 in
set_option maxRecDepth 100000 in
theorem eqfunc_any {L M : List Arg} {w : World} {A B : Option Addr} {n m c c' : Nat} (hA : ArgsAt w A L) (hB : ArgsAt w B M) (hn : L.length = n) (hm : M.length = m) (hz : n ≤ 2000000000000) :
    Calls Try.prog 33 #[.slice A n c, .slice B m c', .func (.func 34) #[] #[]] w fun e w' => e = .returned (.bool (allA L M)) ∧ Later w w' := by
  obtain ⟨R, hR⟩ : ∃ R, allA L M = R := ⟨_, rfl⟩
  rw [hR]
  replace hR := hid hR
  by_cases hnm : n = m
  · subst hnm
    go_enter Try.func33, Try.ntmps33
    go_wp2_with fail
    go_loopw [17] (fun i wr => ∃ k : Nat, k ≤ n ∧ i = .int .i64 k ∧ Hid (R = allA (L.drop k) (M.drop k)) ∧ Later w wr) (fun i _ => n - (intOf i).toNat)
    case atStart => exact ⟨0, Nat.zero_le _, rfl, hid hR.out.symm, Later.refl _⟩
    case round =>
      obtain ⟨k, hk, rfl, hp, lk⟩ := hrel
      by_cases hlt : k < n
      · obtain ⟨a, ha⟩ : ∃ a, L[k]? = some a := ⟨_, List.getElem?_eq_getElem (by omega)⟩
        obtain ⟨a', ha'⟩ : ∃ a, M[k]? = some a := ⟨_, List.getElem?_eq_getElem (by omega)⟩
        obtain ⟨b, o, TA, tc, rfl, h7, ht, hlz⟩ := hA.later lk k a ha
        obtain ⟨b', o', TB, tc', rfl, h7', ht', hlz'⟩ := hB.later lk k a' ha'
        have hp2 : Hid (R = (sameA a a' && allA (L.drop (k + 1)) (M.drop (k + 1)))) := hid (by rw [hp.out, allA_drop ha ha'])
        obtain ⟨x, l⟩ := a
        obtain ⟨y, l'⟩ := a'
        obtain ⟨n1, hn1⟩ : ∃ n1, l.length = n1 := ⟨_, rfl⟩
        obtain ⟨n2, hn2⟩ : ∃ n2, l'.length = n2 := ⟨_, rfl⟩
        simp only at h7 h7' ht ht' hlz hlz'
        rw [hn1] at h7 hlz
        rw [hn2] at h7' hlz'
        have l1 : Later wr (wr.alloc (.cells (x.row (.slice TA n1 tc)).toArray 50)) := (Later.refl _).alloc _
        have h8 := h7'.later l1
        obtain ⟨hw2, hc⟩ := two_boxes (x.row (.slice TA n1 tc)) (y.row (.slice TB n2 tc')) 50 wr
        have k1 := fun W (h : Later wr W) => samearg_any x y (c := tc) (c' := tc') (ht.later h) (ht'.later h) hn1 hn2 hlz hlz'
        generalize sameA ⟨x, l⟩ ⟨y, l'⟩ = q at k1 hp2
        clear ha ha' hp h7' hlz hlz' hn1 hn2
        unfold Seven at h7 h8
        go_upto_region 7 with fail
        generalize (wr.alloc (.cells (x.row (.slice TA n1 tc)).toArray 50)).alloc (.cells (y.row (.slice TB n2 tc')).toArray 50) = W2 at hc hw2 ⊢
        clear h7 h8 l1
        have p0 := (hc W2 (Later.refl _)).1 0 _ rfl
        have p1 := (hc W2 (Later.refl _)).1 1 _ rfl
        have p2 := (hc W2 (Later.refl _)).1 2 _ rfl
        have p3 := (hc W2 (Later.refl _)).1 3 _ rfl
        have p4 := (hc W2 (Later.refl _)).1 4 _ rfl
        have p5 := (hc W2 (Later.refl _)).1 5 _ rfl
        have p6 := (hc W2 (Later.refl _)).1 6 _ rfl
        have q0 := (hc W2 (Later.refl _)).2 0 _ rfl
        have q1 := (hc W2 (Later.refl _)).2 1 _ rfl
        have q2 := (hc W2 (Later.refl _)).2 2 _ rfl
        have q3 := (hc W2 (Later.refl _)).2 3 _ rfl
        have q4 := (hc W2 (Later.refl _)).2 4 _ rfl
        have q5 := (hc W2 (Later.refl _)).2 5 _ rfl
        have q6 := (hc W2 (Later.refl _)).2 6 _ rfl
        clear hc
        cases q with
        | false =>
          have hr : Hid (R = false) := hid (by rw [hp2.out]; rfl)
          go_wp2_with (go_at_call 34; (with_reducible refine (k1 _ hw2).mono ?_); rintro e w3 ⟨rfl, l3⟩)
          go_ret
          exact ⟨by rw [hr.out]; rfl, (lk.next hw2).next l3⟩
        | true =>
          have hr : Hid (R = allA (L.drop (k + 1)) (M.drop (k + 1))) := hid (by rw [hp2.out]; rfl)
          go_wp2_with (go_at_call 34; (with_reducible refine (k1 _ hw2).mono ?_); rintro e w3 ⟨rfl, l3⟩)
          go_roundw
          case rel => exact ⟨k + 1, by omega, by go_num, hr, (lk.next hw2).next l3⟩
          case measure => simp [intOf]; omega
      · obtain rfl : k = n := by omega
        have hr : Hid (R = true) := hid (by rw [hp.out, allA_end hn hm])
        go_wp2_with fail
        go_ret
        exact ⟨by rw [hr.out]; rfl, lk⟩
  · have hr : Hid (R = false) := hid (by rw [← hR.out, allA_len (by rw [hn, hm]; exact hnm)])
    have hd : ((n : Int) == (m : Int)) = false := by simp; omega
    have hd2 : ((n : Int) != (m : Int)) = true := by simp; omega
    go_enter Try.func33, Try.ntmps33
    go_wp2_with fail
    go_ret
    exact ⟨by rw [hr.out]; rfl, Later.refl _⟩
set_option maxHeartbeats 8000000 in
set_option maxRecDepth 100000 in
theorem sameargs_any {L M : List Arg} {w : World} {A B : Option Addr} {n m c c' : Nat} (hA : ArgsAt w A L) (hB : ArgsAt w B M) (hn : L.length = n) (hm : M.length = m) (hz : n ≤ 2000000000000) :
    Calls Try.prog 20 #[.slice A n c, .slice B m c'] w fun e w' => e = .returned (.bool (allA L M)) ∧ Later w w' := by
  have k1 := eqfunc_any (c := c) (c' := c') hA hB hn hm hz
  go_enter Try.func20, Try.ntmps20
  go_wp2_with (go_at_call 33; (with_reducible refine k1.mono ?_); rintro e w3 ⟨rfl, l3⟩)
  go_ret
  exact ⟨rfl, l3⟩
end Go.Proofs.Ytdifabacbhfbbaa.Tu
