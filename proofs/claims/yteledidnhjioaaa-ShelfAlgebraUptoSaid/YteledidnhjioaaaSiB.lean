import Derived.Test.YteledidnhjioaaaSiA
namespace Go.Proofs.Yteledidnhjioaaa.Sh
open Go.RowKit Go.Lib Go.Proofs Go.Shelf
set_option linter.unusedVariables false
set_option linter.unusedSimpArgs false
theorem four_new (w : World) (a b c d : Value) (t : TypeId) : (w.alloc (.cells #[a, b, c, d] t)).cell? ⟨w.heap.size, 0, none⟩ = some a ∧ (w.alloc (.cells #[a, b, c, d] t)).cell? ⟨w.heap.size, 1, none⟩ = some b ∧ (w.alloc (.cells #[a, b, c, d] t)).cell? ⟨w.heap.size, 2, none⟩ = some c ∧ (w.alloc (.cells #[a, b, c, d] t)).cell? ⟨w.heap.size, 3, none⟩ = some d := by
  rw [World.cell?_alloc_new, World.cell?_alloc_new, World.cell?_alloc_new, World.cell?_alloc_new]
  exact ⟨rfl, rfl, rfl, rfl⟩
theorem hasL_find (c : (Int × Int) → (Int × Int) → Int) (x : Int × Int) : ∀ l : List (Int × Int), hasL c x l = false → findL c x l = none
  | [], _ => rfl
  | y :: t, h => by
    unfold hasL at h
    unfold findL
    split at h
    · cases h
    · rw [if_neg (by assumption)]; exact hasL_find c x t h
abbrev opV (o : Op) : Value := .agg #[.int .i64 o.on, .int .i64 o.kind, .int .i64 o.x.1, .int .i64 o.x.2]
set_option maxRecDepth 100000 in
set_option maxHeartbeats 8000000 in
theorem asked_any {X : Nat → Prop} {w : World} {sb n cap : Nat} {T : Tr (Int × Int)} {A : Option Addr} {o : Op} (h : Shf X w sb 45 T) (hl : SliceAt w A cap T.list) (hn : T.list.length = n) (hr : Rises cmpR T.list) (hz : n ≤ 13999999999998) :
    Calls Try.prog 48 #[.pointer (some ⟨sb, 0, none⟩), .slice A n cap, opV o] w fun e w' => e = .returned (.bool true) ∧ Later w w' := by
  obtain ⟨⟨on, kind, x⟩, ho⟩ : ∃ o', o = o' := ⟨_, rfl⟩
  subst ho
  have hcap := hl.1
  rw [hn] at hcap
  have hB : Later w (w.alloc (.cells #[.int .i64 on, .int .i64 kind, .int .i64 x.1, .int .i64 x.2] 44)) := (Later.refl w).alloc _
  have hxx := four_new w (.int .i64 on) (.int .i64 kind) (.int .i64 x.1) (.int .i64 x.2) 44
  have hl0 := hl.later hB
  have h0 := h.later hB
  obtain ⟨W0, hW0⟩ : ∃ W0, w.alloc (.cells #[.int .i64 on, .int .i64 kind, .int .i64 x.1, .int .i64 x.2] 44) = W0 := ⟨_, rfl⟩
  obtain ⟨N, hN⟩ : ∃ N, w.heap.size = N := ⟨_, rfl⟩
  rw [hW0] at hB hxx hl0 h0
  rw [hN] at hxx
  have hfind := find_ref x hl0 hr
  rw [hn] at hfind
  have hTn : T.size = n := by rw [← hn, Tr.size_list]
  replace hn := hid hn
  clear h hl
  obtain ⟨x0, x1, x2, x3⟩ := hxx
  show Calls Try.prog 48 #[.pointer (some ⟨sb, 0, none⟩), .slice A n cap, .agg #[.int .i64 on, .int .i64 kind, .int .i64 x.1, .int .i64 x.2]] w _
  go_enter Try.func48, Try.ntmps48
  go_wp2_with fail
  go_at_call 77; refine hfind.mono ?_; rintro e W1 ⟨rfl, l1⟩
  have hpick := pick_any kind 8 W1 (by omega) (by omega)
  have y0 := l1.cell x1
  have y1 := l1.cell x2
  have y2 := l1.cell x3
  have hl1 := hl0.later l1
  have h1 := h0.later l1
  have hW1 := hB.next l1
  clear hfind x0 x1 x2 x3 hl0 h0 l1 hB
  go_wp2_with fail
  go_at_call 21; refine hpick.mono ?_; rintro e w' ⟨rfl, rfl⟩
  clear hpick
  by_cases k3 : kind % 8 = 3
  · have b3 : (kind % 8 == 3) = true := by simp [k3]
    cases hh : hasL cmpR x T.list
    · have hfx : T.find cmpR x = none := by rw [find_list ordR x T hr, hasL_find _ _ _ hh]
      rw [atL_none hh]
      clear k3
      go_wp2_with fail
      go_at_call 32; refine (find_none compR x h1 hfx).mono ?_; rintro e w3 ⟨rfl, l3⟩
      have z := two_new w3 (.int .i64 0) (.int .i64 0) 27
      go_wp2_with fail
      go_quiet (fail)
      go_wp2_with fail
      go_ret
      exact ⟨rfl, below_drewN ((hW1.next l3).next Later.two) _⟩
    · obtain ⟨y, hy, hc, hf, _⟩ := hasL_at ordR hr hh
      have hfx : T.find cmpR x = some y := by rw [find_list ordR x T hr, hf]
      have hat : atL cmpR x T.list = (rankL cmpR x T.list : Int) := by unfold atL; rw [if_pos hh]
      rw [hat]
      have hrn : rankL cmpR x T.list < n := by rw [← hn.out]; exact (List.getElem?_eq_some_iff.1 hy).1
      have h3 := find_some compR x h1 hfx
      clear hat hfx hf hh hc k3
      obtain ⟨R, hR⟩ : ∃ R, rankL cmpR x T.list = R := ⟨_, rfl⟩
      rw [hR] at hy hrn ⊢
      have hRd : decide (0 ≤ (R : Int)) = true := by simp
      clear hR
      go_wp2_with fail
      go_at_call 32; refine h3.mono ?_; rintro e w3 ⟨rfl, l3⟩
      have z := two_new w3 (.int .i64 y.1) (.int .i64 y.2) 27
      have l4 := l3.next (Later.two (x := .int .i64 y.1) (y := .int .i64 y.2) (t := 27))
      obtain ⟨b, o, rfl, c0, c1⟩ := (hl1.later l4).2.2 _ _ hy
      clear hy hl1
      go_wp2_with fail
      go_quiet (fail)
      go_wp2_with fail
      go_ret
      exact ⟨rfl, below_drewN ((hW1.next l3).next Later.two) _⟩
  · by_cases k4 : kind % 8 = 4
    · have b3 : (kind % 8 == 3) = false := by simp [k3]
      have b4 : (kind % 8 == 4) = true := by simp [k4]
      clear k3 k4
      obtain ⟨k, m⟩ := x
      have hrk : ∀ W, Later W1 W → _ := fun W lw => rank_same compR (k, m) (h1.later lw) (by omega) hr
      have hrr : ∀ W, Later W1 W → _ := fun W lw => rank_ref (k, m) (hl1.later lw)
      rw [hn.out] at hrr
      by_cases hin : 0 ≤ k ∧ k < n
      · obtain ⟨i, rfl⟩ : ∃ i : Nat, k = i := ⟨k.toNat, by omega⟩
        obtain ⟨y, hy⟩ : ∃ y, T.list[i]? = some y := ⟨_, List.getElem?_eq_getElem (by rw [hn.out]; omega)⟩
        have h3 := nth_some i h1 (by omega) hy
        have hi : i < n := by omega
        have hd1 : decide (0 ≤ (i : Int)) = true := by simp
        clear hin
        go_wp2_with fail
        go_at_call 33; refine h3.mono ?_; rintro e w3 ⟨rfl, l3⟩
        have z := two_new w3 (.int .i64 y.1) (.int .i64 y.2) 27
        have l4 := l3.next (Later.two (x := .int .i64 y.1) (y := .int .i64 y.2) (t := 27))
        have y1' := l4.cell y1
        have y2' := l4.cell y2
        go_wp2_with fail
        obtain ⟨b, o', rfl, c0, c1⟩ := (hl1.later l4).2.2 _ _ hy
        have hG0 := Later.drew (Later.refl (w3.alloc (.cells #[.int .i64 y.1, .int .i64 y.2] 27)))
        obtain ⟨Good, hGd⟩ : ∃ G : World → Prop, ∀ W', G W' ↔ Later (w3.alloc (.cells #[.int .i64 y.1, .int .i64 y.2] 27)) W' := ⟨_, fun _ => Iff.rfl⟩
        replace hG0 := (hGd _).2 hG0
        have hne : Nonempty (InG Good) := ⟨⟨_, hG0⟩⟩
        have g1 : ∀ p : InG Good, Calls Try.prog 34 #[.pointer (some ⟨sb, 0, none⟩), .agg #[.int .i64 (i : Int), .int .i64 m]] p.W fun e w'' => e = .returned (.int .i64 (rankL cmpR ((i : Int), m) T.list : Nat)) ∧ ∃ p' : InG Good, w'' = p'.W := fun p => (hrk p.W (l4.next ((hGd _).1 p.h))).mono fun e w'' hh => ⟨hh.1, ⟨w'', (hGd _).2 (((hGd _).1 p.h).next hh.2)⟩, rfl⟩
        have g2 : ∀ p : InG Good, Calls Try.prog 66 #[.slice (some ⟨b, o', none⟩) n cap, .agg #[.int .i64 (i : Int), .int .i64 m]] p.W fun e w'' => e = .returned (.int .i64 (rankL cmpR ((i : Int), m) T.list : Nat)) ∧ ∃ p' : InG Good, w'' = p'.W := fun p => (hrr p.W (l4.next ((hGd _).1 p.h))).mono fun e w'' hh => ⟨hh.1, ⟨w'', (hGd _).2 (((hGd _).1 p.h).next hh.2)⟩, rfl⟩
        have f0 : ∀ p : InG Good, p.W.cell? ⟨b, o' + i * 2, none⟩ = some (.int .i64 y.1) ∧ p.W.cell? ⟨b, o' + i * 2 + 1, none⟩ = some (.int .i64 y.2) ∧ p.W.cell? ⟨w3.heap.size, 0, none⟩ = some (.int .i64 y.1) ∧ p.W.cell? ⟨w3.heap.size, 1, none⟩ = some (.int .i64 y.2) ∧ p.W.cell? ⟨N, 2, none⟩ = some (.int .i64 (i : Int)) ∧ p.W.cell? ⟨N, 3, none⟩ = some (.int .i64 m) := fun p => by
          have lp := (hGd _).1 p.h
          exact ⟨lp.cell c0, lp.cell c1, lp.cell z.1, lp.cell z.2, lp.cell y1', lp.cell y2'⟩
        replace hGd := hid hGd
        generalize rankL cmpR ((i : Int), m) T.list = R at g1 g2
        clear hrk hrr
        refine region_in Good (by kernel_rfl) (by kernel_rfl) hG0 ?_
        repeat (go_big_quiet_step ((first | (go_at_call 34; exact g1 _) | (go_at_call 66; exact g2 _))))
        refine wpQuiet_nil ?_
        intro w7 hw7
        have l7 := (hGd.out _).1 hw7
        clear g1 g2 hGd hne hG0 hw7
        go_wp2_with fail
        go_ret
        exact ⟨rfl, (hW1.next l4).next l7⟩
      · have hnv : nthV T k = none := by
          unfold nthV
          by_cases hk0 : k < 0
          · rw [if_pos hk0]
          · rw [if_neg hk0, nth_list, List.getElem?_eq_none (by rw [hn.out]; omega)]
        have h3 := nth_any k h1 (by omega)
        rw [hnv] at h3
        clear hnv
        have key : ∀ q, decide (0 ≤ k) = q → True := fun _ _ => trivial
        by_cases hk0 : 0 ≤ k
        · have hd1 : decide (0 ≤ k) = true := by simp [hk0]
          have hd2 : decide (k < (n : Int)) = false := by simp; omega
          clear hin hk0
          go_wp2_with fail
          go_at_call 33; refine h3.mono ?_; rintro e w3 ⟨rfl, l3⟩
          unfold opt
          have z := two_new w3 (.int .i64 0) (.int .i64 0) 27
          have l4 := l3.next (Later.two (x := .int .i64 0) (y := .int .i64 0) (t := 27))
          have y1' := l4.cell y1
          have y2' := l4.cell y2
          go_wp2_with fail
          have hG0 := Later.drew (Later.refl (w3.alloc (.cells #[.int .i64 0, .int .i64 0] 27)))
          obtain ⟨Good, hGd⟩ : ∃ G : World → Prop, ∀ W', G W' ↔ Later (w3.alloc (.cells #[.int .i64 0, .int .i64 0] 27)) W' := ⟨_, fun _ => Iff.rfl⟩
          replace hG0 := (hGd _).2 hG0
          have hne : Nonempty (InG Good) := ⟨⟨_, hG0⟩⟩
          have g1 : ∀ p : InG Good, Calls Try.prog 34 #[.pointer (some ⟨sb, 0, none⟩), .agg #[.int .i64 k, .int .i64 m]] p.W fun e w'' => e = .returned (.int .i64 (rankL cmpR (k, m) T.list : Nat)) ∧ ∃ p' : InG Good, w'' = p'.W := fun p => (hrk p.W (l4.next ((hGd _).1 p.h))).mono fun e w'' hh => ⟨hh.1, ⟨w'', (hGd _).2 (((hGd _).1 p.h).next hh.2)⟩, rfl⟩
          have g2 : ∀ p : InG Good, Calls Try.prog 66 #[.slice A n cap, .agg #[.int .i64 k, .int .i64 m]] p.W fun e w'' => e = .returned (.int .i64 (rankL cmpR (k, m) T.list : Nat)) ∧ ∃ p' : InG Good, w'' = p'.W := fun p => (hrr p.W (l4.next ((hGd _).1 p.h))).mono fun e w'' hh => ⟨hh.1, ⟨w'', (hGd _).2 (((hGd _).1 p.h).next hh.2)⟩, rfl⟩
          have f0 : ∀ p : InG Good, p.W.cell? ⟨w3.heap.size, 0, none⟩ = some (.int .i64 0) ∧ p.W.cell? ⟨w3.heap.size, 1, none⟩ = some (.int .i64 0) ∧ p.W.cell? ⟨N, 2, none⟩ = some (.int .i64 k) ∧ p.W.cell? ⟨N, 3, none⟩ = some (.int .i64 m) := fun p => by
            have lp := (hGd _).1 p.h
            exact ⟨lp.cell z.1, lp.cell z.2, lp.cell y1', lp.cell y2'⟩
          replace hGd := hid hGd
          generalize rankL cmpR (k, m) T.list = R at g1 g2
          clear hrk hrr
          refine region_in Good (by kernel_rfl) (by kernel_rfl) hG0 ?_
          repeat (go_big_quiet_step ((first | (go_at_call 34; exact g1 _) | (go_at_call 66; exact g2 _))))
          refine wpQuiet_nil ?_
          intro w7 hw7
          have l7 := (hGd.out _).1 hw7
          clear g1 g2 hGd hne hG0 hw7
          go_wp2_with fail
          go_ret
          exact ⟨rfl, (hW1.next l4).next l7⟩
        · have hd1 : decide (0 ≤ k) = false := by simp; omega
          clear hin hk0
          go_wp2_with fail
          go_at_call 33; refine h3.mono ?_; rintro e w3 ⟨rfl, l3⟩
          unfold opt
          have z := two_new w3 (.int .i64 0) (.int .i64 0) 27
          have l4 := l3.next (Later.two (x := .int .i64 0) (y := .int .i64 0) (t := 27))
          have y1' := l4.cell y1
          have y2' := l4.cell y2
          go_wp2_with fail
          have hG0 := Later.drew (Later.refl (w3.alloc (.cells #[.int .i64 0, .int .i64 0] 27)))
          obtain ⟨Good, hGd⟩ : ∃ G : World → Prop, ∀ W', G W' ↔ Later (w3.alloc (.cells #[.int .i64 0, .int .i64 0] 27)) W' := ⟨_, fun _ => Iff.rfl⟩
          replace hG0 := (hGd _).2 hG0
          have hne : Nonempty (InG Good) := ⟨⟨_, hG0⟩⟩
          have g1 : ∀ p : InG Good, Calls Try.prog 34 #[.pointer (some ⟨sb, 0, none⟩), .agg #[.int .i64 k, .int .i64 m]] p.W fun e w'' => e = .returned (.int .i64 (rankL cmpR (k, m) T.list : Nat)) ∧ ∃ p' : InG Good, w'' = p'.W := fun p => (hrk p.W (l4.next ((hGd _).1 p.h))).mono fun e w'' hh => ⟨hh.1, ⟨w'', (hGd _).2 (((hGd _).1 p.h).next hh.2)⟩, rfl⟩
          have g2 : ∀ p : InG Good, Calls Try.prog 66 #[.slice A n cap, .agg #[.int .i64 k, .int .i64 m]] p.W fun e w'' => e = .returned (.int .i64 (rankL cmpR (k, m) T.list : Nat)) ∧ ∃ p' : InG Good, w'' = p'.W := fun p => (hrr p.W (l4.next ((hGd _).1 p.h))).mono fun e w'' hh => ⟨hh.1, ⟨w'', (hGd _).2 (((hGd _).1 p.h).next hh.2)⟩, rfl⟩
          have f0 : ∀ p : InG Good, p.W.cell? ⟨w3.heap.size, 0, none⟩ = some (.int .i64 0) ∧ p.W.cell? ⟨w3.heap.size, 1, none⟩ = some (.int .i64 0) ∧ p.W.cell? ⟨N, 2, none⟩ = some (.int .i64 k) ∧ p.W.cell? ⟨N, 3, none⟩ = some (.int .i64 m) := fun p => by
            have lp := (hGd _).1 p.h
            exact ⟨lp.cell z.1, lp.cell z.2, lp.cell y1', lp.cell y2'⟩
          replace hGd := hid hGd
          generalize rankL cmpR (k, m) T.list = R at g1 g2
          clear hrk hrr
          refine region_in Good (by kernel_rfl) (by kernel_rfl) hG0 ?_
          repeat (go_big_quiet_step ((first | (go_at_call 34; exact g1 _) | (go_at_call 66; exact g2 _))))
          refine wpQuiet_nil ?_
          intro w7 hw7
          have l7 := (hGd.out _).1 hw7
          clear g1 g2 hGd hne hG0 hw7
          go_wp2_with fail
          go_ret
          exact ⟨rfl, (hW1.next l4).next l7⟩
    · by_cases k5 : kind % 8 = 5
      · have b3 : (kind % 8 == 3) = false := by simp [k3]
        have b4 : (kind % 8 == 4) = false := by simp [k4]
        have b5 : (kind % 8 == 5) = true := by simp [k5]
        clear k3 k4 k5
        go_wp2_with fail
        go_at_call 19; refine (all_any h1).mono ?_; rintro e w3 ⟨rfl, l3, a3⟩
        have hg := gathered_all a3 (m := n + 1) (by omega) (by omega)
        rw [show ((n + 1 : Nat) : Int) = (n : Int) + 1 by omega] at hg
        go_wp2_with fail
        go_at_call 18; refine hg.mono ?_; rintro e w4 ⟨v, rfl, hrow, l4⟩
        obtain ⟨A2, cap2, rfl, hs2, _⟩ := row_slice2 hrow (by rw [hn.out]; omega) hn.out
        have hsm := same_ref hs2 ((hl1.later l3).later l4)
        rw [hn.out, decide_eq_true rfl] at hsm
        clear hrow hg
        go_wp2_with fail
        go_at_call 14; refine hsm.mono ?_; rintro e w5 ⟨rfl, l5⟩
        have hfin := ((hW1.next l3).next l4).next l5
        go_wp2_with fail
        go_ret
        exact ⟨rfl, hfin⟩
      · have b3 : (kind % 8 == 3) = false := by simp [k3]
        have b4 : (kind % 8 == 4) = false := by simp [k4]
        have b5 : (kind % 8 == 5) = false := by simp [k5]
        clear k3 k4 k5
        have hfl : (T.from_ fun y => decide (cmpR y x < 0)) = T.list.drop (rankL cmpR x T.list) := by rw [from_list ordR x T hr, from_drop ordR x hr]
        have hfr : ∀ W, Later W1 W → _ := fun W lw => from_ref x (hl1.later lw)
        rw [hn.out] at hfr
        have hga : ∀ W bt cb xb, FromAt X W 45 bt cb xb x T → _ := fun W bt cb xb a8 => gathered_from compR a8 (m := n + 1) (by omega) (by omega)
        have hwr : IntKind.i64.wrap ((n : Int) + 1) = (n : Int) + 1 := by rw [IntKind.wrap_i64]; omega
        rw [show ((n + 1 : Nat) : Int) = IntKind.i64.wrap ((n : Int) + 1) by rw [hwr]; omega, hfl] at hga
        clear hwr
        obtain ⟨D, hD⟩ : ∃ D, T.list.drop (rankL cmpR x T.list) = D := ⟨_, rfl⟩
        obtain ⟨M, hM⟩ : ∃ M, D.length = M := ⟨_, rfl⟩
        have hMn : M ≤ n := by rw [← hM, ← hD, List.length_drop, hn.out]; omega
        rw [hD] at hfr hga
        rw [hM] at hfr
        have hS : ∀ W', Later W1 W' → W'.cell? ⟨N, 2, none⟩ = some (.int .i64 x.1) ∧ W'.cell? ⟨N, 3, none⟩ = some (.int .i64 x.2) := fun W' k' => ⟨k'.cell y1, k'.cell y2⟩
        have hsm : ∀ W B1 c1 B2 c2, SliceAt W B1 c1 D → SliceAt W B2 c2 D → Calls Try.prog 14 #[.slice B1 M c1, .slice B2 M c2] W fun e w' => e = .returned (.bool true) ∧ Later W w' := fun W B1 c1 B2 c2 q1 q2 => by
          have := same_ref q1 q2
          rw [hM, decide_eq_true rfl] at this
          exact this
        have h1' : ∀ W, Later W1 W → _ := fun W lw => from_any x (h1.later lw)
        clear hfl hD y0 y1 y2 hl1
        replace hM := hid hM
        go_wp2_with fail
        go_region_held3 (fun W' => Later W1 W') (first | assumption | exact Later.drew (Later.refl _)) (first
          | (go_at_call 28; (with_reducible refine (h1' _ (by assumption)).mono ?_); rintro e w8 ⟨bt, cb, xb, rfl, _, _, _, l8, a8⟩; have lw8 : Later W1 w8 := Later.next (by assumption) l8)
          | (go_at_call 18; (with_reducible refine (hga _ _ _ _ a8).mono ?_); rintro e w9 ⟨v, rfl, hrow, l9⟩; have lw9 : Later W1 w9 := Later.next lw8 l9; obtain ⟨A3, cap3, rfl, hs3, _⟩ := row_slice2 hrow (by rw [hM.out]; omega) hM.out)
          | (go_at_call 29; (with_reducible refine (hfr _ (by assumption)).mono ?_); rintro e w10 ⟨A4, cap4, rfl, l10, hs4, _⟩; have lw10 : Later W1 w10 := Later.next (by assumption) l10)
          | (go_at_call 14; (with_reducible refine (hsm _ _ _ _ _ (hs3.later l10) hs4).mono ?_); rintro e w11 ⟨rfl, l11⟩; have lw11 : Later W1 w11 := Later.next lw10 l11))
        go_wp2_with fail
        go_ret
        exact ⟨rfl, hW1.next lw11⟩
end Go.Proofs.Yteledidnhjioaaa.Sh
