import Derived.Test.YteledidnhjioaaaShT
namespace Go.Proofs.Yteledidnhjioaaa.Sh
open Go.RowKit Go.Lib Go.Proofs Go.Shelf
set_option linter.unusedVariables false
set_option linter.unusedSimpArgs false
theorem SliceAt.chg {X : Nat → Prop} {W W' : World} {A : Option Addr} {cap : Nat} {l : List (Int × Int)} (h : SliceAt W A cap l) (k : Chg X W W') (hx : ∀ b o, A = some ⟨b, o, none⟩ → b < W.heap.size → ¬ X b) : SliceAt W' A cap l :=
  ⟨h.1, h.2.1, fun i x hi => by
    obtain ⟨b, o, ha, h0, h1⟩ := h.2.2 i x hi
    exact ⟨b, o, ha, k.cell h0 (hx b o ha (cell_lt h0)), k.cell h1 (hx b o ha (cell_lt h1))⟩⟩
/-- a slice that the call owns, as a slice that is read; it lies no lower than what it was made at -/
theorem row_slice2 {W : World} {base n : Nat} {v : Value} {l : List (Int × Int)} (h : W.ownsRow base 27 2 v l.length (flat l)) (hl : l.length ≤ 4611686018427387904) (hn : l.length = n) : ∃ A cap, v = .slice A n cap ∧ SliceAt W A cap l ∧ ∀ b o, A = some ⟨b, o, none⟩ → base ≤ b ∧ b < W.heap.size := by
  obtain ⟨A, cap, hv, hs⟩ := row_slice h hl
  refine ⟨A, cap, by rw [hv, hn], hs, fun b o e => ?_⟩
  rcases h.2 with ⟨h1, h0⟩ | ⟨g, cap', cur, h1, hb, hgg, _⟩
  · rw [hv] at h1
    injection h1 with e1
    rw [e1] at e
    cases e
  · rw [hv] at h1
    injection h1 with e1
    rw [e1] at e
    cases e
    exact ⟨hb, (Array.getElem?_eq_some_iff.1 hgg).1⟩
theorem told_all {X : Nat → Prop} {w : World} {bt n : Nat} {T : Tr (Int × Int)} {A : Option Addr} {cap : Nat} {want : List (Int × Int)} (h : AllAt X w bt T) (hw : SliceAt w A cap want) (hn : want.length = n) (hz : T.size ≤ 4611686018427387904) :
    Calls Try.prog 25 #[allV bt, .slice A n cap] w fun e w' => e = .returned (.bool (decide (T.list = want))) ∧ Later w w' := by
  obtain ⟨p, hb, ht⟩ := h.tree
  rw [← hn]
  exact told_any (all_seq hb (ht.more (Y := fresh w) (fun b h1 h2 => by have : w.heap.size ≤ b := h1; omega))) enters57 hw (by rw [Tr.size_list]; exact hz)
theorem told_same {X : Nat → Prop} {w : World} {bt n : Nat} {T : Tr (Int × Int)} {A : Option Addr} {cap : Nat} {want : List (Int × Int)} (h : AllAt X w bt T) (hw : SliceAt w A cap want) (hn : want.length = n) (hz : T.size ≤ 4611686018427387904) (he : T.list = want) :
    Calls Try.prog 25 #[allV bt, .slice A n cap] w fun e w' => e = .returned (.bool true) ∧ Later w w' := by
  have k := told_all h hw hn hz
  rw [decide_eq_true he] at k
  exact k
theorem len_is {X : Nat → Prop} {c n : Nat} {w : World} {sb : Nat} {T : Tr (Int × Int)} (h : Shf X w sb c T) (hn : n = T.size) :
    Calls Try.prog 26 #[.pointer (some ⟨sb, 0, none⟩)] w fun e w' => e = .returned (.int .i64 n) ∧ w = w' := by rw [hn]; exact len_any h
theorem OpsAt.get2 {X : Nat → Prop} {w W1 W' : World} {A : Option Addr} {cap : Nat} {l : List Op} (h : OpsAt w A cap l) (k : Later w W1) (c : Chg X W1 W') (hs : ∀ b, X b → w.heap.size ≤ b) {i : Nat} {o : Op} (hi : l[i]? = some o) :
    ∃ b f, A = some ⟨b, f, none⟩ ∧ W'.cell? ⟨b, f + i * 4, none⟩ = some (.int .i64 o.on) ∧ W'.cell? ⟨b, f + i * 4 + 1, none⟩ = some (.int .i64 o.kind) ∧ W'.cell? ⟨b, f + i * 4 + 2, none⟩ = some (.int .i64 o.x.1) ∧ W'.cell? ⟨b, f + i * 4 + 2 + 1, none⟩ = some (.int .i64 o.x.2) := by
  obtain ⟨b, f, ha, h0, h1, h2, h3⟩ := h.2.2 i o hi
  have hb : ¬ X b := fun e => by have := cell_lt h0; have := hs b e; omega
  exact ⟨b, f, ha, c.cell (k.cell h0) hb, c.cell (k.cell h1) hb, c.cell (k.cell h2) hb, c.cell (k.cell h3) hb⟩
def stepC (f : (Int × Int) → (Int × Int) → Int) (T : Tr (Int × Int)) (o : Op) : Tr (Int × Int) := if o.kind % 3 = 0 then (T.put f o.x false).1 else if o.kind % 3 = 1 then (T.put f o.x true).1 else (T.out f o.x).1
theorem stepC_size (f : (Int × Int) → (Int × Int) → Int) (T : Tr (Int × Int)) (o : Op) : (stepC f T o).size ≤ T.size + 1 := by
  unfold stepC
  split
  · exact (Tr.put_size ..).2
  · split
    · exact (Tr.put_size ..).2
    · have := Tr.out_size f o.x T; omega
theorem foldC_size (f : (Int × Int) → (Int × Int) → Int) (l : List Op) (T : Tr (Int × Int)) : (l.foldl (stepC f) T).size ≤ T.size + l.length :=
  fold_ind (f := stepC f) (P := fun T' n => T'.size ≤ T.size + n) (fun T n o h => by have := stepC_size f T o; omega) l T 0 (Nat.le_refl _) |> fun h => by rwa [Nat.zero_add] at h
abbrev two (a b : Nat) : Nat → Prop := fun x => x = a ∨ x = b
abbrev upfrom (a m : Nat) : Nat → Prop := fun x => x = a ∨ m ≤ x
set_option maxRecDepth 100000 in
set_option maxHeartbeats 20000000 in
theorem frozen_walk {l : List (Int × Int)} {ops : List Op} {w : World} {A0 A : Option Addr} {cap0 cap : Nat} (hl : SliceAt w A0 cap0 l) (hop : OpsAt w A cap ops) (hb16 : l.length + ops.length ≤ 13999999999999) :
    Calls Try.prog 4 #[.slice A0 l.length cap0, .slice A ops.length cap] w fun e w' => e = .returned (.bool true) ∧ Later w w' := by
  go_enter Try.func4, Try.ntmps4
  go_wp2_with fail
  go_at_call 16; refine (awake_any w).mono ?_; rintro e Wa ⟨rfl, hla⟩
  go_wp2_with fail
  go_at_call 17; refine (made_any (hl.later hla)).mono ?_; rintro e W1 ⟨rfl, s1, l1⟩
  go_wp2_with fail
  go_at_call 17; refine (made_any ((hl.later hla).later l1)).mono ?_; rintro e W2 ⟨rfl, m2, l2⟩
  have hTz := madeT_size l
  obtain ⟨T, hT⟩ : ∃ T, madeT l = T := ⟨_, rfl⟩
  rw [hT] at s1 m2 hTz
  have hlw2 : Later w W2 := (hla.next l1).next l2
  have hwS := hla.size
  obtain ⟨S, hS⟩ : ∃ S, Wa.heap.size = S := ⟨_, rfl⟩
  rw [hS] at s1 hwS ⊢
  obtain ⟨M, hM⟩ : ∃ M, W1.heap.size = M := ⟨_, rfl⟩
  have s1' : Shf (upfrom S M) W1 S 45 T := s1.more (fun b h1 h2 => h1.elim id (fun h1 => by omega))
  have hSM : S < M := by have := s1.lt; omega
  have s2 := s1'.later l2
  rw [hM] at m2 ⊢
  have m2' : Shf (upfrom M W2.heap.size) W2 M 45 T := m2.more (fun b h1 h2 => h1.elim id (fun h1 => by omega))
  have hM2 := m2.lt
  clear hT s1 m2 s1' hla l1 l2 hS hM hl
  go_wp2_with fail
  go_at_call 19; refine (all_any s2).mono ?_; rintro e W3 ⟨rfl, l3, a3⟩
  have hg := gathered_all a3 (m := l.length + 1) (by omega) (by omega)
  rw [show ((l.length + 1 : Nat) : Int) = (l.length : Int) + 1 by omega] at hg
  go_wp2_with fail
  go_at_call 18; refine hg.mono ?_; rintro e W4 ⟨v, rfl, hrow, l4⟩
  obtain ⟨L, hL⟩ : ∃ L, T.list = L := ⟨_, rfl⟩
  obtain ⟨n, hn⟩ : ∃ n, L.length = n := ⟨_, rfl⟩
  have hnT : n = T.size := by rw [← hn, ← hL]; exact Tr.size_list T
  rw [hL] at hrow
  obtain ⟨A1, cap1, rfl, hwas, hbase⟩ := row_slice2 hrow (by omega) hn
  have hncap : n ≤ cap1 := by rw [← hn]; exact hwas.1
  have s4 := (s2.later l3).later l4
  have m4 := (m2'.later l3).later l4
  have hl4 := (hlw2.next l3).next l4
  have hW24 : W2.heap.size ≤ W3.heap.size := l3.size
  have hW34 : W3.heap.size ≤ W4.heap.size := l4.size
  replace hL := hid hL
  replace hn := hid hn
  replace hnT := hid hnT
  clear hg hrow a3 l3 l4 s2 m2' hlw2
  go_wp2_with fail
  go_at_call 20; refine (freeze_any s4).mono ?_; rintro e W5 ⟨t, rfl, ht, l5, t5⟩
  go_wp2_with fail
  go_at_call 20; refine (freeze_any t5).mono ?_; rintro e W6 ⟨u, rfl, hu, l6, u6⟩
  have h56 := l6.size
  have hut := t5.lt
  have hX1 : ∀ b, two t M b → upfrom S M b := fun b h => by rcases h with h | h <;> exact .inr (by omega)
  have s6 : Shf (two t M) W6 S 45 T := ((s4.later l5).later l6).more (fun b h _ => hX1 b h)
  have t6 : Shf (two t M) W6 t 45 T := (t5.later l6).more (fun b h _ => hX1 b h)
  have m6 : Shf (two t M) W6 M 45 T := ((m4.later l5).later l6).more (fun b h _ => h.elim (fun h => .inr (by omega)) .inl)
  replace u6 : Shf (two t M) W6 u 45 T := u6.more (fun b h _ => hX1 b h)
  have hlw6 : Later w W6 := (hl4.next l5).next l6
  have hwas6 : SliceAt W6 A1 cap1 L := (hwas.later l5).later l6
  have htne : t ≠ M := by omega
  have hl56 : W4.heap.size ≤ W5.heap.size := l5.size
  have hoT : ∀ b, only t b → two t M b := fun b h => .inl h
  have hoM : ∀ b, only M b → two t M b := fun b h => .inr h
  have hoX : ∀ b, only t b → two t M b := fun b h => .inl h
  have hoY : ∀ b, only M b → two t M b := fun b h => .inr h
  have hMt : ¬ only t M := fun e => htne e.symm
  have htM : ¬ only M t := fun e => htne e
  have hXw : ∀ b, two t M b → w.heap.size ≤ b := fun b h => by rcases h with rfl | rfl <;> omega
  clear hwas l5 l6 t5 m4 s4 hl4
  go_wp2_with fail
  go_loopw [10] (fun i wr => ∃ (k : Nat) (F : Tr (Int × Int)), k ≤ ops.length ∧ i = .int .i64 k ∧ F.size ≤ T.size + k ∧ Shf (two t M) wr t 45 F ∧ Shf (two t M) wr M 45 F ∧ Chg (two t M) W6 wr) (fun i _ => ops.length - (intOf i).toNat)
  case atStart => exact ⟨0, T, Nat.zero_le _, rfl, Nat.le_refl _, t6, m6, Chg.refl _ _⟩
  case round =>
    obtain ⟨k, F, hk, rfl, hF, ht, hm, hc⟩ := hrel
    by_cases hlt : k < ops.length
    · obtain ⟨o, ho⟩ : ∃ o, ops[k]? = some o := ⟨_, List.getElem?_eq_getElem hlt⟩
      obtain ⟨b, f, rfl, c0, c1, c2, c3⟩ := hop.get2 hlw6 hc hXw ho
      have hok : ∀ W', Chg (two t M) W6 W' → W'.cell? ⟨b, f + k * 4 + 2, none⟩ = some (.int .i64 o.x.1) ∧ W'.cell? ⟨b, f + k * 4 + 2 + 1, none⟩ = some (.int .i64 o.x.2) := fun W' c => by
        obtain ⟨b', f', e, _, k1, k2, k3⟩ := hop.get2 hlw6 c hXw ho
        cases e
        exact ⟨k2, k3⟩
      have hpick := pick_any o.kind 3 wr (by omega) (by omega)
      have hFz := stepC_size cmpR F o
      have hXb : ∀ W', Chg (two t M) wr W' → ∀ b, two t M b → b < W'.heap.size := fun W' c b hb => by
        have h1 := ht.lt
        have h2 := hm.lt
        have h3 := c.size
        rcases hb with rfl | rfl <;> omega
      have hd := Later.chg (X := two t M) (Later.drew (Later.refl wr))
      have hokr : ∀ W', Chg (two t M) wr W' → W'.cell? ⟨b, f + k * 4 + 2, none⟩ = some (.int .i64 o.x.1) ∧ W'.cell? ⟨b, f + k * 4 + 2 + 1, none⟩ = some (.int .i64 o.x.2) := fun W' c => hok _ (hc.trans c)
      have ht1 : Shf (two t M) wr.drew t 45 F := ht.later (Later.drew (Later.refl _))
      have hm1 : Shf (two t M) wr.drew M 45 F := hm.later (Later.drew (Later.refl _))
      clear c0 c2 c3 hok
      by_cases h1 : o.kind % 3 = 0
      · have hb1 : (o.kind % 3 == 0) = true := by simp [h1]
        have hst : stepC cmpR F o = (F.put cmpR o.x false).1 := by unfold stepC; rw [if_pos h1]
        rw [hst] at hFz
        clear hst h1
        go_wp2_with (first | (go_at_call 21; (with_reducible refine hpick.mono ?_); rintro e w' ⟨rfl, rfl⟩))
        go_region_held3 (fun W' => Chg (two t M) wr W') (first | assumption | exact hd) (first
          | (go_at_call 22; (with_reducible refine (add_any (X := two t M) compR o.x ht1 (hXb _ hd) (.inl rfl) (by omega)).mono ?_); rintro e w2 ⟨rfl, s2, g2⟩; have g2' := hd.trans (g2.mono hoT); have m2 := hm1.keep g2 hoX hMt)
          | (go_at_call 22; (with_reducible refine (add_any (X := two t M) compR o.x m2 (hXb _ g2') (.inr rfl) (by omega)).mono ?_); rintro e w3 ⟨rfl, m3, g3⟩; have g3' := g2'.trans (g3.mono hoM); have s3 := s2.keep g3 hoY htM))
        go_wp2_with fail
        go_roundw
        case rel => exact ⟨k + 1, _, by omega, by go_num, by omega, s3, m3, hc.trans g3'⟩
        case measure => simp [intOf]; omega
      · by_cases h2 : o.kind % 3 = 1
        · have hb1 : (o.kind % 3 == 0) = false := by simp [h1]
          have hb2 : (o.kind % 3 == 1) = true := by simp [h2]
          have hst : stepC cmpR F o = (F.put cmpR o.x true).1 := by unfold stepC; rw [if_neg h1, if_pos h2]
          rw [hst] at hFz
          clear hst h1 h2
          go_wp2_with (first | (go_at_call 21; (with_reducible refine hpick.mono ?_); rintro e w' ⟨rfl, rfl⟩))
          go_region_held3 (fun W' => Chg (two t M) wr W') (first | assumption | exact hd) (first
            | (go_at_call 23; (with_reducible refine (lay_any (X := two t M) compR o.x ht1 (hXb _ hd) (.inl rfl) (by omega)).mono ?_); rintro e w2 ⟨rfl, s2, g2⟩; have g2' := hd.trans (g2.mono hoT); have m2 := hm1.keep g2 hoX hMt)
            | (go_at_call 23; (with_reducible refine (lay_any (X := two t M) compR o.x m2 (hXb _ g2') (.inr rfl) (by omega)).mono ?_); rintro e w3 ⟨rfl, m3, g3⟩; have g3' := g2'.trans (g3.mono hoM); have s3 := s2.keep g3 hoY htM))
          go_wp2_with fail
          go_roundw
          case rel => exact ⟨k + 1, _, by omega, by go_num, by omega, s3, m3, hc.trans g3'⟩
          case measure => simp [intOf]; omega
        · have hb1 : (o.kind % 3 == 0) = false := by simp [h1]
          have hb2 : (o.kind % 3 == 1) = false := by simp [h2]
          have hst : stepC cmpR F o = (F.out cmpR o.x).1 := by unfold stepC; rw [if_neg h1, if_neg h2]
          rw [hst] at hFz
          clear hst h1 h2
          go_wp2_with (first | (go_at_call 21; (with_reducible refine hpick.mono ?_); rintro e w' ⟨rfl, rfl⟩))
          go_region_held3 (fun W' => Chg (two t M) wr W') (first | assumption | exact hd) (first
            | (go_at_call 24; (with_reducible refine (remove_any (X := two t M) compR o.x ht1 (hXb _ hd) (.inl rfl) (by omega)).mono ?_); rintro e w2 ⟨rfl, s2, g2⟩; have g2' := hd.trans (g2.mono hoT); have m2 := hm1.keep g2 hoX hMt)
            | (go_at_call 24; (with_reducible refine (remove_any (X := two t M) compR o.x m2 (hXb _ g2') (.inr rfl) (by omega)).mono ?_); rintro e w3 ⟨rfl, m3, g3⟩; have g3' := g2'.trans (g3.mono hoM); have s3 := s2.keep g3 hoY htM))
          go_wp2_with fail
          go_roundw
          case rel => exact ⟨k + 1, _, by omega, by go_num, by omega, s3, m3, hc.trans g3'⟩
          case measure => simp [intOf]; omega
    · obtain rfl : k = ops.length := by omega
      have hu7 : Shf (two t M) wr u 45 T := u6.keep hc (fun _ h => h) (fun h => by rcases h with h | h <;> omega)
      have hs7 : Shf (two t M) wr S 45 T := s6.keep hc (fun _ h => h) (fun h => by rcases h with h | h <;> omega)
      have hw7 : SliceAt wr A1 cap1 L := hwas6.chg hc (fun b o e hb h => by obtain ⟨h1, h2⟩ := hbase b o e; rcases h with h | h <;> omega)
      have hlw7 : Later w wr := ⟨hc.os.trans hlw6.os, hc.tape.trans hlw6.tape, hc.output.trans hlw6.output, Nat.le_trans hlw6.size hc.size, fun b hb => (hc.block b (Nat.lt_of_lt_of_le hb hlw6.size) (fun e => by have := hXw b e; omega)).trans (hlw6.block b hb)⟩
      clear hbase hwas6 u6 s6 t6 m6 hc hk hlt
      go_wp2_with fail
      go_at_call 19; refine (all_any hm).mono ?_; rintro e W7 ⟨rfl, l7, a7⟩
      have hg7 := gathered_all a7 (m := l.length + ops.length + 1) (by omega) (by omega)
      rw [show ((l.length + ops.length + 1 : Nat) : Int) = (l.length : Int) + (ops.length : Int) + 1 by omega] at hg7
      go_wp2_with fail
      go_at_call 18; refine hg7.mono ?_; rintro e W8 ⟨v, rfl, hrow, l8⟩
      obtain ⟨q, hq⟩ : ∃ q, F.list.length = q := ⟨_, rfl⟩
      have hqF : q = F.size := by rw [← hq]; exact Tr.size_list F
      obtain ⟨A2, cap2, rfl, hnow, _⟩ := row_slice2 hrow (by omega) hq
      have hqcap : q ≤ cap2 := by rw [← hq]; exact hnow.1
      have hs8 := (hs7.later l7).later l8
      have hu8 := (hu7.later l7).later l8
      have ht8 := (ht.later l7).later l8
      have hw8 := (hw7.later l7).later l8
      have hl8 := (hlw7.next l7).next l8
      replace hq := hid hq
      replace hqF := hid hqF
      clear hg7 hrow a7 l7 l8 hs7 hu7 ht hm hw7 hlw7 hop hlw6
      go_wp2_with fail
      have hn3 := hnT.out
      have hTs : T.size ≤ 4611686018427387904 := by omega
      have hFs : F.size ≤ 4611686018427387904 := by omega
      clear hn3
      go_at_call 19; refine (all_any hs8).mono ?_; rintro e V1 ⟨rfl, k1, b1⟩
      go_wp2_with fail
      go_at_call 25; refine (told_same b1 (hw8.later k1) hn.out hTs hL.out).mono ?_; rintro e V2 ⟨rfl, k2⟩
      have z2 := k1.next k2
      go_wp2_with fail
      go_at_call 19; refine (all_any (hu8.later z2)).mono ?_; rintro e V3 ⟨rfl, k3, b3⟩
      have z3 := z2.next k3
      go_wp2_with fail
      go_at_call 25; refine (told_same b3 (hw8.later z3) hn.out hTs hL.out).mono ?_; rintro e V4 ⟨rfl, k4⟩
      have z4 := z3.next k4
      go_wp2_with fail
      go_at_call 26; refine (len_is (hs8.later z4) hnT.out).mono ?_; rintro e V5 ⟨rfl, rfl⟩
      go_wp2_with fail
      go_at_call 19; refine (all_any (ht8.later z4)).mono ?_; rintro e V6 ⟨rfl, k6, b6⟩
      have z6 := z4.next k6
      go_wp2_with fail
      go_at_call 25; refine (told_same b6 (hnow.later z6) hq.out hFs rfl).mono ?_; rintro e V7 ⟨rfl, k7⟩
      have z7 := z6.next k7
      go_wp2_with fail
      go_at_call 26; refine (len_is (ht8.later z7) hqF.out).mono ?_; rintro e V8 ⟨rfl, rfl⟩
      have hfin := hl8.next z7
      go_wp2_with fail
      go_ret
      exact ⟨rfl, hfin⟩
end Go.Proofs.Yteledidnhjioaaa.Sh
