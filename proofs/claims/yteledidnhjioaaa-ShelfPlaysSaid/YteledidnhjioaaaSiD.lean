import Derived.Test.YteledidnhjioaaaSiC
import Derived.Deep.DeepCutAuto
import Derived.Deep.CutBlock
namespace Go.Proofs.Yteledidnhjioaaa.Sh
open Go.RowKit Go.Lib Go.Proofs Go.Shelf
set_option linter.unusedVariables false
set_option linter.unusedSimpArgs false
/-- the three Shelves as they are made -/
structure Born (w W : World) (S L k : Nat) (f : Nat → Nat) : Prop where
  s : Arr W S 74 fun j => if j < k then .pointer (some ⟨f j, 0, none⟩) else .pointer none
  l : Arr W L 75 fun _ => .slice none 0 0
  new : ∀ j, j < k → IsS W (f j) 45 none ∧ L < f j
  rise : ∀ i j, i < j → j < k → f i < f j
  later : Later w W
  sl : S < L
  sw : w.heap.size ≤ S
theorem Born.next {w W W1 : World} {S L k : Nat} {f : Nat → Nat} (h : Born w W S L k f) (hk : k < 3) (hn : IsS W1 W.heap.size 45 none) (l1 : Later W W1) : Born w (W1.setCell ⟨S, k, none⟩ (.pointer (some ⟨W.heap.size, 0, none⟩))) S L (k + 1) (upd f k W.heap.size) := by
  have kS : Chg (only S) W1 (W1.setCell ⟨S, k, none⟩ (.pointer (some ⟨W.heap.size, 0, none⟩))) := Chg.set _ _ rfl
  have hSL := h.sl
  have hlL := h.l.lt
  refine ⟨((h.s.later l1).set hk _).congr fun j hj => ?_, (h.l.later l1).keep kS (fun e => by have : L = S := e; omega), fun j hj => ?_, fun i j hij hj => ?_, ?_, hSL, h.sw⟩
  · by_cases e : j = k
    · subst e; simp [upd]
    · by_cases e2 : j < k
      · simp [upd, e, e2, show j < k + 1 by omega]
      · simp [upd, e, e2, show ¬ j < k + 1 by omega]
  · by_cases e : j = k
    · subst e; rw [upd_self]; exact ⟨hn.keep kS (fun e => by have : W.heap.size = S := e; omega), by omega⟩
    · rw [upd_other _ _ e]
      obtain ⟨a, b⟩ := h.new j (by omega)
      exact ⟨(a.later l1).keep kS (fun e => by have : f j = S := e; omega), b⟩
  · by_cases e : j = k
    · subst e; rw [upd_self, upd_other _ _ (by omega)]; exact (h.new i hij).1.lt
    · rw [upd_other _ _ e, upd_other _ _ (by omega)]; exact h.rise i j hij (by omega)
  · exact (h.later.next l1).far h.sw kS
theorem Born.play {w W : World} {S L : Nat} {f : Nat → Nat} (h : Born w W S L 3 f) : Play W S L f (fun _ => .leaf) (fun _ => none) (fun _ => 0) := by
  have hSL := h.sl
  refine ⟨h.s.congr fun j hj => (by rw [if_pos hj]), h.l, fun k hk => ?_, fun k hk => List.Pairwise.nil, fun k hk => ⟨Nat.le_refl _, Nat.zero_le _, fun i x hi => (by simp [Tr.list] at hi)⟩, fun k hk b o e => (by cases e), fun i j hi hj e => ?_, fun k hk => ?_, by omega⟩
  · obtain ⟨a, b⟩ := h.new k hk
    obtain ⟨p, h1, h2⟩ := shf_new a (plX S L f)
    exact ⟨p, h1, h2⟩
  · rcases Nat.lt_trichotomy i j with e' | e' | e'
    · have := h.rise i j e' hj; omega
    · exact e'
    · have := h.rise j i e' hi; omega
  · obtain ⟨a, b⟩ := h.new k hk
    exact ⟨by omega, by omega⟩
theorem Play.world {W : World} {S L : Nat} {f : Nat → Nat} {T : Nat → Tr (Int × Int)} {av : Nat → Option Addr} {cp : Nat → Nat} (h : Play W S L f T av cp) : ∃ V, V = W := ⟨_, rfl⟩
set_option maxRecDepth 100000 in
set_option maxHeartbeats 20000000 in
theorem plays_walk {ops : List Op} {w : World} {A : Option Addr} {cap : Nat} (hop : OpsAt w A cap ops) :
    Calls Try.prog 8 #[.slice A ops.length cap] w fun e w' => e = .returned (.bool true) ∧ Later w w' := by
  have hlen := hop.2.1
  have hcap := hop.1
  go_enter Try.func8, Try.ntmps8
  go_wp2_with fail
  have hborn : Born w ((w.alloc (.cells #[.pointer none, .pointer none, .pointer none] 74)).alloc (.cells #[.slice none 0 0, .slice none 0 0, .slice none 0 0] 75)) w.heap.size (w.heap.size + 1) 0 (fun _ => 0) := by
    refine ⟨?_, ?_, fun j hj => by omega, fun i j h1 h2 => by omega, ((Later.refl w).alloc _).alloc _, by omega, Nat.le_refl _⟩
    · exact Arr.later (World.alloc_heap_new w _) ((Later.refl _).alloc _)
    · have := World.alloc_heap_new (w.alloc (.cells #[.pointer none, .pointer none, .pointer none] 74)) (.cells #[.slice none 0 0, .slice none 0 0, .slice none 0 0] 75)
      rw [World.size_alloc] at this
      exact this
  obtain ⟨S, hS⟩ : ∃ S, w.heap.size = S := ⟨_, rfl⟩
  obtain ⟨L, hL⟩ : ∃ L, w.heap.size + 1 = L := ⟨_, rfl⟩
  rw [hL, hS] at hborn
  rw [hL, hS]
  generalize (w.alloc (.cells #[.pointer none, .pointer none, .pointer none] 74)).alloc (.cells #[.slice none 0 0, .slice none 0 0, .slice none 0 0] 75) = W0 at hborn ⊢
  clear hS hL
  go_loopw [5] (fun i wr => ∃ (k : Nat) (f : Nat → Nat), k ≤ 3 ∧ i = .int .i64 k ∧ Born w wr S L k f) (fun i _ => 3 - (intOf i).toNat)
  case atStart => exact ⟨0, _, Nat.zero_le _, rfl, hborn⟩
  case round =>
    obtain ⟨k, f, hk, rfl, hb⟩ := hrel
    by_cases hlt : k < 3
    · have hz := hb.s.lt
      go_wp2_with fail
      go_at_call 30; refine (new_any 45 wr).mono ?_; rintro e w1 ⟨rfl, hn, l1⟩
      have hb' := hb.next hlt hn l1
      have q0 := ((hb.s.later l1).cell hlt).1
      have q1 := ((hb.s.later l1).cell hlt).2
      have q2 := (hb'.s.cell hlt).1
      rw [if_pos (Nat.lt_succ_self k), upd_self] at q2
      go_wp2_with fail
      go_roundw
      case rel => exact ⟨k + 1, _, by omega, by go_num, hb'⟩
      case measure => simp [intOf]; omega
    · obtain rfl : k = 3 := by omega
      rw [show ((3 : Nat) : Int) = 3 from rfl]
      have hp := hb.play
      have hfl : ∀ j, j < 3 → L < f j := fun j hj => (hb.new j hj).2
      have hlw := hb.later
      have hsw := hb.sw
      have hSL := hb.sl
      clear hb hk hlt
      go_wp2_with fail
      go_loopw [6] (fun i wr => ∃ (k : Nat) (f : Nat → Nat) (T : Nat → Tr (Int × Int)) (av : Nat → Option Addr) (cp : Nat → Nat), k ≤ ops.length ∧ i = .int .i64 k ∧ Play wr S L f T av cp ∧ (∀ j, j < 3 → (T j).size ≤ k) ∧ (∀ j, j < 3 → L < f j) ∧ Later w wr) (fun i _ => ops.length - (intOf i).toNat)
      case atStart => exact ⟨0, _, _, _, _, Nat.zero_le _, rfl, hp, fun _ _ => Nat.le_refl _, hfl, hlw⟩
      case round =>
        obtain ⟨k, f', T, av, cp, hk, rfl, hpl, hsz, hfl', hlw'⟩ := hrel
        clear hp hlw hfl
        by_cases hlt : k < ops.length
        · obtain ⟨o, ho⟩ : ∃ o, ops[k]? = some o := ⟨_, List.getElem?_eq_getElem hlt⟩
          obtain ⟨b, fo, rfl, c0, c1, c2, c3⟩ := (hop.later hlw').2.2 _ _ ho
          obtain ⟨m, hm⟩ : ∃ m : Nat, o.on % 3 = m := ⟨(o.on % 3).toNat, by omega⟩
          have hm3 : m < 3 := by omega
          have hp1 := pick_any o.on 3 wr (by omega) (by omega)
          rw [hm] at hp1
          have lB : Later wr (wr.alloc (.cells #[.int .i64 o.x.1, .int .i64 o.x.2] 27)) := Later.two
          have z := two_new wr (.int .i64 o.x.1) (.int .i64 o.x.2) 27
          have d0 := lB.cell c0
          have d1 := lB.cell c1
          have d2 := lB.cell c2
          have d3 := lB.cell c3
          have hp2 := pick_any o.kind 8 (wr.alloc (.cells #[.int .i64 o.x.1, .int .i64 o.x.2] 27)) (by omega) (by omega)
          obtain ⟨W1, hW1⟩ : ∃ W1, wr.alloc (.cells #[.int .i64 o.x.1, .int .i64 o.x.2] 27) = W1 := ⟨_, rfl⟩
          obtain ⟨N, hN⟩ : ∃ N, wr.heap.size = N := ⟨_, rfl⟩
          rw [hW1] at hp2 z lB d0 d1 d2 d3
          rw [hN] at z
          have hp := hpl.later lB
          have q0 := (hp.s.cell hm3).1
          have q1 := (hp.l.cell hm3).1
          have q2 := (hp.l.cell hm3).2
          have hri := hp.rise m hm3
          have hsl := hp.sl m hm3
          have hTz := hsz m hm3
          have hlW1 := hlw'.next lB
          obtain ⟨Tm, hTm⟩ : ∃ Tm, T m = Tm := ⟨_, rfl⟩
          obtain ⟨am, ham⟩ : ∃ am, av m = am := ⟨_, rfl⟩
          obtain ⟨cm, hcm⟩ : ∃ cm, cp m = cm := ⟨_, rfl⟩
          obtain ⟨n, hn⟩ : ∃ n, Tm.list.length = n := ⟨_, rfl⟩
          have hnz : n = Tm.size := by rw [← hn]; exact Tr.size_list Tm
          rw [hTm] at q1 hri hsl hTz
          rw [ham] at q1 hsl
          rw [hcm] at q1 hsl
          rw [hn] at q1
          have hoff := hp.off m hm3
          rw [ham] at hoff
          have hshf := hp.shf m hm3
          rw [hTm] at hshf
          have hfN : f' m < N := by rw [← hN]; exact (hpl.shf m hm3).lt
          have hfm := hfl' m hm3
          have hLN : L < N := by rw [← hN]; exact hpl.l.lt
          clear hm ho hpl lB
          go_upto_block 4 with (first | (go_at_call 21; (with_reducible refine hp1.mono ?_); rintro e w' ⟨rfl, rfl⟩) | (go_at_call 21; (with_reducible refine hp2.mono ?_); rintro e w' ⟨rfl, rfl⟩))
          go_cut [9] (fun okv wx => okv = .bool true ∧ ∃ (f : Nat → Nat) (T : Nat → Tr (Int × Int)) (av : Nat → Option Addr) (cp : Nat → Nat), Play wx S L f T av cp ∧ (∀ j, j < 3 → (T j).size ≤ k + 1) ∧ (∀ j, j < 3 → L < f j) ∧ Later w wx)
          case first =>
            by_cases k0 : o.kind % 8 = 0
            · have b0 : (o.kind % 8 == 0) = true := by simp [k0]
              have hput := fun W (l : Later W1 W) => put_ref o.x false (hsl.later l) hri (by omega)
              obtain ⟨Q, hQ⟩ : ∃ Q, Tm.put cmpR o.x false = Q := ⟨_, rfl⟩
              obtain ⟨e1, e2⟩ := put_list ordR o.x false Tm hri
              rw [hQ] at e1 e2
              rw [← e1, ← e2, hn] at hput
              have hQs : Q.1.size ≤ k + 1 := by have := (Tr.put_size cmpR o.x false Tm).2; rw [hQ] at this; omega
              have hQz : Q.1.list.length ≤ 4611686018427387904 := by rw [Tr.size_list]; omega
              obtain ⟨n2, hQn⟩ : ∃ n2, Q.1.list.length = n2 := ⟨_, rfl⟩
              replace hQn := hid hQn
              clear k0 e1 e2
              replace hn := hid hn
              replace hnz := hid hnz
              replace hTm := hid hTm
              go_wp2_with fail
              obtain ⟨z0, z1⟩ := z
              clear hp1 hp2 d0 d1 d2 d3
              go_cut [10] (fun was wx => ∃ w2 A2 cap2, was = .bool Q.2 ∧ wx = w2.setCell ⟨L, m, none⟩ (.slice A2 n2 cap2) ∧ Later W1 w2 ∧ SliceAt w2 A2 cap2 Q.1.list ∧ (∀ b o, A2 = some ⟨b, o, none⟩ → W1.heap.size ≤ b ∧ b < w2.heap.size))
              case first =>
                go_region_with (first | (go_at_call 46; (with_reducible refine (hput _ (Later.drew (Later.refl _))).mono ?_); rintro e w2 ⟨v, rfl, hrow, l2⟩; obtain ⟨A2, cap2, rfl, hs2, hb2⟩ := row_slice2 hrow (hQz) hQn.out; have hp2 := (hp.later (Later.drew (Later.refl _))).later l2; have r1 := (hp2.l.cell hm3).1; have r2 := (hp2.l.cell hm3).2))
                all_goals (go_wp2_with fail; go_meet; exact ⟨w2, A2, cap2, rfl, rfl, Below.trans (Later.drew (Later.refl _)) l2, hs2, hb2⟩)
              case rest =>
                obtain ⟨w2, A2, cap2, rfl, rfl, l2, hs2, hb2⟩ := hcut
                have hp2 := hp.later l2
                have hNL : N ≠ L := by omega
                have hNS : N ≠ S := by omega
                have kL : Chg (only L) w2 (w2.setCell ⟨L, m, none⟩ (.slice A2 n2 cap2)) := Chg.set _ _ rfl
                have hsh3 := ((hp2.shf m hm3).keep kL (fun b hb => .inr (.inl hb)) (fun e => (hp2.away m hm3).2 e))
                rw [hTm.out] at hsh3
                have hb3 : ∀ b, plX S L f' b → b < (w2.setCell ⟨L, m, none⟩ (.slice A2 n2 cap2)).heap.size := fun b hb => by have := hp2.below b hb; have := kL.size; omega
                obtain ⟨W3, hW3⟩ : ∃ W3, w2.setCell ⟨L, m, none⟩ (.slice A2 n2 cap2) = W3 := ⟨_, rfl⟩
                have y0 := kL.cell (l2.cell z0) (fun e => hNL e)
                have y1 := kL.cell (l2.cell z1) (fun e => hNL e)
                have y2 := kL.cell (l2.cell q0) (fun e => hp2.ne e)
                rw [hW3] at hsh3 hb3 kL y0 y1 y2 ⊢
                have hcells : ∀ W', Chg (only (f' m)) W3 W' → W'.cell? ⟨N, 0, none⟩ = some (.int .i64 o.x.1) ∧ W'.cell? ⟨N, 1, none⟩ = some (.int .i64 o.x.2) ∧ W'.cell? ⟨S, m, none⟩ = some (.pointer (some ⟨f' m, 0, none⟩)) := fun W' k' => ⟨k'.cell y0 (fun e => by have : N = f' m := e; omega), k'.cell y1 (fun e => by have : N = f' m := e; omega), k'.cell y2 (fun e => (hp2.away m hm3).1 e.symm)⟩
                have hd3 : Later W3 W3.drew := Later.drew (Later.refl _)
                have hd4 : Chg (only (f' m)) W3 W3.drew := Later.chg hd3
                have hadd := add_any (X := plX S L f') compR o.x (hsh3.later hd3) (fun b hb => Nat.lt_of_lt_of_le (hb3 b hb) hd3.size) (.inr (.inr ⟨m, hm3, rfl⟩)) (by omega)
                rw [hQ] at hadd
                clear y0 y1 y2 z0 z1 q0 q1 q2 hput hsh3 hb3
                go_wp2_with fail
                have hm4 : ((m : Int) < 3) := by omega
                have hm5 : (0 : Int) ≤ (m : Int) := by omega
                go_region_held3 (fun W' => Chg (only (f' m)) W3 W') (first | assumption | exact hd4 | exact Chg.trans hd4 g4) (first
                  | (go_at_call 22; (with_reducible refine hadd.mono ?_); rintro e w4 ⟨rfl, s4, g4⟩))
                have hP := Play.put hp2 hm3 hs2 (fun b o e => ⟨(hb2 b o e).2, fun hx => by have := hp.below b hx; have := (hb2 b o e).1; omega⟩) (by rw [← hQ]; exact put_rises ordR hri) (show Later _ W3.drew by rw [hQn.out, hW3]; exact hd3) s4 g4
                have hT2 : ∀ j, j < 3 → (upd T m Q.1 j).size ≤ k + 1 := fun j hj => by
                  by_cases e : j = m
                  · subst e; rw [upd_self]; exact hQs
                  · rw [upd_other _ _ e]; have := hsz j hj; omega
                have hl4 : Later w w4 := ((hlW1.next l2).far (by omega) (sb := L) (kL.trans (Later.chg hd3))).far (by omega) g4
                go_wp2_with fail
                go_meet
                exact ⟨rfl, _, _, _, _, hP, hT2, hfl', hl4⟩
            · by_cases k1 : o.kind % 8 = 1
              · have b0 : (o.kind % 8 == 0) = false := by simp [k0]
                have b1 : (o.kind % 8 == 1) = true := by simp [k1]
                have hput := fun W (l : Later W1 W) => put_ref o.x true (hsl.later l) hri (by omega)
                obtain ⟨Q, hQ⟩ : ∃ Q, Tm.put cmpR o.x true = Q := ⟨_, rfl⟩
                obtain ⟨e1, e2⟩ := put_list ordR o.x true Tm hri
                rw [hQ] at e1 e2
                rw [← e1, ← e2, hn] at hput
                have hQs : Q.1.size ≤ k + 1 := by have := (Tr.put_size cmpR o.x true Tm).2; rw [hQ] at this; omega
                have hQz : Q.1.list.length ≤ 4611686018427387904 := by rw [Tr.size_list]; omega
                obtain ⟨n2, hQn⟩ : ∃ n2, Q.1.list.length = n2 := ⟨_, rfl⟩
                replace hQn := hid hQn
                clear k0 k1 e1 e2
                replace hn := hid hn
                replace hnz := hid hnz
                replace hTm := hid hTm
                go_wp2_with fail
                obtain ⟨z0, z1⟩ := z
                clear hp1 hp2 d0 d1 d2 d3
                go_cut [10] (fun was wx => ∃ w2 A2 cap2, was = .bool Q.2 ∧ wx = w2.setCell ⟨L, m, none⟩ (.slice A2 n2 cap2) ∧ Later W1 w2 ∧ SliceAt w2 A2 cap2 Q.1.list ∧ (∀ b o, A2 = some ⟨b, o, none⟩ → W1.heap.size ≤ b ∧ b < w2.heap.size))
                case first =>
                  go_region_with (first | (go_at_call 46; (with_reducible refine (hput _ (Later.drew (Later.refl _))).mono ?_); rintro e w2 ⟨v, rfl, hrow, l2⟩; obtain ⟨A2, cap2, rfl, hs2, hb2⟩ := row_slice2 hrow (hQz) hQn.out; have hp2 := (hp.later (Later.drew (Later.refl _))).later l2; have r1 := (hp2.l.cell hm3).1; have r2 := (hp2.l.cell hm3).2))
                  all_goals (go_wp2_with fail; go_meet; exact ⟨w2, A2, cap2, rfl, rfl, Below.trans (Later.drew (Later.refl _)) l2, hs2, hb2⟩)
                case rest =>
                  obtain ⟨w2, A2, cap2, rfl, rfl, l2, hs2, hb2⟩ := hcut
                  have hp2 := hp.later l2
                  have hNL : N ≠ L := by omega
                  have hNS : N ≠ S := by omega
                  have kL : Chg (only L) w2 (w2.setCell ⟨L, m, none⟩ (.slice A2 n2 cap2)) := Chg.set _ _ rfl
                  have hsh3 := ((hp2.shf m hm3).keep kL (fun b hb => .inr (.inl hb)) (fun e => (hp2.away m hm3).2 e))
                  rw [hTm.out] at hsh3
                  have hb3 : ∀ b, plX S L f' b → b < (w2.setCell ⟨L, m, none⟩ (.slice A2 n2 cap2)).heap.size := fun b hb => by have := hp2.below b hb; have := kL.size; omega
                  obtain ⟨W3, hW3⟩ : ∃ W3, w2.setCell ⟨L, m, none⟩ (.slice A2 n2 cap2) = W3 := ⟨_, rfl⟩
                  have y0 := kL.cell (l2.cell z0) (fun e => hNL e)
                  have y1 := kL.cell (l2.cell z1) (fun e => hNL e)
                  have y2 := kL.cell (l2.cell q0) (fun e => hp2.ne e)
                  rw [hW3] at hsh3 hb3 kL y0 y1 y2 ⊢
                  have hcells : ∀ W', Chg (only (f' m)) W3 W' → W'.cell? ⟨N, 0, none⟩ = some (.int .i64 o.x.1) ∧ W'.cell? ⟨N, 1, none⟩ = some (.int .i64 o.x.2) ∧ W'.cell? ⟨S, m, none⟩ = some (.pointer (some ⟨f' m, 0, none⟩)) := fun W' k' => ⟨k'.cell y0 (fun e => by have : N = f' m := e; omega), k'.cell y1 (fun e => by have : N = f' m := e; omega), k'.cell y2 (fun e => (hp2.away m hm3).1 e.symm)⟩
                  have hd3 : Later W3 W3.drew := Later.drew (Later.refl _)
                  have hd4 : Chg (only (f' m)) W3 W3.drew := Later.chg hd3
                  have hadd := lay_any (X := plX S L f') compR o.x (hsh3.later hd3) (fun b hb => Nat.lt_of_lt_of_le (hb3 b hb) hd3.size) (.inr (.inr ⟨m, hm3, rfl⟩)) (by omega)
                  rw [hQ] at hadd
                  clear y0 y1 y2 z0 z1 q0 q1 q2 hput hsh3 hb3
                  go_wp2_with fail
                  have hm4 : ((m : Int) < 3) := by omega
                  have hm5 : (0 : Int) ≤ (m : Int) := by omega
                  go_region_held3 (fun W' => Chg (only (f' m)) W3 W') (first | assumption | exact hd4 | exact Chg.trans hd4 g4) (first
                    | (go_at_call 23; (with_reducible refine hadd.mono ?_); rintro e w4 ⟨rfl, s4, g4⟩))
                  have hP := Play.put hp2 hm3 hs2 (fun b o e => ⟨(hb2 b o e).2, fun hx => by have := hp.below b hx; have := (hb2 b o e).1; omega⟩) (by rw [← hQ]; exact put_rises ordR hri) (show Later _ W3.drew by rw [hQn.out, hW3]; exact hd3) s4 g4
                  have hT2 : ∀ j, j < 3 → (upd T m Q.1 j).size ≤ k + 1 := fun j hj => by
                    by_cases e : j = m
                    · subst e; rw [upd_self]; exact hQs
                    · rw [upd_other _ _ e]; have := hsz j hj; omega
                  have hl4 : Later w w4 := ((hlW1.next l2).far (by omega) (sb := L) (kL.trans (Later.chg hd3))).far (by omega) g4
                  go_wp2_with fail
                  go_meet
                  exact ⟨rfl, _, _, _, _, hP, hT2, hfl', hl4⟩
              · by_cases k2 : o.kind % 8 = 2
                · have b0 : (o.kind % 8 == 0) = false := by simp [k0]
                  have b1 : (o.kind % 8 == 1) = false := by simp [k1]
                  have b2 : (o.kind % 8 == 2) = true := by simp [k2]
                  have hput := fun W (l : Later W1 W) => rem_ref o.x (hsl.later l) hri (by omega)
                  obtain ⟨Q, hQ⟩ : ∃ Q, Tm.out cmpR o.x = Q := ⟨_, rfl⟩
                  obtain ⟨e1, e2⟩ := out_list ordR o.x Tm hri
                  rw [hQ] at e1 e2
                  rw [← e1, ← e2, hn] at hput
                  have hQs : Q.1.size ≤ k + 1 := by have := Tr.out_size cmpR o.x Tm; rw [hQ] at this; omega
                  have hQz : Q.1.list.length ≤ 4611686018427387904 := by rw [Tr.size_list]; omega
                  obtain ⟨n2, hQn⟩ : ∃ n2, Q.1.list.length = n2 := ⟨_, rfl⟩
                  replace hQn := hid hQn
                  clear k0 k1 k2 e1 e2
                  replace hn := hid hn
                  replace hnz := hid hnz
                  replace hTm := hid hTm
                  go_wp2_with fail
                  obtain ⟨z0, z1⟩ := z
                  clear hp1 hp2 d0 d1 d2 d3
                  go_cut [10] (fun was wx => ∃ w2 A2 cap2, was = .bool Q.2 ∧ wx = w2.setCell ⟨L, m, none⟩ (.slice A2 n2 cap2) ∧ Later W1 w2 ∧ SliceAt w2 A2 cap2 Q.1.list ∧ (∀ b o, A2 = some ⟨b, o, none⟩ → W1.heap.size ≤ b ∧ b < w2.heap.size))
                  case first =>
                    go_region_with (first | (go_at_call 47; (with_reducible refine (hput _ (Later.drew (Later.refl _))).mono ?_); rintro e w2 ⟨v, rfl, hrow, l2⟩; obtain ⟨A2, cap2, rfl, hs2, hb2⟩ := row_slice2 hrow (hQz) hQn.out; have hp2 := (hp.later (Later.drew (Later.refl _))).later l2; have r1 := (hp2.l.cell hm3).1; have r2 := (hp2.l.cell hm3).2))
                    all_goals (go_wp2_with fail; go_meet; exact ⟨w2, A2, cap2, rfl, rfl, Below.trans (Later.drew (Later.refl _)) l2, hs2, hb2⟩)
                  case rest =>
                    obtain ⟨w2, A2, cap2, rfl, rfl, l2, hs2, hb2⟩ := hcut
                    have hp2 := hp.later l2
                    have hNL : N ≠ L := by omega
                    have hNS : N ≠ S := by omega
                    have kL : Chg (only L) w2 (w2.setCell ⟨L, m, none⟩ (.slice A2 n2 cap2)) := Chg.set _ _ rfl
                    have hsh3 := ((hp2.shf m hm3).keep kL (fun b hb => .inr (.inl hb)) (fun e => (hp2.away m hm3).2 e))
                    rw [hTm.out] at hsh3
                    have hb3 : ∀ b, plX S L f' b → b < (w2.setCell ⟨L, m, none⟩ (.slice A2 n2 cap2)).heap.size := fun b hb => by have := hp2.below b hb; have := kL.size; omega
                    obtain ⟨W3, hW3⟩ : ∃ W3, w2.setCell ⟨L, m, none⟩ (.slice A2 n2 cap2) = W3 := ⟨_, rfl⟩
                    have y0 := kL.cell (l2.cell z0) (fun e => hNL e)
                    have y1 := kL.cell (l2.cell z1) (fun e => hNL e)
                    have y2 := kL.cell (l2.cell q0) (fun e => hp2.ne e)
                    rw [hW3] at hsh3 hb3 kL y0 y1 y2 ⊢
                    have hcells : ∀ W', Chg (only (f' m)) W3 W' → W'.cell? ⟨N, 0, none⟩ = some (.int .i64 o.x.1) ∧ W'.cell? ⟨N, 1, none⟩ = some (.int .i64 o.x.2) ∧ W'.cell? ⟨S, m, none⟩ = some (.pointer (some ⟨f' m, 0, none⟩)) := fun W' k' => ⟨k'.cell y0 (fun e => by have : N = f' m := e; omega), k'.cell y1 (fun e => by have : N = f' m := e; omega), k'.cell y2 (fun e => (hp2.away m hm3).1 e.symm)⟩
                    have hd3 : Later W3 W3.drew := Later.drew (Later.refl _)
                    have hd4 : Chg (only (f' m)) W3 W3.drew := Later.chg hd3
                    have hadd := remove_any (X := plX S L f') compR o.x (hsh3.later hd3) (fun b hb => Nat.lt_of_lt_of_le (hb3 b hb) hd3.size) (.inr (.inr ⟨m, hm3, rfl⟩)) (by omega)
                    rw [hQ] at hadd
                    clear y0 y1 y2 z0 z1 q0 q1 q2 hput hsh3 hb3
                    go_wp2_with fail
                    have hm4 : ((m : Int) < 3) := by omega
                    have hm5 : (0 : Int) ≤ (m : Int) := by omega
                    go_region_held3 (fun W' => Chg (only (f' m)) W3 W') (first | assumption | exact hd4 | exact Chg.trans hd4 g4) (first
                      | (go_at_call 24; (with_reducible refine hadd.mono ?_); rintro e w4 ⟨rfl, s4, g4⟩))
                    have hP := Play.put hp2 hm3 hs2 (fun b o e => ⟨(hb2 b o e).2, fun hx => by have := hp.below b hx; have := (hb2 b o e).1; omega⟩) (by rw [← hQ]; exact out_rises ordR hri) (show Later _ W3.drew by rw [hQn.out, hW3]; exact hd3) s4 g4
                    have hT2 : ∀ j, j < 3 → (upd T m Q.1 j).size ≤ k + 1 := fun j hj => by
                      by_cases e : j = m
                      · subst e; rw [upd_self]; exact hQs
                      · rw [upd_other _ _ e]; have := hsz j hj; omega
                    have hl4 : Later w w4 := ((hlW1.next l2).far (by omega) (sb := L) (kL.trans (Later.chg hd3))).far (by omega) g4
                    go_wp2_with fail
                    go_meet
                    exact ⟨rfl, _, _, _, _, hP, hT2, hfl', hl4⟩
                · by_cases k7 : o.kind % 8 = 7
                  · have b0 : (o.kind % 8 == 0) = false := by simp [k0]
                    have b1 : (o.kind % 8 == 1) = false := by simp [k1]
                    have b2 : (o.kind % 8 == 2) = false := by simp [k2]
                    have b7 : (o.kind % 8 == 7) = true := by simp [k7]
                    have hfz := freeze_any ((hp.shf m hm3).more (Y := fun b => plX S L f' b ∨ W1.heap.size ≤ b) fun b hb hlt => hb.resolve_right (by omega))
                    obtain ⟨tq, hto⟩ : ∃ tq, (m + 1) % 3 = tq := ⟨_, rfl⟩
                    have hto3 : tq < 3 := by omega
                    have htm : ((m : Int) + 1).tmod 3 = (tq : Int) := by rw [Int.tmod_eq_emod_of_nonneg (by omega)]; omega
                    clear k0 k1 k2 k7 z hp1 hp2 d0 d1 d2 d3 hto
                    replace hn := hid hn
                    replace hnz := hid hnz
                    replace hTm := hid hTm
                    replace ham := hid ham
                    replace hcm := hid hcm
                    go_wp2_with fail
                    go_at_call 20; refine hfz.mono ?_; rintro e W2 ⟨nb, rfl, hnb, l2, s2⟩
                    have hcp := Play.copy hp hm3 hto3 l2 hnb s2
                    rw [hTm.out, ham.out, hcm.out, hn.out] at hcp
                    have hp2 := hp.later l2
                    have t0 := (hp2.s.cell hto3).1
                    have t1 := (hp2.s.cell hto3).2
                    have kS : Chg (only S) W2 (W2.setCell ⟨S, tq, none⟩ (.pointer (some ⟨nb, 0, none⟩))) := Chg.set _ _ rfl
                    have u0 := (((hp2.l.keep kS (fun e => hp2.ne e.symm)).cell hm3).1)
                    have u1 := (((hp2.l.keep kS (fun e => hp2.ne e.symm)).cell hto3).1)
                    have u2 := (((hp2.l.keep kS (fun e => hp2.ne e.symm)).cell hto3).2)
                    have v0 := (hcp.s.cell hto3).1
                    rw [upd_self] at v0
                    rw [hTm.out, ham.out, hcm.out, hn.out] at u0
                    have kL : Chg (only L) (W2.setCell ⟨S, tq, none⟩ (.pointer (some ⟨nb, 0, none⟩))) ((W2.setCell ⟨S, tq, none⟩ (.pointer (some ⟨nb, 0, none⟩))).setCell ⟨L, tq, none⟩ (.slice am n cm)) := Chg.set _ _ rfl
                    have hl4 : Later w ((W2.setCell ⟨S, tq, none⟩ (.pointer (some ⟨nb, 0, none⟩))).setCell ⟨L, tq, none⟩ (.slice am n cm)) := (((hlW1.next l2).far (by omega) kS)).far (by omega) kL
                    have hT2 : ∀ j, j < 3 → (upd T tq Tm j).size ≤ k + 1 := fun j hj => by
                      by_cases e : j = tq
                      · subst e; rw [upd_self]; omega
                      · rw [upd_other _ _ e]; have := hsz j hj; omega
                    have hf4 : ∀ j, j < 3 → L < upd f' tq nb j := fun j hj => by
                      by_cases e : j = tq
                      · subst e; rw [upd_self]; have := hp.l.lt; omega
                      · rw [upd_other _ _ e]; exact hfl' j hj
                    go_wp2_with fail
                    go_meet
                    exact ⟨rfl, _, _, _, _, hcp, hT2, hf4, hl4⟩
                  · have b0 : (o.kind % 8 == 0) = false := by simp [k0]
                    have b1 : (o.kind % 8 == 1) = false := by simp [k1]
                    have b2 : (o.kind % 8 == 2) = false := by simp [k2]
                    have b7 : (o.kind % 8 == 7) = false := by simp [k7]
                    clear k0 k1 k2 k7 z hp1 hp2
                    have hG0 := Later.drew (Later.refl W1)
                    obtain ⟨Good, hGd⟩ : ∃ G : World → Prop, ∀ W', G W' ↔ Later W1 W' := ⟨_, fun _ => Iff.rfl⟩
                    replace hG0 := (hGd _).2 hG0
                    have hne : Nonempty (InG Good) := ⟨⟨_, hG0⟩⟩
                    have g1 : ∀ p : InG Good, Calls Try.prog 48 #[.pointer (some ⟨f' m, 0, none⟩), .slice am n cm, .agg #[.int .i64 o.on, .int .i64 o.kind, .int .i64 o.x.1, .int .i64 o.x.2]] p.W fun e w'' => e = .returned (.bool true) ∧ ∃ p' : InG Good, w'' = p'.W := fun p => (asked_any (o := o) (hshf.later ((hGd _).1 p.h)) (hsl.later ((hGd _).1 p.h)) hn hri (by omega)).mono fun e w'' hh => ⟨hh.1, ⟨w'', (hGd _).2 (((hGd _).1 p.h).next hh.2)⟩, rfl⟩
                    have f0 : ∀ p : InG Good, p.W.cell? ⟨S, m, none⟩ = some (.pointer (some ⟨f' m, 0, none⟩)) ∧ p.W.cell? ⟨L, m, none⟩ = some (.slice am n cm) ∧ p.W.cell? ⟨b, fo + k * 4, none⟩ = some (.int .i64 o.on) ∧ p.W.cell? ⟨b, fo + k * 4 + 1, none⟩ = some (.int .i64 o.kind) ∧ p.W.cell? ⟨b, fo + k * 4 + 2, none⟩ = some (.int .i64 o.x.1) ∧ p.W.cell? ⟨b, fo + k * 4 + 2 + 1, none⟩ = some (.int .i64 o.x.2) := fun p => by
                      have lp := (hGd _).1 p.h
                      exact ⟨lp.cell q0, lp.cell q1, lp.cell d0, lp.cell d1, lp.cell d2, lp.cell d3⟩
                    replace hGd := hid hGd
                    replace hn := hid hn
                    replace hnz := hid hnz
                    replace hTm := hid hTm
                    clear hshf d0 d1 d2 d3 q0 q1
                    go_wp2_with fail
                    refine region_in Good (by kernel_rfl) (by kernel_rfl) hG0 ?_
                    repeat (go_big_quiet_step ((go_at_call 48; exact g1 _)))
                    refine wpQuiet_nil ?_
                    intro w7 hw7
                    have l7 := (hGd.out _).1 hw7
                    clear g1 f0 hGd hne hG0 hw7
                    go_wp2_with fail
                    go_meet
                    exact ⟨rfl, _, _, _, _, hp.later l7, fun j hj => by have := hsz j hj; omega, hfl', hlW1.next l7⟩
          case rest =>
            obtain ⟨rfl, f2, T2, av2, cp2, hP2, hz2, hf2, hl2⟩ := hcut
            obtain ⟨W5, hW5⟩ := hP2.world
            subst hW5
            obtain ⟨n5, hn5⟩ : ∃ n5, (T2 m).list.length = n5 := ⟨_, rfl⟩
            have hn5' : n5 = (T2 m).size := by rw [← hn5]; exact Tr.size_list _
            have hG0 := Later.drew (Later.refl W5)
            obtain ⟨Good, hGd⟩ : ∃ G : World → Prop, ∀ W', G W' ↔ Later W5 W' := ⟨_, fun _ => Iff.rfl⟩
            replace hG0 := (hGd _).2 hG0
            have hne : Nonempty (InG Good) := ⟨⟨_, hG0⟩⟩
            have g1 : ∀ p : InG Good, Calls Try.prog 26 #[.pointer (some ⟨f2 m, 0, none⟩)] p.W fun e w'' => e = .returned (.int .i64 n5) ∧ ∃ p' : InG Good, w'' = p'.W := fun p => (len_is ((hP2.shf m hm3).later ((hGd _).1 p.h)) hn5').mono fun e w'' hh => ⟨hh.1, p, hh.2.symm⟩
            have f0 : ∀ p : InG Good, p.W.cell? ⟨S, m, none⟩ = some (.pointer (some ⟨f2 m, 0, none⟩)) ∧ p.W.cell? ⟨L, m, none⟩ = some (.slice (av2 m) n5 (cp2 m)) := fun p => by
              have lp := (hGd _).1 p.h
              have h2 := lp.cell (hP2.l.cell hm3).1
              rw [hn5] at h2
              exact ⟨lp.cell (hP2.s.cell hm3).1, h2⟩
            replace hGd := hid hGd
            replace hn5 := hid hn5
            replace hn5' := hid hn5'
            go_wp2_with fail
            refine region_in Good (by kernel_rfl) (by kernel_rfl) hG0 ?_
            repeat (go_big_quiet_step ((go_at_call 26; exact g1 _)))
            refine wpQuiet_nil ?_
            intro w7 hw7
            have l7 := (hGd.out _).1 hw7
            clear g1 f0 hGd hne hG0 hw7
            go_wp2_with fail
            go_roundw
            case rel => exact ⟨k + 1, f2, T2, av2, cp2, by omega, by go_num, hP2.later l7, hz2, hf2, hl2.next l7⟩
            case measure => simp [intOf]; omega
        · obtain rfl : k = ops.length := by omega
          clear hlt hk
          obtain ⟨Wx, hWx⟩ := hpl.world
          subst hWx
          have hlB := hlen
          clear hborn
          go_wp2_with fail
          go_loopw [12] (fun i wr => ∃ k : Nat, k ≤ 3 ∧ i = .int .i64 k ∧ Later Wx wr) (fun i _ => 3 - (intOf i).toNat)
          case atStart => exact ⟨0, Nat.zero_le _, rfl, Later.refl _⟩
          case round =>
            obtain ⟨k, hk, rfl, lk⟩ := hrel
            by_cases hlt : k < 3
            · have hp := hpl.later lk
              obtain ⟨Tm, hTm⟩ : ∃ Tm, T k = Tm := ⟨_, rfl⟩
              obtain ⟨n, hn⟩ : ∃ n, Tm.list.length = n := ⟨_, rfl⟩
              have hnz : n = Tm.size := by rw [← hn]; exact Tr.size_list Tm
              have hTz := hsz k hlt
              have hs := hp.shf k hlt
              have hl := hp.sl k hlt
              rw [hTm] at hTz hs hl
              obtain ⟨Wr, hWr⟩ := hp.world
              subst hWr
              have hS : ∀ W', Later Wr W' → W'.cell? ⟨S, k, none⟩ = some (.pointer (some ⟨f' k, 0, none⟩)) ∧ W'.cell? ⟨L, k, none⟩ = some (.slice (av k) n (cp k)) := fun W' l' => by
                have h2 := l'.cell (hp.l.cell hlt).1
                rw [hTm, hn] at h2
                exact ⟨l'.cell (hp.s.cell hlt).1, h2⟩
              have hle : ∀ W, Later Wr W → Calls Try.prog 26 #[.pointer (some ⟨f' k, 0, none⟩)] W fun e w' => e = .returned (.int .i64 n) ∧ Later W w' := fun W lw => (len_is (hs.later lw) hnz).mono fun e w' h => ⟨h.1, h.2 ▸ Later.refl _⟩
              have hal : ∀ W, Later Wr W → _ := fun W lw => all_any (hs.later lw)
              have hga : ∀ W bt, AllAt (plX S L f') W bt Tm → _ := fun W bt a8 => gathered_all a8 (m := n + 1) (by omega) (by omega)
              have hwr : IntKind.i64.wrap ((n : Int) + 1) = (n : Int) + 1 := by rw [IntKind.wrap_i64]; omega
              rw [show ((n + 1 : Nat) : Int) = IntKind.i64.wrap ((n : Int) + 1) by rw [hwr]; omega] at hga
              clear hwr
              have hsm : ∀ W B1 c1, Later Wr W → SliceAt W B1 c1 Tm.list → Calls Try.prog 14 #[.slice B1 n c1, .slice (av k) n (cp k)] W fun e w' => e = .returned (.bool true) ∧ Later W w' := fun W B1 c1 lw q1 => by
                have := same_ref q1 (hl.later lw)
                rw [hn, decide_eq_true rfl] at this
                exact this
              have hnb : n ≤ 13999999999999 := by omega
              replace hn := hid hn
              replace hnz := hid hnz
              replace hTm := hid hTm
              clear hs hl hp hpl
              go_wp2_with fail
              go_region_held3 (fun W' => Later Wr W') (first | assumption | exact Later.drew (Later.refl _)) (first
                | (go_at_call 26; (with_reducible refine (hle _ (by assumption)).mono ?_); rintro e w6 ⟨rfl, l6⟩; have lw6 : Later Wr w6 := Later.next (by assumption) l6)
                | (go_at_call 19; (with_reducible refine (hal _ (by assumption)).mono ?_); rintro e w8 ⟨rfl, l8, a8⟩; have lw8 : Later Wr w8 := Later.next (by assumption) l8)
                | (go_at_call 18; (with_reducible refine (hga _ _ a8).mono ?_); rintro e w9 ⟨v, rfl, hrow, l9⟩; have lw9 : Later Wr w9 := Later.next lw8 l9; obtain ⟨A3, cap3, rfl, hs3, _⟩ := row_slice2 hrow (by rw [hn.out]; omega) hn.out)
                | (go_at_call 14; (with_reducible refine (hsm _ _ _ lw9 hs3).mono ?_); rintro e w11 ⟨rfl, l11⟩; have lw11 : Later Wr w11 := Later.next lw9 l11))
              go_wp2_with fail
              go_roundw
              case rel => exact ⟨k + 1, by omega, by go_num, lk.next lw11⟩
              case measure => simp [intOf]; omega
            · obtain rfl : k = 3 := by omega
              rw [show ((3 : Nat) : Int) = 3 from rfl]
              go_wp2_with fail
              go_at_call 16; refine (awake_any _).mono ?_; rintro e w5 ⟨rfl, l5⟩
              have hfin := (hlw'.next lk).next l5
              go_wp2_with fail
              go_ret
              exact ⟨rfl, hfin⟩
end Go.Proofs.Yteledidnhjioaaa.Sh
