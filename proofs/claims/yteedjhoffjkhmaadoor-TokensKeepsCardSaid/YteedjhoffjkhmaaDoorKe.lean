import Derived.Test.YteedjhoffjkhmaaDoorKd
namespace Go.Proofs.YteedjhoffjkhmaaDoor.Ka
open Go.RowKit Go.Lib Go.Proofs
set_option linter.unusedVariables false
set_option linter.unusedSimpArgs false
set_option maxRecDepth 100000 in
set_option maxHeartbeats 20000000 in
theorem apart_tokens {w : World} {O : Nat} {A : Nat → Option Addr} {n c : Nat → Nat} (h3 : Three w O A n c) (hr : ∀ j, j < 3 → ∃ M : List Tk, M.length = n j ∧ TR w (.slice (A j) (n j) (c j)) M) :
    Calls Tryd.prog 27 #[.slice (some ⟨O, 0, none⟩) 3 3] w fun e V => e = .returned (.bool true) ∧ Chg (XB A) w V := by
  go_enter Tryd.func27, Tryd.ntmps27
  go_upto_block 0 with fail
  go_cut [] (fun wx => Mks w wx A n c 3 0)
  case first =>
    have hs0 : Mks w w A n c 0 0 := ⟨by
      refine ⟨fun j => if hj : j < 3 then (hr j hj).choose else [], fun j hj => ?_, fun j q _ h => by omega⟩
      simp only [dif_pos hj]
      exact (hr j hj).choose_spec, Chg.refl _ _⟩
    go_wp2_with fail
    go_loopw [3] (fun i wr => ∃ k : Nat, k ≤ 3 ∧ i = .int .i64 k ∧ Mks w wr A n c k 0) (fun i _ => 3 - (intOf i).toNat)
    case atStart => exact ⟨0, by omega, rfl, hs0⟩
    case round =>
      obtain ⟨k, hk, rfl, hs⟩ := hrel
      by_cases hlt : k < 3
      · have hd3 : decide ((k : Int) < 3) = true := by simp; omega
        have hbd := h3.bd k hlt
        go_wp2_with fail
        go_loopw [4] (fun i V => ∃ q : Nat, q ≤ n k ∧ i = .int .i64 q ∧ Mks w V A n c k q) (fun i _ => n k - (intOf i).toNat)
        case atStart => exact ⟨0, Nat.zero_le _, rfl, hs⟩
        case round =>
          obtain ⟨q, hq, rfl, hs2⟩ := hrel
          have hbox := hs2.chg.cell h3.notO (h3.box k hlt)
          by_cases hlt2 : q < n k
          · obtain ⟨g, hg, hop⟩ := hs2.at h3 hlt (by omega)
            have hgO : g ≠ O := (h3.form k g 0 none hlt hg).2.2.1
            have hbx : ∀ W', Chg (only g) wr W' → W'.cell? ⟨O, k, none⟩ = some (.slice (some ⟨g, 0, none⟩) (n k) (c k)) := fun W' l => by rw [← hg]; exact l.cell (fun e => hgO e.symm) hbox
            have hmk := fun W => mark_any (k : Int) (q : Int) W
            have h0 := Later.drew (Later.refl wr)
            have c0 : Chg (only g) wr wr.drew := h0.chg
            have ik0 : (0 : Int) ≤ (k : Int) := by omega
            have ik1 : (k : Int) < 3 := by omega
            have iq0 : (0 : Int) ≤ (q : Int) := by omega
            have iq1 : (q : Int) < ((n k : Nat) : Int) := by omega
            clear hbox
            have hb0 := hbx wr (Chg.refl _ _)
            go_upto_region 7 with fail
            go_region_held3 (fun W' => Chg (only g) wr W') (first | assumption | exact Chg.trans (by assumption) (setT_chg _ _ _ ⟨-7, mk (k : Int) (q : Int), 0, 0⟩)) (first
              | (go_at_call 35; (with_reducible refine (hmk _).mono ?_); rintro e w3 ⟨rfl, l3⟩; have lw3 : Later wr w3 := Later.next (by assumption) l3; have c3 : Chg (only g) wr w3 := lw3.chg; obtain ⟨⟨u0, f0⟩, g0⟩ := hop (q * 4) w3 lw3 (by omega); obtain ⟨⟨u1, f1⟩, g1⟩ := hop (q * 4 + 1) w3 lw3 (by omega); obtain ⟨⟨u2, f2⟩, g2⟩ := hop (q * 4 + 2) w3 lw3 (by omega); obtain ⟨⟨u3, f3⟩, g3⟩ := hop (q * 4 + 3) w3 lw3 (by omega)))
            all_goals
              have hst := hs2.step h3 hlt hlt2 hg lw3
              clear hbx hop hmk hb0 c0 c3 u0 u1 u2 u3 f0 f1 f2 f3 g0 g1 g2 g3
              change Mks w ((((w3.setCell { block := g, off := q * 4 } (Value.int IntKind.i64 (-7))).setCell { block := g, off := q * 4 + 1 } (Value.string (mk ↑k ↑q))).setCell { block := g, off := q * 4 + 2 } (Value.int IntKind.i64 0)).setCell { block := g, off := q * 4 + 3 } (Value.int IntKind.i64 0)) A n c k (q + 1) at hst
              generalize ((((w3.setCell { block := g, off := q * 4 } (Value.int IntKind.i64 (-7))).setCell { block := g, off := q * 4 + 1 } (Value.string (mk ↑k ↑q))).setCell { block := g, off := q * 4 + 2 } (Value.int IntKind.i64 0)).setCell { block := g, off := q * 4 + 3 } (Value.int IntKind.i64 0)) = W9 at hst ⊢
              go_wp2_with fail
              exact ⟨⟨q + 1, by omega, by go_num, hst⟩, by simp [intOf]; omega⟩
          · have hq2 : q = n k := by omega
            have hst := hs2.next (by omega)
            have hd : decide ((q : Int) < ((n k : Nat) : Int)) = false := by simp; omega
            go_wp2_with fail
            exact ⟨⟨k + 1, by omega, by go_num, hst⟩, by simp [intOf]; omega⟩
      · obtain rfl : k = 3 := by omega
        go_wp2_with fail
        go_meet
        exact hs
  case rest =>
    clear hr
    go_upto_block 4 with fail
    go_cut [5] (fun gv wx => ∃ gb gc, Gs w wx A n c 3 gb gc gv)
    case first =>
      go_wp2_with fail
      go_loopw [5, 6] (fun gv i wr => ∃ (k : Nat) (gb gc : Nat → Nat), k ≤ 3 ∧ i = .int .i64 k ∧ Gs w wr A n c k gb gc gv) (fun _ i _ => 3 - (intOf i).toNat)
      case atStart => exact ⟨0, fun _ => 0, fun _ => 0, by omega, rfl, hcut.gs⟩
      case round =>
        obtain ⟨k, gb, gc, hk, rfl, hs⟩ := hrel
        by_cases hlt : k < 3
        · have hd3 : decide ((k : Int) < 3) = true := by simp; omega
          have hbd := h3.bd k hlt
          have hbox := hs.chg.cell h3.notO (h3.box k hlt)
          obtain ⟨i0, hi0, hz0, hz1, hz2⟩ := info_parts info22
          have hgi := hs.start h3 hlt
          go_wp2_with fail
          go_loopw [7, 8] (fun v i W' => ∃ q : Nat, q ≤ 64 ∧ i = .int .i64 q ∧ Gi w W' A n c k gb gc u5 v q) (fun _ i _ => 64 - (intOf i).toNat)
          case atStart => exact ⟨0, by omega, rfl, hgi⟩
          case round =>
            obtain ⟨q, hq, rfl, hg⟩ := hrel
            have hbox2 := hg.g.chg.cell h3.notO (h3.box k hlt)
            by_cases hlt2 : q < 64
            · obtain ⟨S, hS⟩ : ∃ S, tk k (n k + q) = ⟨-7, S, 0, 0⟩ := ⟨_, rfl⟩
              have hmk : ∀ W, Calls Tryd.prog 35 #[.int .i64 (k : Int), .int .i64 ((n k : Int) + (q : Int))] W fun e w' => e = .returned (.string S) ∧ Later W w' := fun W => by
                have h := mark_any (k : Int) ((n k : Int) + (q : Int)) W
                have e : mk (k : Int) ((n k : Int) + (q : Int)) = S := by
                  have h0 : (tk k (n k + q)).s = S := by rw [hS]
                  rw [← h0]
                  show _ = mk _ _
                  rw [Int.natCast_add]
                rw [e] at h
                exact h
              replace hS := hid hS
              go_wp2_with (first
                | (go_at_call 35; (with_reducible refine (hmk _).mono ?_); rintro e w3 ⟨rfl, l3⟩)
                | (at_builtin; refine append_toksN (l := fullr k (n k + q)) (l2 := [⟨-7, S, 0, 0⟩]) (N := n k + q) rfl rfl rfl rfl ((hg.r.later l3).later ((Later.refl _).alloc _)) (fullr_len _ _) rfl (World.news_of_block (World.alloc_heap_new _ _)) (by decide) (by omega) ?_; intro g cap w9 hr9 hat))
              have hst := (hg.later (l3.next ((Later.refl _).alloc (.cells #[.int .i64 (-7), .string S, .int .i64 0, .int .i64 0] 37)))).step h3 hlt (by rw [hS.out]; exact hr9) hat
              exact ⟨⟨q + 1, by omega, by go_num, hst⟩, by simp [intOf]; omega⟩
            · obtain rfl : q = 64 := by omega
              obtain ⟨g, cap, rfl⟩ := hg.form (by decide)
              have hsz := hg.g.chg.size
              go_wp2_with (at_builtin; refine wpList_append_own_wide _ rfl _ _ 50 rfl w.heap.size 22 i0 (.slice none 0 0) 1 24 Tryd.underlying50 hi0 hz0 hz1 hz2 rfl (by decide) _ k _ rfl (hg.g.gs.later ((Later.refl _).alloc _)) ⟨_, 0, none⟩ 1 1 [.slice (some ⟨g, 0, none⟩) (n k + 64) cap] rfl rfl (cell_one_new _ _ _) (by simp [Value.oneCell']) (by unfold maxLen; omega) (by omega) (by rw [World.size_alloc]; omega) ?_; intro v' w9 hown' hgrow _)
              have hst := (hg.later ((Later.refl _).alloc (.cells #[.slice (some ⟨g, 0, none⟩) (n k + 64) cap] 22))).done rfl hown' hgrow (fun b hb => (World.ownsRow.lt hg.g.gs b hb).1)
              exact ⟨⟨k + 1, _, _, by omega, by go_num, hst⟩, by simp [intOf]; omega⟩
        · obtain rfl : k = 3 := by omega
          go_wp2_with fail
          go_meet
          exact ⟨gb, gc, hs⟩
    case rest =>
      obtain ⟨gb, gc, hs⟩ := hcut
      obtain ⟨sb, cp, cur, rfl, hsb, _⟩ := hs.gs.form (by decide)
      have hgsl : ∀ W' k, Later wc W' → k < 3 → W'.cell? ⟨sb, k, none⟩ = some (GV n gb gc k) := fun W' k l hk => (hs.gs.later l).at3 hk
      have hbxl : ∀ W' k, Later wc W' → k < 3 → W'.cell? ⟨O, k, none⟩ = some (.slice (A k) (n k) (c k)) := fun W' k l hk => l.cell (hs.chg.cell h3.notO (h3.box k hk))
      go_upto_block 8 with fail
      go_cut [] (fun wx => Later wc wx)
      case first =>
        go_wp2_with fail
        go_loopw [9] (fun i W' => ∃ k : Nat, k ≤ 3 ∧ i = .int .i64 k ∧ Later wc W') (fun i _ => 3 - (intOf i).toNat)
        case atStart => exact ⟨0, by omega, rfl, Later.refl _⟩
        case round =>
          obtain ⟨k, hk, rfl, l0⟩ := hrel
          by_cases hlt : k < 3
          · have hd3 : decide ((k : Int) < 3) = true := by simp; omega
            have hbd := h3.bd k hlt
            have hgk := hgsl wr k l0 hlt
            go_wp2_with fail
            go_loopw [10] (fun i W' => ∃ q : Nat, q ≤ n k + 64 ∧ i = .int .i64 q ∧ Later wc W') (fun i _ => n k + 64 - (intOf i).toNat)
            case atStart => exact ⟨0, by omega, rfl, l0⟩
            case round =>
              obtain ⟨q, hq, rfl, l1⟩ := hrel
              have hgk2 := hgsl wr k l1 hlt
              by_cases hlt2 : q < n k + 64
              · obtain ⟨S, hS⟩ : ∃ S, tk k q = ⟨-7, S, 0, 0⟩ := ⟨_, rfl⟩
                have hmk : ∀ W, Calls Tryd.prog 35 #[.int .i64 (k : Int), .int .i64 (q : Int)] W fun e w' => e = .returned (.string S) ∧ Later W w' := fun W => by
                  have h := mark_any (k : Int) (q : Int) W
                  have e : mk (k : Int) (q : Int) = S := by
                    have h0 : (tk k q).s = S := by rw [hS]
                    exact h0
                  rw [e] at h
                  exact h
                have heq := fun W => eq37_self S W
                have hG0 := Later.drew (Later.refl wr)
                obtain ⟨Good, hGd⟩ : ∃ G : World → Prop, ∀ W', G W' ↔ Later wr W' := ⟨_, fun _ => Iff.rfl⟩
                replace hG0 := (hGd _).2 hG0
                have hne : Nonempty (InG Good) := ⟨⟨_, hG0⟩⟩
                have f0 : ∀ p : InG Good, p.W.cell? ⟨sb, k, none⟩ = some (.slice (some ⟨gb k, 0, none⟩) (n k + 64) (gc k)) := fun p => hgsl p.W k (l1.next ((hGd _).1 p.h)) hlt
                have f1 : ∀ p : InG Good, p.W.cell? ⟨gb k, q * 4, none⟩ = some (.int .i64 (-7)) ∧ p.W.cell? ⟨gb k, q * 4 + 1, none⟩ = some (.string S) ∧ p.W.cell? ⟨gb k, q * 4 + 2, none⟩ = some (.int .i64 0) ∧ p.W.cell? ⟨gb k, q * 4 + 3, none⟩ = some (.int .i64 0) := fun p => by
                  have h := ((hs.gro k hlt).later (l1.next ((hGd _).1 p.h))).cells (fullr_at (j := k) hlt2)
                  rw [hS] at h
                  exact h
                have f2 : ∀ p : InG Good, p.W.cell? ⟨O, k, none⟩ = some (.slice (A k) (n k) (c k)) := fun p => hbxl p.W k (l1.next ((hGd _).1 p.h)) hlt
                have hm2 : ∀ p : InG Good, Calls Tryd.prog 35 #[.int .i64 (k : Int), .int .i64 (q : Int)] p.W fun e w'' => e = .returned (.string S) ∧ ∃ p' : InG Good, w'' = p'.W := fun p => (hmk p.W).mono fun e w'' hh => ⟨hh.1, ⟨w'', (hGd _).2 (((hGd _).1 p.h).next hh.2)⟩, rfl⟩
                by_cases hqn : q < n k
                · obtain ⟨g, hg, _⟩ : ∃ g, A k = some ⟨g, 0, none⟩ ∧ True := by
                    obtain ⟨g, cap, e⟩ := (hs.row k hlt).form (by rw [fullr_len]; omega)
                    injection e with e _ _
                    exact ⟨g, e, trivial⟩
                  have f3 : ∀ p : InG Good, p.W.cell? ⟨g, q * 4, none⟩ = some (.int .i64 (-7)) ∧ p.W.cell? ⟨g, q * 4 + 1, none⟩ = some (.string S) ∧ p.W.cell? ⟨g, q * 4 + 2, none⟩ = some (.int .i64 0) ∧ p.W.cell? ⟨g, q * 4 + 3, none⟩ = some (.int .i64 0) := fun p => by
                    have h := ((hs.row k hlt).later (l1.next ((hGd _).1 p.h)))
                    rw [hg] at h
                    have h := h.cells (fullr_at (j := k) hqn)
                    rw [hS] at h
                    exact h
                  rw [hg] at f2
                  have d1 : decide ((q : Int) < (n k : Int)) = true := by simp; omega
                  replace hS := hid hS
                  replace hGd := hid hGd
                  clear hmk
                  go_wp2_with fail
                  refine region_in Good (by kernel_rfl) (by kernel_rfl) hG0 ?_
                  repeat (go_big_quiet_step ((first | (go_at_call 35; with_reducible exact hm2 _))))
                  refine wpQuiet_nil ?_
                  intro V8 hw8
                  have l68 := (hGd.out _).1 hw8
                  clear hG0 hGd hne f0 f1 f2 f3 hw8 hm2 Good
                  go_wp2_with fail
                  exact ⟨⟨q + 1, by omega, by go_num, l1.next l68⟩, by simp [intOf]; omega⟩
                · have d1 : decide ((q : Int) < (n k : Int)) = false := by simp; omega
                  replace hS := hid hS
                  replace hGd := hid hGd
                  clear hmk
                  go_wp2_with fail
                  refine region_in Good (by kernel_rfl) (by kernel_rfl) hG0 ?_
                  repeat (go_big_quiet_step ((first | (go_at_call 35; with_reducible exact hm2 _))))
                  refine wpQuiet_nil ?_
                  intro V8 hw8
                  have l68 := (hGd.out _).1 hw8
                  clear hG0 hGd hne f0 f1 f2 hw8 hm2 Good
                  go_wp2_with fail
                  exact ⟨⟨q + 1, by omega, by go_num, l1.next l68⟩, by simp [intOf]; omega⟩
              · obtain rfl : q = n k + 64 := by omega
                go_wp2_with fail
                exact ⟨⟨k + 1, by omega, by go_num, l1⟩, by simp [intOf]; omega⟩
          · obtain rfl : k = 3 := by omega
            go_wp2_with fail
            go_meet
            exact l0
      case rest =>
        have hs4 := (hs.later hcut).hs (hb := fun _ => 0) (hc := fun _ => 0)
        clear hs hgsl hbxl hcut hsb
        go_upto_block 12 with fail
        go_cut [] (fun wx => ∃ hb hc, Hs w wx A n c 3 hb hc (.slice (some ⟨sb, 0, none⟩) 3 cp))
        case first =>
          go_wp2_with fail
          go_loopw [11] (fun i W' => ∃ (k : Nat) (hb hc : Nat → Nat), k ≤ 3 ∧ i = .int .i64 k ∧ Hs w W' A n c k hb hc (.slice (some ⟨sb, 0, none⟩) 3 cp)) (fun i _ => 3 - (intOf i).toNat)
          case atStart => exact ⟨0, _, _, by omega, rfl, hs4⟩
          case round =>
            obtain ⟨k, hb, hc, hk, rfl, hs5⟩ := hrel
            by_cases hlt : k < 3
            · have hd3 : decide ((k : Int) < 3) = true := by simp; omega
              have hbd := h3.bd k hlt
              generalize wr = W1 at hs5 ⊢
              have hm0 : Mn W1 W1 (k + 3) (.slice none 0 0) 0 := ⟨Later.refl _, World.ownsRow_nil .., fun b e => by cases e⟩
              go_wp2_with fail
              go_loopw [12, 13] (fun mv i W' => ∃ q : Nat, q ≤ 64 ∧ i = .int .i64 q ∧ Mn W1 W' (k + 3) mv q) (fun _ i _ => 64 - (intOf i).toNat)
              case atStart => exact ⟨0, by omega, rfl, hm0⟩
              case round =>
                obtain ⟨q, hq, rfl, hm⟩ := hrel
                by_cases hlt2 : q < 64
                · obtain ⟨S, hS⟩ : ∃ S, tk (k + 3) q = ⟨-7, S, 0, 0⟩ := ⟨_, rfl⟩
                  have hmk : ∀ W, Calls Tryd.prog 35 #[.int .i64 ((k : Int) + 3), .int .i64 (q : Int)] W fun e w' => e = .returned (.string S) ∧ Later W w' := fun W => by
                    have h := mark_any ((k : Int) + 3) (q : Int) W
                    have e : mk ((k : Int) + 3) (q : Int) = S := by
                      have h0 : (tk (k + 3) q).s = S := by rw [hS]
                      exact h0
                    rw [e] at h
                    exact h
                  replace hS := hid hS
                  go_wp2_with (first
                    | (go_at_call 35; (with_reducible refine (hmk _).mono ?_); rintro e w3 ⟨rfl, l3⟩)
                    | (at_builtin; refine append_toksN (l := manyr (k + 3) q) (l2 := [⟨-7, S, 0, 0⟩]) (N := q) rfl rfl rfl rfl ((hm.r.later l3).later ((Later.refl _).alloc _)) (manyr_len _ _) rfl (World.news_of_block (World.alloc_heap_new _ _)) (by decide) (by omega) ?_; intro g cap w9 hr9 hat))
                  have hst := hm.step (l3.next ((Later.refl _).alloc (.cells #[.int .i64 (-7), .string S, .int .i64 0, .int .i64 0] 37))) (by rw [hS.out]; exact hr9) hat
                  exact ⟨⟨q + 1, by omega, by go_num, hst⟩, by simp [intOf]; omega⟩
                · obtain rfl : q = 64 := by omega
                  obtain ⟨mb, mcap, rfl⟩ := hm.form
                  have hs6 := hs5.later hm.l
                  have hbx := hs6.chg.cell h3.notO (h3.box k hlt)
                  go_wp2_with (at_builtin; refine append_toksN (v := .slice (A k) (n k) (c k)) (l := fullr k (n k)) (l2 := manyr (k + 3) 64) (N := n k) rfl rfl rfl rfl (hs6.row k hlt) (fullr_len _ _) (manyr_len _ _) (World.ownsRow.cells hm.r rfl) (by decide) (by omega) ?_; intro g cap w9 hr9 hat; obtain ⟨⟨us, fs⟩, gz⟩ := hs6.open (O := O) hlt hat)
                  have hst := hs6.step h3 hlt hr9 hat
                  exact ⟨⟨k + 1, _, _, by omega, by go_num, hst⟩, by simp [intOf]; omega⟩
            · obtain rfl : k = 3 := by omega
              go_wp2_with fail
              go_meet
              exact ⟨hb, hc, hs5⟩
        case rest =>
          obtain ⟨hb, hc, hs⟩ := hcut
          obtain ⟨vs, hvs, hvi⟩ := hs.gs
          have hgsl : ∀ W' k, Later wc W' → k < 3 → W'.cell? ⟨sb, k, none⟩ = some (GV n hb hc k) := fun W' k l hk => (hvs.later l).cell (hvi k hk)
          have hbxl : ∀ W' k, Later wc W' → k < 3 → W'.cell? ⟨O, k, none⟩ = some (.slice (A k) (n k) (c k)) := fun W' k l hk => l.cell (hs.chg.cell h3.notO (h3.box k hk))
          go_wp2_with fail
          go_loopw [14] (fun i W' => ∃ k : Nat, k ≤ 3 ∧ i = .int .i64 k ∧ Later wc W') (fun i _ => 3 - (intOf i).toNat)
          case atStart => exact ⟨0, by omega, rfl, Later.refl _⟩
          case round =>
            obtain ⟨k, hk, rfl, l0⟩ := hrel
            by_cases hlt : k < 3
            · have hd3 : decide ((k : Int) < 3) = true := by simp; omega
              have hbd := h3.bd k hlt
              have hgk := hbxl wr k l0 hlt
              go_wp2_with fail
              go_loopw [15] (fun i W' => ∃ q : Nat, q ≤ n k ∧ i = .int .i64 q ∧ Later wc W') (fun i _ => n k - (intOf i).toNat)
              case atStart => exact ⟨0, by omega, rfl, l0⟩
              case round =>
                obtain ⟨q, hq, rfl, l1⟩ := hrel
                have hgk2 := hbxl wr k l1 hlt
                by_cases hlt2 : q < n k
                · obtain ⟨S, hS⟩ : ∃ S, tk k q = ⟨-7, S, 0, 0⟩ := ⟨_, rfl⟩
                  have hmk : ∀ W, Calls Tryd.prog 35 #[.int .i64 (k : Int), .int .i64 (q : Int)] W fun e w' => e = .returned (.string S) ∧ Later W w' := fun W => by
                    have h := mark_any (k : Int) (q : Int) W
                    have e : mk (k : Int) (q : Int) = S := by
                      have h0 : (tk k q).s = S := by rw [hS]
                      exact h0
                    rw [e] at h
                    exact h
                  have heq := fun W => eq37_self S W
                  have hG0 := Later.drew (Later.refl wr)
                  obtain ⟨Good, hGd⟩ : ∃ G : World → Prop, ∀ W', G W' ↔ Later wr W' := ⟨_, fun _ => Iff.rfl⟩
                  replace hG0 := (hGd _).2 hG0
                  have hne : Nonempty (InG Good) := ⟨⟨_, hG0⟩⟩
                  have f0 : ∀ p : InG Good, p.W.cell? ⟨sb, k, none⟩ = some (.slice (some ⟨hb k, 0, none⟩) (n k + 64) (hc k)) := fun p => hgsl p.W k (l1.next ((hGd _).1 p.h)) hlt
                  have f1 : ∀ p : InG Good, p.W.cell? ⟨hb k, q * 4, none⟩ = some (.int .i64 (-7)) ∧ p.W.cell? ⟨hb k, q * 4 + 1, none⟩ = some (.string S) ∧ p.W.cell? ⟨hb k, q * 4 + 2, none⟩ = some (.int .i64 0) ∧ p.W.cell? ⟨hb k, q * 4 + 3, none⟩ = some (.int .i64 0) := fun p => by
                    have h := ((hs.gro k hlt).later (l1.next ((hGd _).1 p.h))).cells (i := q) (t := tk k q) (by rw [List.getElem?_append_left (by rw [fullr_len]; exact hlt2)]; exact fullr_at hlt2)
                    rw [hS] at h
                    exact h
                  have f2 : ∀ p : InG Good, p.W.cell? ⟨O, k, none⟩ = some (.slice (A k) (n k) (c k)) := fun p => hbxl p.W k (l1.next ((hGd _).1 p.h)) hlt
                  have hm2 : ∀ p : InG Good, Calls Tryd.prog 35 #[.int .i64 (k : Int), .int .i64 (q : Int)] p.W fun e w'' => e = .returned (.string S) ∧ ∃ p' : InG Good, w'' = p'.W := fun p => (hmk p.W).mono fun e w'' hh => ⟨hh.1, ⟨w'', (hGd _).2 (((hGd _).1 p.h).next hh.2)⟩, rfl⟩
                  obtain ⟨g, hg, _⟩ : ∃ g, A k = some ⟨g, 0, none⟩ ∧ True := by
                    obtain ⟨g, cap, e⟩ := (hs.row k hlt).form (by rw [fullr_len]; omega)
                    injection e with e _ _
                    exact ⟨g, e, trivial⟩
                  have f3 : ∀ p : InG Good, p.W.cell? ⟨g, q * 4, none⟩ = some (.int .i64 (-7)) ∧ p.W.cell? ⟨g, q * 4 + 1, none⟩ = some (.string S) ∧ p.W.cell? ⟨g, q * 4 + 2, none⟩ = some (.int .i64 0) ∧ p.W.cell? ⟨g, q * 4 + 3, none⟩ = some (.int .i64 0) := fun p => by
                    have h := ((hs.row k hlt).later (l1.next ((hGd _).1 p.h)))
                    rw [hg] at h
                    have h := h.cells (fullr_at (j := k) hlt2)
                    rw [hS] at h
                    exact h
                  rw [hg] at f2
                  replace hS := hid hS
                  replace hGd := hid hGd
                  clear hmk
                  go_wp2_with fail
                  refine region_in Good (by kernel_rfl) (by kernel_rfl) hG0 ?_
                  repeat (go_big_quiet_step ((first | (go_at_call 35; with_reducible exact hm2 _))))
                  refine wpQuiet_nil ?_
                  intro V8 hw8
                  have l68 := (hGd.out _).1 hw8
                  clear hG0 hGd hne f0 f1 f2 f3 hw8 hm2 Good
                  go_wp2_with fail
                  exact ⟨⟨q + 1, by omega, by go_num, l1.next l68⟩, by simp [intOf]; omega⟩
                · obtain rfl : q = n k := by omega
                  go_wp2_with fail
                  exact ⟨⟨k + 1, by omega, by go_num, l1⟩, by simp [intOf]; omega⟩
            · obtain rfl : k = 3 := by omega
              go_wp2_with fail
              go_ret
              exact ⟨rfl, hs.chg.trans l0.chg⟩
end Go.Proofs.YteedjhoffjkhmaaDoor.Ka
