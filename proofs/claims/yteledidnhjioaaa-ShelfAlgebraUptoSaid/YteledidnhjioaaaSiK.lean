import Derived.Test.YteledidnhjioaaaSiJ
import Derived.Deep.AppendLies
namespace Go.Proofs.Yteledidnhjioaaa.Sh
open Go.RowKit Go.Lib Go.Proofs Go.Shelf
set_option linter.unusedVariables false
set_option linter.unusedSimpArgs false
theorem later_alloc_drew (w : World) (o : Obj) : Later w (w.drew.alloc o) := Later.alloc (Later.drew (Later.refl w)) o
/-- append of one pair: in the old row, or all laid anew and nothing else touched -/
theorem run_append_pair {w : World} {ty : TypeId} {base g0 : Nat} {v : Value} {l : List (Int × Int)} {x : Int × Int} (hown : w.ownsRow base 27 2 v l.length (flat l)) (hc : w.cell? ⟨g0, 0, none⟩ = some (.int .i64 x.1) ∧ w.cell? ⟨g0, 1, none⟩ = some (.int .i64 x.2)) (hz : l.length ≤ 8796093022200) (hb : base ≤ w.heap.size) :
    ∃ g cap w', (Builtin.append_ #[22, 22] ty #[v, .slice (some ⟨g0, 0, none⟩) 1 1]).run Try.prog w = .ok (.slice (some ⟨g, 0, none⟩) (l.length + 1) cap) w' ∧
      w'.ownsRow base 27 2 (.slice (some ⟨g, 0, none⟩) (l.length + 1) cap) (l ++ [x]).length (flat (l ++ [x])) ∧ w.grownBy w' v.ownBlock ∧ g < w'.heap.size ∧ (v.ownBlock = some g ∨ (w.heap.size ≤ g ∧ Later w w')) := by
  obtain ⟨i0, hi, hz0, hz1, hz2⟩ := info_parts info27
  have hnews : ∀ j u, [Value.int .i64 x.1, .int .i64 x.2][j]? = some u → w.cell? ((⟨g0, 0, none⟩ : Addr).add j) = some u := by
    intro j u hj
    match j, hj with
    | 0, hj => cases hj; rw [addr_plus]; exact hc.1
    | 1, hj => cases hj; rw [addr_plus]; exact hc.2
    | j + 2, hj => simp at hj
  obtain ⟨g, cap, w', hr, h2, h3, h4, h5⟩ := run_append_lies (P := Try.prog) w 22 ty base 27 i0 (.agg #[.int .i64 0, .int .i64 0]) 2 16 Try.underlying22 hi hz0 hz1 hz2 rfl (by decide) v l.length (flat l) hown ⟨g0, 0, none⟩ 1 1 [.int .i64 x.1, .int .i64 x.2] rfl hnews (by simp [Value.oneCell']) (by decide) (by unfold maxLen; omega) (by omega) hb w.heap.size rfl
  have hfl : flat l ++ [.int .i64 x.1, .int .i64 x.2] = flat (l ++ [x]) := (flat_snoc l x).symm
  rw [hfl] at h2
  refine ⟨g, cap, w', hr, by rw [List.length_append, List.length_singleton]; exact h2, h3, h5, ?_⟩
  rcases h4 with h4 | h4
  · exact .inl h4
  · rcases hown.2 with ⟨rfl, h0⟩ | ⟨g', cap', cur, rfl, hbg, hg, hnc, hcm, hcs, htake⟩
    · have hr2 := run_append_nil (P := Try.prog) w 22 ty 27 i0 (.agg #[.int .i64 0, .int .i64 0]) Try.underlying22 hi hz0 ⟨g0, 0, none⟩ 1 1 [.int .i64 x.1, .int .i64 x.2] (by rw [hz1]; rfl) hnews (by decide) (by decide) (by rw [hz2]; decide)
      rw [hr] at hr2
      injection hr2 with _ e2
      exact .inr ⟨by omega, by rw [e2]; exact later_alloc_drew w _⟩
    · by_cases hroom : l.length + 1 ≤ cap'
      · have hr2 := run_append_room (P := Try.prog) w 22 ty 27 i0 Try.underlying22 hi g' l.length cap' cur hg ⟨g0, 0, none⟩ 1 1 [.int .i64 x.1, .int .i64 x.2] (by rw [hz1]; rfl) hnews (by simp [Value.oneCell']) hroom (by rw [hz1, hcs]; simp; omega)
        rw [hr] at hr2
        injection hr2 with e1 _
        injection e1 with e1 _ _
        injection e1 with e1
        injection e1 with e1 _ _
        exact .inl (by rw [e1]; rfl)
      · have holds : ∀ j u, (flat l)[j]? = some u → w.cell? ((⟨g', 0, none⟩ : Addr).add j) = some u := hown.cells (g := g') rfl
        have hr2 := run_append_grow (P := Try.prog) w 22 ty 27 i0 (.agg #[.int .i64 0, .int .i64 0]) Try.underlying22 hi hz0 ⟨g', 0, none⟩ l.length cap' (flat l) (by rw [hz1]; exact hown.1) holds ⟨g0, 0, none⟩ 1 1 [.int .i64 x.1, .int .i64 x.2] (by rw [hz1]; rfl) hnews (by omega) (by omega) (growslice_fits (by omega) (by rw [hz2]; omega))
        rw [hr] at hr2
        injection hr2 with _ e2
        exact .inr ⟨by omega, by rw [e2]; exact later_alloc_drew w _⟩
theorem append_pair {ops : Array Oper} {rest : List Oper} {o : Oper} {a : Act} {Q : Exit → Act → World → Prop} {W : World} {s t : Operand} {base g0 : Nat} {v : Value} {l : List (Int × Int)} {x : Int × Int} (hg : o.guard = none)
    (hop : o.op = Op.call { callee := Callee.builtin Builtin.append, args := #[s, t], argTypes := #[22, 22] }) (hs : a.eval s = v) (hx : a.eval t = .slice (some ⟨g0, 0, none⟩) 1 1) (hown : W.ownsRow base 27 2 v l.length (flat l))
    (hc : W.cell? ⟨g0, 0, none⟩ = some (.int .i64 x.1) ∧ W.cell? ⟨g0, 1, none⟩ = some (.int .i64 x.2)) (hz : l.length ≤ 8796093022200) (hb : base ≤ W.heap.size)
    (hK : ∀ g cap w', w'.ownsRow base 27 2 (.slice (some ⟨g, 0, none⟩) (l.length + 1) cap) (l ++ [x]).length (flat (l ++ [x])) → W.grownBy w' v.ownBlock → g < w'.heap.size → (v.ownBlock = some g ∨ (W.heap.size ≤ g ∧ Later W w')) → wpList Try.prog ops Q rest (a.put o.dst (.slice (some ⟨g, 0, none⟩) (l.length + 1) cap)) w') : wpList Try.prog ops Q (o :: rest) a W := by
  refine wpList_plain hg fun K hK' => ?_
  obtain ⟨g, cap, w', hr, h2, h3, h4, h5⟩ := run_append_pair (ty := o.type) hown hc hz hb
  unfold Oper.wp execOp
  simp only [hop, resolve, invoke, builtin, Sem.run_bind, Sem.run_pure, Result.andThen_ok, List.map_toArray, List.map_cons, List.map_nil, hs, hx, hr]
  exact hK' _ _ (hK g cap w' h2 h3 h4 h5)
end Go.Proofs.Yteledidnhjioaaa.Sh
namespace Go.Proofs.Yteledidnhjioaaa.Sh
open Go.RowKit Go.Lib Go.Proofs Go.Shelf
set_option linter.unusedVariables false
set_option linter.unusedSimpArgs false
abbrev upb (base : Nat) : Nat → Prop := fun b => base ≤ b
theorem chg_grown {W V : World} {row : Option Nat} (hg : W.grownBy V row) : Chg (fun b => row = some b) W V := ⟨hg.os, hg.tape, hg.output, hg.size, fun k hk hx => hg.block k hk (fun e => hx e.symm)⟩
theorem own_lt {W : World} {base n : Nat} {v : Value} {xs : List Value} (h : W.ownsRow base 27 2 v n xs) : ∀ b, v.ownBlock = some b → b < W.heap.size := by
  intro b hb
  rcases h.2 with ⟨rfl, _⟩ | ⟨g, cap, cur, rfl, _, hg, _⟩
  · cases hb
  · cases hb; exact (Array.getElem?_eq_some_iff.1 hg).1
theorem flat_set (x : Int × Int) : ∀ (l : List (Int × Int)) (i : Nat), flat (l.set i x) = ((flat l).set (i * 2) (.int .i64 x.1)).set (i * 2 + 1) (.int .i64 x.2)
  | [], i => by simp [flat]
  | y :: t, 0 => by simp [flat]
  | y :: t, i + 1 => by
    have ih := flat_set x t i
    have e1 : (i + 1) * 2 = i * 2 + 1 + 1 := by omega
    show flat (y :: t.set i x) = _
    rw [show flat (y :: t.set i x) = .int .i64 y.1 :: .int .i64 y.2 :: flat (t.set i x) from by simp [flat], ih, show flat (y :: t) = .int .i64 y.1 :: .int .i64 y.2 :: flat t from by simp [flat], e1]
    simp
theorem own_store {W : World} {base g cap i : Nat} {l : List (Int × Int)} (x : Int × Int) (h : W.ownsRow base 27 2 (.slice (some ⟨g, 0, none⟩) l.length cap) l.length (flat l)) (hi : i < l.length) :
    ((W.setCell ⟨g, i * 2, none⟩ (.int .i64 x.1)).setCell ⟨g, i * 2 + 1, none⟩ (.int .i64 x.2)).ownsRow base 27 2 (.slice (some ⟨g, 0, none⟩) l.length cap) (l.set i x).length (flat (l.set i x)) := by
  rcases h.2 with ⟨h1, _⟩ | ⟨g', cap', cur, h1, hb, hg, hn, hm, hs, ht⟩
  · cases h1
  · injection h1 with e1 _ e2
    injection e1 with e1
    injection e1 with e1 _ _
    subst e1 e2
    refine ⟨by rw [flat_length], .inr ⟨g, cap, (cur.setIfInBounds (i * 2) (.int .i64 x.1)).setIfInBounds (i * 2 + 1) (.int .i64 x.2), by rw [List.length_set], hb, ?_, by rw [List.length_set]; exact hn, hm, by simp [hs], ?_⟩⟩
    · simp [World.setCell, Array.getElem?_modify, hg]
    · rw [flat_set, List.length_set]
      simp only [Array.toList_setIfInBounds, List.take_set, ht]
theorem own_open {W : World} {base g n cap : Nat} {xs : List Value} (h : W.ownsRow base 27 2 (.slice (some ⟨g, 0, none⟩) n cap) n xs) (j : Nat) (hj : j < n * 2) : (∃ u, W.cell? ⟨g, j, none⟩ = some u) ∧ W.frozen? ⟨g, j, none⟩ = false := by
  have h1 := h.1
  refine ⟨⟨xs[j]'(by omega), ?_⟩, ?_⟩
  · rw [h.cellAt j (by omega)]
    exact List.getElem?_eq_getElem (by omega)
  · rcases h.2 with ⟨e, _⟩ | ⟨g', cap', cur, e, _, hg, _⟩
    · cases e
    · injection e with e1 _ _
      injection e1 with e1
      injection e1 with e1 _ _
      subst e1
      simp [World.frozen?, hg]
theorem prefix_slice {V V0 : World} {A : Option Addr} {base g n cap cap2 : Nat} {L M : List (Int × Int)} (h : SliceAt V0 A cap L) (hM : V.ownsRow base 27 2 (.slice (some ⟨g, 0, none⟩) n cap2) M.length (flat M)) (hz : M.length ≤ 4611686018427387904)
    (hp : ∀ (j : Nat) (x : Int × Int), L[j]? = some x → M[j]? = some x) (hA : ∀ b o, A = some ⟨b, o, none⟩ → o = 0 ∧ b = g) : SliceAt V A cap L := by
  obtain ⟨A', cap', e, hs, _⟩ := row_slice2 hM hz rfl
  injection e with e1 _ e2
  subst e1
  refine ⟨h.1, h.2.1, fun i x hx => ?_⟩
  obtain ⟨b, o, e, _, _⟩ := h.2.2 i x hx
  obtain ⟨rfl, rfl⟩ := hA b o e
  obtain ⟨b', o', e', c0, c1⟩ := hs.2.2 i x (hp i x hx)
  injection e' with e'
  injection e' with e1 e2 _
  subst e1 e2
  exact ⟨_, _, e, c0, c1⟩
set_option maxRecDepth 100000 in
set_option maxHeartbeats 20000000 in
theorem apart_any {L : List (Int × Int)} {w : World} {base n : Nat} {A1 A2 A3 : Option Addr} {c1 c2 c3 : Nat} (hn : L.length = n) (h1 : w.ownsRow base 27 2 (.slice A1 n c1) L.length (flat L)) (h2 : w.ownsRow base 27 2 (.slice A2 n c2) L.length (flat L))
    (hne : ∀ b, (Value.slice A1 n c1).ownBlock = some b → ¬ (Value.slice A2 n c2).ownBlock = some b) (h3 : ∀ V, Chg (upb base) w V → SliceAt V A3 c3 L) (hb : base ≤ w.heap.size) (hz : n ≤ 8796093022080) :
    Calls Try.prog 15 #[.slice A1 n c1, .slice A2 n c2, .slice A3 n c3] w fun e V => e = .returned (.bool true) ∧ Chg (upb base) w V := by
  go_enter Try.func15, Try.ntmps15
  go_wp2_with fail
  go_loopw [7] (fun i wr => ∃ (k : Nat) (M : List (Int × Int)), k ≤ n ∧ i = .int .i64 k ∧ M.length = n ∧ wr.ownsRow base 27 2 (.slice A1 n c1) M.length (flat M) ∧ wr.ownsRow base 27 2 (.slice A2 n c2) L.length (flat L) ∧ Chg (upb base) w wr) (fun i _ => n - (intOf i).toNat)
  case atStart => exact ⟨0, L, Nat.zero_le _, rfl, hn, h1, h2, Chg.refl _ _⟩
  case round =>
    obtain ⟨k, M, hk, rfl, hM, r1, r2, hc⟩ := hrel
    by_cases hlt : k < n
    · obtain ⟨g, hA1⟩ : ∃ g, A1 = some ⟨g, 0, none⟩ := by
        rcases r1.2 with ⟨e, h0⟩ | ⟨g, cap', cur, e, _⟩
        · omega
        · injection e with e1 _ _; exact ⟨g, e1⟩
      subst hA1
      have r1' := r1
      rw [← hM] at r1'
      have hs1 := own_store (i := k) (0, -(k : Int) - 1) r1' (by omega)
      have hgb := own_ge r1 g rfl
      have z1 : Chg (only g) wr ((wr.setCell ⟨g, k * 2, none⟩ (.int .i64 0)).setCell ⟨g, k * 2 + 1, none⟩ (.int .i64 (-(k : Int) - 1))) := (Chg.set (X := only g) _ _ rfl).trans (Chg.set _ _ rfl)
      have hMl : M.length * 2 = n * 2 := by rw [hM]
      rw [hM] at r1
      obtain ⟨⟨u0, q0⟩, f0⟩ := own_open r1 (k * 2) (by omega)
      obtain ⟨⟨u1, q1⟩, f1⟩ := own_open r1 (k * 2 + 1) (by omega)
      rw [hM] at hs1
      replace hM := hid hM
      go_wp2_with fail
      go_roundw
      case rel => exact ⟨k + 1, M.set k (0, -(k : Int) - 1), by omega, by go_num, by rw [List.length_set, hM.out], hs1, own_chg r2 z1 (fun b e hx => by have : b = g := hx; subst this; exact hne b rfl e), hc.trans (z1.mono (fun b e => by have : b = g := e; subst this; exact hgb))⟩
      case measure => simp [intOf]; omega
    · obtain rfl : n = k := by omega
      have hc0 := h3 _ hc
      have hs2 : SliceAt wr A2 c2 L := by
        obtain ⟨A', c', e, hs, _⟩ := row_slice2 r2 (by omega) hn
        injection e with e1 _ e2
        subst e1 e2
        exact hs
      have hsm := same_ref hs2 hc0
      rw [hn, decide_eq_true rfl] at hsm
      go_wp2_with fail
      go_at_call 14; refine hsm.mono ?_; rintro e W1 ⟨rfl, l1⟩
      have r11 := own_chg r1 (X := fun _ => False) l1.chg (fun _ _ h => h)
      have r21 := own_chg r2 (X := fun _ => False) l1.chg (fun _ _ h => h)
      have hc1 : Chg (upb base) w W1 := hc.trans l1.chg
      clear hs2 hc0 hsm r1 r2 hc hlt hk h1 h2
      go_wp2_with fail
      have hdis : ∀ b, (Value.slice A1 n c1).ownBlock = some b → ¬ (Value.slice A2 n c2).ownBlock = some b := hne
      generalize W1 = W2 at r11 r21 hc1 ⊢
      go_loopw [8, 9] (fun gv i wr => ∃ (k : Nat) (M : List (Int × Int)), k ≤ 70 ∧ i = .int .i64 k ∧ wr.ownsRow base 27 2 gv M.length (flat M) ∧ M.length = n + k ∧ (∀ j : Nat, j < k → M[n + j]? = some (-(j : Int), -1000 - (j : Int))) ∧ wr.ownsRow base 27 2 (.slice A2 n c2) L.length (flat L) ∧ (∀ b, gv.ownBlock = some b → ¬ (Value.slice A2 n c2).ownBlock = some b) ∧ Chg (upb base) w wr) (fun _ i _ => 70 - (intOf i).toNat)
      case atStart => exact ⟨0, M, Nat.zero_le _, rfl, r11, hM, fun j hj => by omega, r21, hdis, hc1⟩
      case round =>
        obtain ⟨k, M', hk, rfl, hr, hM', hMj, r2, hd, hc⟩ := hrel
        by_cases hlt : k < 70
        · have hbw : base ≤ wr.heap.size := Nat.le_trans hb hc.size
          go_wp2_with (at_builtin; refine append_pair (x := (-(k : Int), -1000 - (k : Int))) rfl rfl rfl rfl (hr.alloc _) (two_new _ _ _ _) (by omega) (by simp; omega) ?_; intro g cap w1 hr1 hg1 hlt1 hat)
          have la : Later wr (wr.alloc (.cells #[.int .i64 (-(k : Int)), .int .i64 (-1000 - (k : Int))] 27)) := (Later.refl wr).alloc _
          have hcg := chg_grown hg1
          have r2a := r2.alloc (.cells #[.int .i64 (-(k : Int)), .int .i64 (-1000 - (k : Int))] 27)
          have r2' := own_chg r2a hcg (fun b e hx => hd b hx e)
          have hd' : ∀ b, (Value.slice (some ⟨g, 0, none⟩) (M'.length + 1) cap).ownBlock = some b → ¬ (Value.slice A2 n c2).ownBlock = some b := fun b e e2 => by
            have e1 : g = b := by injection e
            subst e1
            rcases hat with h | ⟨h, _⟩
            · exact hd g h e2
            · have := own_lt r2a g e2; omega
          have hc' : Chg (upb base) w w1 := (hc.trans la.chg).trans (hcg.mono (fun b e => own_ge hr b e))
          go_wp2_with fail
          go_roundw
          case rel =>
            refine ⟨k + 1, M' ++ [(-(k : Int), -1000 - (k : Int))], by omega, by go_num, by rw [hM'] at hr1; exact hr1, by simp; omega, fun j hj => ?_, r2', hd', hc'⟩
            by_cases hjk : j < k
            · rw [List.getElem?_append_left (by omega)]; exact hMj j hjk
            · obtain rfl : j = k := by omega
              rw [List.getElem?_append_right (by omega), show n + j - M'.length = 0 by omega]
              rfl
          case measure => simp [intOf]; omega
        · obtain rfl : k = 70 := by omega
          obtain ⟨Ag, cg, rfl, sg, hbg⟩ := row_slice2 hr (by omega) hM'
          have s2 : SliceAt wr A2 c2 L ∧ (∀ b o, A2 = some ⟨b, o, none⟩ → o = 0 ∧ b < wr.heap.size ∧ base ≤ b) := by
            rcases r2.2 with ⟨e, h0⟩ | ⟨g2, c2', cur, e, hb2, hg2, _⟩
            · obtain ⟨A', c', e', hs, _⟩ := row_slice2 r2 (by omega) hn
              injection e' with e1 _ e2
              subst e1 e2
              injection e with e1 _ _
              exact ⟨hs, fun b o eb => by rw [e1] at eb; cases eb⟩
            · obtain ⟨A', c', e', hs, _⟩ := row_slice2 r2 (by omega) hn
              injection e' with e1 _ e2
              subst e1 e2
              injection e with e1 _ _
              exact ⟨hs, fun b o eb => by
                rw [e1] at eb
                injection eb with eb
                injection eb with eb1 eb2 _
                exact ⟨eb2.symm, by rw [← eb1]; exact (Array.getElem?_eq_some_iff.1 hg2).1, by rw [← eb1]; exact hb2⟩⟩
          obtain ⟨s2, hA2⟩ := s2
          have hd2 : ∀ b, (Value.slice A2 n c2).ownBlock = some b → ¬ (Value.slice Ag (n + 70) cg).ownBlock = some b := fun b e e2 => hd b e2 e
          clear hd hbg
          generalize wr = Wr at hr r2 hc sg s2 hA2 ⊢
          go_wp2_with fail
          go_loopw [10, 11] (fun hv i wr => ∃ (k : Nat) (M2 : List (Int × Int)), k ≤ 70 ∧ i = .int .i64 k ∧ wr.ownsRow base 27 2 hv M2.length (flat M2) ∧ M2.length = n + k ∧ (∀ j : Nat, j < k → M2[n + j]? = some ((j : Int), -2000 - (j : Int))) ∧ (∀ (j : Nat) (x : Int × Int), L[j]? = some x → M2[j]? = some x) ∧ SliceAt wr A2 c2 L ∧ (∀ b o, A2 = some ⟨b, o, none⟩ → o = 0 ∧ b < wr.heap.size ∧ base ≤ b) ∧ wr.ownsRow base 27 2 (.slice Ag (n + 70) cg) M'.length (flat M') ∧ (∀ b, hv.ownBlock = some b → ¬ (Value.slice Ag (n + 70) cg).ownBlock = some b) ∧ Chg (upb base) w wr) (fun _ i _ => 70 - (intOf i).toNat)
          case atStart => exact ⟨0, L, Nat.zero_le _, rfl, r2, hn, fun j hj => by omega, fun j x h => h, s2, hA2, hr, hd2, hc⟩
          case round =>
            obtain ⟨k, M2, hk, rfl, hr2, hM2, hMj2, hpre, s3, hA3, rg, hd3, hc3⟩ := hrel
            by_cases hlt : k < 70
            · have hbw : base ≤ wr.heap.size := Nat.le_trans hb hc3.size
              go_wp2_with (at_builtin; refine append_pair (x := ((k : Int), -2000 - (k : Int))) rfl rfl rfl rfl (hr2.alloc _) (two_new _ _ _ _) (by omega) (by simp; omega) ?_; intro g cap w1 hr1 hg1 hlt1 hat)
              have la : Later wr (wr.alloc (.cells #[.int .i64 (k : Int), .int .i64 (-2000 - (k : Int))] 27)) := (Later.refl wr).alloc _
              have hcg := chg_grown hg1
              have rga := rg.alloc (.cells #[.int .i64 (k : Int), .int .i64 (-2000 - (k : Int))] 27)
              have rg' := own_chg rga hcg (fun b e hx => hd3 b hx e)
              have hd' : ∀ b, (Value.slice (some ⟨g, 0, none⟩) (M2.length + 1) cap).ownBlock = some b → ¬ (Value.slice Ag (n + 70) cg).ownBlock = some b := fun b e e2 => by
                have e1 : g = b := by injection e
                subst e1
                rcases hat with h | ⟨h, _⟩
                · exact hd3 g h e2
                · have := own_lt rga g e2; omega
              have hc' : Chg (upb base) w w1 := (hc3.trans la.chg).trans (hcg.mono (fun b e => own_ge hr2 b e))
              have hpre' : ∀ (j : Nat) (x : Int × Int), L[j]? = some x → (M2 ++ [((k : Int), -2000 - (k : Int))])[j]? = some x := fun j x hx => by
                have h := hpre j x hx
                rw [List.getElem?_append_left (List.getElem?_eq_some_iff.1 h).1]; exact h
              have s3' : SliceAt w1 A2 c2 L := by
                rcases hat with h | ⟨_, h⟩
                · by_cases hx : ∀ f o, A2 = some ⟨f, o, none⟩ → ¬ f = g
                  · exact (s3.later la).turn (Later.refl _) hcg (fun f o e _ ex => by rw [h] at ex; injection ex with ex; exact hx f o e ex.symm)
                  · refine prefix_slice s3 hr1 (by simp; omega) hpre' (fun b o e => ⟨(hA3 b o e).1, ?_⟩)
                    apply Classical.byContradiction
                    intro hbg
                    refine hx fun f o' e' => ?_
                    rw [e] at e'
                    injection e' with e'
                    injection e' with e1 _ _
                    rw [← e1]; exact hbg
                · exact (s3.later la).later h
              have hA' : ∀ b o, A2 = some ⟨b, o, none⟩ → o = 0 ∧ b < w1.heap.size ∧ base ≤ b := fun b o e => ⟨(hA3 b o e).1, Nat.lt_of_lt_of_le (hA3 b o e).2.1 (Nat.le_trans la.size hg1.size), (hA3 b o e).2.2⟩
              go_wp2_with fail
              refine ⟨?_, ?measure⟩
              apply Exists.intro
              (repeat apply Exists.intro)
              refine ⟨?rel, rfl⟩
              case rel =>
                refine ⟨k + 1, M2 ++ [((k : Int), -2000 - (k : Int))], by omega, by go_num, by rw [hM2] at hr1; exact hr1, by simp; omega, fun j hj => ?_, hpre', s3', hA', rg', hd', hc'⟩
                by_cases hjk : j < k
                · rw [List.getElem?_append_left (by omega)]; exact hMj2 j hjk
                · obtain rfl : j = k := by omega
                  rw [List.getElem?_append_right (by omega), show n + j - M2.length = 0 by omega]
                  rfl
              case measure => simp [intOf]; omega
            · obtain rfl : k = 70 := by omega
              obtain ⟨Ah, ch, rfl, sh, _⟩ := row_slice2 hr2 (by omega) hM2
              obtain ⟨Ag', cg', eg', sg', _⟩ := row_slice2 rg (by omega) hM'
              injection eg' with e1 _ e2
              subst e1 e2
              have hsm := fun V (l : Later wr V) => same_ref (s3.later l) (h3 V (hc3.trans l.chg))
              rw [hn] at hsm
              clear hd3 rg hr2 hA3 hpre hr r2 sg s2 hA2 hd2 hc hM2 hM' hM r11 r21 hc1 hdis hne h3
              replace hn := hid hn
              go_wp2_with fail
              go_loopw [12] (fun i V => ∃ k : Nat, k ≤ 70 ∧ i = .int .i64 k ∧ Later wr V) (fun i _ => 70 - (intOf i).toNat)
              case atStart => exact ⟨0, Nat.zero_le _, rfl, Later.refl _⟩
              case round =>
                obtain ⟨k, hk, rfl, hl⟩ := hrel
                by_cases hlt : k < 70
                · obtain ⟨b, o, rfl, _, z1⟩ := (sg'.later hl).2.2 (n + k) _ (hMj k hlt)
                  obtain ⟨b', o', rfl, _, z1'⟩ := (sh.later hl).2.2 (n + k) _ (hMj2 k hlt)
                  go_wp2_with fail
                  exact ⟨⟨k + 1, by omega, by go_num, hl⟩, by simp [intOf]; omega⟩
                · obtain rfl : k = 70 := by omega
                  go_wp2_with fail
                  go_at_call 14; refine (hsm _ hl).mono ?_; rintro e W9 ⟨rfl, l9⟩
                  go_wp2_with fail
                  go_ret
                  exact ⟨by simp, hc3.trans (hl.chg.trans l9.chg)⟩
end Go.Proofs.Yteledidnhjioaaa.Sh
