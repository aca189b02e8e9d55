import Derived.Test.YteledidnhjioaaaShY
namespace Go.Proofs.Yteledidnhjioaaa.Sh
open Go.RowKit Go.Lib Go.Proofs Go.Shelf
set_option linter.unusedVariables false
set_option linter.unusedSimpArgs false
theorem own_ge {W : World} {base : Nat} {v : Value} {n : Nat} {xs : List Value} (h : W.ownsRow base 27 2 v n xs) : ∀ k, v.ownBlock = some k → base ≤ k := by
  intro k hk
  rcases h.2 with ⟨rfl, _⟩ | ⟨g, cap, cur, rfl, hb, _⟩
  · cases hk
  · cases hk; exact hb
theorem own_lower {W : World} {base b : Nat} {v : Value} {n : Nat} {xs : List Value} (h : W.ownsRow base 27 2 v n xs) (hb : b ≤ base) : W.ownsRow b 27 2 v n xs :=
  ⟨h.1, h.2.imp id fun ⟨g, cap, cur, e, h1, r⟩ => ⟨g, cap, cur, e, Nat.le_trans hb h1, r⟩⟩
/-- one more behind a slice that the call owns -/
theorem append_one {ops : Array Oper} {rest : List Oper} {o : Oper} {a : Act} {Q : Exit → Act → World → Prop} {W : World} {s t : Operand} {base g : Nat} {v : Value} {l : List (Int × Int)} {x : Int × Int} (hg : o.guard = none)
    (hop : o.op = Op.call { callee := Callee.builtin Builtin.append, args := #[s, t], argTypes := #[22, 22] }) (hs : a.eval s = v) (hx : a.eval t = .slice (some ⟨g, 0, none⟩) 1 1) (hown : W.ownsRow base 27 2 v l.length (flat l))
    (hc : W.cell? ⟨g, 0, none⟩ = some (.int .i64 x.1) ∧ W.cell? ⟨g, 1, none⟩ = some (.int .i64 x.2)) (hz : l.length ≤ 13999999999999) (hb : base ≤ W.heap.size)
    (hK : ∀ v' w', w'.ownsRow base 27 2 v' (l ++ [x]).length (flat (l ++ [x])) → Below base W w' → wpList Try.prog ops Q rest (a.put o.dst v') w') : wpList Try.prog ops Q (o :: rest) a W := by
  obtain ⟨i0, hi, hz0, hz1, hz2⟩ := info_parts info27
  refine wpList_append_own_wide (P := Try.prog) W hg s t 22 hop base 27 i0 (.agg #[.int .i64 0, .int .i64 0]) 2 16 Try.underlying22 hi hz0 hz1 hz2 rfl (by decide) v l.length (flat l) hs hown ⟨g, 0, none⟩ 1 1 [.int .i64 x.1, .int .i64 x.2] hx rfl ?_ (by simp [Value.oneCell']) (by unfold maxLen; omega) (by omega) hb ?_
  · intro j u hj
    match j, hj with
    | 0, hj => cases hj; rw [addr_plus]; exact hc.1
    | 1, hj => cases hj; rw [addr_plus]; exact hc.2
    | j + 2, hj => simp at hj
  · intro v' w' h1 h2 _
    refine hK v' w' ?_ ((Below.refl base W).grown h2 hb (own_ge hown))
    rw [flat_snoc, List.length_append, List.length_singleton]
    exact h1
theorem ins_new_at {x : Int × Int} {over : Bool} {l : List (Int × Int)} (hr : Rises cmpR l) (hh : hasL cmpR x l = false) : (∀ k, k < rankL cmpR x l → (insL cmpR x over l)[k]? = l[k]?) ∧ (insL cmpR x over l)[rankL cmpR x l]? = some x ∧ (∀ k, rankL cmpR x l ≤ k → (insL cmpR x over l)[k + 1]? = l[k]?) ∧ (insL cmpR x over l).length = l.length + 1 := by
  have e := insL_new ordR (over := over) hr hh
  have hn : rankL cmpR x l ≤ l.length := by have := rankL_take (c := cmpR) x l l.length; rwa [List.take_length] at this
  generalize rankL cmpR x l = n at e hn ⊢
  have htl : (l.take n).length = n := List.length_take_of_le hn
  rw [e]
  refine ⟨fun k hk => ?_, ?_, fun k hk => ?_, ?_⟩
  · rw [List.getElem?_append_left (by omega), List.getElem?_take_of_lt hk]
  · rw [List.getElem?_append_right (by omega), htl, Nat.sub_self]; rfl
  · rw [List.getElem?_append_right (by omega), htl, show k + 1 - n = (k - n) + 1 by omega, List.getElem?_cons_succ, List.getElem?_drop]
    congr 1; omega
  · rw [List.length_append, htl, List.length_cons, List.length_drop]; omega
theorem ins_old_at {x : Int × Int} {over : Bool} {l : List (Int × Int)} (hr : Rises cmpR l) (hh : hasL cmpR x l = true) : rankL cmpR x l < l.length ∧ (∀ k, k ≠ rankL cmpR x l → (insL cmpR x over l)[k]? = l[k]?) ∧ (insL cmpR x over l)[rankL cmpR x l]? = (if over = true then some x else l[rankL cmpR x l]?) ∧ (insL cmpR x over l).length = l.length := by
  obtain ⟨y, hy, hc, hf, hi⟩ := hasL_at ordR hr hh
  have hn := (List.getElem?_eq_some_iff.1 hy).1
  rw [hi over]
  refine ⟨hn, fun k hk => ?_, ?_, by rw [List.length_set]⟩
  · rw [List.getElem?_set_ne (by omega)]
  · rw [List.getElem?_set_self hn, hy]
    split <;> rfl
theorem ownsRow_nil2 (W : World) (base : Nat) : W.ownsRow base 27 2 (.slice none 0 0) ([] : List (Int × Int)).length (flat []) := World.ownsRow_nil W base 27 2
set_option maxRecDepth 100000 in
set_option maxHeartbeats 8000000 in
theorem put_new (x : Int × Int) (over : Bool) {l : List (Int × Int)} {w : World} {A : Option Addr} {cap : Nat} (hl : SliceAt w A cap l) (hr : Rises cmpR l) (hz : l.length ≤ 13999999999998) (hh : hasL cmpR x l = false) :
    Calls Try.prog 46 #[.slice A l.length cap, .agg #[.int .i64 x.1, .int .i64 x.2], .bool over] w fun e w' => ∃ v, e = .returned (.tuple #[v, .bool false]) ∧ w'.ownsRow w.heap.size 27 2 v (insL cmpR x over l).length (flat (insL cmpR x over l)) ∧ Later w w' := by
  have hcap := hl.1
  have hB : Later w (w.alloc (.cells #[.int .i64 x.1, .int .i64 x.2] 27)) := Later.two
  have hxx := two_new w (.int .i64 x.1) (.int .i64 x.2) 27
  have hl0 := hl.later hB
  obtain ⟨W0, hW0⟩ : ∃ W0, w.alloc (.cells #[.int .i64 x.1, .int .i64 x.2] 27) = W0 := ⟨_, rfl⟩
  obtain ⟨N, hN⟩ : ∃ N, w.heap.size = N := ⟨_, rfl⟩
  rw [hW0] at hB hxx hl0
  rw [hN] at hxx ⊢
  have hNW : N ≤ W0.heap.size := by rw [← hN]; exact hB.size
  have hfind := fun (W : World) (k : Later W0 W) => find_ref x (hl0.later k) hr
  rw [atL_none hh] at hfind
  have hrank := fun (W : World) (k : Later W0 W) => rank_ref x (hl0.later k)
  obtain ⟨i1, i2, i3, i4⟩ := ins_new_at (over := over) hr hh
  have hn : rankL cmpR x l ≤ l.length := by have := rankL_take (c := cmpR) x l l.length; rwa [List.take_length] at this
  generalize rankL cmpR x l = n at hrank i1 i2 i3 hn
  generalize hins : insL cmpR x over l = ins at i1 i2 i3 i4 ⊢
  replace hins := hid hins
  clear hl hh hr
  go_enter Try.func46, Try.ntmps46
  go_wp2_with fail
  go_at_call 77; refine (hfind _ (Later.refl _)).mono ?_; rintro e W1 ⟨rfl, l1⟩
  have hx1 := l1.cell hxx.1
  have hx2 := l1.cell hxx.2
  go_wp2_with fail
  go_at_call 66; refine (hrank _ l1).mono ?_; rintro e W2 ⟨rfl, l2'⟩
  have l2 := l1.next l2'
  clear hfind hrank l1 l2' hx1 hx2
  go_wp2_with fail
  go_loopw [10, 11] (fun v i wr => ∃ (k : Nat) (out : List (Int × Int)), k ≤ l.length ∧ i = .int .i64 k ∧ wr.ownsRow W0.heap.size 27 2 v out.length (flat out) ∧ Hid (out = ins.take (if k ≤ n then k else k + 1)) ∧ out.length ≤ k + 1 ∧ (k ≤ n → out.length ≤ k) ∧ Later W0 wr) (fun _ i _ => l.length - (intOf i).toNat)
  case atStart => exact ⟨0, [], Nat.zero_le _, rfl, ownsRow_nil2 _ _, hid (by simp), Nat.zero_le _, fun _ => Nat.zero_le _, l2⟩
  case round =>
    obtain ⟨k, out, hk, rfl, hrow, hout, hol, hol2, hb⟩ := hrel
    have hx1 := hb.cell hxx.1
    have hx2 := hb.cell hxx.2
    have hbs := hb.size
    by_cases hlt : k < l.length
    · obtain ⟨y, hy⟩ : ∃ y, l[k]? = some y := ⟨_, List.getElem?_eq_getElem hlt⟩
      by_cases hkn : k = n
      · have ho2 : Hid (out ++ [x] ++ [y] = ins.take (if k + 1 ≤ n then k + 1 else k + 1 + 1)) := hid (by
          subst hkn
          rw [if_neg (by omega), hout.out, if_pos (Nat.le_refl _), ← take_snoc i2, ← take_snoc ((i3 k (Nat.le_refl _)).trans hy)])
        obtain ⟨b, o, rfl, c0, c1⟩ := (hl0.later hb).2.2 _ _ hy
        have hkn1 : ((k : Int) == (n : Int)) = true := by simp [hkn]
        have hcy : ∀ W', Later W0 W' → W'.cell? ⟨b, o + k * 2, none⟩ = some (.int .i64 y.1) ∧ W'.cell? ⟨b, o + k * 2 + 1, none⟩ = some (.int .i64 y.2) := fun W' k' => by
          obtain ⟨b', o', e, k0, k1⟩ := (hl0.later k').2.2 _ _ hy
          cases e
          exact ⟨k0, k1⟩
        have hkn2 := hid hkn
        have hol3 : out.length ≤ k := hol2 (by omega)
        clear c0 c1 hkn hol2
        go_wp2_with (first | (at_builtin; refine append_one rfl rfl rfl rfl (hr1.alloc _) (two_new _ _ _ _) (by simp; omega) (by simp; omega) ?_; intro v2 w2 hr2 hb2; have hbw2 : Later W0 w2 := Below.trans (Later.alloc hbw _) hb2) | (at_builtin; refine append_one rfl rfl rfl rfl (hrow.alloc _) (two_new _ _ _ _) (by omega) (by simp; omega) ?_; intro v1 w1 hr1 hb1; have hbw : Later W0 w1 := Below.trans (Later.alloc hb _) hb1; obtain ⟨c0, c1⟩ := hcy w1 hbw; have hbs1 := hbw.size))
        go_roundw
        case rel => exact ⟨k + 1, _, by omega, by go_num, hr2, ho2, by simp; omega, fun h => by have := hkn2.out; omega, hbw2⟩
        case measure => simp [intOf]; omega
      · have ho2 : Hid (out ++ [y] = ins.take (if k + 1 ≤ n then k + 1 else k + 1 + 1)) := hid (by
          rw [hout.out]
          by_cases hkl : k < n
          · rw [if_pos (by omega), if_pos (by omega), ← take_snoc ((i1 k hkl).trans hy)]
          · rw [if_neg (by omega), if_neg (by omega), ← take_snoc ((i3 k (by omega)).trans hy)])
        obtain ⟨b, o, rfl, c0, c1⟩ := (hl0.later hb).2.2 _ _ hy
        have hkn1 : ((k : Int) == (n : Int)) = false := by simp; omega
        have hol3 : k + 1 ≤ n → out.length ≤ k := fun h => hol2 (by omega)
        clear hol2 hkn
        go_wp2_with (at_builtin; refine append_one rfl rfl rfl rfl (hrow.alloc _) (two_new _ _ _ _) (by omega) (by simp; omega) ?_; intro v1 w1 hr1 hb1; have hbw : Later W0 w1 := Below.trans (Later.alloc hb _) hb1)
        go_roundw
        case rel => exact ⟨k + 1, _, by omega, by go_num, hr1, ho2, by simp; omega, fun h => by simp; exact hol3 h, hbw⟩
        case measure => simp [intOf]; omega
    · obtain rfl : k = l.length := by omega
      by_cases hnl : n = l.length
      · have ho2 : out ++ [x] = ins := by rw [hout.out, if_pos (by omega), ← hnl, ← take_snoc i2, List.take_of_length_le (by omega)]
        have hkn1 : ((n : Int) == (l.length : Int)) = true := by simp [hnl]
        clear hnl
        go_wp2_with (at_builtin; refine append_one rfl rfl rfl rfl (hrow.alloc _) (two_new _ _ _ _) (by omega) (by simp; omega) ?_; intro v1 w1 hr1 hb1; have hbw : Later W0 w1 := Below.trans (Later.alloc hb _) hb1)
        go_ret2
        rw [← ho2]
        exact ⟨v1, rfl, own_lower hr1 hNW, hB.next hbw⟩
      · have ho2 : out = ins := by rw [hout.out, if_neg (by omega), List.take_of_length_le (by omega)]
        have hkn1 : ((n : Int) == (l.length : Int)) = false := by simp; omega
        have hbw := hb
        clear hnl
        go_wp2_with fail
        go_ret2
        rw [← ho2]
        exact ⟨_, rfl, own_lower hrow hNW, hB.next hbw⟩
set_option maxRecDepth 100000 in
set_option maxHeartbeats 8000000 in
theorem put_old (x : Int × Int) (over : Bool) {l : List (Int × Int)} {w : World} {A : Option Addr} {cap : Nat} (hl : SliceAt w A cap l) (hr : Rises cmpR l) (hz : l.length ≤ 13999999999998) (hh : hasL cmpR x l = true) :
    Calls Try.prog 46 #[.slice A l.length cap, .agg #[.int .i64 x.1, .int .i64 x.2], .bool over] w fun e w' => ∃ v, e = .returned (.tuple #[v, .bool true]) ∧ w'.ownsRow w.heap.size 27 2 v (insL cmpR x over l).length (flat (insL cmpR x over l)) ∧ Later w w' := by
  have hcap := hl.1
  have hB : Later w (w.alloc (.cells #[.int .i64 x.1, .int .i64 x.2] 27)) := Later.two
  have hxx := two_new w (.int .i64 x.1) (.int .i64 x.2) 27
  have hl0 := hl.later hB
  obtain ⟨W0, hW0⟩ : ∃ W0, w.alloc (.cells #[.int .i64 x.1, .int .i64 x.2] 27) = W0 := ⟨_, rfl⟩
  obtain ⟨N, hN⟩ : ∃ N, w.heap.size = N := ⟨_, rfl⟩
  rw [hW0] at hB hxx hl0
  rw [hN] at hxx ⊢
  have hNW : N ≤ W0.heap.size := by rw [← hN]; exact hB.size
  have hfind := fun (W : World) (k : Later W0 W) => find_ref x (hl0.later k) hr
  have hat : atL cmpR x l = (rankL cmpR x l : Int) := by unfold atL; rw [if_pos hh]
  rw [hat] at hfind
  have hrank := fun (W : World) (k : Later W0 W) => rank_ref x (hl0.later k)
  obtain ⟨hn, i1, i2, i4⟩ := ins_old_at (over := over) hr hh
  clear hat
  generalize rankL cmpR x l = n at hfind hrank i1 i2 hn
  generalize hins : insL cmpR x over l = ins at i1 i2 i4 ⊢
  replace hins := hid hins
  clear hl hh hr
  go_enter Try.func46, Try.ntmps46
  go_wp2_with fail
  go_at_call 77; refine (hfind _ (Later.refl _)).mono ?_; rintro e W1 ⟨rfl, l1⟩
  have hx1 := l1.cell hxx.1
  have hx2 := l1.cell hxx.2
  go_wp2_with fail
  go_at_call 66; refine (hrank _ l1).mono ?_; rintro e W2 ⟨rfl, l2'⟩
  have l2 := l1.next l2'
  clear hfind hrank l1 l2' hx1 hx2
  go_wp2_with fail
  go_loopw [10, 11] (fun v i wr => ∃ (k : Nat) (out : List (Int × Int)), k ≤ l.length ∧ i = .int .i64 k ∧ wr.ownsRow W0.heap.size 27 2 v out.length (flat out) ∧ Hid (out = ins.take k) ∧ out.length ≤ k ∧ Later W0 wr) (fun _ i _ => l.length - (intOf i).toNat)
  case atStart => exact ⟨0, [], Nat.zero_le _, rfl, ownsRow_nil2 _ _, hid (by simp), Nat.zero_le _, l2⟩
  case round =>
    obtain ⟨k, out, hk, rfl, hrow, hout, hol, hb⟩ := hrel
    have hx1 := hb.cell hxx.1
    have hx2 := hb.cell hxx.2
    have hbs := hb.size
    by_cases hlt : k < l.length
    · obtain ⟨y, hy⟩ : ∃ y, l[k]? = some y := ⟨_, List.getElem?_eq_getElem hlt⟩
      obtain ⟨b, o, rfl, c0, c1⟩ := (hl0.later hb).2.2 _ _ hy
      by_cases hkn : k = n
      · have hkn1 : ((k : Int) == (n : Int)) = true := by simp [hkn]
        have hnn : decide ((n : Int) < 0) = false := by simp
        cases over
        · have ho2 : Hid (out ++ [y] = ins.take (k + 1)) := hid (by rw [hout.out, ← take_snoc (by subst hkn; rw [i2, if_neg (by simp)]; exact hy)])
          clear hkn i2
          go_wp2_with (at_builtin; refine append_one rfl rfl rfl rfl (hrow.alloc _) (two_new _ _ _ _) (by omega) (by simp; omega) ?_; intro v1 w1 hr1 hb1; have hbw : Later W0 w1 := Below.trans (Later.alloc hb _) hb1)
          go_roundw
          case rel => exact ⟨k + 1, _, by omega, by go_num, hr1, ho2, by simp; omega, hbw⟩
          case measure => simp [intOf]; omega
        · have ho2 : Hid (out ++ [x] = ins.take (k + 1)) := hid (by rw [hout.out, ← take_snoc (by subst hkn; rw [i2, if_pos rfl])])
          clear hkn i2
          go_wp2_with (at_builtin; refine append_one rfl rfl rfl rfl (hrow.alloc _) (two_new _ _ _ _) (by omega) (by simp; omega) ?_; intro v1 w1 hr1 hb1; have hbw : Later W0 w1 := Below.trans (Later.alloc hb _) hb1)
          go_roundw
          case rel => exact ⟨k + 1, _, by omega, by go_num, hr1, ho2, by simp; omega, hbw⟩
          case measure => simp [intOf]; omega
      · have hkn1 : ((k : Int) == (n : Int)) = false := by simp; omega
        have ho2 : Hid (out ++ [y] = ins.take (k + 1)) := hid (by rw [hout.out, ← take_snoc ((i1 k hkn).trans hy)])
        clear hkn i2
        go_wp2_with (at_builtin; refine append_one rfl rfl rfl rfl (hrow.alloc _) (two_new _ _ _ _) (by omega) (by simp; omega) ?_; intro v1 w1 hr1 hb1; have hbw : Later W0 w1 := Below.trans (Later.alloc hb _) hb1)
        go_roundw
        case rel => exact ⟨k + 1, _, by omega, by go_num, hr1, ho2, by simp; omega, hbw⟩
        case measure => simp [intOf]; omega
    · obtain rfl : k = l.length := by omega
      have ho2 : out = ins := by rw [hout.out, List.take_of_length_le (by omega)]
      have hkn1 : ((n : Int) == (l.length : Int)) = false := by simp; omega
      have hnn : decide (0 ≤ (n : Int)) = true := by simp
      have hbw := hb
      clear i2
      go_wp2_with fail
      go_ret2
      rw [← ho2]
      exact ⟨_, rfl, own_lower hrow hNW, hB.next hbw⟩
theorem put_ref (x : Int × Int) (over : Bool) {l : List (Int × Int)} {w : World} {A : Option Addr} {cap : Nat} (hl : SliceAt w A cap l) (hr : Rises cmpR l) (hz : l.length ≤ 13999999999998) :
    Calls Try.prog 46 #[.slice A l.length cap, .agg #[.int .i64 x.1, .int .i64 x.2], .bool over] w fun e w' => ∃ v, e = .returned (.tuple #[v, .bool (hasL cmpR x l)]) ∧ w'.ownsRow w.heap.size 27 2 v (insL cmpR x over l).length (flat (insL cmpR x over l)) ∧ Later w w' := by
  cases h : hasL cmpR x l
  · exact put_new x over hl hr hz h
  · exact put_old x over hl hr hz h
theorem rem_at {x : Int × Int} {l : List (Int × Int)} (hr : Rises cmpR l) (hh : hasL cmpR x l = true) : rankL cmpR x l < l.length ∧ (∀ k, k < rankL cmpR x l → (remL cmpR x l)[k]? = l[k]?) ∧ (∀ k, rankL cmpR x l ≤ k → (remL cmpR x l)[k]? = l[k + 1]?) ∧ (remL cmpR x l).length = l.length - 1 := by
  obtain ⟨y, hy, hc, hf, hi⟩ := hasL_at ordR hr hh
  have hn := (List.getElem?_eq_some_iff.1 hy).1
  rw [remL_at ordR hr, if_pos hh]
  refine ⟨hn, fun k hk => ?_, fun k hk => ?_, ?_⟩
  · rw [List.getElem?_eraseIdx_of_lt hk]
  · rw [List.getElem?_eraseIdx_of_ge hk]
  · rw [List.length_eraseIdx_of_lt hn]
set_option maxRecDepth 100000 in
set_option maxHeartbeats 8000000 in
theorem rem_old (x : Int × Int) {l : List (Int × Int)} {w : World} {A : Option Addr} {cap : Nat} (hl : SliceAt w A cap l) (hr : Rises cmpR l) (hz : l.length ≤ 13999999999998) (hh : hasL cmpR x l = true) :
    Calls Try.prog 47 #[.slice A l.length cap, .agg #[.int .i64 x.1, .int .i64 x.2]] w fun e w' => ∃ v, e = .returned (.tuple #[v, .bool true]) ∧ w'.ownsRow w.heap.size 27 2 v (remL cmpR x l).length (flat (remL cmpR x l)) ∧ Later w w' := by
  have hcap := hl.1
  have hB : Later w (w.alloc (.cells #[.int .i64 x.1, .int .i64 x.2] 27)) := Later.two
  have hxx := two_new w (.int .i64 x.1) (.int .i64 x.2) 27
  have hl0 := hl.later hB
  obtain ⟨W0, hW0⟩ : ∃ W0, w.alloc (.cells #[.int .i64 x.1, .int .i64 x.2] 27) = W0 := ⟨_, rfl⟩
  obtain ⟨N, hN⟩ : ∃ N, w.heap.size = N := ⟨_, rfl⟩
  rw [hW0] at hB hxx hl0
  rw [hN] at hxx ⊢
  have hNW : N ≤ W0.heap.size := by rw [← hN]; exact hB.size
  have hfind := fun (W : World) (k : Later W0 W) => find_ref x (hl0.later k) hr
  have hat : atL cmpR x l = (rankL cmpR x l : Int) := by unfold atL; rw [if_pos hh]
  rw [hat] at hfind
  obtain ⟨hn, i1, i2, i4⟩ := rem_at hr hh
  clear hat
  generalize rankL cmpR x l = n at hfind i1 i2 hn
  generalize hins : remL cmpR x l = ins at i1 i2 i4 ⊢
  replace hins := hid hins
  clear hl hh hr
  go_enter Try.func47, Try.ntmps47
  go_wp2_with fail
  go_at_call 77; refine (hfind _ (Later.refl _)).mono ?_; rintro e W1 ⟨rfl, l1⟩
  clear hfind
  go_wp2_with fail
  go_loopw [7, 8] (fun v i wr => ∃ (k : Nat) (out : List (Int × Int)), k ≤ l.length ∧ i = .int .i64 k ∧ wr.ownsRow W0.heap.size 27 2 v out.length (flat out) ∧ Hid (out = ins.take (if k ≤ n then k else k - 1)) ∧ out.length ≤ k ∧ Later W0 wr) (fun _ i _ => l.length - (intOf i).toNat)
  case atStart => exact ⟨0, [], Nat.zero_le _, rfl, ownsRow_nil2 _ _, hid (by simp), Nat.zero_le _, l1⟩
  case round =>
    obtain ⟨k, out, hk, rfl, hrow, hout, hol, hb⟩ := hrel
    have hbs := hb.size
    by_cases hlt : k < l.length
    · obtain ⟨y, hy⟩ : ∃ y, l[k]? = some y := ⟨_, List.getElem?_eq_getElem hlt⟩
      obtain ⟨b, o, rfl, c0, c1⟩ := (hl0.later hb).2.2 _ _ hy
      by_cases hkn : k = n
      · have hkn1 : ((k : Int) == (n : Int)) = true := by simp [hkn]
        have ho2 : Hid (out = ins.take (if k + 1 ≤ n then k + 1 else k + 1 - 1)) := hid (by rw [hout.out, if_pos (by omega), if_neg (by omega), Nat.add_sub_cancel])
        clear hkn i2
        go_wp2_with fail
        go_roundw
        case rel => exact ⟨k + 1, _, by omega, by go_num, hrow, ho2, by omega, hb⟩
        case measure => simp [intOf]; omega
      · have hkn1 : ((k : Int) == (n : Int)) = false := by simp; omega
        have ho2 : Hid (out ++ [y] = ins.take (if k + 1 ≤ n then k + 1 else k + 1 - 1)) := hid (by
          rw [hout.out]
          by_cases hkl : k < n
          · rw [if_pos (by omega), if_pos (by omega), ← take_snoc ((i1 k hkl).trans hy)]
          · rw [if_neg (by omega), if_neg (by omega), show k + 1 - 1 = (k - 1) + 1 by omega, ← take_snoc ((i2 (k - 1) (by omega)).trans (by rw [show k - 1 + 1 = k by omega]; exact hy))])
        clear hkn i2
        go_wp2_with (at_builtin; refine append_one rfl rfl rfl rfl (hrow.alloc _) (two_new _ _ _ _) (by omega) (by simp; omega) ?_; intro v1 w1 hr1 hb1; have hbw : Later W0 w1 := Below.trans (Later.alloc hb _) hb1)
        go_roundw
        case rel => exact ⟨k + 1, _, by omega, by go_num, hr1, ho2, by simp; omega, hbw⟩
        case measure => simp [intOf]; omega
    · obtain rfl : k = l.length := by omega
      have ho2 : out = ins := by rw [hout.out, if_neg (by omega), List.take_of_length_le (by omega)]
      have hnn : decide (0 ≤ (n : Int)) = true := by simp
      have hbw := hb
      clear i2
      go_wp2_with fail
      go_ret2
      rw [← ho2]
      exact ⟨_, rfl, own_lower hrow hNW, hB.next hbw⟩
set_option maxRecDepth 100000 in
set_option maxHeartbeats 8000000 in
theorem rem_new (x : Int × Int) {l : List (Int × Int)} {w : World} {A : Option Addr} {cap : Nat} (hl : SliceAt w A cap l) (hr : Rises cmpR l) (hz : l.length ≤ 13999999999998) (hh : hasL cmpR x l = false) :
    Calls Try.prog 47 #[.slice A l.length cap, .agg #[.int .i64 x.1, .int .i64 x.2]] w fun e w' => ∃ v, e = .returned (.tuple #[v, .bool false]) ∧ w'.ownsRow w.heap.size 27 2 v (remL cmpR x l).length (flat (remL cmpR x l)) ∧ Later w w' := by
  have hrl : remL cmpR x l = l := by rw [remL_at ordR hr, if_neg (by rw [hh]; simp)]
  rw [hrl]
  have hcap := hl.1
  have hB : Later w (w.alloc (.cells #[.int .i64 x.1, .int .i64 x.2] 27)) := Later.two
  have hxx := two_new w (.int .i64 x.1) (.int .i64 x.2) 27
  have hl0 := hl.later hB
  obtain ⟨W0, hW0⟩ : ∃ W0, w.alloc (.cells #[.int .i64 x.1, .int .i64 x.2] 27) = W0 := ⟨_, rfl⟩
  obtain ⟨N, hN⟩ : ∃ N, w.heap.size = N := ⟨_, rfl⟩
  rw [hW0] at hB hxx hl0
  rw [hN] at hxx ⊢
  have hNW : N ≤ W0.heap.size := by rw [← hN]; exact hB.size
  have hfind := fun (W : World) (k : Later W0 W) => find_ref x (hl0.later k) hr
  rw [atL_none hh] at hfind
  clear hl hh hr hrl
  go_enter Try.func47, Try.ntmps47
  go_wp2_with fail
  go_at_call 77; refine (hfind _ (Later.refl _)).mono ?_; rintro e W1 ⟨rfl, l1⟩
  clear hfind
  go_wp2_with fail
  go_loopw [7, 8] (fun v i wr => ∃ (k : Nat) (out : List (Int × Int)), k ≤ l.length ∧ i = .int .i64 k ∧ wr.ownsRow W0.heap.size 27 2 v out.length (flat out) ∧ Hid (out = l.take k) ∧ out.length ≤ k ∧ Later W0 wr) (fun _ i _ => l.length - (intOf i).toNat)
  case atStart => exact ⟨0, [], Nat.zero_le _, rfl, ownsRow_nil2 _ _, hid (by simp), Nat.zero_le _, l1⟩
  case round =>
    obtain ⟨k, out, hk, rfl, hrow, hout, hol, hb⟩ := hrel
    have hbs := hb.size
    by_cases hlt : k < l.length
    · obtain ⟨y, hy⟩ : ∃ y, l[k]? = some y := ⟨_, List.getElem?_eq_getElem hlt⟩
      obtain ⟨b, o, rfl, c0, c1⟩ := (hl0.later hb).2.2 _ _ hy
      have ho2 : Hid (out ++ [y] = l.take (k + 1)) := hid (by rw [hout.out, ← take_snoc hy])
      clear hy
      go_wp2_with (at_builtin; refine append_one rfl rfl rfl rfl (hrow.alloc _) (two_new _ _ _ _) (by omega) (by simp; omega) ?_; intro v1 w1 hr1 hb1; have hbw : Later W0 w1 := Below.trans (Later.alloc hb _) hb1)
      go_roundw
      case rel => exact ⟨k + 1, _, by omega, by go_num, hr1, ho2, by simp; omega, hbw⟩
      case measure => simp [intOf]; omega
    · obtain rfl : k = l.length := by omega
      have ho2 : out = l := by rw [hout.out, List.take_length]
      have hbw := hb
      go_wp2_with fail
      go_ret2
      rw [← ho2]
      exact ⟨_, rfl, own_lower hrow hNW, hB.next hbw⟩
theorem rem_ref (x : Int × Int) {l : List (Int × Int)} {w : World} {A : Option Addr} {cap : Nat} (hl : SliceAt w A cap l) (hr : Rises cmpR l) (hz : l.length ≤ 13999999999998) :
    Calls Try.prog 47 #[.slice A l.length cap, .agg #[.int .i64 x.1, .int .i64 x.2]] w fun e w' => ∃ v, e = .returned (.tuple #[v, .bool (hasL cmpR x l)]) ∧ w'.ownsRow w.heap.size 27 2 v (remL cmpR x l).length (flat (remL cmpR x l)) ∧ Later w w' := by
  cases h : hasL cmpR x l
  · exact rem_new x hl hr hz h
  · exact rem_old x hl hr hz h
end Go.Proofs.Yteledidnhjioaaa.Sh
