import Derived.Test.YteledidnhjioaaaSiU
import Derived.StillTailTactics
namespace Go.Proofs.Yteledidnhjioaaa.Sh
open Go.RowKit Go.Lib Go.Proofs Go.Shelf
set_option linter.unusedVariables false
set_option linter.unusedSimpArgs false
attribute [local go_sem] Oper.semAt_some
/-! ### a list as a sequence whose counts lie at an offset within a larger block -/
abbrev put3 (cs : Array Value) (o : Nat) (a b c : Int) : Array Value := ((cs.setIfInBounds o (.int .i64 a)).setIfInBounds (o + 1) (.int .i64 b)).setIfInBounds (o + 2) (.int .i64 c)
theorem put3_at (cs : Array Value) (o : Nat) (a b c : Int) (i : Nat) (h : o + 2 < cs.size) : (put3 cs o a b c)[i]? = if i = o + 2 then some (.int .i64 c) else if i = o + 1 then some (.int .i64 b) else if i = o then some (.int .i64 a) else cs[i]? := by
  unfold put3
  simp only [Array.getElem?_setIfInBounds, Array.size_setIfInBounds]
  by_cases h2 : i = o + 2
  · subst h2; simp; omega
  · by_cases h1 : i = o + 1
    · subst h1; simp; omega
    · by_cases h0 : i = o
      · subst h0; simp; omega
      · rw [if_neg (fun e => h2 e.symm), if_neg (fun e => h1 e.symm), if_neg (fun e => h0 e.symm), if_neg h2, if_neg h1, if_neg h0]
def SeenO (T : TypeId) (o : Nat) (cs : Array Value) (W : World) (N : Nat) (a b c : Int) : Prop := W.heap[N]? = some (.cells (put3 cs o a b c) T (0, 0)) ∧ o + 2 < cs.size
section
variable {T : TypeId} {o : Nat} {cs : Array Value}
theorem SeenO.lt {W : World} {N : Nat} {a b c : Int} (h : SeenO T o cs W N a b c) : N < W.heap.size := (Array.getElem?_eq_some_iff.1 h.1).1
theorem SeenO.cells {W : World} {N : Nat} {a b c : Int} (h : SeenO T o cs W N a b c) : W.cell? ⟨N, o, none⟩ = some (.int .i64 a) ∧ W.cell? ⟨N, o + 1, none⟩ = some (.int .i64 b) ∧ W.cell? ⟨N, o + 2, none⟩ = some (.int .i64 c) ∧ W.frozen? ⟨N, o, none⟩ = false ∧ W.frozen? ⟨N, o + 1, none⟩ = false ∧ W.frozen? ⟨N, o + 2, none⟩ = false := by
  have k := fun i => put3_at cs o a b c i h.2
  have h1 := h.1
  obtain ⟨P, hP⟩ : ∃ P, put3 cs o a b c = P := ⟨_, rfl⟩
  rw [hP] at h1 k
  have hc : ∀ i, W.cell? ⟨N, i, none⟩ = P[i]? := fun i => by simp [World.cell?, h1]
  have hf : ∀ i, W.frozen? ⟨N, i, none⟩ = false := fun i => by simp [World.frozen?, h1]
  refine ⟨?_, ?_, ?_, hf _, hf _, hf _⟩
  · rw [hc, k, if_neg (by omega), if_neg (by omega), if_pos rfl]
  · rw [hc, k, if_neg (by omega), if_pos rfl]
  · rw [hc, k, if_pos rfl]
theorem SeenO.later {W V : World} {N : Nat} {a b c : Int} (h : SeenO T o cs W N a b c) (k : Later W V) : SeenO T o cs V N a b c := ⟨(k.block N h.lt).trans h.1, h.2⟩
theorem SeenO.chg {X : Nat → Prop} {W V : World} {N : Nat} {a b c : Int} (h : SeenO T o cs W N a b c) (k : Chg X W V) (hx : ¬ X N) : SeenO T o cs V N a b c := ⟨(k.block N h.lt hx).trans h.1, h.2⟩
theorem arr_ext {x y : Array Value} (h : ∀ i : Nat, x[i]? = y[i]?) : x = y := Array.ext_getElem? h
theorem SeenO.set0 {W : World} {N : Nat} {a b c : Int} (h : SeenO T o cs W N a b c) (x : Int) : SeenO T o cs (W.setCell ⟨N, o, none⟩ (.int .i64 x)) N x b c := by
  refine ⟨?_, h.2⟩
  have e : (put3 cs o a b c).setIfInBounds o (.int .i64 x) = put3 cs o x b c := arr_ext fun i => by
    rw [Array.getElem?_setIfInBounds, put3_at _ _ _ _ _ _ h.2, put3_at _ _ _ _ _ _ h.2]
    have := h.2
    by_cases hi : o = i
    · subst hi; simp; omega
    · simp [hi, show ¬ i = o from fun e => hi e.symm]
  rw [← e]
  simp [World.setCell, Array.getElem?_modify, h.1]
theorem SeenO.set1 {W : World} {N : Nat} {a b c : Int} (h : SeenO T o cs W N a b c) (x : Int) : SeenO T o cs (W.setCell ⟨N, o + 1, none⟩ (.int .i64 x)) N a x c := by
  refine ⟨?_, h.2⟩
  have e : (put3 cs o a b c).setIfInBounds (o + 1) (.int .i64 x) = put3 cs o a x c := arr_ext fun i => by
    rw [Array.getElem?_setIfInBounds, put3_at _ _ _ _ _ _ h.2, put3_at _ _ _ _ _ _ h.2]
    have := h.2
    by_cases hi : o + 1 = i
    · subst hi; simp; omega
    · simp [hi, show ¬ i = o + 1 from fun e => hi e.symm]
  rw [← e]
  simp [World.setCell, Array.getElem?_modify, h.1]
theorem SeenO.set2 {W : World} {N : Nat} {a b c : Int} (h : SeenO T o cs W N a b c) (x : Int) : SeenO T o cs (W.setCell ⟨N, o + 2, none⟩ (.int .i64 x)) N a b x := by
  refine ⟨?_, h.2⟩
  have e : (put3 cs o a b c).setIfInBounds (o + 2) (.int .i64 x) = put3 cs o a b x := arr_ext fun i => by
    rw [Array.getElem?_setIfInBounds, put3_at _ _ _ _ _ _ h.2, put3_at _ _ _ _ _ _ h.2]
    have := h.2
    by_cases hi : o + 2 = i
    · subst hi; simp; omega
    · simp [hi, show ¬ i = o + 2 from fun e => hi e.symm]
  rw [← e]
  simp [World.setCell, Array.getElem?_modify, h.1]
end
theorem list_any_o {w : World} {A : Option Addr} {n cap SN o : Nat} : Calls Try.prog 13 #[.slice A n cap, .pointer (some ⟨SN, o, none⟩)] w fun e V =>
    e = .returned (listV (w.heap.size + 1) w.heap.size) ∧ Later w V ∧ Boxed V w.heap.size 22 (.slice A n cap) ∧ Boxed V (w.heap.size + 1) 31 (.pointer (some ⟨SN, o, none⟩)) := by
  have h1 := Boxed.new w 22 (.slice A n cap)
  have h2 := Boxed.new (w.alloc (.cells #[.slice A n cap] 22)) 31 (.pointer (some ⟨SN, o, none⟩))
  rw [World.size_alloc] at h2
  have hl : Later w ((w.alloc (.cells #[.slice A n cap] 22)).alloc (.cells #[.pointer (some ⟨SN, o, none⟩)] 31)) := ((Later.refl w).alloc _).alloc _
  go_enter Try.func13, Try.ntmps13
  go_wp2
  go_ret
  exact ⟨rfl, hl, h1.alloc _, h2⟩
section
variable {T : TypeId} {o : Nat} {cs : Array Value}
set_option maxRecDepth 100000 in
set_option maxHeartbeats 8000000 in
theorem list_seq_o {X : Nat → Prop} {l : List (Int × Int)} {w0 : World} {A : Option Addr} {cap BL BP SN : Nat} {a b c : Int} (hl : SliceAt w0 A cap l) (bL : Boxed w0 BL 22 (.slice A l.length cap)) (bP : Boxed w0 BP 31 (.pointer (some ⟨SN, o, none⟩))) (hs : SeenO T o cs w0 SN a b c)
    (hT : T ≠ 22 ∧ T ≠ 31) (xL : ¬ X BL) (xP : ¬ X BP) (xS : ¬ X SN) (xA : ∀ f o, A = some ⟨f, o, none⟩ → l ≠ [] → f < w0.heap.size → ¬ X f ∧ f ≠ SN) (ha : 0 ≤ a ∧ a ≤ 1000) (hb : 0 ≤ b ∧ b ≤ 1000) (hc : 0 ≤ c ∧ c ≤ 1000000000000000) (hz : l.length ≤ 14000000000000) :
    SeqW X (only SN) 55 #[.pointer (some ⟨BP, 0, none⟩), .pointer (some ⟨BL, 0, none⟩)] l (fun k V => SeenO T o cs V SN (a + 1) (b + 1) (c + k)) w0 := by
  intro n lp J Jx W hW hJ hJx hJz hJxz hY h0
  have eLS : BL ≠ SN := fun e => by have h1 : w0.heap[BL]? = _ := bL; rw [e, show w0.heap[SN]? = _ from hs.1] at h1; injection h1 with h1; injection h1 with _ h1 _; exact hT.1 h1
  have ePS : BP ≠ SN := fun e => by have h1 : w0.heap[BP]? = _ := bP; rw [e, show w0.heap[SN]? = _ from hs.1] at h1; injection h1 with h1; injection h1 with _ h1 _; exact hT.2 h1
  have hcap := hl.1
  have hsW := hs.later hW
  have bLW := bL.kept hW.grown (fun e => by cases e)
  have bPW := bP.kept hW.grown (fun e => by cases e)
  show CallsIn FW n Try.prog 55 #[.func (.yield lp) #[] #[], .pointer (some ⟨BP, 0, none⟩), .pointer (some ⟨BL, 0, none⟩)] W _
  refine callsIn_of_wp Try.func55 rfl trivial ?_ rfl
  simp only [Try.ntmps55, List.size_toArray, List.length_cons, List.length_nil, Nat.reduceAdd, Nat.reduceSub, Array.replicate_succ, Array.replicate_zero, List.push_toArray, List.append_toArray, List.nil_append, List.cons_append]
  have q0 := hsW.cells
  have p0 := bPW.cell
  gi_wp2
  refine wpIn_wide.2 ?_
  go_still_tail 7, (by kernel_rfl)
  change wpList _ _ _ _ _ W.drew
  rw [show IntKind.i64.wrap (a + 1) = a + 1 from by rw [IntKind.wrap_i64]; omega]
  have hsd : SeenO T o cs W.drew SN a b c := hsW
  have q1 := hsd.cells
  clear q0
  have c1 : Chg (only SN) W (W.setCell ⟨SN, o, none⟩ (.int .i64 (a + 1))).drew := (Chg.set (X := only SN) _ _ rfl).trans (Later.chg (Later.drew (Later.refl _)))
  have h1 := hJz _ _ _ h0 c1
  have s1 : SeenO T o cs (W.setCell ⟨SN, o, none⟩ (.int .i64 (a + 1))).drew SN (a + 1) b c := hsW.set0 (a + 1)
  go_wp2
  generalize (W.setCell ⟨SN, o, none⟩ (.int .i64 (a + 1))).drew = W1 at c1 h1 s1 ⊢
  obtain ⟨Y, hYd⟩ : ∃ Y : Nat → Prop, Y = fun b => X b ∨ b = SN := ⟨_, rfl⟩
  have xY : ∀ b, X b → Y b := fun b h => by rw [hYd]; exact .inl h
  have sY : ∀ b, only SN b → Y b := fun b h => by rw [hYd]; exact .inr h
  have nL : ¬ Y BL := by rw [hYd]; exact fun h => h.elim xL eLS
  have nP : ¬ Y BP := by rw [hYd]; exact fun h => h.elim xP ePS
  have nA : ∀ f o, A = some ⟨f, o, none⟩ → l ≠ [] → f < w0.heap.size → ¬ Y f := fun f o e h0 h => by rw [hYd]; exact fun k => k.elim (xA f o e h0 h).1 (xA f o e h0 h).2
  have cY := c1.mono sY
  clear q1 p0 c1 hYd
  gi_wp2
  gi_loopw [4] (fun i wr => ∃ k : Nat, k ≤ l.length ∧ i = .int .i64 k ∧ J (l.take k) wr ∧ SeenO T o cs wr SN (a + 1) b (c + k) ∧ Chg Y W wr) (fun i _ => l.length - (intOf i).toNat)
  case atStart => exact ⟨0, Nat.zero_le _, rfl, h1, by simpa using s1, cY⟩
  case round =>
    obtain ⟨k, hk, rfl, hj, hs1, hc1⟩ := hrel
    have cL := (boxed_turn bLW hc1 nL).cell
    have cP := (boxed_turn bPW hc1 nP).cell
    by_cases hlt : k < l.length
    · obtain ⟨x, hx⟩ : ∃ x, l[k]? = some x := ⟨_, List.getElem?_eq_getElem hlt⟩
      have q0 := hs1.cells
      gi_wp2
      refine wpIn_wide.2 ?_
      go_still_tail 7, (by kernel_rfl)
      change wpList _ _ _ _ _ wr.drew
      rw [show IntKind.i64.wrap (c + (k : Int) + 1) = c + (k : Int) + 1 from by rw [IntKind.wrap_i64]; omega]
      have hsd : SeenO T o cs wr.drew SN (a + 1) b (c + k) := hs1
      have q1 := hsd.cells
      clear q0 cL cP
      have c2 : Chg (only SN) wr (wr.setCell ⟨SN, o + 2, none⟩ (.int .i64 (c + (k : Int) + 1))).drew := (Chg.set (X := only SN) _ _ rfl).trans (Later.chg (Later.drew (Later.refl _)))
      have h2 := hJz _ _ _ hj c2
      have s2 : SeenO T o cs (wr.setCell ⟨SN, o + 2, none⟩ (.int .i64 (c + (k : Int) + 1))).drew SN (a + 1) b (c + (k : Int) + 1) := hs1.set2 (c + (k : Int) + 1)
      go_wp2
      generalize (wr.setCell ⟨SN, o + 2, none⟩ (.int .i64 (c + (k : Int) + 1))).drew = W2 at c2 h2 s2 ⊢
      have hc2 := hc1.trans (c2.mono sY)
      have cL := (boxed_turn bLW hc2 nL).cell
      obtain ⟨f, o', hA, k0, k1⟩ := (hl.turn hW hc2 (fun f o e h => nA f o e (fun e0 => by rw [e0] at hx; simp at hx) h)).2.2 _ _ hx
      subst hA
      have hyy : ∀ m, YieldAt FW m Try.prog lp #[.agg #[.int .i64 x.1, .int .i64 x.2]] W2 fun e V => (e = .returned (.bool true) ∧ J (l.take (k + 1)) V ∧ Chg X W2 V) ∨ (e = .returned (.bool false) ∧ Jx (l.take (k + 1)) V ∧ Chg X W2 V) := fun m => by
        have := hY m (l.take k) x W2 h2 (by rw [List.length_take_of_le hk]; exact hlt)
        rw [← take_snoc hx] at this
        exact this
      clear hx hY q1
      gi_wp2
      obtain ⟨fn, tmps, assign, body, hy, hR⟩ := hyy (n - 1)
      clear hyy
      rw [hy]
      refine ⟨fun h => (by cases h), ?_⟩
      refine hR.mono ?_
      clear hR hy
      rintro e V (⟨rfl, hj3, hc3⟩ | ⟨rfl, hx3, hc3⟩)
      · have s3 := s2.chg hc3 xS
        gi_wp2
        go_roundw
        case rel => exact ⟨k + 1, by omega, by go_num, hj3, by rw [show c + ((k + 1 : Nat) : Int) = c + (k : Int) + 1 by omega]; exact s3, hc2.trans (hc3.mono xY)⟩
        case measure => simp [intOf]; omega
      · have s3 := s2.chg hc3 xS
        have hc4 := hc2.trans (hc3.mono xY)
        have p1 := (boxed_turn bPW hc4 nP).cell
        have q1 := s3.cells
        gi_wp2
        refine wpIn_wide.2 ?_
        go_still_tail 7, (by kernel_rfl)
        change wpList _ _ _ _ _ V.drew
        rw [show IntKind.i64.wrap (b + 1) = b + 1 from by rw [IntKind.wrap_i64]; omega]
        have c5 : Chg (only SN) V (V.setCell ⟨SN, o + 1, none⟩ (.int .i64 (b + 1))).drew := (Chg.set (X := only SN) _ _ rfl).trans (Later.chg (Later.drew (Later.refl _)))
        have h5 := hJxz _ _ _ hx3 c5
        have s5 : SeenO T o cs (V.setCell ⟨SN, o + 1, none⟩ (.int .i64 (b + 1))).drew SN (a + 1) (b + 1) (c + (k : Int) + 1) := s3.set1 (b + 1)
        have q2 : SeenO T o cs V.drew SN (a + 1) b (c + (k : Int) + 1) := s3
        have q3 := q2.cells
        go_wp2
        generalize (V.setCell ⟨SN, o + 1, none⟩ (.int .i64 (b + 1))).drew = V5 at h5 s5 ⊢
        go_end0
        refine ⟨⟨_, rfl⟩, .inr ⟨l.take (k + 1), List.take_prefix _ _, h5, ?_⟩⟩
        rw [List.length_take_of_le (by omega), show c + ((k + 1 : Nat) : Int) = c + (k : Int) + 1 by omega]
        exact s5
    · obtain rfl : k = l.length := by omega
      have q1 := hs1.cells
      gi_wp2
      refine wpIn_wide.2 ?_
      go_still_tail 7, (by kernel_rfl)
      change wpList _ _ _ _ _ wr.drew
      rw [show IntKind.i64.wrap (b + 1) = b + 1 from by rw [IntKind.wrap_i64]; omega]
      have c5 : Chg (only SN) wr (wr.setCell ⟨SN, o + 1, none⟩ (.int .i64 (b + 1))).drew := (Chg.set (X := only SN) _ _ rfl).trans (Later.chg (Later.drew (Later.refl _)))
      have h5 := hJz _ _ _ hj c5
      have s5 : SeenO T o cs (wr.setCell ⟨SN, o + 1, none⟩ (.int .i64 (b + 1))).drew SN (a + 1) (b + 1) (c + (l.length : Nat)) := hs1.set1 (b + 1)
      have q2 : SeenO T o cs wr.drew SN (a + 1) b (c + (l.length : Nat)) := hs1
      have q3 := q2.cells
      go_wp2
      generalize (wr.setCell ⟨SN, o + 1, none⟩ (.int .i64 (b + 1))).drew = V5 at h5 s5 ⊢
      go_end0
      rw [List.take_length] at h5
      exact ⟨⟨_, rfl⟩, .inl ⟨h5, s5⟩⟩
end
end Go.Proofs.Yteledidnhjioaaa.Sh
