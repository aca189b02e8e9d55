import Derived.Test.YteledidnhjioaaaSkD
namespace Go.Proofs.Yteledidnhjioaaa.Sh
open Go.RowKit Go.Lib Go.Proofs Go.Shelf
set_option linter.unusedVariables false
set_option linter.unusedSimpArgs false
attribute [local go_sem] Oper.semAt_some
theorem SideQ.all {P : Nat → Prop} {W V : World} {D : Nat} {q : List (Int × Int)} (h : SideQ P W D q) (l : Later W V) : SideQ (fun _ => True) V D q :=
  (h.chg (l.chg (X := fun _ => False)) (fun h => h) (fun _ _ h => h)).more' (fun _ _ _ => trivial)
theorem below_stop {x : Int × Int} {q : List (Int × Int)} (h : ∀ y t, q = y :: t → ¬ y.1 < x.1) : below x q = q := by
  cases q with
  | nil => rfl
  | cons y t =>
    unfold below
    rw [List.dropWhile_cons_of_neg]
    simp only [decide_eq_true_eq, cmpR_lt]
    exact h y t rfl
theorem below_step {x y : Int × Int} {t : List (Int × Int)} (h : y.1 < x.1) : below x (y :: t) = below x t := by
  unfold below
  rw [List.dropWhile_cons_of_pos]
  simp only [decide_eq_true_eq, cmpR_lt]
  exact h
set_option maxRecDepth 100000 in
set_option maxHeartbeats 40000000 in
theorem part_any {c l BC BF BY lo0 lo hi cap Dp Dq : Nat} {both : Bool} {f : (Int × Int) → (Int × Int) → Int} {A : Option Addr} {X : Nat → Prop} {J Jx : List (Int × Int) → World → Prop} {xs p q : List (Int × Int)} {V : World}
    (hc : Comp c f) (hf : ∀ a b, (f a b < 0 ↔ a.1 < b.1) ∧ (f a b = 0 ↔ a.1 = b.1)) (bC : Boxed V BC 54 (.func (.func c) #[] #[])) (bF : Boxed V BF 4 (.bool both)) (bY : Boxed V BY 45 (.func (.yield l) #[] #[])) (xC : ¬ X BC) (xF : ¬ X BF) (hC : BC < lo0) (hF : BF < lo0) (hBY : lo0 ≤ BY ∧ BY < lo) (hlo : lo ≤ hi) (hhi : hi ≤ V.heap.size)
    (hS : SidesB lo hi (Value.slice A 2 cap).ownBlock V [Dp, Dq] [p, q]) (hown : V.ownsRow lo 113 1 (.slice A 2 cap) 2 ([Dp, Dq].map ptrV))
    (hJ : AbidesFrom lo0 J) (hJz : ∀ s A B, J s A → Chg (priv lo0 hi) A B → J s B)
    (hY : ∀ m pre x W1, J pre W1 → pre.length < xs.length → YieldAt FW m Try.prog l (encP x) W1 fun e V => (e = .returned (.bool true) ∧ J (pre ++ [x]) V ∧ Chg (fun b => X b ∧ ¬ priv lo0 hi b) W1 V) ∨ (e = .returned (.bool false) ∧ Jx (pre ++ [x]) V ∧ Chg (fun b => X b ∧ ¬ priv lo0 hi b) W1 V))
    (h0 : J [] V) (hxs : xs = splitL both p q) (hz : p.length + q.length ≤ 4611686018427387904) :
    Calls Try.prog 90 #[.slice A 2 cap, .pointer (some ⟨BC, 0, none⟩), .pointer (some ⟨BF, 0, none⟩), .pointer (some ⟨BY, 0, none⟩)] V fun e U => (∃ v, e = .returned v) ∧ (J xs U ∨ ∃ pre, pre <+: xs ∧ Jx pre U) ∧ Chg (fun b => b ∈ [Dp, Dq] ∨ (X b ∧ ¬ priv lo0 hi b)) V U := by
  replace hf := hid hf
  have hen := hc.enters
  have hcc := hc.calls
  obtain ⟨g, rfl, hg0⟩ := ptr_row (k := 0) (D := Dp) hown rfl rfl
  obtain ⟨g', e', hg1⟩ := ptr_row (k := 1) (D := Dq) hown rfl rfl
  obtain rfl : g = g' := by injection e' with e'; injection e'
  obtain ⟨O, hO⟩ : ∃ O, (Value.slice (some ⟨g, 0, none⟩) 2 cap).ownBlock = O := ⟨_, rfl⟩
  rw [hO] at hS
  have hDp := hS.ge Dp (by simp)
  have hDq := hS.ge Dq (by simp)
  have hpq : Dp ≠ Dq := fun e => by have := hS.nodup; simp [e] at this
  have hG0 := Later.drew (Later.refl V)
  obtain ⟨Good, hGd⟩ : ∃ G : World → Prop, ∀ W', G W' ↔ Later V W' := ⟨_, fun _ => Iff.rfl⟩
  replace hG0 := (hGd _).2 hG0
  have hne : Nonempty (InG Good) := ⟨⟨_, hG0⟩⟩
  have g0 : ∀ p : InG Good, p.W.cell? ⟨g, 0, none⟩ = some (ptrV Dp) ∧ p.W.cell? ⟨g, 1, none⟩ = some (ptrV Dq) := fun p => ⟨((hGd _).1 p.h).cell hg0, ((hGd _).1 p.h).cell hg1⟩
  replace hGd := hid hGd
  clear e' hO hown hg0 hg1
  replace hxs := hid hxs
  go_enter Try.func90, Try.ntmps90
  go_wp2_with fail
  refine region_in Good (by kernel_rfl) (by kernel_rfl) hG0 ?_
  repeat (go_big_quiet_step (fail))
  refine wpQuiet_nil ?_
  intro w7 hw7
  have l7 := (hGd.out _).1 hw7
  clear hGd hne hG0 hw7 g0 Good
  have hj7 := hJ _ _ _ none h0 l7.grown (fun r e => by cases e)
  have S7 := hS.chg (l7.chg (X := fun _ => False)) (fun _ _ _ _ h => h)
  have hc7 := l7.chg (X := fun b => b ∈ [Dp, Dq] ∨ (X b ∧ ¬ priv lo0 hi b))
  go_wp2_with fail
  go_loopg [] (p.length + 1) (fun k wr => ∃ (pre p' q' : List (Int × Int)), J pre wr ∧ Hid (xs = pre ++ splitL both p' q') ∧ Hid (p'.length < k) ∧ Hid (p'.length + q'.length ≤ 4611686018427387904) ∧ SidesB lo hi O wr [Dp, Dq] [p', q'] ∧ Chg (fun b => b ∈ [Dp, Dq] ∨ (X b ∧ ¬ priv lo0 hi b)) V wr)
  case atStart => exact ⟨[], p, q, hj7, hxs, hid (Nat.lt_succ_self _), hid hz, S7, hc7⟩
  case round =>
    rename World => W1
    obtain ⟨pre, p', q', hj, hx, hk, hzz, hS', hch⟩ := hrel
    clear hj7 S7 hc7 l7 h0 hS hxs
    have bC1 : Boxed W1 BC 54 (.func (.func c) #[] #[]) := boxed_turn bC hch (fun h => h.elim (fun h => by have := (hS'.ge _ h).1; omega) (fun h => xC h.1))
    have bF1 : Boxed W1 BF 4 (.bool both) := boxed_turn bF hch (fun h => h.elim (fun h => by have := (hS'.ge _ h).1; omega) (fun h => xF h.1))
    have bY1 : Boxed W1 BY 45 (.func (.yield l) #[] #[]) := boxed_turn bY hch (fun h => h.elim (fun h => by have := (hS'.ge _ h).1; omega) (fun h => h.2 ⟨hBY.1, by omega⟩))
    cases p' with
    | nil =>
      have ho := (hS'.at_ 0 Dp [] rfl rfl).ok
      simp only [List.isEmpty_nil, Bool.not_true] at ho
      clear hJz hY bC1 bF1 bY1
      go_wp2_with fail
      go_end0
      exact ⟨⟨_, rfl⟩, .inl (by rw [hx.out]; simpa [splitL] using hj), hch⟩
    | cons x r =>
      have ho := (hS'.at_ 0 Dp (x :: r) rfl rfl).head
      go_wp2_with fail
      clear ho
      go_loopg [] (q'.length + 1) (fun k w2 => ∃ q2 : List (Int × Int), Hid (below x q2 = below x q' ∧ q2.length ≤ q'.length) ∧ Hid (q2.length < k) ∧ SidesB lo hi O w2 [Dp, Dq] [x :: r, q2] ∧ Chg (only Dq) W1 w2)
      case atStart => exact ⟨q', hid ⟨rfl, Nat.le_refl _⟩, hid (Nat.lt_succ_self _), hS', Chg.refl _ _⟩
      case round =>
        rename World => w2
        obtain ⟨q2, hbl, hq2, hS2, hc2⟩ := hrel
        have hj2 : J pre w2 := hJz _ _ _ hj (hc2.mono fun b h => by have : b = Dq := h; subst this; exact ⟨by have := hDq.1; omega, hDq.2⟩)
        have hch2 := hch.trans (hc2.mono fun b h => (.inl (by have : b = Dq := h; subst this; simp) : b ∈ [Dp, Dq] ∨ (X b ∧ ¬ priv lo0 hi b)))
        have bC2 := boxed_turn bC1 hc2 (fun h => by have : BC = Dq := h; omega)
        have bF2 := boxed_turn bF1 hc2 (fun h => by have : BF = Dq := h; omega)
        have bY2 := boxed_turn bY1 hc2 (fun h => by have : BY = Dq := h; omega)
        have sp := hS2.at_ 0 Dp (x :: r) rfl rfl
        have sq := hS2.at_ 1 Dq q2 rfl rfl
        have hc12 := hc2
        clear hj hch bC1 bF1 bY1 hS' hc2
        cases q2 with
        | nil =>
          have hb2 : below x [] = [] := rfl
          have hG0 := Later.drew (Later.refl w2)
          obtain ⟨Good, hGd⟩ : ∃ G : World → Prop, ∀ W', G W' ↔ Later w2 W' := ⟨_, fun _ => Iff.rfl⟩
          replace hG0 := (hGd _).2 hG0
          have hne : Nonempty (InG Good) := ⟨⟨_, hG0⟩⟩
          have hcq : ∀ (a b : Int × Int) (p : InG Good), Calls Try.prog c #[.agg #[.int .i64 a.1, .int .i64 a.2], .agg #[.int .i64 b.1, .int .i64 b.2]] p.W fun e w'' => e = .returned (.int .i64 (f a b)) ∧ ∃ p' : InG Good, w'' = p'.W := fun a b p => (hcc a b p.W).mono fun e w'' hh => ⟨hh.1, ⟨w'', (hGd _).2 (((hGd _).1 p.h).next hh.2)⟩, rfl⟩
          have gC : ∀ p : InG Good, p.W.cell? ⟨BC, 0, none⟩ = some (.func (.func c) #[] #[]) ∧ p.W.cell? ⟨BF, 0, none⟩ = some (.bool both) ∧ p.W.cell? ⟨BY, 0, none⟩ = some (.func (.yield l) #[] #[]) ∧ p.W.cell? ⟨Dp, 1, none⟩ = some (.int .i64 x.1) ∧ p.W.cell? ⟨Dp, 2, none⟩ = some (.int .i64 x.2) := fun p => by
            have lp := (hGd _).1 p.h
            have z := (sp.all lp).head
            exact ⟨lp.cell bC2.cell, lp.cell bF2.cell, lp.cell bY2.cell, z.1, z.2.1⟩
          have g0 : ∀ p : InG Good, p.W.cell? ⟨Dq, 3, none⟩ = some (.bool false) := fun p => (sq.all ((hGd _).1 p.h)).ok
          replace hGd := hid hGd
          go_wp2_with fail
          refine region_in Good (by kernel_rfl) (by kernel_rfl) hG0 ?_
          repeat (go_big_quiet_step (exact hcq _ _ _))
          refine wpQuiet_nil ?_
          intro w7 hw7
          have l7 := (hGd.out _).1 hw7
          clear hcq hGd hne hG0 hw7 gC g0 Good
          go_wp2_with fail
          cases both with
          | false =>

            have hG0 := Later.drew (Later.refl w7)
            obtain ⟨Good, hGd⟩ : ∃ G : World → Prop, ∀ W', G W' ↔ Later w7 W' := ⟨_, fun _ => Iff.rfl⟩
            replace hG0 := (hGd _).2 hG0
            have hne : Nonempty (InG Good) := ⟨⟨_, hG0⟩⟩
            have hcq : ∀ (a b : Int × Int) (p : InG Good), Calls Try.prog c #[.agg #[.int .i64 a.1, .int .i64 a.2], .agg #[.int .i64 b.1, .int .i64 b.2]] p.W fun e w'' => e = .returned (.int .i64 (f a b)) ∧ ∃ p' : InG Good, w'' = p'.W := fun a b p => (hcc a b p.W).mono fun e w'' hh => ⟨hh.1, ⟨w'', (hGd _).2 (((hGd _).1 p.h).next hh.2)⟩, rfl⟩
            have gC : ∀ p : InG Good, p.W.cell? ⟨BC, 0, none⟩ = some (.func (.func c) #[] #[]) ∧ p.W.cell? ⟨BF, 0, none⟩ = some (.bool false) ∧ p.W.cell? ⟨BY, 0, none⟩ = some (.func (.yield l) #[] #[]) ∧ p.W.cell? ⟨Dp, 1, none⟩ = some (.int .i64 x.1) ∧ p.W.cell? ⟨Dp, 2, none⟩ = some (.int .i64 x.2) := fun p => by
              have lp := l7.next ((hGd _).1 p.h)
              have z := (sp.all lp).head
              exact ⟨lp.cell bC2.cell, lp.cell bF2.cell, lp.cell bY2.cell, z.1, z.2.1⟩
            have g0 : ∀ p : InG Good, p.W.cell? ⟨Dq, 3, none⟩ = some (.bool false) := fun p => (sq.all (l7.next ((hGd _).1 p.h))).ok
            replace hGd := hid hGd
            have hlk : likeH x (below x q') = false := by rw [← hbl.out.1, hb2]; rfl
            have hsp : splitL false (x :: r) q' = x :: splitL false r [] := by
              show (if likeH x (below x q') = false then [x] else []) ++ splitL false r (below x q') = _
              rw [hlk, ← hbl.out.1, hb2]
              rfl
            have hx5 : Hid (xs = (pre ++ [x]) ++ splitL false r []) := hid (by rw [hx.out, hsp]; simp)
            replace hlk := hid hlk
            replace hsp := hid hsp
            have hlen : pre.length < xs.length := by rw [hx5.out]; simp
            refine region_yield_in (m := 3) 25 Good (by kernel_rfl) (by kernel_rfl) hG0 ?_
            simp only [List.take_succ_cons, List.take_zero, List.drop_succ_cons, List.drop_zero]
            repeat (go_big_quiet_step (exact hcq _ _ _))
            refine wpQuiet_nil ?_
            intro w8 hw7
            have l8 := (hGd.out _).1 hw7
            clear hcq hGd hne hG0 hw7 gC g0 Good
            have l28 := l7.next l8
            have hj8 := hJ _ _ _ none hj2 l28.grown (fun r e => by cases e)
            have S8 := hS2.chg (l28.chg (X := fun _ => False)) (fun _ _ _ _ h => h)
            have hch8 := hch2.trans (l28.chg (X := fun b => b ∈ [Dp, Dq] ∨ (X b ∧ ¬ priv lo0 hi b)))
            have hyy := hY 2 pre x w8 hj8 hlen
            clear hY hj2 hS2 hch2 bC2 bF2 bY2 sp sq l7 l8 l28 hj8
            gi_wp2
            obtain ⟨fn, tmps, assign, body, hy, hR⟩ := hyy
            rw [hy]
            refine ⟨fun h => (by cases h), ?_⟩
            refine hR.mono ?_
            clear hR hy
            rintro e V' (⟨rfl, hj8, hc3⟩ | ⟨rfl, hx3, hc3⟩)
            · replace S8 := S8.chg hc3 (fun b h1 h2 _ h => h.2 ⟨by omega, h2⟩)
              replace hch8 := hch8.trans (hc3.mono fun b h => (.inr h : b ∈ [Dp, Dq] ∨ (X b ∧ ¬ priv lo0 hi b)))
              gi_wp2
              have S9 := S8.step_at (j := 0) (D := Dp) rfl rfl (by have := hzz.out; simp only [List.length_cons] at this ⊢; omega)
              simp only [List.set_cons_zero, List.tail_cons] at S9
              go_wp2_with fail
              go_at_call 81; refine S9.mono ?_; rintro e w9 ⟨⟨v, rfl⟩, c9, S9'⟩
              go_wp2_with fail
              go_roundg (r.length + 1)
              case measure => have := hk.out; simp only [List.length_cons] at this; omega
              case rel => exact ⟨pre ++ [x], r, [], hJz _ _ _ hj8 (c9.mono fun b h => by have : b = Dp := h; subst this; exact ⟨by have := hDp.1; omega, hDp.2⟩), hx5, hid (Nat.lt_succ_self _), hid (by have h1 := hzz.out; have h2 := hbl.out.2; simp only [List.length_cons] at h1 h2 ⊢; omega), S9', hch8.trans (c9.mono fun b h => (.inl (by have : b = Dp := h; subst this; simp) : b ∈ [Dp, Dq] ∨ (X b ∧ ¬ priv lo0 hi b)))⟩
            · replace hch8 := hch8.trans (hc3.mono fun b h => (.inr h : b ∈ [Dp, Dq] ∨ (X b ∧ ¬ priv lo0 hi b)))
              gi_wp2
              go_wp2_with fail
              refine bodyPost_ret (v := .tuple #[]) (by simp [results, Try.results90, go_sem]) rfl ?_
              exact ⟨⟨_, rfl⟩, .inr ⟨pre ++ [x], ⟨_, hx5.out.symm⟩, hx3⟩, hch8⟩
          | true =>

            have hG0 := Later.drew (Later.refl w7)
            obtain ⟨Good, hGd⟩ : ∃ G : World → Prop, ∀ W', G W' ↔ Later w7 W' := ⟨_, fun _ => Iff.rfl⟩
            replace hG0 := (hGd _).2 hG0
            have hne : Nonempty (InG Good) := ⟨⟨_, hG0⟩⟩
            have hcq : ∀ (a b : Int × Int) (p : InG Good), Calls Try.prog c #[.agg #[.int .i64 a.1, .int .i64 a.2], .agg #[.int .i64 b.1, .int .i64 b.2]] p.W fun e w'' => e = .returned (.int .i64 (f a b)) ∧ ∃ p' : InG Good, w'' = p'.W := fun a b p => (hcc a b p.W).mono fun e w'' hh => ⟨hh.1, ⟨w'', (hGd _).2 (((hGd _).1 p.h).next hh.2)⟩, rfl⟩
            have gC : ∀ p : InG Good, p.W.cell? ⟨BC, 0, none⟩ = some (.func (.func c) #[] #[]) ∧ p.W.cell? ⟨BF, 0, none⟩ = some (.bool true) ∧ p.W.cell? ⟨BY, 0, none⟩ = some (.func (.yield l) #[] #[]) ∧ p.W.cell? ⟨Dp, 1, none⟩ = some (.int .i64 x.1) ∧ p.W.cell? ⟨Dp, 2, none⟩ = some (.int .i64 x.2) := fun p => by
              have lp := l7.next ((hGd _).1 p.h)
              have z := (sp.all lp).head
              exact ⟨lp.cell bC2.cell, lp.cell bF2.cell, lp.cell bY2.cell, z.1, z.2.1⟩
            have g0 : ∀ p : InG Good, p.W.cell? ⟨Dq, 3, none⟩ = some (.bool false) := fun p => (sq.all (l7.next ((hGd _).1 p.h))).ok
            replace hGd := hid hGd
            have hlk : likeH x (below x q') = false := by rw [← hbl.out.1, hb2]; rfl
            have hsp : splitL true (x :: r) q' = splitL true r [] := by
              show (if likeH x (below x q') = true then [x] else []) ++ splitL true r (below x q') = _
              rw [hlk, ← hbl.out.1, hb2]
              rfl
            have hx5 : Hid (xs = pre ++ splitL true r []) := hid (by rw [hx.out, hsp])
            replace hlk := hid hlk
            replace hsp := hid hsp
            refine region_in Good (by kernel_rfl) (by kernel_rfl) hG0 ?_
            repeat (go_big_quiet_step (exact hcq _ _ _))
            refine wpQuiet_nil ?_
            intro w8 hw7
            have l8 := (hGd.out _).1 hw7
            clear hcq hGd hne hG0 hw7 gC g0 Good
            have l28 := l7.next l8
            have hj8 := hJ _ _ _ none hj2 l28.grown (fun r e => by cases e)
            have S8 := hS2.chg (l28.chg (X := fun _ => False)) (fun _ _ _ _ h => h)
            have hch8 := hch2.trans (l28.chg (X := fun b => b ∈ [Dp, Dq] ∨ (X b ∧ ¬ priv lo0 hi b)))
            clear hY hj2 hS2 hch2 bC2 bF2 bY2 sp sq l7 l8 l28
            have S9 := S8.step_at (j := 0) (D := Dp) rfl rfl (by have := hzz.out; simp only [List.length_cons] at this ⊢; omega)
            simp only [List.set_cons_zero, List.tail_cons] at S9
            go_wp2_with fail
            go_at_call 81; refine S9.mono ?_; rintro e w9 ⟨⟨v, rfl⟩, c9, S9'⟩
            go_wp2_with fail
            go_roundg (r.length + 1)
            case measure => have := hk.out; simp only [List.length_cons] at this; omega
            case rel => exact ⟨pre, r, [], hJz _ _ _ hj8 (c9.mono fun b h => by have : b = Dp := h; subst this; exact ⟨by have := hDp.1; omega, hDp.2⟩), hx5, hid (Nat.lt_succ_self _), hid (by have h1 := hzz.out; have h2 := hbl.out.2; simp only [List.length_cons] at h1 h2 ⊢; omega), S9', hch8.trans (c9.mono fun b h => (.inl (by have : b = Dp := h; subst this; simp) : b ∈ [Dp, Dq] ∨ (X b ∧ ¬ priv lo0 hi b)))⟩
        | cons y t =>
          have hG0 := Later.drew (Later.refl w2)
          obtain ⟨Good, hGd⟩ : ∃ G : World → Prop, ∀ W', G W' ↔ Later w2 W' := ⟨_, fun _ => Iff.rfl⟩
          replace hG0 := (hGd _).2 hG0
          have hne : Nonempty (InG Good) := ⟨⟨_, hG0⟩⟩
          have hcq : ∀ (a b : Int × Int) (p : InG Good), Calls Try.prog c #[.agg #[.int .i64 a.1, .int .i64 a.2], .agg #[.int .i64 b.1, .int .i64 b.2]] p.W fun e w'' => e = .returned (.int .i64 (f a b)) ∧ ∃ p' : InG Good, w'' = p'.W := fun a b p => (hcc a b p.W).mono fun e w'' hh => ⟨hh.1, ⟨w'', (hGd _).2 (((hGd _).1 p.h).next hh.2)⟩, rfl⟩
          have gC : ∀ p : InG Good, p.W.cell? ⟨BC, 0, none⟩ = some (.func (.func c) #[] #[]) ∧ p.W.cell? ⟨BF, 0, none⟩ = some (.bool both) ∧ p.W.cell? ⟨BY, 0, none⟩ = some (.func (.yield l) #[] #[]) ∧ p.W.cell? ⟨Dp, 1, none⟩ = some (.int .i64 x.1) ∧ p.W.cell? ⟨Dp, 2, none⟩ = some (.int .i64 x.2) := fun p => by
            have lp := (hGd _).1 p.h
            have z := (sp.all lp).head
            exact ⟨lp.cell bC2.cell, lp.cell bF2.cell, lp.cell bY2.cell, z.1, z.2.1⟩
          have g0 : ∀ p : InG Good, p.W.cell? ⟨Dq, 1, none⟩ = some (.int .i64 y.1) ∧ p.W.cell? ⟨Dq, 2, none⟩ = some (.int .i64 y.2) ∧ p.W.cell? ⟨Dq, 3, none⟩ = some (.bool true) := fun p => (sq.all ((hGd _).1 p.h)).head
          replace hGd := hid hGd
          by_cases hlt : f y x < 0
          · have hd1 : decide (f y x < 0) = true := by simp [hlt]
            have hbs := below_step (x := x) (y := y) (t := t) ((hf.out _ _).1.1 hlt)
            replace hbs := hid hbs
            replace hlt := hid hlt
            go_wp2_with fail
            refine region_in Good (by kernel_rfl) (by kernel_rfl) hG0 ?_
            repeat (go_big_quiet_step (exact hcq _ _ _))
            refine wpQuiet_nil ?_
            intro w7 hw7
            have l7 := (hGd.out _).1 hw7
            clear hcq hGd hne hG0 hw7 gC g0 Good
            have S8 := hS2.chg (l7.chg (X := fun _ => False)) (fun _ _ _ _ h => h)
            have S9 := S8.step_at (j := 1) (D := Dq) rfl rfl (by have h1 := hzz.out; have h2 := hbl.out.2; simp only [List.length_cons] at h1 h2 ⊢; omega)
            simp only [List.set_cons_succ, List.set_cons_zero, List.tail_cons] at S9
            have hc7 : Chg (only Dq) W1 w7 := hc12.trans l7.chg
            clear hJz hY
            go_wp2_with fail
            go_at_call 81; refine S9.mono ?_; rintro e w9 ⟨⟨v, rfl⟩, c9, S9'⟩
            go_wp2_with fail
            go_roundg (t.length + 1)
            case measure => have := hq2.out; simp only [List.length_cons] at this; omega
            case rel => exact ⟨t, hid ⟨by rw [← hbs.out]; exact hbl.out.1, by have := hbl.out.2; simp only [List.length_cons] at this; omega⟩, hid (Nat.lt_succ_self _), S9', hc7.trans c9⟩
          · have hd1 : decide (f y x < 0) = false := by simp [hlt]
            have hb2 : below x (y :: t) = y :: t := below_stop (fun y' t' e => by cases e; exact fun h => hlt ((hf.out _ _).1.2 h))
            replace hlt := hid hlt
            go_wp2_with fail
            refine region_in Good (by kernel_rfl) (by kernel_rfl) hG0 ?_
            repeat (go_big_quiet_step (exact hcq _ _ _))
            refine wpQuiet_nil ?_
            intro w7 hw7
            have l7 := (hGd.out _).1 hw7
            clear hcq hGd hne hG0 hw7 gC g0 Good
            go_wp2_with fail
            by_cases hcmp : f y x = 0
            · cases both with
              | false =>
                have hd2 : decide (f y x = 0) = true := by simp [hcmp]
                have hd3 : (f y x == 0) = true := by simp [hcmp]
                have hG0 := Later.drew (Later.refl w7)
                obtain ⟨Good, hGd⟩ : ∃ G : World → Prop, ∀ W', G W' ↔ Later w7 W' := ⟨_, fun _ => Iff.rfl⟩
                replace hG0 := (hGd _).2 hG0
                have hne : Nonempty (InG Good) := ⟨⟨_, hG0⟩⟩
                have hcq : ∀ (a b : Int × Int) (p : InG Good), Calls Try.prog c #[.agg #[.int .i64 a.1, .int .i64 a.2], .agg #[.int .i64 b.1, .int .i64 b.2]] p.W fun e w'' => e = .returned (.int .i64 (f a b)) ∧ ∃ p' : InG Good, w'' = p'.W := fun a b p => (hcc a b p.W).mono fun e w'' hh => ⟨hh.1, ⟨w'', (hGd _).2 (((hGd _).1 p.h).next hh.2)⟩, rfl⟩
                have gC : ∀ p : InG Good, p.W.cell? ⟨BC, 0, none⟩ = some (.func (.func c) #[] #[]) ∧ p.W.cell? ⟨BF, 0, none⟩ = some (.bool false) ∧ p.W.cell? ⟨BY, 0, none⟩ = some (.func (.yield l) #[] #[]) ∧ p.W.cell? ⟨Dp, 1, none⟩ = some (.int .i64 x.1) ∧ p.W.cell? ⟨Dp, 2, none⟩ = some (.int .i64 x.2) := fun p => by
                  have lp := l7.next ((hGd _).1 p.h)
                  have z := (sp.all lp).head
                  exact ⟨lp.cell bC2.cell, lp.cell bF2.cell, lp.cell bY2.cell, z.1, z.2.1⟩
                have g0 : ∀ p : InG Good, p.W.cell? ⟨Dq, 1, none⟩ = some (.int .i64 y.1) ∧ p.W.cell? ⟨Dq, 2, none⟩ = some (.int .i64 y.2) ∧ p.W.cell? ⟨Dq, 3, none⟩ = some (.bool true) := fun p => (sq.all (l7.next ((hGd _).1 p.h))).head
                replace hGd := hid hGd
                have hlk : likeH x (below x q') = true := by rw [← hbl.out.1, hb2]; simp [likeH, cmpR_eq, (hf.out _ _).2.1 hcmp]
                have hsp : splitL false (x :: r) q' = splitL false r (y :: t) := by
                  show (if likeH x (below x q') = false then [x] else []) ++ splitL false r (below x q') = _
                  rw [hlk, ← hbl.out.1, hb2]
                  rfl
                have hx5 : Hid (xs = pre ++ splitL false r (y :: t)) := hid (by rw [hx.out, hsp])
                replace hlk := hid hlk
                replace hsp := hid hsp
                refine region_in Good (by kernel_rfl) (by kernel_rfl) hG0 ?_
                repeat (go_big_quiet_step (exact hcq _ _ _))
                refine wpQuiet_nil ?_
                intro w8 hw7
                have l8 := (hGd.out _).1 hw7
                clear hcq hGd hne hG0 hw7 gC g0 Good
                have l28 := l7.next l8
                have hj8 := hJ _ _ _ none hj2 l28.grown (fun r e => by cases e)
                have S8 := hS2.chg (l28.chg (X := fun _ => False)) (fun _ _ _ _ h => h)
                have hch8 := hch2.trans (l28.chg (X := fun b => b ∈ [Dp, Dq] ∨ (X b ∧ ¬ priv lo0 hi b)))
                clear hY hj2 hS2 hch2 bC2 bF2 bY2 sp sq l7 l8 l28
                have S9 := S8.step_at (j := 0) (D := Dp) rfl rfl (by have := hzz.out; simp only [List.length_cons] at this ⊢; omega)
                simp only [List.set_cons_zero, List.tail_cons] at S9
                go_wp2_with fail
                go_at_call 81; refine S9.mono ?_; rintro e w9 ⟨⟨v, rfl⟩, c9, S9'⟩
                go_wp2_with fail
                go_roundg (r.length + 1)
                case measure => have := hk.out; simp only [List.length_cons] at this; omega
                case rel => exact ⟨pre, r, (y :: t), hJz _ _ _ hj8 (c9.mono fun b h => by have : b = Dp := h; subst this; exact ⟨by have := hDp.1; omega, hDp.2⟩), hx5, hid (Nat.lt_succ_self _), hid (by have h1 := hzz.out; have h2 := hbl.out.2; simp only [List.length_cons] at h1 h2 ⊢; omega), S9', hch8.trans (c9.mono fun b h => (.inl (by have : b = Dp := h; subst this; simp) : b ∈ [Dp, Dq] ∨ (X b ∧ ¬ priv lo0 hi b)))⟩
              | true =>
                have hd2 : decide (f y x = 0) = true := by simp [hcmp]
                have hd3 : (f y x == 0) = true := by simp [hcmp]
                have hG0 := Later.drew (Later.refl w7)
                obtain ⟨Good, hGd⟩ : ∃ G : World → Prop, ∀ W', G W' ↔ Later w7 W' := ⟨_, fun _ => Iff.rfl⟩
                replace hG0 := (hGd _).2 hG0
                have hne : Nonempty (InG Good) := ⟨⟨_, hG0⟩⟩
                have hcq : ∀ (a b : Int × Int) (p : InG Good), Calls Try.prog c #[.agg #[.int .i64 a.1, .int .i64 a.2], .agg #[.int .i64 b.1, .int .i64 b.2]] p.W fun e w'' => e = .returned (.int .i64 (f a b)) ∧ ∃ p' : InG Good, w'' = p'.W := fun a b p => (hcc a b p.W).mono fun e w'' hh => ⟨hh.1, ⟨w'', (hGd _).2 (((hGd _).1 p.h).next hh.2)⟩, rfl⟩
                have gC : ∀ p : InG Good, p.W.cell? ⟨BC, 0, none⟩ = some (.func (.func c) #[] #[]) ∧ p.W.cell? ⟨BF, 0, none⟩ = some (.bool true) ∧ p.W.cell? ⟨BY, 0, none⟩ = some (.func (.yield l) #[] #[]) ∧ p.W.cell? ⟨Dp, 1, none⟩ = some (.int .i64 x.1) ∧ p.W.cell? ⟨Dp, 2, none⟩ = some (.int .i64 x.2) := fun p => by
                  have lp := l7.next ((hGd _).1 p.h)
                  have z := (sp.all lp).head
                  exact ⟨lp.cell bC2.cell, lp.cell bF2.cell, lp.cell bY2.cell, z.1, z.2.1⟩
                have g0 : ∀ p : InG Good, p.W.cell? ⟨Dq, 1, none⟩ = some (.int .i64 y.1) ∧ p.W.cell? ⟨Dq, 2, none⟩ = some (.int .i64 y.2) ∧ p.W.cell? ⟨Dq, 3, none⟩ = some (.bool true) := fun p => (sq.all (l7.next ((hGd _).1 p.h))).head
                replace hGd := hid hGd
                have hlk : likeH x (below x q') = true := by rw [← hbl.out.1, hb2]; simp [likeH, cmpR_eq, (hf.out _ _).2.1 hcmp]
                have hsp : splitL true (x :: r) q' = x :: splitL true r (y :: t) := by
                  show (if likeH x (below x q') = true then [x] else []) ++ splitL true r (below x q') = _
                  rw [hlk, ← hbl.out.1, hb2]
                  rfl
                have hx5 : Hid (xs = (pre ++ [x]) ++ splitL true r (y :: t)) := hid (by rw [hx.out, hsp]; simp)
                replace hlk := hid hlk
                replace hsp := hid hsp
                have hlen : pre.length < xs.length := by rw [hx5.out]; simp
                refine region_yield_in (m := 3) 25 Good (by kernel_rfl) (by kernel_rfl) hG0 ?_
                simp only [List.take_succ_cons, List.take_zero, List.drop_succ_cons, List.drop_zero]
                repeat (go_big_quiet_step (exact hcq _ _ _))
                refine wpQuiet_nil ?_
                intro w8 hw7
                have l8 := (hGd.out _).1 hw7
                clear hcq hGd hne hG0 hw7 gC g0 Good
                have l28 := l7.next l8
                have hj8 := hJ _ _ _ none hj2 l28.grown (fun r e => by cases e)
                have S8 := hS2.chg (l28.chg (X := fun _ => False)) (fun _ _ _ _ h => h)
                have hch8 := hch2.trans (l28.chg (X := fun b => b ∈ [Dp, Dq] ∨ (X b ∧ ¬ priv lo0 hi b)))
                have hyy := hY 2 pre x w8 hj8 hlen
                clear hY hj2 hS2 hch2 bC2 bF2 bY2 sp sq l7 l8 l28 hj8
                gi_wp2
                obtain ⟨fn, tmps, assign, body, hy, hR⟩ := hyy
                rw [hy]
                refine ⟨fun h => (by cases h), ?_⟩
                refine hR.mono ?_
                clear hR hy
                rintro e V' (⟨rfl, hj8, hc3⟩ | ⟨rfl, hx3, hc3⟩)
                · replace S8 := S8.chg hc3 (fun b h1 h2 _ h => h.2 ⟨by omega, h2⟩)
                  replace hch8 := hch8.trans (hc3.mono fun b h => (.inr h : b ∈ [Dp, Dq] ∨ (X b ∧ ¬ priv lo0 hi b)))
                  gi_wp2
                  have S9 := S8.step_at (j := 0) (D := Dp) rfl rfl (by have := hzz.out; simp only [List.length_cons] at this ⊢; omega)
                  simp only [List.set_cons_zero, List.tail_cons] at S9
                  go_wp2_with fail
                  go_at_call 81; refine S9.mono ?_; rintro e w9 ⟨⟨v, rfl⟩, c9, S9'⟩
                  go_wp2_with fail
                  go_roundg (r.length + 1)
                  case measure => have := hk.out; simp only [List.length_cons] at this; omega
                  case rel => exact ⟨pre ++ [x], r, (y :: t), hJz _ _ _ hj8 (c9.mono fun b h => by have : b = Dp := h; subst this; exact ⟨by have := hDp.1; omega, hDp.2⟩), hx5, hid (Nat.lt_succ_self _), hid (by have h1 := hzz.out; have h2 := hbl.out.2; simp only [List.length_cons] at h1 h2 ⊢; omega), S9', hch8.trans (c9.mono fun b h => (.inl (by have : b = Dp := h; subst this; simp) : b ∈ [Dp, Dq] ∨ (X b ∧ ¬ priv lo0 hi b)))⟩
                · replace hch8 := hch8.trans (hc3.mono fun b h => (.inr h : b ∈ [Dp, Dq] ∨ (X b ∧ ¬ priv lo0 hi b)))
                  gi_wp2
                  go_wp2_with fail
                  refine bodyPost_ret (v := .tuple #[]) (by simp [results, Try.results90, go_sem]) rfl ?_
                  exact ⟨⟨_, rfl⟩, .inr ⟨pre ++ [x], ⟨_, hx5.out.symm⟩, hx3⟩, hch8⟩
            · cases both with
              | false =>
                have hd2 : decide (f y x = 0) = false := by simp [hcmp]
                have hd3 : (f y x == 0) = false := by simp [hcmp]
                have hG0 := Later.drew (Later.refl w7)
                obtain ⟨Good, hGd⟩ : ∃ G : World → Prop, ∀ W', G W' ↔ Later w7 W' := ⟨_, fun _ => Iff.rfl⟩
                replace hG0 := (hGd _).2 hG0
                have hne : Nonempty (InG Good) := ⟨⟨_, hG0⟩⟩
                have hcq : ∀ (a b : Int × Int) (p : InG Good), Calls Try.prog c #[.agg #[.int .i64 a.1, .int .i64 a.2], .agg #[.int .i64 b.1, .int .i64 b.2]] p.W fun e w'' => e = .returned (.int .i64 (f a b)) ∧ ∃ p' : InG Good, w'' = p'.W := fun a b p => (hcc a b p.W).mono fun e w'' hh => ⟨hh.1, ⟨w'', (hGd _).2 (((hGd _).1 p.h).next hh.2)⟩, rfl⟩
                have gC : ∀ p : InG Good, p.W.cell? ⟨BC, 0, none⟩ = some (.func (.func c) #[] #[]) ∧ p.W.cell? ⟨BF, 0, none⟩ = some (.bool false) ∧ p.W.cell? ⟨BY, 0, none⟩ = some (.func (.yield l) #[] #[]) ∧ p.W.cell? ⟨Dp, 1, none⟩ = some (.int .i64 x.1) ∧ p.W.cell? ⟨Dp, 2, none⟩ = some (.int .i64 x.2) := fun p => by
                  have lp := l7.next ((hGd _).1 p.h)
                  have z := (sp.all lp).head
                  exact ⟨lp.cell bC2.cell, lp.cell bF2.cell, lp.cell bY2.cell, z.1, z.2.1⟩
                have g0 : ∀ p : InG Good, p.W.cell? ⟨Dq, 1, none⟩ = some (.int .i64 y.1) ∧ p.W.cell? ⟨Dq, 2, none⟩ = some (.int .i64 y.2) ∧ p.W.cell? ⟨Dq, 3, none⟩ = some (.bool true) := fun p => (sq.all (l7.next ((hGd _).1 p.h))).head
                replace hGd := hid hGd
                have hlk : likeH x (below x q') = false := by rw [← hbl.out.1, hb2]; simp only [likeH]; rw [decide_eq_false_iff_not, cmpR_eq]; exact fun h => hcmp ((hf.out _ _).2.2 h)
                have hsp : splitL false (x :: r) q' = x :: splitL false r (y :: t) := by
                  show (if likeH x (below x q') = false then [x] else []) ++ splitL false r (below x q') = _
                  rw [hlk, ← hbl.out.1, hb2]
                  rfl
                have hx5 : Hid (xs = (pre ++ [x]) ++ splitL false r (y :: t)) := hid (by rw [hx.out, hsp]; simp)
                replace hlk := hid hlk
                replace hsp := hid hsp
                have hlen : pre.length < xs.length := by rw [hx5.out]; simp
                refine region_yield_in (m := 3) 25 Good (by kernel_rfl) (by kernel_rfl) hG0 ?_
                simp only [List.take_succ_cons, List.take_zero, List.drop_succ_cons, List.drop_zero]
                repeat (go_big_quiet_step (exact hcq _ _ _))
                refine wpQuiet_nil ?_
                intro w8 hw7
                have l8 := (hGd.out _).1 hw7
                clear hcq hGd hne hG0 hw7 gC g0 Good
                have l28 := l7.next l8
                have hj8 := hJ _ _ _ none hj2 l28.grown (fun r e => by cases e)
                have S8 := hS2.chg (l28.chg (X := fun _ => False)) (fun _ _ _ _ h => h)
                have hch8 := hch2.trans (l28.chg (X := fun b => b ∈ [Dp, Dq] ∨ (X b ∧ ¬ priv lo0 hi b)))
                have hyy := hY 2 pre x w8 hj8 hlen
                clear hY hj2 hS2 hch2 bC2 bF2 bY2 sp sq l7 l8 l28 hj8
                gi_wp2
                obtain ⟨fn, tmps, assign, body, hy, hR⟩ := hyy
                rw [hy]
                refine ⟨fun h => (by cases h), ?_⟩
                refine hR.mono ?_
                clear hR hy
                rintro e V' (⟨rfl, hj8, hc3⟩ | ⟨rfl, hx3, hc3⟩)
                · replace S8 := S8.chg hc3 (fun b h1 h2 _ h => h.2 ⟨by omega, h2⟩)
                  replace hch8 := hch8.trans (hc3.mono fun b h => (.inr h : b ∈ [Dp, Dq] ∨ (X b ∧ ¬ priv lo0 hi b)))
                  gi_wp2
                  have S9 := S8.step_at (j := 0) (D := Dp) rfl rfl (by have := hzz.out; simp only [List.length_cons] at this ⊢; omega)
                  simp only [List.set_cons_zero, List.tail_cons] at S9
                  go_wp2_with fail
                  go_at_call 81; refine S9.mono ?_; rintro e w9 ⟨⟨v, rfl⟩, c9, S9'⟩
                  go_wp2_with fail
                  go_roundg (r.length + 1)
                  case measure => have := hk.out; simp only [List.length_cons] at this; omega
                  case rel => exact ⟨pre ++ [x], r, (y :: t), hJz _ _ _ hj8 (c9.mono fun b h => by have : b = Dp := h; subst this; exact ⟨by have := hDp.1; omega, hDp.2⟩), hx5, hid (Nat.lt_succ_self _), hid (by have h1 := hzz.out; have h2 := hbl.out.2; simp only [List.length_cons] at h1 h2 ⊢; omega), S9', hch8.trans (c9.mono fun b h => (.inl (by have : b = Dp := h; subst this; simp) : b ∈ [Dp, Dq] ∨ (X b ∧ ¬ priv lo0 hi b)))⟩
                · replace hch8 := hch8.trans (hc3.mono fun b h => (.inr h : b ∈ [Dp, Dq] ∨ (X b ∧ ¬ priv lo0 hi b)))
                  gi_wp2
                  go_wp2_with fail
                  refine bodyPost_ret (v := .tuple #[]) (by simp [results, Try.results90, go_sem]) rfl ?_
                  exact ⟨⟨_, rfl⟩, .inr ⟨pre ++ [x], ⟨_, hx5.out.symm⟩, hx3⟩, hch8⟩
              | true =>
                have hd2 : decide (f y x = 0) = false := by simp [hcmp]
                have hd3 : (f y x == 0) = false := by simp [hcmp]
                have hG0 := Later.drew (Later.refl w7)
                obtain ⟨Good, hGd⟩ : ∃ G : World → Prop, ∀ W', G W' ↔ Later w7 W' := ⟨_, fun _ => Iff.rfl⟩
                replace hG0 := (hGd _).2 hG0
                have hne : Nonempty (InG Good) := ⟨⟨_, hG0⟩⟩
                have hcq : ∀ (a b : Int × Int) (p : InG Good), Calls Try.prog c #[.agg #[.int .i64 a.1, .int .i64 a.2], .agg #[.int .i64 b.1, .int .i64 b.2]] p.W fun e w'' => e = .returned (.int .i64 (f a b)) ∧ ∃ p' : InG Good, w'' = p'.W := fun a b p => (hcc a b p.W).mono fun e w'' hh => ⟨hh.1, ⟨w'', (hGd _).2 (((hGd _).1 p.h).next hh.2)⟩, rfl⟩
                have gC : ∀ p : InG Good, p.W.cell? ⟨BC, 0, none⟩ = some (.func (.func c) #[] #[]) ∧ p.W.cell? ⟨BF, 0, none⟩ = some (.bool true) ∧ p.W.cell? ⟨BY, 0, none⟩ = some (.func (.yield l) #[] #[]) ∧ p.W.cell? ⟨Dp, 1, none⟩ = some (.int .i64 x.1) ∧ p.W.cell? ⟨Dp, 2, none⟩ = some (.int .i64 x.2) := fun p => by
                  have lp := l7.next ((hGd _).1 p.h)
                  have z := (sp.all lp).head
                  exact ⟨lp.cell bC2.cell, lp.cell bF2.cell, lp.cell bY2.cell, z.1, z.2.1⟩
                have g0 : ∀ p : InG Good, p.W.cell? ⟨Dq, 1, none⟩ = some (.int .i64 y.1) ∧ p.W.cell? ⟨Dq, 2, none⟩ = some (.int .i64 y.2) ∧ p.W.cell? ⟨Dq, 3, none⟩ = some (.bool true) := fun p => (sq.all (l7.next ((hGd _).1 p.h))).head
                replace hGd := hid hGd
                have hlk : likeH x (below x q') = false := by rw [← hbl.out.1, hb2]; simp only [likeH]; rw [decide_eq_false_iff_not, cmpR_eq]; exact fun h => hcmp ((hf.out _ _).2.2 h)
                have hsp : splitL true (x :: r) q' = splitL true r (y :: t) := by
                  show (if likeH x (below x q') = true then [x] else []) ++ splitL true r (below x q') = _
                  rw [hlk, ← hbl.out.1, hb2]
                  rfl
                have hx5 : Hid (xs = pre ++ splitL true r (y :: t)) := hid (by rw [hx.out, hsp])
                replace hlk := hid hlk
                replace hsp := hid hsp
                refine region_in Good (by kernel_rfl) (by kernel_rfl) hG0 ?_
                repeat (go_big_quiet_step (exact hcq _ _ _))
                refine wpQuiet_nil ?_
                intro w8 hw7
                have l8 := (hGd.out _).1 hw7
                clear hcq hGd hne hG0 hw7 gC g0 Good
                have l28 := l7.next l8
                have hj8 := hJ _ _ _ none hj2 l28.grown (fun r e => by cases e)
                have S8 := hS2.chg (l28.chg (X := fun _ => False)) (fun _ _ _ _ h => h)
                have hch8 := hch2.trans (l28.chg (X := fun b => b ∈ [Dp, Dq] ∨ (X b ∧ ¬ priv lo0 hi b)))
                clear hY hj2 hS2 hch2 bC2 bF2 bY2 sp sq l7 l8 l28
                have S9 := S8.step_at (j := 0) (D := Dp) rfl rfl (by have := hzz.out; simp only [List.length_cons] at this ⊢; omega)
                simp only [List.set_cons_zero, List.tail_cons] at S9
                go_wp2_with fail
                go_at_call 81; refine S9.mono ?_; rintro e w9 ⟨⟨v, rfl⟩, c9, S9'⟩
                go_wp2_with fail
                go_roundg (r.length + 1)
                case measure => have := hk.out; simp only [List.length_cons] at this; omega
                case rel => exact ⟨pre, r, (y :: t), hJz _ _ _ hj8 (c9.mono fun b h => by have : b = Dp := h; subst this; exact ⟨by have := hDp.1; omega, hDp.2⟩), hx5, hid (Nat.lt_succ_self _), hid (by have h1 := hzz.out; have h2 := hbl.out.2; simp only [List.length_cons] at h1 h2 ⊢; omega), S9', hch8.trans (c9.mono fun b h => (.inl (by have : b = Dp := h; subst this; simp) : b ∈ [Dp, Dq] ∨ (X b ∧ ¬ priv lo0 hi b)))⟩
end Go.Proofs.Yteledidnhjioaaa.Sh
